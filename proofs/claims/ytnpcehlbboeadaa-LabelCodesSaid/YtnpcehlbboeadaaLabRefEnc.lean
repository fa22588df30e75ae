/- The walk of the reference's Encode of labels. -/
import Derived.Test.YtnpcehlbboeadaaLabRef
import Derived.Test.YtnpcehlbboeadaaRelT
namespace Go.Proofs.Ytnpcehlbboeadaa
open Go.RowKit
set_option linter.unusedVariables false
set_option linter.unusedSimpArgs false

/-- An own row, not ahead of m. -/
def OwnF (base m n : Nat) (xs : List UInt8) : Fact := fun w v => ∃ A c, v = .slice A n c ∧ w.ownsRow base 5 1 v n (bts xs) ∧ ∀ q, v.ownBlock = some q → m ≤ q
theorem OwnF.lasts {base m n : Nat} {xs : List UInt8} : ∀ w w' v, Chg NoS w w' → OwnF base m n xs w v → OwnF base m n xs w' v := fun _ _ _ h ⟨A, c, e, ho, hq⟩ => ⟨A, c, e, own_chg ho h (fun _ _ => id), hq⟩
def LvS (lv : Value) : Nat → Prop := fun j => lv.ownBlock = some j
theorem OwnF.lastsS {base m n : Nat} {xs : List UInt8} {lv : Value} (hl : ∀ q, LvS lv q → q < m) {w w' : World} {v : Value} (h : Chg (LvS lv) w w') (hf : OwnF base m n xs w v) : OwnF base m n xs w' v := by
  obtain ⟨A, c, e, ho, hq⟩ := hf
  exact ⟨A, c, e, own_chg ho h (fun k hk hs => by have := hl _ hs; have := hq _ hk; omega), hq⟩
def OwnU (base n : Nat) (xs : List UInt8) (lv : Value) (m : Nat) : Fact := fun w v => w.ownsRow base 5 1 v n (bts xs) ∧ (v.ownBlock = lv.ownBlock ∨ ∃ j, v.ownBlock = some j ∧ m ≤ j)
theorem OwnU.lasts {base n m : Nat} {xs : List UInt8} {lv : Value} : ∀ w w' v, Chg NoS w w' → OwnU base n xs lv m w v → OwnU base n xs lv m w' v := fun _ _ _ h ho => ⟨own_chg ho.1 h (fun _ _ => id), ho.2⟩
set_option maxRecDepth 100000 in
set_option maxHeartbeats 8000000 in
theorem refLabEncode_calls (l : Lab) (w : World) :
    Calls Try.prog 35 #[.agg (labC l).toArray] w fun e w' => e = .returned (.agg (bts (labEnc l)).toArray) ∧ Below w.heap.size w w' := by
  obtain ⟨bx, hbx⟩ : ∃ bx, labC l = bx := ⟨_, rfl⟩
  have D0 : Hid (bx[0]? = some (vu32 l.e)) := by rw [← hbx]; exact (rfl : _ = _)
  have D1 : Hid (bx[1]? = some (vu32 l.s)) := by rw [← hbx]; exact (rfl : _ = _)
  have D2 : Hid (bx[2]? = some (vu32 l.n)) := by rw [← hbx]; exact (rfl : _ = _)
  have D3 : Hid (bx[3]? = some (vu16 l.d)) := by rw [← hbx]; exact (rfl : _ = _)
  have D4 : Hid (bx[4]? = some (vu16 l.la)) := by rw [← hbx]; exact (rfl : _ = _)
  rw [hbx]
  clear hbx
  go_enter Try.func35, Try.ntmps35
  go_wp2_with (refine wpList_al rfl 37 rfl (bts (List.replicate 32 0)) (by kernel_rfl) ?_)
  intro g2 w0 hg hb hc hs
  have hg' : g2 = w.heap.size + 1 := hg.trans (by simp)
  subst hg'
  have X0 : Hid (Bk w0 w.heap.size bx) := (Bk.new w bx _).chg hc id
  have E0 : Hid (Below w.heap.size w w0) := ((Below.refl _ _).alloc (Nat.le_refl _) _).trans (hc.below (by simp) (fun _ _ => id))
  have R0 := Lib.hid hb
  have HS0 : Hid (w.heap.size + 2 ≤ w0.heap.size) := by show _ ≤ _; have := hb.lt; omega
  clear hg hb hc hs
  go_wp2_with fail
  apply wp_region_rel 6 (Chg NoS) [(Veq _), (Veq _), (OwnF (w.heap.size + 2) 0 4 (le l.e.toNat 4)), (Veq _), (Veq _), (OwnF (w.heap.size + 2) 0 4 (le l.s.toNat 4))] [[], [0], [1], [], [3], [4]] [6, 7, 8, 9, 10, 11] (by kernel_rfl) (by kernel_rfl) rfl rfl rfl Chg.refl (fun _ _ _ => Chg.trans) ⟨Veq.lasts, Veq.lasts, OwnF.lasts, Veq.lasts, Veq.lasts, OwnF.lasts, trivial⟩ ?aops ?afin
  case aops =>
    refine ⟨?ao0, ?ao1, ?ao2, ?ao3, ?ao4, ?ao5, trivial⟩
    case ao0 =>
      intro a wx hE hin
      have i1 : a.eval (.tmp 1) = .pointer (some ⟨w.heap.size, 0, none⟩) := hin 1 rfl
      clear hin
      have hcst : ∀ v, a.eval (.const v) = v := fun _ => rfl
      have hfnc : ∀ f, a.eval (.func f) = .func (.func f) #[] #[] := fun _ => rfl
      refine want_none rfl ?_
      unfold Oper.wp
      generalize a.eval = ρ at *
      go_simp
      try go_bits
      first | exact rel_val (Chg.refl _) | (go_simp; exact rel_val (Chg.refl _))
    case ao1 =>
      rintro a wx hE hin (h0 : a.eval (.tmp 6) = _)
      clear hin
      have hcst : ∀ v, a.eval (.const v) = v := fun _ => rfl
      have hfnc : ∀ f, a.eval (.func f) = .func (.func f) #[] #[] := fun _ => rfl
      refine want_none rfl ?_
      unfold Oper.wp
      generalize a.eval = ρ at *
      have c := Bk.cell ((X0.out.drew).chg hE id) D0.out
      go_simp
      try go_bits
      first | exact rel_val (Chg.refl _) | (go_simp; exact rel_val (Chg.refl _))
    case ao2 =>
      rintro a wx hE hin (h1 : a.eval (.tmp 7) = _)
      clear hin
      have hcst : ∀ v, a.eval (.const v) = v := fun _ => rfl
      have hfnc : ∀ f, a.eval (.func f) = .func (.func f) #[] #[] := fun _ => rfl
      refine want_none rfl ?_
      unfold Oper.wp
      generalize a.eval = ρ at *
      go_simp
      refine (put_calls l.e 4 wx (by decide)).mono ?_
      intro e w' hp
      obtain ⟨A, c, rfl, ho, hb⟩ := hp
      rw [le_length] at ho ⊢
      exact ⟨_, rfl, ⟨A, c, rfl, own_lower ho (Nat.le_trans HS0.out (hE.size)), fun q hq => Nat.zero_le _⟩, .of_below hb⟩
    case ao3 =>
      intro a wx hE hin
      have i1 : a.eval (.tmp 1) = .pointer (some ⟨w.heap.size, 0, none⟩) := hin 1 rfl
      clear hin
      have hcst : ∀ v, a.eval (.const v) = v := fun _ => rfl
      have hfnc : ∀ f, a.eval (.func f) = .func (.func f) #[] #[] := fun _ => rfl
      refine want_none rfl ?_
      unfold Oper.wp
      generalize a.eval = ρ at *
      go_simp
      try go_bits
      first | exact rel_val (Chg.refl _) | (go_simp; exact rel_val (Chg.refl _))
    case ao4 =>
      rintro a wx hE hin (h3 : a.eval (.tmp 9) = _)
      clear hin
      have hcst : ∀ v, a.eval (.const v) = v := fun _ => rfl
      have hfnc : ∀ f, a.eval (.func f) = .func (.func f) #[] #[] := fun _ => rfl
      refine want_none rfl ?_
      unfold Oper.wp
      generalize a.eval = ρ at *
      have c := Bk.cell ((X0.out.drew).chg hE id) D1.out
      go_simp
      try go_bits
      first | exact rel_val (Chg.refl _) | (go_simp; exact rel_val (Chg.refl _))
    case ao5 =>
      rintro a wx hE hin (h4 : a.eval (.tmp 10) = _)
      clear hin
      have hcst : ∀ v, a.eval (.const v) = v := fun _ => rfl
      have hfnc : ∀ f, a.eval (.func f) = .func (.func f) #[] #[] := fun _ => rfl
      refine want_none rfl ?_
      unfold Oper.wp
      generalize a.eval = ρ at *
      go_simp
      refine (put_calls l.s 4 wx (by decide)).mono ?_
      intro e w' hp
      obtain ⟨A, c, rfl, ho, hb⟩ := hp
      rw [le_length] at ho ⊢
      exact ⟨_, rfl, ⟨A, c, rfl, own_lower ho (Nat.le_trans HS0.out (hE.size)), fun q hq => Nat.zero_le _⟩, .of_below hb⟩
  case afin =>
    intro wx hE
    rintro _ rfl _ rfl _ ⟨A2, c2, rfl, o2, b2⟩ _ rfl _ rfl _ ⟨A5, c5, rfl, o5, b5⟩
    simp only [FinOk, List.take_succ_cons, List.take_zero, List.take_nil, List.drop_succ_cons, List.drop_zero, List.drop_nil, Act.put, List.setIfInBounds_toArray, List.set_cons_succ, List.set_cons_zero]
    have X1 := Lib.hid ((X0.out.drew).chg hE id)
    have R1 := Lib.hid ((R0.out.drew).chg hE id)
    have E1 : Hid (Below w.heap.size w wx) := E0.out.trans ((hE.undrew).below (B := w.heap.size) E0.out.size (fun _ _ => id))
    have S1 : Hid (w.heap.size + 2 ≤ wx.heap.size) := Nat.le_trans HS0.out hE.size
    have O1 := Lib.hid o2
    obtain ⟨A5', c5', hv5, hr5, _, _⟩ := own_rd o5
    injection hv5 with e1 _ e3
    subst e1
    subst e3
    have RD5 := Lib.hid hr5
    clear hE o2 o5 hr5 b2 b5
    go_wp2_with (at_builtin; refine wpList_append_rd rfl (.tmp 8) (.tmp 11) 32 rfl (w.heap.size + 2) 5 (.int .u8 0) 1 1 Try.underlying32 info_u8l rfl (by decide) (by decide) (.slice A2 4 c2) 4 (bts (le l.e.toNat 4)) rfl O1.out A5 4 c5 (bts (le l.s.toNat 4)) rfl (by rw [bts_length, le_length, Nat.mul_one]) RD5.out (one_bts _) (by decide) S1.out ?_)
    intro v1 w2 hown hg hat
    have O2 : Hid (w2.ownsRow (w.heap.size + 2) 5 1 v1 8 (bts (le l.e.toNat 4 ++ le l.s.toNat 4))) := by show World.ownsRow _ _ _ _ _ _ _; rw [bts_append]; exact hown
    have hc2 : Chg (fun q => (Value.slice A2 4 c2).ownBlock = some q) wx w2 := ⟨hg.os, hg.tape, hg.output, hg.size, fun q hq hne => hg.block q hq (fun he => hne he.symm)⟩
    have hge : ∀ q, (Value.slice A2 4 c2).ownBlock = some q → w.heap.size + 2 ≤ q := fun q hq => (O1.out.lt _ hq).1
    have X2 := Lib.hid (X1.out.chg hc2 (fun he => by have := hge _ he; omega))
    have R2 := Lib.hid (R1.out.chg hc2 (fun he => by have := hge _ he; omega))
    have E2 : Hid (Below w.heap.size w w2) := E1.out.trans (hc2.below E1.out.size (fun q hq he => by have := hge _ he; omega))
    have S2 : Hid (w.heap.size + 2 ≤ w2.heap.size) := Nat.le_trans S1.out hc2.size
    obtain ⟨A3, c3, rfl, _, _, _⟩ := own_rd O2.out
    clear hown hg hat hc2 hge
    go_wp2_with fail
    have LVB : Hid (∀ q, LvS (.slice A3 8 c3) q → q < w2.heap.size) := fun q hq => (O2.out.lt _ hq).2
    have LVB2 : Hid (∀ q, LvS (.slice A3 8 c3) q → w.heap.size + 2 ≤ q) := fun q hq => (O2.out.lt _ hq).1
    apply wp_region_relt 9 4 17 (OwnU (w.heap.size + 2) 12 (le l.e.toNat 4 ++ le l.s.toNat 4 ++ le l.n.toNat 4) (.slice A3 8 c3) w2.heap.size) (Chg (LvS (.slice A3 8 c3))) (Chg NoS) (Chg (LvS (.slice A3 8 c3))) [(Veq _), (Veq _), (Veq _), (OwnF (w.heap.size + 2) w2.heap.size 4 (le l.n.toNat 4)), (fun _ _ => True), (Veq _), (Veq _), (Veq _), (OwnF (w.heap.size + 2) w2.heap.size 2 (le l.d.toNat 2))] [[], [], [1], [2], [0, 3], [], [5], [6], [7]] [13, 14, 15, 16, 17, 18, 19, 20, 21] (by kernel_rfl) (by kernel_rfl) rfl rfl rfl (by kernel_rfl) Chg.refl (fun _ _ _ => Chg.trans) (fun _ _ _ => Chg.trans) (fun _ _ h => h.mono (fun _ hk => hk.elim)) (fun _ _ h => h) ⟨Veq.lasts, Veq.lasts, Veq.lasts, OwnF.lasts, (fun _ _ _ _ _ => trivial), Veq.lasts, Veq.lasts, Veq.lasts, OwnF.lasts, trivial⟩ ⟨Veq.lasts, Veq.lasts, Veq.lasts, (fun _ _ _ h hf => OwnF.lastsS LVB.out h hf), (fun _ _ _ _ _ => trivial), Veq.lasts, Veq.lasts, Veq.lasts, (fun _ _ _ h hf => OwnF.lastsS LVB.out h hf), trivial⟩ OwnU.lasts (fun F h w v => by cases h; trivial) ?bops ?bfin
    case bops =>
      refine ⟨?bo0, ?bo1, ?bo2, ?bo3, ?bo4, ?bo5, ?bo6, ?bo7, ?bo8, trivial⟩
      case bo0 =>
        rw [if_neg (by decide)]
        intro a wx hE hin
        have i3 : a.eval (.tmp 3) = (.slice A3 8 c3) := hin 3 rfl
        clear hin
        have hcst : ∀ v, a.eval (.const v) = v := fun _ => rfl
        have hfnc : ∀ f, a.eval (.func f) = .func (.func f) #[] #[] := fun _ => rfl
        refine want_none rfl ?_
        unfold Oper.wp
        generalize a.eval = ρ at *
        go_simp
        try go_bits
        first | exact rel_val (Chg.refl _) | (go_simp; exact rel_val (Chg.refl _))
      case bo1 =>
        rw [if_neg (by decide)]
        intro a wx hE hin
        have i1 : a.eval (.tmp 1) = .pointer (some ⟨w.heap.size, 0, none⟩) := hin 1 rfl
        clear hin
        have hcst : ∀ v, a.eval (.const v) = v := fun _ => rfl
        have hfnc : ∀ f, a.eval (.func f) = .func (.func f) #[] #[] := fun _ => rfl
        refine want_none rfl ?_
        unfold Oper.wp
        generalize a.eval = ρ at *
        go_simp
        try go_bits
        first | exact rel_val (Chg.refl _) | (go_simp; exact rel_val (Chg.refl _))
      case bo2 =>
        rw [if_neg (by decide)]
        rintro a wx hE hin (h1 : a.eval (.tmp 14) = _)
        clear hin
        have hcst : ∀ v, a.eval (.const v) = v := fun _ => rfl
        have hfnc : ∀ f, a.eval (.func f) = .func (.func f) #[] #[] := fun _ => rfl
        refine want_none rfl ?_
        unfold Oper.wp
        generalize a.eval = ρ at *
        have c := Bk.cell ((X2.out.drew).chg hE (fun he => by have := LVB2.out _ he; omega)) D2.out
        go_simp
        try go_bits
        first | exact rel_val (Chg.refl _) | (go_simp; exact rel_val (Chg.refl _))
      case bo3 =>
        rw [if_neg (by decide)]
        rintro a wx hE hin (h2 : a.eval (.tmp 15) = _)
        clear hin
        have hcst : ∀ v, a.eval (.const v) = v := fun _ => rfl
        have hfnc : ∀ f, a.eval (.func f) = .func (.func f) #[] #[] := fun _ => rfl
        refine want_none rfl ?_
        unfold Oper.wp
        generalize a.eval = ρ at *
        go_simp
        refine (put_calls l.n 4 wx (by decide)).mono ?_
        intro e w' hp
        obtain ⟨A, c, rfl, ho, hb⟩ := hp
        rw [le_length] at ho ⊢
        exact ⟨_, rfl, ⟨A, c, rfl, own_lower ho (Nat.le_trans S2.out (hE.size)), fun q hq => Nat.le_trans hE.size (ho.lt _ hq).1⟩, .of_below hb⟩
      case bo4 =>
        rw [if_pos (by decide)]
        rintro a wx hE hin (h0 : a.eval (.tmp 13) = _) ⟨A3_, c3_, h3, o3, b3⟩
        clear hin
        have hcst : ∀ v, a.eval (.const v) = v := fun _ => rfl
        have hfnc : ∀ f, a.eval (.func f) = .func (.func f) #[] #[] := fun _ => rfl
        rw [h3] at o3
        obtain ⟨A3', c3', hv3, hr3, _, _⟩ := own_rd o3
        injection hv3 with e1 _ e3
        subst e1
        subst e3
        refine step_append_rd _ _ 32 rfl (w.heap.size + 2) 5 (.int .u8 0) 1 1 Try.underlying32 info_u8l rfl (by decide) (by decide) (.slice A3 8 c3) 8 (bts (le l.e.toNat 4 ++ le l.s.toNat 4)) h0 (own_chg (own_drew O2.out) hE (fun _ _ => id)) A3_ 4 c3_ (bts (le l.n.toNat 4)) h3 (by rw [bts_length, le_length]) hr3 (one_bts _) (by decide) (Nat.le_trans S2.out hE.size) ?_
        intro v1 w1 ho1 hg1 hat1
        refine ⟨v1, rfl, ?_, ⟨hg1.os, hg1.tape, hg1.output, hg1.size, fun j hj hne => hg1.block j hj (fun he => hne he.symm)⟩⟩
        (try rw [if_pos rfl])
        exact ⟨by rw [bts_append (le l.e.toNat 4 ++ le l.s.toNat 4)]; exact ho1, hat1.imp id (fun h => ⟨_, h, hE.size⟩)⟩
      case bo5 =>
        rw [if_neg (by decide)]
        intro a wx hE hin
        have i1 : a.eval (.tmp 1) = .pointer (some ⟨w.heap.size, 0, none⟩) := hin 1 rfl
        clear hin
        have hcst : ∀ v, a.eval (.const v) = v := fun _ => rfl
        have hfnc : ∀ f, a.eval (.func f) = .func (.func f) #[] #[] := fun _ => rfl
        refine want_none rfl ?_
        unfold Oper.wp
        generalize a.eval = ρ at *
        go_simp
        try go_bits
        first | exact rel_val (Chg.refl _) | (go_simp; exact rel_val (Chg.refl _))
      case bo6 =>
        rw [if_neg (by decide)]
        rintro a wx hE hin (h5 : a.eval (.tmp 18) = _)
        clear hin
        have hcst : ∀ v, a.eval (.const v) = v := fun _ => rfl
        have hfnc : ∀ f, a.eval (.func f) = .func (.func f) #[] #[] := fun _ => rfl
        refine want_none rfl ?_
        unfold Oper.wp
        generalize a.eval = ρ at *
        have c := Bk.cell ((X2.out.drew).chg hE (fun he => by have := LVB2.out _ he; omega)) D3.out
        go_simp
        try go_bits
        first | exact rel_val (Chg.refl _) | (go_simp; exact rel_val (Chg.refl _))
      case bo7 =>
        rw [if_neg (by decide)]
        rintro a wx hE hin (h6 : a.eval (.tmp 19) = _)
        clear hin
        have hcst : ∀ v, a.eval (.const v) = v := fun _ => rfl
        have hfnc : ∀ f, a.eval (.func f) = .func (.func f) #[] #[] := fun _ => rfl
        refine want_none rfl ?_
        unfold Oper.wp
        generalize a.eval = ρ at *
        go_simp
        try go_bits
        first | exact rel_val (Chg.refl _) | (go_simp; exact rel_val (Chg.refl _))
      case bo8 =>
        rw [if_neg (by decide)]
        rintro a wx hE hin (h7 : a.eval (.tmp 20) = _)
        clear hin
        have hcst : ∀ v, a.eval (.const v) = v := fun _ => rfl
        have hfnc : ∀ f, a.eval (.func f) = .func (.func f) #[] #[] := fun _ => rfl
        refine want_none rfl ?_
        unfold Oper.wp
        generalize a.eval = ρ at *
        go_simp
        rw [show ((l.d.toNat : Int) % 4294967296) = ((l.d.toUInt32.toNat : Nat) : Int) by rw [UInt16.toNat_toUInt32]; have := l.d.toNat_lt; omega]
        refine (put_calls l.d.toUInt32 2 wx (by decide)).mono ?_
        intro e w' hp
        rw [UInt16.toNat_toUInt32] at hp
        obtain ⟨A, c, rfl, ho, hb⟩ := hp
        rw [le_length] at ho ⊢
        exact ⟨_, rfl, ⟨A, c, rfl, own_lower ho (Nat.le_trans S2.out (hE.size)), fun q hq => Nat.le_trans hE.size (ho.lt _ hq).1⟩, .of_below hb⟩
    case bfin =>
      intro wx hE
      rintro _ rfl _ rfl _ rfl _ ⟨A3_, c3_, rfl, o3, b3⟩ vsp _ _ rfl _ rfl _ rfl _ ⟨A8, c8, rfl, o8, b8⟩ hsp
      simp only [FinOk, List.take_succ_cons, List.take_zero, List.take_nil, List.drop_succ_cons, List.drop_zero, List.drop_nil, Act.put, List.setIfInBounds_toArray, List.set_cons_succ, List.set_cons_zero]
      simp only [Act.put, List.setIfInBounds_toArray, List.set_cons_succ, List.set_cons_zero] at hsp
      have hsp' : OwnU (w.heap.size + 2) 12 (le l.e.toNat 4 ++ le l.s.toNat 4 ++ le l.n.toNat 4) (.slice A3 8 c3) w2.heap.size wx vsp := hsp
      clear hsp
      obtain ⟨ho3, hat3⟩ := hsp'
      obtain ⟨A6, c6, rfl, _, _, _⟩ := own_rd ho3
      have hge : ∀ q, LvS (.slice A3 8 c3) q → w.heap.size + 2 ≤ q := fun q hq => (O2.out.lt _ hq).1
      have X3 := Lib.hid ((X2.out.drew).chg hE (fun he => by have := hge _ he; omega))
      have R3 := Lib.hid ((R2.out.drew).chg hE (fun he => by have := hge _ he; omega))
      have E3 : Hid (Below w.heap.size w wx) := E2.out.trans ((hE.undrew).below (B := w.heap.size) E2.out.size (fun q hq he => by have := hge _ he; omega))
      have S3 : Hid (w.heap.size + 2 ≤ wx.heap.size) := Nat.le_trans S2.out hE.size
      have O3 := Lib.hid ho3
      obtain ⟨A8', c8', hv8, hr8, _, _⟩ := own_rd o8
      injection hv8 with e1 _ e3
      subst e1
      subst e3
      have RD8 := Lib.hid hr8
      clear hE ho3 hat3 o3 o8 hr8 b3 b8 hge
      go_wp2_with (at_builtin; refine wpList_append_rd rfl (.tmp 17) (.tmp 21) 32 rfl (w.heap.size + 2) 5 (.int .u8 0) 1 1 Try.underlying32 info_u8l rfl (by decide) (by decide) (.slice A6 12 c6) 12 (bts (le l.e.toNat 4 ++ le l.s.toNat 4 ++ le l.n.toNat 4)) rfl O3.out A8 2 c8 (bts (le l.d.toNat 2)) rfl (by rw [bts_length, le_length, Nat.mul_one]) RD8.out (one_bts _) (by decide) S3.out ?_)
      intro v4 w4 hown hg hat
      have O4 : Hid (w4.ownsRow (w.heap.size + 2) 5 1 v4 14 (bts (le l.e.toNat 4 ++ le l.s.toNat 4 ++ le l.n.toNat 4 ++ le l.d.toNat 2))) := by show World.ownsRow _ _ _ _ _ _ _; rw [bts_append (le l.e.toNat 4 ++ le l.s.toNat 4 ++ le l.n.toNat 4)]; exact hown
      have hc4 : Chg (fun q => (Value.slice A6 12 c6).ownBlock = some q) wx w4 := ⟨hg.os, hg.tape, hg.output, hg.size, fun q hq hne => hg.block q hq (fun he => hne he.symm)⟩
      have hge : ∀ q, (Value.slice A6 12 c6).ownBlock = some q → w.heap.size + 2 ≤ q := fun q hq => (O3.out.lt _ hq).1
      have X4 := Lib.hid (X3.out.chg hc4 (fun he => by have := hge _ he; omega))
      have R4 := Lib.hid (R3.out.chg hc4 (fun he => by have := hge _ he; omega))
      have E4 : Hid (Below w.heap.size w w4) := E3.out.trans (hc4.below E3.out.size (fun q hq he => by have := hge _ he; omega))
      have S4 : Hid (w.heap.size + 2 ≤ w4.heap.size) := Nat.le_trans S3.out hc4.size
      obtain ⟨A7, c7, rfl, _, _, _⟩ := own_rd O4.out
      have c4 := X4.out.cell D4.out
      clear hown hg hat hc4 hge
      go_wp2_with fail
      rw [show ((l.la.toNat : Int) % 4294967296) = ((l.la.toUInt32.toNat : Nat) : Int) by rw [UInt16.toNat_toUInt32]; have := l.la.toNat_lt; omega]
      refine (put_calls l.la.toUInt32 2 w4 (by decide)).mono ?_
      intro e w5 hp
      rw [UInt16.toNat_toUInt32] at hp
      obtain ⟨A, c, rfl, ho, hb⟩ := hp
      rw [le_length] at ho ⊢
      obtain ⟨A', c', hv, hr, _, _⟩ := own_rd ho
      injection hv with e1 _ e3
      subst e1
      subst e3
      have O5 := Lib.hid (own_chg O4.out (Chg.of_below (S := NoS) hb) (fun _ _ => id))
      have R5 := Lib.hid (R4.out.below hb)
      have E5 : Hid (Below w.heap.size w w5) := E4.out.trans (hb.mono E4.out.size)
      have S5 : Hid (w.heap.size + 2 ≤ w5.heap.size) := Nat.le_trans S4.out hb.size
      have RD := Lib.hid hr
      clear ho hb hr c4
      go_wp2_with (at_builtin; refine wpList_append_rd rfl (.tmp 24) (.tmp 28) 32 rfl (w.heap.size + 2) 5 (.int .u8 0) 1 1 Try.underlying32 info_u8l rfl (by decide) (by decide) (.slice A7 14 c7) 14 (bts (le l.e.toNat 4 ++ le l.s.toNat 4 ++ le l.n.toNat 4 ++ le l.d.toNat 2)) rfl O5.out A 2 c (bts (le l.la.toNat 2)) rfl (by rw [bts_length, le_length, Nat.mul_one]) RD.out (one_bts _) (by decide) S5.out ?_)
      intro v6 w6 hown hg hat
      have O6 : Hid (w6.ownsRow (w.heap.size + 2) 5 1 v6 16 (bts (bodyB l))) := by
        show World.ownsRow _ _ _ _ _ _ _
        rw [show bodyB l = le l.e.toNat 4 ++ le l.s.toNat 4 ++ le l.n.toNat 4 ++ le l.d.toNat 2 ++ le l.la.toNat 2 by simp [bodyB, List.append_assoc], bts_append (le l.e.toNat 4 ++ le l.s.toNat 4 ++ le l.n.toNat 4 ++ le l.d.toNat 2)]
        exact hown
      have hc6 : Chg (fun q => (Value.slice A7 14 c7).ownBlock = some q) w5 w6 := ⟨hg.os, hg.tape, hg.output, hg.size, fun q hq hne => hg.block q hq (fun he => hne he.symm)⟩
      have hge : ∀ q, (Value.slice A7 14 c7).ownBlock = some q → w.heap.size + 2 ≤ q := fun q hq => (O5.out.lt _ hq).1
      have R6 := Lib.hid (R5.out.chg hc6 (fun he => by have := hge _ he; omega))
      have E6 : Hid (Below w.heap.size w w6) := E5.out.trans (hc6.below E5.out.size (fun q hq he => by have := hge _ he; omega))
      obtain ⟨A9, c9, rfl, hr9, hlc9, hcm9⟩ := own_rd O6.out
      have R9 := Lib.hid hr9
      clear hown hg hat hc6 hge hr9
      go_wp2_with fail
      refine (refEncode_calls 76 A9 16 c9 (bodyB l) w6 (bodyB_length l) hlc9 hcm9 R9.out).mono ?_
      rintro e w7 ⟨rfl, hb⟩
      rw [enc_lab]
      have R7 := Lib.hid (R6.out.below hb)
      have E7 : Hid (Below w.heap.size w w7) := E6.out.trans (hb.mono E6.out.size)
      clear hb
      obtain ⟨vv, hvv⟩ : ∃ vv, bts (labEnc l) = vv := ⟨_, rfl⟩
      have HVV := Lib.hid hvv
      have HVL : Hid (vv.length = 32) := by show _ = _; rw [← hvv, bts_length, labEnc_length]
      have HVO : Hid (∀ u ∈ vv, u.oneCell' = true) := by rw [← hvv]; exact one_bts _
      simp only []
      rw [hvv]
      clear hvv
      go_wp2_with (refine wpList_al rfl 37 rfl (bts (List.replicate 32 0)) (by kernel_rfl) ?_)
      intro g4 w8 hg hb hc hs
      have R8 := Lib.hid (R7.out.chg hc id)
      have E8 : Hid (Below w.heap.size w w8) := E7.out.trans (hc.below E7.out.size (fun _ _ => id))
      have G4 : Hid (w.heap.size + 1 < g4) := by show _ < _; rw [hg]; exact R7.out.lt
      have K8 := Lib.hid hb
      clear hg hb hc hs
      go_wp2_with (refine wpList_st rfl 37 (.tmp 4) (.tmp 31) rfl g4 0 32 (bts (List.replicate 32 0)) vv rfl rfl K8.out (by kernel_rfl) HVL.out (by decide) HVO.out ?_)
      intro w9 hb hc
      rw [splice_whole _ _ (by rw [HVL.out]; rfl)] at hb
      have hg4 := G4.out
      have RA := Lib.hid (R8.out.chg hc (by omega))
      have EA : Hid (Below w.heap.size w w9) := E8.out.trans (hc.below E8.out.size (fun _ _ => by omega))
      have KA := Lib.hid hb
      clear hb hc hg4
      go_wp2_with (first
        | (refine wpList_ld rfl 37 (.tmp 4) rfl g4 0 32 vv vv rfl KA.out (by kernel_rfl) (by kernel_rfl) (by rw [HVL.out]; decide) (by rw [List.drop_zero, ← HVL.out, List.take_length]) ?_)
        | (refine wpList_st rfl 37 (.tmp 2) (.tmp 33) rfl (w.heap.size + 1) 0 32 (bts (List.replicate 32 0)) vv rfl rfl RA.out (by kernel_rfl) HVL.out (by decide) HVO.out ?_))
      intro wb hb hc
      rw [splice_whole _ _ (by rw [HVL.out]; rfl)] at hb
      have EB : Hid (Below w.heap.size w wb) := EA.out.trans (hc.below EA.out.size (fun _ _ => by omega))
      have KB := Lib.hid hb
      clear hb hc
      go_wp2_with fail
      (try simp only [Exit.inBlock, Exit.then])
      refine bodyPost_ret (res_cell rfl _ _ (w.heap.size + 1) 32 vv rfl KB.out (by kernel_rfl) (by kernel_rfl) HVL.out) rfl ?_
      exact ⟨by rw [HVV.out], EB.out⟩
end Go.Proofs.Ytnpcehlbboeadaa
