/- The walk of disk.Write, where it goes through. -/
import Derived.Test.YtnpcehlbboeadaaDiskWrite2
namespace Go.Proofs.Ytnpcehlbboeadaa
open Go.RowKit
set_option linter.unusedVariables false
set_option linter.unusedSimpArgs false

theorem infoR : (Try.prog.info? 93).map (fun i => (i.zero, i.size)) = some (some zW, 33) := by kernel_rfl
theorem infoR2 : (Try.prog.info? 93).map (fun i => (i.zero, i.size, i.bytes)) = some (some zW, 33, 40) := by kernel_rfl

def OwnToR (base n : Nat) (xs : List Value) (lv : Value) (m : Nat) : Fact := fun w v => w.ownsRow base 93 33 v n xs ∧ (v.ownBlock = lv.ownBlock ∨ ∃ j, v.ownBlock = some j ∧ m ≤ j)
theorem OwnToR.lasts {base n m : Nat} {xs : List Value} {lv : Value} : ∀ w w' v, Chg NoS w w' → OwnToR base n xs lv m w v → OwnToR base n xs lv m w' v := fun _ _ _ h ho => ⟨own_chg ho.1 h (fun _ _ => id), ho.2⟩
set_option maxRecDepth 100000 in
set_option maxHeartbeats 2000000 in
theorem refWrite_yes (w : World) (base g : Nat) (A : Option Addr) (n c : Nat) (lv : Value) (f : Int) (dn : Bool) (i : Int) (b : List UInt8) (k : Nat) (xs : List Value)
    (hd : Dk w g (.slice A n c) lv f dn) (ho : w.ownsRow base 93 33 lv k xs) (hb : b.length = 32) (h0 : 0 ≤ i) (hi : i < n) (hp : passD f dn = false) (hng : lv.ownBlock ≠ some g) (hk : k ≤ 1000) (hbase : base ≤ w.heap.size) (hf : -9223372036854775808 ≤ f) (hf2 : f ≤ 9223372036854775807) (hl1 : lv.oneCell' = true) :
    Calls Try.prog 19 #[.pointer (some ⟨g, 0, none⟩), .int .i64 i, .agg (bts b).toArray] w fun e w' => e = .returned (.int .i64 0) ∧
      ∃ lv', Dk w' g (.slice A n c) lv' (passF f dn) false ∧ w'.ownsRow base 93 33 lv' (k + 1) (xs ++ rowW i b) ∧ (lv'.ownBlock = lv.ownBlock ∨ ∃ j, lv'.ownBlock = some j ∧ w.heap.size ≤ j) ∧ Chg (fun j => j = g ∨ lv.ownBlock = some j) w w' := by
  have hnb : lv.ownBlock ≠ some w.heap.size := fun h => by have := (ho.lt _ h).2; omega
  have HNX : Hid (∀ q, w.heap.size ≤ q → ¬ LvS lv q) := fun q hq h => by have := (ho.lt _ h).2; omega
  have hpe : passE f dn = 0 := by
    unfold passE passD at *
    cases dn <;> simp_all
  have HB := Lib.hid hb
  have HO := Lib.hid ho
  have HD := Lib.hid hd
  clear hb ho hd
  obtain ⟨vx, hvx⟩ : ∃ vx, bts b = vx := ⟨_, rfl⟩
  have HVX := Lib.hid hvx
  rw [hvx]
  clear hvx
  go_enter Try.func19, Try.ntmps19
  go_wp2_with fail
  refine calls_at fun w1 hw1 => ?_
  have HD1 : Hid (Dk w1 g (.slice A n c) lv f dn) := by rw [← hw1]; exact HD.out.alloc _
  have HX1 : Hid (Bk w1 w.heap.size (bts b)) := by rw [← hw1, HVX.out]; exact Bk.new w vx _
  have HO1 : Hid (w1.ownsRow base 93 33 lv k xs) := by rw [← hw1]; exact own_chg HO.out ((Chg.refl (S := NoS) w).alloc _) (fun _ _ => id)
  have HC1 : Hid (Chg NoS w w1) := by rw [← hw1]; exact (Chg.refl _).alloc _
  clear hw1
  refine (refHas_calls w1 g A n c lv f dn i HD1.out).mono ?_
  rintro e w' ⟨rfl, rfl⟩
  rw [show (decide (0 ≤ i) && decide (i < (n : Int))) = true by simp [h0, hi]]
  go_wp2_with fail
  refine (refThrough_calls w1 g _ lv f dn HD1.out hf hf2).mono ?_
  rintro e w2 ⟨rfl, hd2, hc2⟩
  rw [hp] at hd2 ⊢
  have HD2 := Lib.hid hd2
  have hgx : w.heap.size ≠ g := fun h => by have := HD.out.lt; omega
  have HX2 : Hid (Bk w2 w.heap.size (bts b)) := HX1.out.chg hc2 hgx
  have HO2 : Hid (w2.ownsRow base 93 33 lv k xs) := own_chg HO1.out hc2 (fun j hj he => hng (by rw [hj, he]))
  have HC2 : Hid (Chg (· = g) w w2) := (HC1.out.mono (fun _ h => h.elim)).trans hc2
  have HBS : Hid (base ≤ w2.heap.size) := Nat.le_trans hbase HC2.out.size
  clear hd2 hc2
  go_wp2_with fail
  apply wp_region_relt 10 9 23 (OwnToR base (k + 1) (xs ++ rowW i b) lv w.heap.size) (Chg (LvS lv)) (Chg NoS) (Chg (LvS lv)) [(Veq _), (Veq _), (Veq _), (Veq _), (Veq _), (Veq _), (Veq _), (Veq _), (RowAt (LvS lv) 1 (rowW i b)), (fun _ _ => True)] [[], [], [1], [2], [3], [], [], [5, 6], [7], [4, 8]] [14, 15, 16, 17, 18, 19, 20, 21, 22, 23] (by kernel_rfl) (by kernel_rfl) rfl rfl rfl (by kernel_rfl) Chg.refl (fun _ _ _ => Chg.trans) (fun _ _ _ => Chg.trans) (fun _ _ h => h.mono (fun _ hk => hk.elim)) (fun _ _ h => h) ⟨Veq.lasts, Veq.lasts, Veq.lasts, Veq.lasts, Veq.lasts, Veq.lasts, Veq.lasts, Veq.lasts, (fun w w' v h => RowAt.lasts w w' v (h.mono (fun _ hk => hk.elim))), (fun _ _ _ _ _ => trivial), trivial⟩ ⟨Veq.lasts, Veq.lasts, Veq.lasts, Veq.lasts, Veq.lasts, Veq.lasts, Veq.lasts, Veq.lasts, RowAt.lasts, (fun _ _ _ _ _ => trivial), trivial⟩ OwnToR.lasts (fun F h w v => by cases h; trivial) ?aops ?afin
  case aops =>
    refine ⟨?ao0, ?ao1, ?ao2, ?ao3, ?ao4, ?ao5, ?ao6, ?ao7, ?ao8, ?ao9, trivial⟩
    case ao0 =>
      rw [if_neg (by decide)]
      intro a wx hE hin
      have i0 : a.eval (.tmp 0) = .pointer (some ⟨g, 0, none⟩) := hin 0 rfl
      clear hin
      have hcst : ∀ v, a.eval (.const v) = v := fun _ => rfl
      have hfnc : ∀ f, a.eval (.func f) = .func (.func f) #[] #[] := fun _ => rfl
      refine want_none rfl ?_
      unfold Oper.wp
      generalize a.eval = ρ at *
      go_simp
      try go_bits
      first | exact rel_val (Chg.refl _) | (go_simp; exact rel_val (Chg.refl _))
    case ao1 =>
      rw [if_neg (by decide)]
      intro a wx hE hin
      have i0 : a.eval (.tmp 0) = .pointer (some ⟨g, 0, none⟩) := hin 0 rfl
      clear hin
      have hcst : ∀ v, a.eval (.const v) = v := fun _ => rfl
      have hfnc : ∀ f, a.eval (.func f) = .func (.func f) #[] #[] := fun _ => rfl
      refine want_none rfl ?_
      unfold Oper.wp
      generalize a.eval = ρ at *
      go_simp
      try go_bits
      first | exact rel_val (Chg.refl _) | (go_simp; exact rel_val (Chg.refl _))
    case ao2 =>
      rw [if_neg (by decide)]
      rintro a wx hE hin (h1 : a.eval (.tmp 15) = _)
      clear hin
      have hcst : ∀ v, a.eval (.const v) = v := fun _ => rfl
      have hfnc : ∀ f, a.eval (.func f) = .func (.func f) #[] #[] := fun _ => rfl
      refine want_none rfl ?_
      unfold Oper.wp
      generalize a.eval = ρ at *
      go_simp
      try go_bits
      first | exact rel_val (Chg.refl _) | (go_simp; exact rel_val (Chg.refl _))
    case ao3 =>
      rw [if_neg (by decide)]
      rintro a wx hE hin (h2 : a.eval (.tmp 16) = _)
      clear hin
      have hcst : ∀ v, a.eval (.const v) = v := fun _ => rfl
      have hfnc : ∀ f, a.eval (.func f) = .func (.func f) #[] #[] := fun _ => rfl
      refine want_none rfl ?_
      unfold Oper.wp
      generalize a.eval = ρ at *
      go_simp
      try go_bits
      first | exact rel_val (Chg.refl _) | (go_simp; exact rel_val (Chg.refl _))
    case ao4 =>
      rw [if_neg (by decide)]
      rintro a wx hE hin (h3 : a.eval (.tmp 17) = _)
      clear hin
      have hcst : ∀ v, a.eval (.const v) = v := fun _ => rfl
      have hfnc : ∀ f, a.eval (.func f) = .func (.func f) #[] #[] := fun _ => rfl
      refine want_none rfl ?_
      unfold Oper.wp
      generalize a.eval = ρ at *
      have c := Bk.cell (j := 1) (HD2.out.drew.chg hE (show ¬ (lv.ownBlock = some g) from hng)) rfl
      go_simp
      try go_bits
      first | exact rel_val (Chg.refl _) | (go_simp; exact rel_val (Chg.refl _))
    case ao5 =>
      rw [if_neg (by decide)]
      intro a wx hE hin
      have i1 : a.eval (.tmp 1) = .int .i64 i := hin 1 rfl
      clear hin
      have hcst : ∀ v, a.eval (.const v) = v := fun _ => rfl
      have hfnc : ∀ f, a.eval (.func f) = .func (.func f) #[] #[] := fun _ => rfl
      refine want_none rfl ?_
      unfold Oper.wp
      generalize a.eval = ρ at *
      go_simp
      try go_bits
      first | exact rel_val (Chg.refl _) | (go_simp; exact rel_val (Chg.refl _))
    case ao6 =>
      rw [if_neg (by decide)]
      intro a wx hE hin
      have i5 : a.eval (.tmp 5) = .pointer (some ⟨w.heap.size, 0, none⟩) := hin 5 rfl
      clear hin
      have hcst : ∀ v, a.eval (.const v) = v := fun _ => rfl
      have hfnc : ∀ f, a.eval (.func f) = .func (.func f) #[] #[] := fun _ => rfl
      refine want_none rfl ?_
      exact wp_ld 37 _ rfl w.heap.size 0 32 (bts b) (bts b) i5 (HX2.out.drew.chg hE (show ¬ (lv.ownBlock = some w.heap.size) from hnb)) (by kernel_rfl) (by kernel_rfl) (by rw [bts_length, HB.out]; decide) (by rw [List.drop_zero, List.take_of_length_le (by rw [bts_length, HB.out]; decide)]) (rel_val (Chg.refl _))
    case ao7 =>
      rw [if_neg (by decide)]
      rintro a wx hE hin (h5 : a.eval (.tmp 19) = _) (h6 : a.eval (.tmp 20) = _)
      clear hin
      have hcst : ∀ v, a.eval (.const v) = v := fun _ => rfl
      have hfnc : ∀ f, a.eval (.func f) = .func (.func f) #[] #[] := fun _ => rfl
      refine want_none rfl ?_
      exact wp_bld2 93 0 1 _ _ rfl 33 (.int .i64 0 :: bts (List.replicate 32 0)) [(0, 1), (1, 32)] (by kernel_rfl) (by kernel_rfl) [.int .i64 i] (bts b) (by rw [h5]; rfl) (by rw [h6]; rfl) rfl (by rw [bts_length, HB.out]; rfl) (by rw [bts_length, HB.out]; rfl) (rel_val (Chg.refl _))
    case ao8 =>
      rw [if_neg (by decide)]
      rintro a wx hE hin (h7 : a.eval (.tmp 21) = _)
      clear hin
      have hcst : ∀ v, a.eval (.const v) = v := fun _ => rfl
      have hfnc : ∀ f, a.eval (.func f) = .func (.func f) #[] #[] := fun _ => rfl
      refine want_none rfl ?_
      exact wp_bs1 50 93 _ rfl zW 33 (rowW i b) Try.underlying50 infoR rfl (by decide) (by decide) (by rw [h7]; rfl) (by simp [rowW, HB.out]) ⟨_, rfl, ⟨wx.heap.size, rfl, HNX.out _ (Nat.le_trans HC2.out.size hE.size), _, _, heap_alloc_new wx _⟩, (Chg.refl _).alloc _⟩
    case ao9 =>
      rw [if_pos (by decide)]
      rintro a wx hE hin (h4 : a.eval (.tmp 18) = _) ⟨g8, h8, s8, t8, f8, c8⟩
      clear hin
      have hcst : ∀ v, a.eval (.const v) = v := fun _ => rfl
      have hfnc : ∀ f, a.eval (.func f) = .func (.func f) #[] #[] := fun _ => rfl
      refine step_append_rd _ _ 50 rfl base 93 zW 33 40 Try.underlying50 infoR2 rfl (by decide) (by decide) lv k xs h4 (own_chg (own_drew HO2.out) hE (fun _ _ => id)) (some ⟨g8, 0, none⟩) 1 1 (rowW i b) h8 (by simp [rowW, HB.out]) (Rd.row (S := NoS) c8) (one_w8 i b) (by omega) (Nat.le_trans HBS.out hE.size) ?_
      intro v1 w1 ho1 hg1 hat1
      refine ⟨v1, rfl, ?_, ⟨hg1.os, hg1.tape, hg1.output, hg1.size, fun j hj hne => hg1.block j hj (fun he => hne he.symm)⟩⟩
      rw [if_pos rfl]
      exact ⟨ho1, hat1.imp id (fun h => ⟨_, h, Nat.le_trans HC2.out.size hE.size⟩)⟩
  case afin =>
    intro wx hE
    rintro _ rfl _ rfl _ rfl _ rfl lv rfl _ rfl _ rfl _ rfl _ ⟨g8, rfl, s8, t8, f8, c8⟩ vsp _ hsp
    simp only [FinOk, List.take_succ_cons, List.take_zero, List.take_nil, List.drop_succ_cons, List.drop_zero, List.drop_nil, Act.put, List.setIfInBounds_toArray, List.set_cons_succ, List.set_cons_zero]
    simp only [Act.put, List.setIfInBounds_toArray, List.set_cons_succ, List.set_cons_zero] at hsp
    have hsp' : OwnToR base (k + 1) (xs ++ rowW i b) lv w.heap.size wx vsp := hsp
    clear hsp
    obtain ⟨ho3, hat3⟩ := hsp'
    obtain ⟨A2, c2, rfl, _, _, _⟩ := own_rd ho3
    have HD3 : Hid (Dk wx g (.slice A n c) lv (passF f dn) false) := HD2.out.drew.chg hE (show ¬ (lv.ownBlock = some g) from hng)
    have HO3 := Lib.hid ho3
    have HA3 := Lib.hid hat3
    have HC3 : Hid (Chg (fun j => j = g ∨ lv.ownBlock = some j) w wx) := (HC2.out.mono (fun _ h => .inl h)).trans (hE.undrew.mono (fun _ h => .inr h))
    have hne3 : (Value.slice A2 (k + 1) c2).ownBlock ≠ some g := by
      intro he
      rcases hat3 with h | ⟨j, h, hj⟩
      · exact hng (by rw [← h, he])
      · rw [he] at h
        injection h with h
        have := HD.out.lt
        omega
    clear ho3 hat3 hE c8
    go_wp2_with (refine wpList_st rfl 50 (.tmp 25) (.tmp 23) rfl g 1 1 [.slice A n c, lv, .int .i64 (passF f dn), .bool false] [.slice A2 (k + 1) c2] rfl rfl HD3.out (by kernel_rfl) rfl (by simp) (fun u hu => by obtain rfl := List.mem_singleton.1 hu; rfl) ?_)
    intro w4 hb4 hc4
    have hb5 : Dk w4 g (.slice A n c) (.slice A2 (k + 1) c2) (passF f dn) false := hb4
    have HO4 : Hid (w4.ownsRow base 93 33 (.slice A2 (k + 1) c2) (k + 1) (xs ++ rowW i b)) := own_chg HO3.out hc4 (fun j hj he => hne3 (by rw [hj, he]))
    have HC4 : Hid (Chg (fun j => j = g ∨ lv.ownBlock = some j) w w4) := HC3.out.trans (hc4.mono (fun _ h => .inl h))
    have HB5 := Lib.hid hb5
    clear hb4 hb5 hc4
    go_wp2
    go_ret
    exact ⟨rfl, _, HB5.out, HO4.out, HA3.out, HC4.out⟩
end Go.Proofs.Ytnpcehlbboeadaa
