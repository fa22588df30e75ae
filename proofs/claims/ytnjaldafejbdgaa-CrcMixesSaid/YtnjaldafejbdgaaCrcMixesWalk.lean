/- The walk of CrcMixes. -/
import Derived.Test.YtnjaldafejbdgaaWakes4
namespace Go.Proofs.Ytnjaldafejbdgaa
open Go.RowKit
set_option linter.unusedVariables false
set_option linter.unusedSimpArgs false

theorem info_u8m : (Try.prog.info? 5).map (fun i => (i.zero, i.size, i.bytes)) = some (some (.int .u8 0), 1, 1) := by kernel_rfl
theorem xor3_length : ∀ (a b c : List UInt8), a.length = b.length → a.length = c.length → (xor3 a b c).length = a.length
  | [], [], [], _, _ => rfl
  | x :: a, y :: b, z :: c, h1, h2 => by
    rw [xor3, List.length_cons, List.length_cons, xor3_length a b c (by simpa using h1) (by simpa using h2)]
theorem xor3_snoc : ∀ (a b c : List UInt8) (x y z : UInt8), a.length = b.length → a.length = c.length → xor3 (a ++ [x]) (b ++ [y]) (c ++ [z]) = xor3 a b c ++ [x ^^^ y ^^^ z]
  | [], [], [], _, _, _, _, _ => rfl
  | p :: a, q :: b, r :: c, x, y, z, h1, h2 => by
    rw [List.cons_append, List.cons_append, List.cons_append, xor3, xor3, List.cons_append, xor3_snoc a b c x y z (by simpa using h1) (by simpa using h2)]
theorem take_snoc (l : List UInt8) (k : Nat) (h : k < l.length) : l.take (k + 1) = l.take k ++ [l.getD k 0] := by
  rw [List.take_succ_eq_append_getElem h]; simp [List.getElem?_eq_getElem h]
set_option maxHeartbeats 1000000 in
theorem CrcMixes_short (A B C : Option Addr) (n m o ca cb cc : Nat) (w : World) (hs : 1000 < n ∨ n ≠ m ∨ n ≠ o) :
    Calls Try.prog 7 #[.slice A n ca, .slice B m cb, .slice C o cc] w fun e w' => e = .returned (.bool true) ∧ Below w.heap.size w w' := by
  by_cases h1 : 1000 < n
  · go_enter Try.func7, Try.ntmps7
    go_wp2_with (go_at_call 12; refine (wakes4_calls _).mono ?_; rintro e w' ⟨rfl, hb⟩)
    go_ret
    exact ⟨rfl, hb⟩
  · have h1b : ¬ ((1000 : Int) < (n : Int)) := by omega
    by_cases h2 : n = m
    · subst h2
      have h3 : ((n : Int) != (o : Int)) = true := by
        rw [bne_iff_ne]; omega
      clear hs h1
      go_enter Try.func7, Try.ntmps7
      go_wp2_with (go_at_call 12; refine (wakes4_calls _).mono ?_; rintro e w' ⟨rfl, hb⟩)
      go_ret
      exact ⟨rfl, hb⟩
    · have h3 : ((n : Int) != (m : Int)) = true := by
        rw [bne_iff_ne]; omega
      clear hs h1 h2
      go_enter Try.func7, Try.ntmps7
      go_wp2_with (go_at_call 12; refine (wakes4_calls _).mono ?_; rintro e w' ⟨rfl, hb⟩)
      go_ret
      exact ⟨rfl, hb⟩
/-- What the loop's head knows. -/
def MixRel (w : World) (a b c : List UInt8) (n : Nat) (v7 v8 : Value) (wr : World) : Prop :=
  ∃ (k : Nat) (D : Option Addr) (cd : Nat), k ≤ n ∧ v8 = .int .i64 k ∧ v7 = .slice D k cd ∧ wr.ownsRow w.heap.size 5 1 v7 k (bts (xor3 (a.take k) (b.take k) (c.take k))) ∧ Below w.heap.size w wr
set_option maxHeartbeats 2000000 in
theorem CrcMixes_walk (A B C : Option Addr) (n ca cb cc : Nat) (a b c : List UInt8) (w : World) (hn : n ≤ 1000) (hla : a.length = n) (hlb : b.length = n) (hlc : c.length = n)
    (h1 : n ≤ ca) (h2 : n ≤ cb) (h3 : n ≤ cc) (m1 : ca ≤ 9223372036854775807) (m2 : cb ≤ 9223372036854775807) (m3 : cc ≤ 9223372036854775807) (ra : Rd w A (bts a)) (rb : Rd w B (bts b)) (rc : Rd w C (bts c)) :
    Calls Try.prog 7 #[.slice A n ca, .slice B n cb, .slice C n cc] w fun e w' => e = .returned (.bool true) ∧ Below w.heap.size w w' := by
  have RA := Lib.hid ra
  have RB := Lib.hid rb
  have RC := Lib.hid rc
  have LA := Lib.hid hla
  have LB := Lib.hid hlb
  have LC := Lib.hid hlc
  clear ra rb rc hla hlb hlc
  have hn0 : ¬ ((1000 : Int) < (n : Int)) := by omega
  have hne : ((n : Int) != (n : Int)) = false := by simp
  go_enter Try.func7, Try.ntmps7
  go_wp2_with fail
  go_loopw [7, 8] (fun v7 v8 wr => MixRel w a b c n v7 v8 wr) (fun _ v8 _ => n - (intOf v8).toNat)
  case atStart => exact ⟨0, none, 0, by omega, rfl, rfl, ⟨by simp [bts, xor3], .inl ⟨rfl, rfl⟩⟩, Below.refl _ _⟩
  case round =>
    obtain ⟨k, D, cd, hk, rfl, rfl, hown, hbel⟩ := hrel
    have HO := Lib.hid hown
    have HB := Lib.hid hbel
    clear hown hbel
    by_cases hlt : k < n
    · obtain ⟨aa, rfl, hca⟩ := (RA.out.below HB.out).bt k (by rw [LA.out]; exact hlt)
      obtain ⟨ab, rfl, hcb⟩ := (RB.out.below HB.out).bt k (by rw [LB.out]; exact hlt)
      obtain ⟨ac, rfl, hcc⟩ := (RC.out.below HB.out).bt k (by rw [LC.out]; exact hlt)
      have hsn : xor3 (a.take (k+1)) (b.take (k+1)) (c.take (k+1)) = xor3 (a.take k) (b.take k) (c.take k) ++ [a.getD k 0 ^^^ b.getD k 0 ^^^ c.getD k 0] := by
        rw [take_snoc a k (by rw [LA.out]; exact hlt), take_snoc b k (by rw [LB.out]; exact hlt), take_snoc c k (by rw [LC.out]; exact hlt), xor3_snoc _ _ _ _ _ _ (by simp [LA.out, LB.out]) (by simp [LA.out, LC.out])]
      generalize a.getD k 0 = x at hca hsn
      generalize b.getD k 0 = y at hcb hsn
      generalize c.getD k 0 = z at hcc hsn
      have HA := Lib.hid hca
      have HBB := Lib.hid hcb
      have HCC := Lib.hid hcc
      have HSN := Lib.hid hsn
      clear hca hcb hcc hsn
      have hki : (k : Int) < (n : Int) := by omega
      go_wp2_with fail
      apply wp_region_rel 16 (Chg NoS) [(Veq _), (Veq _), (Veq _), (Veq _), (Veq _), (Veq _), (Veq _), (Veq _), (Veq _), (Veq _), (Veq _), (Veq _), (Veq _), (Veq _), (Veq _), (RowAt NoS 1 _)] [[], [], [], [1, 2], [3], [], [], [5, 6], [7], [4, 8], [], [], [10, 11], [12], [9, 13], [14]] [33, 34, 35, 36, 37, 38, 39, 40, 41, 42, 43, 44, 45, 46, 47, 48] (by kernel_rfl) (by kernel_rfl) rfl rfl rfl Chg.refl (fun _ _ _ => Chg.trans) ⟨Veq.lasts, Veq.lasts, Veq.lasts, Veq.lasts, Veq.lasts, Veq.lasts, Veq.lasts, Veq.lasts, Veq.lasts, Veq.lasts, Veq.lasts, Veq.lasts, Veq.lasts, Veq.lasts, Veq.lasts, RowAt.lasts, trivial⟩ ?aops ?afin
      case aops =>
        refine ⟨?ao0, ?ao1, ?ao2, ?ao3, ?ao4, ?ao5, ?ao6, ?ao7, ?ao8, ?ao9, ?ao10, ?ao11, ?ao12, ?ao13, ?ao14, ?ao15, trivial⟩
        case ao0 =>
          intro a wx hE hin
          have i7 : a.eval (.tmp 7) = .slice D k cd := hin 7 rfl
          clear hin
          have hcst : ∀ v, a.eval (.const v) = v := fun _ => rfl
          have hfnc : ∀ f, a.eval (.func f) = .func (.func f) #[] #[] := fun _ => rfl
          refine want_none rfl ?_
          unfold Oper.wp
          generalize a.eval = ρ at *
          go_simp
          try go_bits
          first | exact rel_val (Chg.refl _) | (go_simp; exact rel_val (Chg.refl _))
        case ao1 =>
          intro a wx hE hin
          have i0 : a.eval (.tmp 0) = .slice (some aa) n ca := hin 0 rfl
          clear hin
          have hcst : ∀ v, a.eval (.const v) = v := fun _ => rfl
          have hfnc : ∀ f, a.eval (.func f) = .func (.func f) #[] #[] := fun _ => rfl
          refine want_none rfl ?_
          unfold Oper.wp
          generalize a.eval = ρ at *
          go_simp
          try go_bits
          first | exact rel_val (Chg.refl _) | (go_simp; exact rel_val (Chg.refl _))
        case ao2 =>
          intro a wx hE hin
          have i8 : a.eval (.tmp 8) = .int .i64 ↑k := hin 8 rfl
          clear hin
          have hcst : ∀ v, a.eval (.const v) = v := fun _ => rfl
          have hfnc : ∀ f, a.eval (.func f) = .func (.func f) #[] #[] := fun _ => rfl
          refine want_none rfl ?_
          unfold Oper.wp
          generalize a.eval = ρ at *
          go_simp
          try go_bits
          first | exact rel_val (Chg.refl _) | (go_simp; exact rel_val (Chg.refl _))
        case ao3 =>
          rintro a wx hE hin (h1 : a.eval (.tmp 34) = _) (h2 : a.eval (.tmp 35) = _)
          clear hin
          have hcst : ∀ v, a.eval (.const v) = v := fun _ => rfl
          have hfnc : ∀ f, a.eval (.func f) = .func (.func f) #[] #[] := fun _ => rfl
          refine want_none rfl ?_
          unfold Oper.wp
          generalize a.eval = ρ at *
          go_simp
          try go_bits
          first | exact rel_val (Chg.refl _) | (go_simp; exact rel_val (Chg.refl _))
        case ao4 =>
          rintro a wx hE hin (h3 : a.eval (.tmp 36) = _)
          clear hin
          have hcst : ∀ v, a.eval (.const v) = v := fun _ => rfl
          have hfnc : ∀ f, a.eval (.func f) = .func (.func f) #[] #[] := fun _ => rfl
          refine want_none rfl ?_
          unfold Oper.wp
          generalize a.eval = ρ at *
          have c := hE.cell (w := wr.drew) HA.out id
          go_simp
          try go_bits
          first | exact rel_val (Chg.refl _) | (go_simp; exact rel_val (Chg.refl _))
        case ao5 =>
          intro a wx hE hin
          have i1 : a.eval (.tmp 1) = .slice (some ab) n cb := hin 1 rfl
          clear hin
          have hcst : ∀ v, a.eval (.const v) = v := fun _ => rfl
          have hfnc : ∀ f, a.eval (.func f) = .func (.func f) #[] #[] := fun _ => rfl
          refine want_none rfl ?_
          unfold Oper.wp
          generalize a.eval = ρ at *
          go_simp
          try go_bits
          first | exact rel_val (Chg.refl _) | (go_simp; exact rel_val (Chg.refl _))
        case ao6 =>
          intro a wx hE hin
          have i8 : a.eval (.tmp 8) = .int .i64 ↑k := hin 8 rfl
          clear hin
          have hcst : ∀ v, a.eval (.const v) = v := fun _ => rfl
          have hfnc : ∀ f, a.eval (.func f) = .func (.func f) #[] #[] := fun _ => rfl
          refine want_none rfl ?_
          unfold Oper.wp
          generalize a.eval = ρ at *
          go_simp
          try go_bits
          first | exact rel_val (Chg.refl _) | (go_simp; exact rel_val (Chg.refl _))
        case ao7 =>
          rintro a wx hE hin (h5 : a.eval (.tmp 38) = _) (h6 : a.eval (.tmp 39) = _)
          clear hin
          have hcst : ∀ v, a.eval (.const v) = v := fun _ => rfl
          have hfnc : ∀ f, a.eval (.func f) = .func (.func f) #[] #[] := fun _ => rfl
          refine want_none rfl ?_
          unfold Oper.wp
          generalize a.eval = ρ at *
          go_simp
          try go_bits
          first | exact rel_val (Chg.refl _) | (go_simp; exact rel_val (Chg.refl _))
        case ao8 =>
          rintro a wx hE hin (h7 : a.eval (.tmp 40) = _)
          clear hin
          have hcst : ∀ v, a.eval (.const v) = v := fun _ => rfl
          have hfnc : ∀ f, a.eval (.func f) = .func (.func f) #[] #[] := fun _ => rfl
          refine want_none rfl ?_
          unfold Oper.wp
          generalize a.eval = ρ at *
          have c := hE.cell (w := wr.drew) HBB.out id
          go_simp
          try go_bits
          first | exact rel_val (Chg.refl _) | (go_simp; exact rel_val (Chg.refl _))
        case ao9 =>
          rintro a wx hE hin (h4 : a.eval (.tmp 37) = _) (h8 : a.eval (.tmp 41) = _)
          clear hin
          have hcst : ∀ v, a.eval (.const v) = v := fun _ => rfl
          have hfnc : ∀ f, a.eval (.func f) = .func (.func f) #[] #[] := fun _ => rfl
          refine want_none rfl ?_
          unfold Oper.wp
          generalize a.eval = ρ at *
          go_simp
          try go_bits
          first | exact rel_val (Chg.refl _) | (go_simp; exact rel_val (Chg.refl _))
        case ao10 =>
          intro a wx hE hin
          have i2 : a.eval (.tmp 2) = .slice (some ac) n cc := hin 2 rfl
          clear hin
          have hcst : ∀ v, a.eval (.const v) = v := fun _ => rfl
          have hfnc : ∀ f, a.eval (.func f) = .func (.func f) #[] #[] := fun _ => rfl
          refine want_none rfl ?_
          unfold Oper.wp
          generalize a.eval = ρ at *
          go_simp
          try go_bits
          first | exact rel_val (Chg.refl _) | (go_simp; exact rel_val (Chg.refl _))
        case ao11 =>
          intro a wx hE hin
          have i8 : a.eval (.tmp 8) = .int .i64 ↑k := hin 8 rfl
          clear hin
          have hcst : ∀ v, a.eval (.const v) = v := fun _ => rfl
          have hfnc : ∀ f, a.eval (.func f) = .func (.func f) #[] #[] := fun _ => rfl
          refine want_none rfl ?_
          unfold Oper.wp
          generalize a.eval = ρ at *
          go_simp
          try go_bits
          first | exact rel_val (Chg.refl _) | (go_simp; exact rel_val (Chg.refl _))
        case ao12 =>
          rintro a wx hE hin (h10 : a.eval (.tmp 43) = _) (h11 : a.eval (.tmp 44) = _)
          clear hin
          have hcst : ∀ v, a.eval (.const v) = v := fun _ => rfl
          have hfnc : ∀ f, a.eval (.func f) = .func (.func f) #[] #[] := fun _ => rfl
          refine want_none rfl ?_
          unfold Oper.wp
          generalize a.eval = ρ at *
          go_simp
          try go_bits
          first | exact rel_val (Chg.refl _) | (go_simp; exact rel_val (Chg.refl _))
        case ao13 =>
          rintro a wx hE hin (h12 : a.eval (.tmp 45) = _)
          clear hin
          have hcst : ∀ v, a.eval (.const v) = v := fun _ => rfl
          have hfnc : ∀ f, a.eval (.func f) = .func (.func f) #[] #[] := fun _ => rfl
          refine want_none rfl ?_
          unfold Oper.wp
          generalize a.eval = ρ at *
          have c := hE.cell (w := wr.drew) HCC.out id
          go_simp
          try go_bits
          first | exact rel_val (Chg.refl _) | (go_simp; exact rel_val (Chg.refl _))
        case ao14 =>
          rintro a wx hE hin (h9 : a.eval (.tmp 42) = _) (h13 : a.eval (.tmp 46) = _)
          clear hin
          have hcst : ∀ v, a.eval (.const v) = v := fun _ => rfl
          have hfnc : ∀ f, a.eval (.func f) = .func (.func f) #[] #[] := fun _ => rfl
          refine want_none rfl ?_
          unfold Oper.wp
          generalize a.eval = ρ at *
          go_simp
          try go_bits
          first | exact rel_val (Chg.refl _) | (go_simp; exact rel_val (Chg.refl _))
        case ao15 =>
          rintro a wx hE hin (h14 : a.eval (.tmp 47) = _)
          clear hin
          have hcst : ∀ v, a.eval (.const v) = v := fun _ => rfl
          have hfnc : ∀ f, a.eval (.func f) = .func (.func f) #[] #[] := fun _ => rfl
          refine want_none rfl ?_
          unfold Oper.wp
          generalize a.eval = ρ at *
          go_simp
          try go_bits
          exact rel_row (id)
      case afin =>
        intro wx hE
        rintro _ rfl _ rfl _ rfl _ rfl _ rfl _ rfl _ rfl _ rfl _ rfl _ rfl _ rfl _ rfl _ rfl _ rfl _ rfl _ ⟨g15, rfl, s15, t15, f15, c15⟩
        simp only [FinOk, List.take_succ_cons, List.take_zero, List.take_nil, List.drop_succ_cons, List.drop_zero, List.drop_nil, Act.put, List.setIfInBounds_toArray, List.set_cons_succ, List.set_cons_zero]
        rw [bits_xor8, bits_xor8] at c15
        have HO1 := Lib.hid (own_chg (own_drew HO.out) hE (fun _ _ => id))
        have HB1 := Lib.hid (HB.out.trans (Chg.below (Chg.trans (Chg.refl wr).drew hE) HB.out.size (fun _ _ => id)))
        generalize x ^^^ y ^^^ z = q at HSN c15
        have HR1 : Hid (Rd wx (some ⟨g15, 0, none⟩) (bts [q])) := Rd.row (S := NoS) c15
        clear hE c15
        go_wp2_with (at_builtin; refine wpList_append_rd rfl _ _ 26 rfl w.heap.size 5 (.int .u8 0) 1 1 Try.underlying26 info_u8m rfl (by decide) (by decide) (.slice D k cd) k (bts (xor3 (a.take k) (b.take k) (c.take k))) rfl ?own (some ⟨g15, 0, none⟩) 1 1 (bts [q]) rfl ?len ?rd (one_bts _) ?bytes ?base ?_)
        case own => exact HO1.out
        case len => rfl
        case rd => exact HR1.out
        case bytes => omega
        case base => exact HB1.out.size
        intro v1 w1 hown hg hat
        rw [← bts_append, ← HSN.out] at hown
        obtain ⟨A1, c1, rfl, _, _, _⟩ := own_rd hown
        have hb1 : Below w.heap.size w w1 := HB1.out.trans (below_grown hg HB1.out.size (fun k hk => (HO1.out.lt k hk).1))
        have HW := Lib.hid hown
        have HW1 := Lib.hid hb1
        clear hown hg hat hb1
        go_wp2_with fail
        go_roundw
        case rel => exact ⟨k + 1, A1, c1, by omega, by go_num, rfl, HW.out, HW1.out⟩
        case measure => simp [intOf]; omega
    · have hkn : k = n := by omega
      subst hkn
      rw [show a.take k = a by rw [← LA.out, List.take_length], show b.take k = b by rw [← LB.out, List.take_length], show c.take k = c by rw [← LC.out, List.take_length]] at HO
      have hx3 := crcCheck_xor3 a b c (by rw [LA.out, LB.out]) (by rw [LA.out, LC.out])
      have HX := Lib.hid hx3
      have HL3 : Hid ((xor3 a b c).length = k) := (xor3_length a b c (by rw [LA.out, LB.out]) (by rw [LA.out, LC.out])).trans LA.out
      clear hx3
      obtain ⟨A1, c1, hD, hr1, hc1, hm1⟩ := own_rd HO.out
      obtain ⟨rfl, rfl⟩ : D = A1 ∧ cd = c1 := by injection hD with h1 h2 h3; exact ⟨h1, h3⟩
      have RD := Lib.hid hr1
      have RA1 := Lib.hid (RA.out.below HB.out)
      have RB1 := Lib.hid (RB.out.below HB.out)
      have RC1 := Lib.hid (RC.out.below HB.out)
      clear hr1 hD
      go_wp2_with fail
      refine (check_one (A := A) (n := k) (c := ca) (l := a) ?_ LA.out h1 m1 ?_).mono ?_
      · exact Rd.of_block (hal_new rfl)
      · exact RA1.out.alloc _
      rintro e w' ⟨rfl, rfl⟩
      generalize crcCheck a = p at HX
      go_wp2_with fail
      refine (check_one (A := B) (n := k) (c := cb) (l := b) ?_ LB.out h2 m2 ?_).mono ?_
      · exact Rd.of_block (hal_new (by simp))
      · exact (RB1.out.alloc _).alloc _
      rintro e w' ⟨rfl, rfl⟩
      generalize crcCheck b = q at HX
      go_wp2_with fail
      refine (check_one (A := C) (n := k) (c := cc) (l := c) ?_ LC.out h3 m3 ?_).mono ?_
      · exact Rd.of_block (hal_new (by simp))
      · exact ((RC1.out.alloc _).alloc _).alloc _
      rintro e w' ⟨rfl, rfl⟩
      generalize crcCheck c = r at HX
      go_wp2_with fail
      refine (check_one (A := D) (n := k) (c := cd) (l := xor3 a b c) ?_ HL3.out hc1 hm1 ?_).mono ?_
      · exact Rd.of_block (hal_new (by simp))
      · exact (((RD.out.alloc _).alloc _).alloc _).alloc _
      rintro e w' ⟨rfl, rfl⟩
      rw [← HX.out, bits_xor16, bits_xor16]
      generalize p ^^^ q ^^^ r = s
      go_wp2_with (go_at_call 12; refine (wakes4_calls _).mono ?_; rintro e w' ⟨rfl, hb⟩)
      go_ret
      exact ⟨rfl, HB.out.trans (((((Below.refl _ _).alloc (Nat.le_refl _) _).alloc (by simp) _).alloc (by simp; omega) _).alloc (by simp; omega) _ |>.mono HB.out.size |>.trans (hb.mono (by have := HB.out.size; simp; omega)))⟩
theorem CrcMixes_all (A B C : Option Addr) (n m o ca cb cc : Nat) (a b c : List UInt8) (w : World) (hla : a.length = n) (hlb : b.length = m) (hlc : c.length = o)
    (h1 : n ≤ ca) (h2 : m ≤ cb) (h3 : o ≤ cc) (m1 : ca ≤ 9223372036854775807) (m2 : cb ≤ 9223372036854775807) (m3 : cc ≤ 9223372036854775807) (ra : Rd w A (bts a)) (rb : Rd w B (bts b)) (rc : Rd w C (bts c)) :
    Calls Try.prog 7 #[.slice A n ca, .slice B m cb, .slice C o cc] w fun e w' => e = .returned (.bool true) ∧ Below w.heap.size w w' := by
  by_cases hs : 1000 < n ∨ n ≠ m ∨ n ≠ o
  · exact CrcMixes_short A B C n m o ca cb cc w hs
  · have h4 : n ≤ 1000 := by omega
    obtain rfl : n = m := by omega
    obtain rfl : n = o := by omega
    exact CrcMixes_walk A B C n ca cb cc a b c w h4 hla hlb hlc h1 h2 h3 m1 m2 m3 ra rb rc
end Go.Proofs.Ytnjaldafejbdgaa
