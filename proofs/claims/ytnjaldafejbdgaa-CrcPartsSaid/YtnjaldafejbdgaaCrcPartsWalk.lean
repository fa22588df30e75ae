/- The walk of CrcParts. -/
import Derived.Test.YtnjaldafejbdgaaWakes4
import Derived.Test.YtnjaldafejbdgaaMod
namespace Go.Proofs.Ytnjaldafejbdgaa
open Go.RowKit
set_option linter.unusedVariables false
set_option linter.unusedSimpArgs false

theorem parts_eq1 (l : List UInt8) (k : Nat) : (((crcMore (crcMore 65535 (l.take k)) (l.drop k)).toNat : Int) == Go.bits .xor .u16 IntKind.u16.max ((crcCheck l).toNat : Int)) = true := by
  rw [bits_not16, ← crcMore_append, List.take_append_drop, crcCheck]
  simp
theorem parts_eq2 (l : List UInt8) (k : Nat) : crcCheck (l.take k ++ l.drop k) = crcCheck l := by rw [List.take_append_drop]
theorem parts_eq3 (l : List UInt8) (x y : UInt16) : ((((crcMore x l).toNat : Int) == ((crcMore y l).toNat : Int)) == ((x.toNat : Int) == (y.toNat : Int))) = true := by
  rw [beq_iff_eq, Bool.eq_iff_iff, beq_iff_eq, beq_iff_eq]
  constructor
  · intro h
    have : crcMore x l = crcMore y l := UInt16.toNat_inj.1 (by omega)
    rw [crcMore_inj this]
  · intro h
    have : x = y := UInt16.toNat_inj.1 (by omega)
    rw [this]
set_option maxRecDepth 100000 in
set_option maxHeartbeats 4000000 in
theorem CrcParts_walk (A : Option Addr) (n cap : Nat) (l : List UInt8) (at_ : Int) (x y : UInt16) (w : World) (hl : l.length = n) (hc : n ≤ cap) (hm : cap ≤ 9223372036854775807) (hr : Rd w A (bts l)) (h1 : -9223372036854775808 ≤ at_) (h2 : at_ ≤ 9223372036854775807) :
    Calls Try.prog 5 #[.slice A n cap, .int .i64 at_, .agg #[vu16 x, vu16 y]] w fun e w' => e = .returned (.bool true) ∧ Below w.heap.size w w' := by
  have HR := Lib.hid hr
  have HL := Lib.hid hl
  clear hr hl
  by_cases hs : 3000 < n
  · go_enter Try.func5, Try.ntmps5
    go_wp2_with (go_at_call 12; refine (wakes4_calls _).mono ?_; rintro e w' ⟨rfl, hb⟩)
    go_ret
    exact ⟨rfl, ((Below.refl _ _).alloc (Nat.le_refl _) _).trans (hb.mono (by simp))⟩
  · have hn3 : ¬ 3000 < n := hs
    clear hs
    obtain ⟨k, hk⟩ := Int.eq_ofNat_of_zero_le (Int.emod_nonneg at_ (show ((n : Int) + 1) ≠ 0 by omega))
    have hk1 : (k : Int) < (n : Int) + 1 := by rw [← hk]; exact Int.emod_lt_of_pos _ (by omega)
    have hkn : k ≤ n := by omega
    have hkc : k ≤ cap := by omega
    have hki : (k : Int) ≤ (cap : Int) := by omega
    have HK := Lib.hid hk
    have hsg : IntKind.u16.signed = false := rfl
    clear hk
    obtain ⟨i0, hi, hzz⟩ := Option.map_eq_some_iff.1 (show (Try.prog.info? 5).map (·.size) = some 1 by kernel_rfl)
    obtain ⟨A1, hcut, hrd⟩ := cut_of (P := Try.prog) 26 5 .i64 Try.underlying26 hi hzz A n cap k hkn hc
    have HRD := Lib.hid hrd
    clear hrd hzz
    clear hi i0
    go_enter Try.func5, Try.ntmps5
    go_wp2_with fail
    refine (mod_calls _ _ _ (by omega) (by omega) h1 h2).mono ?_
    rintro e w' ⟨rfl, rfl⟩
    rw [HK.out]
    go_wp2_with fail
    generalize hw1 : w.alloc (.cells #[vu16 x, vu16 y] 35) = w1
    have hbx : w1.heap[w.heap.size]? = some (.cells #[vu16 x, vu16 y] 35) := by rw [← hw1]; exact hal_new rfl
    have HX : Hid (w1.cell? ⟨w.heap.size, 0, none⟩ = some (vu16 x)) := by simp [Hid, World.cell?, hbx]
    have HY : Hid (w1.cell? ⟨w.heap.size, 1, none⟩ = some (vu16 y)) := by simp [Hid, World.cell?, hbx]
    have HW : Hid (Below w.heap.size w w1) := by rw [← hw1]; exact (Below.refl _ _).alloc (Nat.le_refl _) _
    have HR2 := Lib.hid (HR.out.below HW.out)
    have HRt : Hid (Rd w1 A (bts (l.take k))) := by rw [← bts_take]; exact HR2.out.take k
    have HRd : Hid (Rd w1 A1 (bts (l.drop k))) := by rw [← bts_drop]; exact HRD.out _ _ (by simp [HL.out]) HR2.out
    have HLt : Hid ((l.take k).length = k) := Lib.hid (by rw [List.length_take, HL.out]; omega)
    have HLd : Hid ((l.drop k).length = n - k) := Lib.hid (by rw [List.length_drop, HL.out])
    clear hbx hw1
    apply wp_region_rel 48 (Chg NoS) [(Veq _), (Veq _), (Veq _), (Veq _), (Veq _), (Veq _), (Veq _), (Veq _), (Veq _), (RowAt NoS 1 _), (Veq _), (Veq _), (Veq (.bool true)), (Veq _), (Veq _), (Veq _), (Veq _), (Veq _), (Veq _), (Veq _), (RowAt NoS 2 _), (Veq _), (Veq _), (RowAt NoS 1 _), (Veq _), (Veq _), (Veq _), (Veq _), (Veq _), (Veq _), (Veq _), (Veq _), (Veq _), (Veq _), (Veq _), (Veq _), (Veq _), (Veq _), (Veq _), (Veq _), (Veq _), (Veq _), (Veq (.bool true)), (Veq _), (Veq _), (Veq _), (Veq _), (Veq _)] [[], [], [0, 1], [2], [], [], [4, 5], [3, 6], [], [8], [9], [10], [7, 11], [12], [13], [13], [13, 14, 15], [13], [13], [13, 17, 18], [13, 16, 19], [13, 20], [13], [13, 22], [13, 23], [13, 21, 24], [13, 25], [26], [27], [27, 28], [27], [27, 29, 30], [27], [27, 32], [27], [27, 33, 34], [27, 31, 35], [27], [27, 37], [27], [27, 39], [27, 38, 40], [27, 36, 41], [27, 42], [43], [44], [44, 45], [46]] [17, 18, 19, 20, 21, 22, 23, 24, 25, 26, 27, 28, 29, 30, 31, 32, 33, 34, 35, 36, 37, 38, 39, 40, 41, 42, 43, 44, 45, 46, 47, 48, 49, 50, 51, 52, 53, 54, 55, 56, 57, 58, 59, 60, 61, 62, 63, 6] (by kernel_rfl) (by kernel_rfl) rfl rfl rfl Chg.refl (fun _ _ _ => Chg.trans) ⟨Veq.lasts, Veq.lasts, Veq.lasts, Veq.lasts, Veq.lasts, Veq.lasts, Veq.lasts, Veq.lasts, Veq.lasts, RowAt.lasts, Veq.lasts, Veq.lasts, Veq.lasts, Veq.lasts, Veq.lasts, Veq.lasts, Veq.lasts, Veq.lasts, Veq.lasts, Veq.lasts, RowAt.lasts, Veq.lasts, Veq.lasts, RowAt.lasts, Veq.lasts, Veq.lasts, Veq.lasts, Veq.lasts, Veq.lasts, Veq.lasts, Veq.lasts, Veq.lasts, Veq.lasts, Veq.lasts, Veq.lasts, Veq.lasts, Veq.lasts, Veq.lasts, Veq.lasts, Veq.lasts, Veq.lasts, Veq.lasts, Veq.lasts, Veq.lasts, Veq.lasts, Veq.lasts, Veq.lasts, Veq.lasts, trivial⟩ ?aops ?afin
    case aops =>
      refine ⟨?ao0, ?ao1, ?ao2, ?ao3, ?ao4, ?ao5, ?ao6, ?ao7, ?ao8, ?ao9, ?ao10, ?ao11, ?ao12, ?ao13, ?ao14, ?ao15, ?ao16, ?ao17, ?ao18, ?ao19, ?ao20, ?ao21, ?ao22, ?ao23, ?ao24, ?ao25, ?ao26, ?ao27, ?ao28, ?ao29, ?ao30, ?ao31, ?ao32, ?ao33, ?ao34, ?ao35, ?ao36, ?ao37, ?ao38, ?ao39, ?ao40, ?ao41, ?ao42, ?ao43, ?ao44, ?ao45, ?ao46, ?ao47, trivial⟩
      case ao0 =>
        intro a wx hE hin
        have i0 : a.eval (.tmp 0) = .slice A n cap := hin 0 rfl
        clear hin
        have hcst : ∀ v, a.eval (.const v) = v := fun _ => rfl
        have hfnc : ∀ f, a.eval (.func f) = .func (.func f) #[] #[] := fun _ => rfl
        refine want_none rfl ?_
        unfold Oper.wp
        generalize a.eval = ρ at *
        go_simp
        try go_bits
        first | exact rel_val (Chg.refl _) | (go_simp; exact rel_val (Chg.refl _))
      case ao1 =>
        intro a wx hE hin
        have i7 : a.eval (.tmp 7) = .int .i64 ↑k := hin 7 rfl
        clear hin
        have hcst : ∀ v, a.eval (.const v) = v := fun _ => rfl
        have hfnc : ∀ f, a.eval (.func f) = .func (.func f) #[] #[] := fun _ => rfl
        refine want_none rfl ?_
        unfold Oper.wp
        generalize a.eval = ρ at *
        go_simp
        try go_bits
        first | exact rel_val (Chg.refl _) | (go_simp; exact rel_val (Chg.refl _))
      case ao2 =>
        rintro a wx hE hin (h0 : a.eval (.tmp 17) = _) (h1 : a.eval (.tmp 18) = _)
        clear hin
        have hcst : ∀ v, a.eval (.const v) = v := fun _ => rfl
        have hfnc : ∀ f, a.eval (.func f) = .func (.func f) #[] #[] := fun _ => rfl
        refine want_none rfl ?_
        unfold Oper.wp
        generalize a.eval = ρ at *
        go_simp
        try go_bits
        first | exact rel_val (Chg.refl _) | (go_simp; exact rel_val (Chg.refl _))
      case ao3 =>
        rintro a wx hE hin (h2 : a.eval (.tmp 19) = _)
        clear hin
        have hcst : ∀ v, a.eval (.const v) = v := fun _ => rfl
        have hfnc : ∀ f, a.eval (.func f) = .func (.func f) #[] #[] := fun _ => rfl
        refine want_none rfl ?_
        unfold Oper.wp
        generalize a.eval = ρ at *
        go_simp
        refine (more_calls 0xffff A k cap (l.take k) _ HLt.out (by omega) (HRt.out.drew.chg hE)).mono ?_
        rintro e w' ⟨rfl, rfl⟩
        exact rel_val (Chg.refl _)
      case ao4 =>
        intro a wx hE hin
        have i0 : a.eval (.tmp 0) = .slice A n cap := hin 0 rfl
        clear hin
        have hcst : ∀ v, a.eval (.const v) = v := fun _ => rfl
        have hfnc : ∀ f, a.eval (.func f) = .func (.func f) #[] #[] := fun _ => rfl
        refine want_none rfl ?_
        unfold Oper.wp
        generalize a.eval = ρ at *
        go_simp
        try go_bits
        first | exact rel_val (Chg.refl _) | (go_simp; exact rel_val (Chg.refl _))
      case ao5 =>
        intro a wx hE hin
        have i7 : a.eval (.tmp 7) = .int .i64 ↑k := hin 7 rfl
        clear hin
        have hcst : ∀ v, a.eval (.const v) = v := fun _ => rfl
        have hfnc : ∀ f, a.eval (.func f) = .func (.func f) #[] #[] := fun _ => rfl
        refine want_none rfl ?_
        unfold Oper.wp
        generalize a.eval = ρ at *
        go_simp
        try go_bits
        first | exact rel_val (Chg.refl _) | (go_simp; exact rel_val (Chg.refl _))
      case ao6 =>
        rintro a wx hE hin (h4 : a.eval (.tmp 21) = _) (h5 : a.eval (.tmp 22) = _)
        clear hin
        have hcst : ∀ v, a.eval (.const v) = v := fun _ => rfl
        have hfnc : ∀ f, a.eval (.func f) = .func (.func f) #[] #[] := fun _ => rfl
        refine want_none rfl ?_
        unfold Oper.wp
        generalize a.eval = ρ at *
        go_simp
        try go_bits
        first | exact rel_val (Chg.refl _) | (go_simp; exact rel_val (Chg.refl _))
      case ao7 =>
        rintro a wx hE hin (h3 : a.eval (.tmp 20) = _) (h6 : a.eval (.tmp 23) = _)
        clear hin
        have hcst : ∀ v, a.eval (.const v) = v := fun _ => rfl
        have hfnc : ∀ f, a.eval (.func f) = .func (.func f) #[] #[] := fun _ => rfl
        refine want_none rfl ?_
        unfold Oper.wp
        generalize a.eval = ρ at *
        go_simp
        refine (more_calls _ A1 (n - k) (cap - k) (l.drop k) _ HLd.out (by omega) (HRd.out.drew.chg hE)).mono ?_
        rintro e w' ⟨rfl, rfl⟩
        exact rel_val (Chg.refl _)
      case ao8 =>
        intro a wx hE hin
        have i0 : a.eval (.tmp 0) = .slice A n cap := hin 0 rfl
        clear hin
        have hcst : ∀ v, a.eval (.const v) = v := fun _ => rfl
        have hfnc : ∀ f, a.eval (.func f) = .func (.func f) #[] #[] := fun _ => rfl
        refine want_none rfl ?_
        unfold Oper.wp
        generalize a.eval = ρ at *
        go_simp
        try go_bits
        first | exact rel_val (Chg.refl _) | (go_simp; exact rel_val (Chg.refl _))
      case ao9 =>
        rintro a wx hE hin (h8 : a.eval (.tmp 25) = _)
        clear hin
        have hcst : ∀ v, a.eval (.const v) = v := fun _ => rfl
        have hfnc : ∀ f, a.eval (.func f) = .func (.func f) #[] #[] := fun _ => rfl
        refine want_none rfl ?_
        unfold Oper.wp
        generalize a.eval = ρ at *
        go_simp
        try go_bits
        exact rel_row (id)
      case ao10 =>
        rintro a wx hE hin ⟨g9, h9, s9, t9, f9, c9⟩
        clear hin
        have hcst : ∀ v, a.eval (.const v) = v := fun _ => rfl
        have hfnc : ∀ f, a.eval (.func f) = .func (.func f) #[] #[] := fun _ => rfl
        refine want_none rfl ?_
        unfold Oper.wp
        generalize a.eval = ρ at *
        go_simp
        refine (check_one (Rd.row (S := NoS) c9) HL.out hc hm (HR2.out.drew.chg hE)).mono ?_
        rintro e w' ⟨rfl, rfl⟩
        exact rel_val (Chg.refl _)
      case ao11 =>
        rintro a wx hE hin (h10 : a.eval (.tmp 27) = _)
        clear hin
        have hcst : ∀ v, a.eval (.const v) = v := fun _ => rfl
        have hfnc : ∀ f, a.eval (.func f) = .func (.func f) #[] #[] := fun _ => rfl
        refine want_none rfl ?_
        unfold Oper.wp
        generalize a.eval = ρ at *
        go_simp
        try go_bits
        first | exact rel_val (Chg.refl _) | (go_simp; exact rel_val (Chg.refl _))
      case ao12 =>
        rintro a wx hE hin (h7 : a.eval (.tmp 24) = _) (h11 : a.eval (.tmp 28) = _)
        clear hin
        have hcst : ∀ v, a.eval (.const v) = v := fun _ => rfl
        have hfnc : ∀ f, a.eval (.func f) = .func (.func f) #[] #[] := fun _ => rfl
        refine want_none rfl ?_
        unfold Oper.wp
        generalize a.eval = ρ at *
        go_simp
        rw [parts_eq1]
        exact rel_val (Chg.refl _)
      case ao13 =>
        rintro a wx hE hin (h12 : a.eval (.tmp 29) = _)
        clear hin
        have hcst : ∀ v, a.eval (.const v) = v := fun _ => rfl
        have hfnc : ∀ f, a.eval (.func f) = .func (.func f) #[] #[] := fun _ => rfl
        refine want_none rfl ?_
        unfold Oper.wp
        generalize a.eval = ρ at *
        go_simp
        try go_bits
        first | exact rel_val (Chg.refl _) | (go_simp; exact rel_val (Chg.refl _))
      case ao14 =>
        rintro a wx hE hin (h13 : a.eval (.tmp 30) = _)
        have i0 : a.eval (.tmp 0) = .slice A n cap := hin 0 rfl
        clear hin
        have hcst : ∀ v, a.eval (.const v) = v := fun _ => rfl
        have hfnc : ∀ f, a.eval (.func f) = .func (.func f) #[] #[] := fun _ => rfl
        refine want_yes rfl rfl h13 ?_
        unfold Oper.wp
        generalize a.eval = ρ at *
        go_simp
        try go_bits
        first | exact rel_val (Chg.refl _) | (go_simp; exact rel_val (Chg.refl _))
      case ao15 =>
        rintro a wx hE hin (h13 : a.eval (.tmp 30) = _)
        have i7 : a.eval (.tmp 7) = .int .i64 ↑k := hin 7 rfl
        clear hin
        have hcst : ∀ v, a.eval (.const v) = v := fun _ => rfl
        have hfnc : ∀ f, a.eval (.func f) = .func (.func f) #[] #[] := fun _ => rfl
        refine want_yes rfl rfl h13 ?_
        unfold Oper.wp
        generalize a.eval = ρ at *
        go_simp
        try go_bits
        first | exact rel_val (Chg.refl _) | (go_simp; exact rel_val (Chg.refl _))
      case ao16 =>
        rintro a wx hE hin (h13 : a.eval (.tmp 30) = _) (h14 : a.eval (.tmp 31) = _) (h15 : a.eval (.tmp 32) = _)
        clear hin
        have hcst : ∀ v, a.eval (.const v) = v := fun _ => rfl
        have hfnc : ∀ f, a.eval (.func f) = .func (.func f) #[] #[] := fun _ => rfl
        refine want_yes rfl rfl h13 ?_
        unfold Oper.wp
        generalize a.eval = ρ at *
        go_simp
        try go_bits
        first | exact rel_val (Chg.refl _) | (go_simp; exact rel_val (Chg.refl _))
      case ao17 =>
        rintro a wx hE hin (h13 : a.eval (.tmp 30) = _)
        have i0 : a.eval (.tmp 0) = .slice A n cap := hin 0 rfl
        clear hin
        have hcst : ∀ v, a.eval (.const v) = v := fun _ => rfl
        have hfnc : ∀ f, a.eval (.func f) = .func (.func f) #[] #[] := fun _ => rfl
        refine want_yes rfl rfl h13 ?_
        unfold Oper.wp
        generalize a.eval = ρ at *
        go_simp
        try go_bits
        first | exact rel_val (Chg.refl _) | (go_simp; exact rel_val (Chg.refl _))
      case ao18 =>
        rintro a wx hE hin (h13 : a.eval (.tmp 30) = _)
        have i7 : a.eval (.tmp 7) = .int .i64 ↑k := hin 7 rfl
        clear hin
        have hcst : ∀ v, a.eval (.const v) = v := fun _ => rfl
        have hfnc : ∀ f, a.eval (.func f) = .func (.func f) #[] #[] := fun _ => rfl
        refine want_yes rfl rfl h13 ?_
        unfold Oper.wp
        generalize a.eval = ρ at *
        go_simp
        try go_bits
        first | exact rel_val (Chg.refl _) | (go_simp; exact rel_val (Chg.refl _))
      case ao19 =>
        rintro a wx hE hin (h13 : a.eval (.tmp 30) = _) (h17 : a.eval (.tmp 34) = _) (h18 : a.eval (.tmp 35) = _)
        clear hin
        have hcst : ∀ v, a.eval (.const v) = v := fun _ => rfl
        have hfnc : ∀ f, a.eval (.func f) = .func (.func f) #[] #[] := fun _ => rfl
        refine want_yes rfl rfl h13 ?_
        unfold Oper.wp
        generalize a.eval = ρ at *
        go_simp
        try go_bits
        first | exact rel_val (Chg.refl _) | (go_simp; exact rel_val (Chg.refl _))
      case ao20 =>
        rintro a wx hE hin (h13 : a.eval (.tmp 30) = _) (h16 : a.eval (.tmp 33) = _) (h19 : a.eval (.tmp 36) = _)
        clear hin
        have hcst : ∀ v, a.eval (.const v) = v := fun _ => rfl
        have hfnc : ∀ f, a.eval (.func f) = .func (.func f) #[] #[] := fun _ => rfl
        refine want_yes rfl rfl h13 ?_
        unfold Oper.wp
        generalize a.eval = ρ at *
        go_simp
        try go_bits
        exact rel_row (id)
      case ao21 =>
        rintro a wx hE hin (h13 : a.eval (.tmp 30) = _) ⟨g20, h20, s20, t20, f20, c20⟩
        clear hin
        have hcst : ∀ v, a.eval (.const v) = v := fun _ => rfl
        have hfnc : ∀ f, a.eval (.func f) = .func (.func f) #[] #[] := fun _ => rfl
        refine want_yes rfl rfl h13 ?_
        unfold Oper.wp
        generalize a.eval = ρ at *
        go_simp
        refine (check_two (Rd.row (S := NoS) c20) HLt.out hkc hm (HRt.out.drew.chg hE) HLd.out (by omega) (by omega) (HRd.out.drew.chg hE)).mono ?_
        rintro e w' ⟨rfl, rfl⟩
        rw [parts_eq2]
        exact rel_val (Chg.refl _)
      case ao22 =>
        rintro a wx hE hin (h13 : a.eval (.tmp 30) = _)
        have i0 : a.eval (.tmp 0) = .slice A n cap := hin 0 rfl
        clear hin
        have hcst : ∀ v, a.eval (.const v) = v := fun _ => rfl
        have hfnc : ∀ f, a.eval (.func f) = .func (.func f) #[] #[] := fun _ => rfl
        refine want_yes rfl rfl h13 ?_
        unfold Oper.wp
        generalize a.eval = ρ at *
        go_simp
        try go_bits
        first | exact rel_val (Chg.refl _) | (go_simp; exact rel_val (Chg.refl _))
      case ao23 =>
        rintro a wx hE hin (h13 : a.eval (.tmp 30) = _) (h22 : a.eval (.tmp 39) = _)
        clear hin
        have hcst : ∀ v, a.eval (.const v) = v := fun _ => rfl
        have hfnc : ∀ f, a.eval (.func f) = .func (.func f) #[] #[] := fun _ => rfl
        refine want_yes rfl rfl h13 ?_
        unfold Oper.wp
        generalize a.eval = ρ at *
        go_simp
        try go_bits
        exact rel_row (id)
      case ao24 =>
        rintro a wx hE hin (h13 : a.eval (.tmp 30) = _) ⟨g23, h23, s23, t23, f23, c23⟩
        clear hin
        have hcst : ∀ v, a.eval (.const v) = v := fun _ => rfl
        have hfnc : ∀ f, a.eval (.func f) = .func (.func f) #[] #[] := fun _ => rfl
        refine want_yes rfl rfl h13 ?_
        unfold Oper.wp
        generalize a.eval = ρ at *
        go_simp
        refine (check_one (Rd.row (S := NoS) c23) HL.out hc hm (HR2.out.drew.chg hE)).mono ?_
        rintro e w' ⟨rfl, rfl⟩
        exact rel_val (Chg.refl _)
      case ao25 =>
        rintro a wx hE hin (h13 : a.eval (.tmp 30) = _) (h21 : a.eval (.tmp 38) = _) (h24 : a.eval (.tmp 41) = _)
        clear hin
        have hcst : ∀ v, a.eval (.const v) = v := fun _ => rfl
        have hfnc : ∀ f, a.eval (.func f) = .func (.func f) #[] #[] := fun _ => rfl
        refine want_yes rfl rfl h13 ?_
        unfold Oper.wp
        generalize a.eval = ρ at *
        go_simp
        try go_bits
        first | exact rel_val (Chg.refl _) | (go_simp; exact rel_val (Chg.refl _))
      case ao26 =>
        rintro a wx hE hin (h13 : a.eval (.tmp 30) = _) (h25 : a.eval (.tmp 42) = _)
        clear hin
        have hcst : ∀ v, a.eval (.const v) = v := fun _ => rfl
        have hfnc : ∀ f, a.eval (.func f) = .func (.func f) #[] #[] := fun _ => rfl
        refine want_none rfl ?_
        unfold Oper.wp
        generalize a.eval = ρ at *
        go_simp
        try go_bits
        first | exact rel_val (Chg.refl _) | (go_simp; exact rel_val (Chg.refl _))
      case ao27 =>
        rintro a wx hE hin (h26 : a.eval (.tmp 43) = _)
        clear hin
        have hcst : ∀ v, a.eval (.const v) = v := fun _ => rfl
        have hfnc : ∀ f, a.eval (.func f) = .func (.func f) #[] #[] := fun _ => rfl
        refine want_none rfl ?_
        unfold Oper.wp
        generalize a.eval = ρ at *
        go_simp
        try go_bits
        first | exact rel_val (Chg.refl _) | (go_simp; exact rel_val (Chg.refl _))
      case ao28 =>
        rintro a wx hE hin (h27 : a.eval (.tmp 44) = _)
        have i5 : a.eval (.tmp 5) = .pointer (some ⟨w.heap.size, 0, none⟩) := hin 5 rfl
        clear hin
        have hcst : ∀ v, a.eval (.const v) = v := fun _ => rfl
        have hfnc : ∀ f, a.eval (.func f) = .func (.func f) #[] #[] := fun _ => rfl
        refine want_yes rfl rfl h27 ?_
        unfold Oper.wp
        generalize a.eval = ρ at *
        go_simp
        try go_bits
        first | exact rel_val (Chg.refl _) | (go_simp; exact rel_val (Chg.refl _))
      case ao29 =>
        rintro a wx hE hin (h27 : a.eval (.tmp 44) = _) (h28 : a.eval (.tmp 45) = _)
        clear hin
        have hcst : ∀ v, a.eval (.const v) = v := fun _ => rfl
        have hfnc : ∀ f, a.eval (.func f) = .func (.func f) #[] #[] := fun _ => rfl
        refine want_yes rfl rfl h27 ?_
        unfold Oper.wp
        generalize a.eval = ρ at *
        have c := hE.cell (w := w1.drew) HX.out id
        go_simp
        try go_bits
        first | exact rel_val (Chg.refl _) | (go_simp; exact rel_val (Chg.refl _))
      case ao30 =>
        rintro a wx hE hin (h27 : a.eval (.tmp 44) = _)
        have i0 : a.eval (.tmp 0) = .slice A n cap := hin 0 rfl
        clear hin
        have hcst : ∀ v, a.eval (.const v) = v := fun _ => rfl
        have hfnc : ∀ f, a.eval (.func f) = .func (.func f) #[] #[] := fun _ => rfl
        refine want_yes rfl rfl h27 ?_
        unfold Oper.wp
        generalize a.eval = ρ at *
        go_simp
        try go_bits
        first | exact rel_val (Chg.refl _) | (go_simp; exact rel_val (Chg.refl _))
      case ao31 =>
        rintro a wx hE hin (h27 : a.eval (.tmp 44) = _) (h29 : a.eval (.tmp 46) = _) (h30 : a.eval (.tmp 47) = _)
        clear hin
        have hcst : ∀ v, a.eval (.const v) = v := fun _ => rfl
        have hfnc : ∀ f, a.eval (.func f) = .func (.func f) #[] #[] := fun _ => rfl
        refine want_yes rfl rfl h27 ?_
        unfold Oper.wp
        generalize a.eval = ρ at *
        go_simp
        refine (more_calls _ A n cap l _ HL.out (by omega) (HR2.out.drew.chg hE)).mono ?_
        rintro e w' ⟨rfl, rfl⟩
        exact rel_val (Chg.refl _)
      case ao32 =>
        rintro a wx hE hin (h27 : a.eval (.tmp 44) = _)
        have i5 : a.eval (.tmp 5) = .pointer (some ⟨w.heap.size, 0, none⟩) := hin 5 rfl
        clear hin
        have hcst : ∀ v, a.eval (.const v) = v := fun _ => rfl
        have hfnc : ∀ f, a.eval (.func f) = .func (.func f) #[] #[] := fun _ => rfl
        refine want_yes rfl rfl h27 ?_
        unfold Oper.wp
        generalize a.eval = ρ at *
        go_simp
        try go_bits
        first | exact rel_val (Chg.refl _) | (go_simp; exact rel_val (Chg.refl _))
      case ao33 =>
        rintro a wx hE hin (h27 : a.eval (.tmp 44) = _) (h32 : a.eval (.tmp 49) = _)
        clear hin
        have hcst : ∀ v, a.eval (.const v) = v := fun _ => rfl
        have hfnc : ∀ f, a.eval (.func f) = .func (.func f) #[] #[] := fun _ => rfl
        refine want_yes rfl rfl h27 ?_
        unfold Oper.wp
        generalize a.eval = ρ at *
        have c := hE.cell (w := w1.drew) HY.out id
        go_simp
        try go_bits
        first | exact rel_val (Chg.refl _) | (go_simp; exact rel_val (Chg.refl _))
      case ao34 =>
        rintro a wx hE hin (h27 : a.eval (.tmp 44) = _)
        have i0 : a.eval (.tmp 0) = .slice A n cap := hin 0 rfl
        clear hin
        have hcst : ∀ v, a.eval (.const v) = v := fun _ => rfl
        have hfnc : ∀ f, a.eval (.func f) = .func (.func f) #[] #[] := fun _ => rfl
        refine want_yes rfl rfl h27 ?_
        unfold Oper.wp
        generalize a.eval = ρ at *
        go_simp
        try go_bits
        first | exact rel_val (Chg.refl _) | (go_simp; exact rel_val (Chg.refl _))
      case ao35 =>
        rintro a wx hE hin (h27 : a.eval (.tmp 44) = _) (h33 : a.eval (.tmp 50) = _) (h34 : a.eval (.tmp 51) = _)
        clear hin
        have hcst : ∀ v, a.eval (.const v) = v := fun _ => rfl
        have hfnc : ∀ f, a.eval (.func f) = .func (.func f) #[] #[] := fun _ => rfl
        refine want_yes rfl rfl h27 ?_
        unfold Oper.wp
        generalize a.eval = ρ at *
        go_simp
        refine (more_calls _ A n cap l _ HL.out (by omega) (HR2.out.drew.chg hE)).mono ?_
        rintro e w' ⟨rfl, rfl⟩
        exact rel_val (Chg.refl _)
      case ao36 =>
        rintro a wx hE hin (h27 : a.eval (.tmp 44) = _) (h31 : a.eval (.tmp 48) = _) (h35 : a.eval (.tmp 52) = _)
        clear hin
        have hcst : ∀ v, a.eval (.const v) = v := fun _ => rfl
        have hfnc : ∀ f, a.eval (.func f) = .func (.func f) #[] #[] := fun _ => rfl
        refine want_yes rfl rfl h27 ?_
        unfold Oper.wp
        generalize a.eval = ρ at *
        go_simp
        try go_bits
        first | exact rel_val (Chg.refl _) | (go_simp; exact rel_val (Chg.refl _))
      case ao37 =>
        rintro a wx hE hin (h27 : a.eval (.tmp 44) = _)
        have i5 : a.eval (.tmp 5) = .pointer (some ⟨w.heap.size, 0, none⟩) := hin 5 rfl
        clear hin
        have hcst : ∀ v, a.eval (.const v) = v := fun _ => rfl
        have hfnc : ∀ f, a.eval (.func f) = .func (.func f) #[] #[] := fun _ => rfl
        refine want_yes rfl rfl h27 ?_
        unfold Oper.wp
        generalize a.eval = ρ at *
        go_simp
        try go_bits
        first | exact rel_val (Chg.refl _) | (go_simp; exact rel_val (Chg.refl _))
      case ao38 =>
        rintro a wx hE hin (h27 : a.eval (.tmp 44) = _) (h37 : a.eval (.tmp 54) = _)
        clear hin
        have hcst : ∀ v, a.eval (.const v) = v := fun _ => rfl
        have hfnc : ∀ f, a.eval (.func f) = .func (.func f) #[] #[] := fun _ => rfl
        refine want_yes rfl rfl h27 ?_
        unfold Oper.wp
        generalize a.eval = ρ at *
        have c := hE.cell (w := w1.drew) HX.out id
        go_simp
        try go_bits
        first | exact rel_val (Chg.refl _) | (go_simp; exact rel_val (Chg.refl _))
      case ao39 =>
        rintro a wx hE hin (h27 : a.eval (.tmp 44) = _)
        have i5 : a.eval (.tmp 5) = .pointer (some ⟨w.heap.size, 0, none⟩) := hin 5 rfl
        clear hin
        have hcst : ∀ v, a.eval (.const v) = v := fun _ => rfl
        have hfnc : ∀ f, a.eval (.func f) = .func (.func f) #[] #[] := fun _ => rfl
        refine want_yes rfl rfl h27 ?_
        unfold Oper.wp
        generalize a.eval = ρ at *
        go_simp
        try go_bits
        first | exact rel_val (Chg.refl _) | (go_simp; exact rel_val (Chg.refl _))
      case ao40 =>
        rintro a wx hE hin (h27 : a.eval (.tmp 44) = _) (h39 : a.eval (.tmp 56) = _)
        clear hin
        have hcst : ∀ v, a.eval (.const v) = v := fun _ => rfl
        have hfnc : ∀ f, a.eval (.func f) = .func (.func f) #[] #[] := fun _ => rfl
        refine want_yes rfl rfl h27 ?_
        unfold Oper.wp
        generalize a.eval = ρ at *
        have c := hE.cell (w := w1.drew) HY.out id
        go_simp
        try go_bits
        first | exact rel_val (Chg.refl _) | (go_simp; exact rel_val (Chg.refl _))
      case ao41 =>
        rintro a wx hE hin (h27 : a.eval (.tmp 44) = _) (h38 : a.eval (.tmp 55) = _) (h40 : a.eval (.tmp 57) = _)
        clear hin
        have hcst : ∀ v, a.eval (.const v) = v := fun _ => rfl
        have hfnc : ∀ f, a.eval (.func f) = .func (.func f) #[] #[] := fun _ => rfl
        refine want_yes rfl rfl h27 ?_
        unfold Oper.wp
        generalize a.eval = ρ at *
        go_simp
        try go_bits
        first | exact rel_val (Chg.refl _) | (go_simp; exact rel_val (Chg.refl _))
      case ao42 =>
        rintro a wx hE hin (h27 : a.eval (.tmp 44) = _) (h36 : a.eval (.tmp 53) = _) (h41 : a.eval (.tmp 58) = _)
        clear hin
        have hcst : ∀ v, a.eval (.const v) = v := fun _ => rfl
        have hfnc : ∀ f, a.eval (.func f) = .func (.func f) #[] #[] := fun _ => rfl
        refine want_yes rfl rfl h27 ?_
        unfold Oper.wp
        generalize a.eval = ρ at *
        go_simp
        rw [parts_eq3]
        exact rel_val (Chg.refl _)
      case ao43 =>
        rintro a wx hE hin (h27 : a.eval (.tmp 44) = _) (h42 : a.eval (.tmp 59) = _)
        clear hin
        have hcst : ∀ v, a.eval (.const v) = v := fun _ => rfl
        have hfnc : ∀ f, a.eval (.func f) = .func (.func f) #[] #[] := fun _ => rfl
        refine want_none rfl ?_
        unfold Oper.wp
        generalize a.eval = ρ at *
        go_simp
        try go_bits
        first | exact rel_val (Chg.refl _) | (go_simp; exact rel_val (Chg.refl _))
      case ao44 =>
        rintro a wx hE hin (h43 : a.eval (.tmp 60) = _)
        clear hin
        have hcst : ∀ v, a.eval (.const v) = v := fun _ => rfl
        have hfnc : ∀ f, a.eval (.func f) = .func (.func f) #[] #[] := fun _ => rfl
        refine want_none rfl ?_
        unfold Oper.wp
        generalize a.eval = ρ at *
        go_simp
        try go_bits
        first | exact rel_val (Chg.refl _) | (go_simp; exact rel_val (Chg.refl _))
      case ao45 =>
        rintro a wx hE hin (h44 : a.eval (.tmp 61) = _)
        clear hin
        have hcst : ∀ v, a.eval (.const v) = v := fun _ => rfl
        have hfnc : ∀ f, a.eval (.func f) = .func (.func f) #[] #[] := fun _ => rfl
        refine want_yes rfl rfl h44 ?_
        unfold Oper.wp
        generalize a.eval = ρ at *
        go_simp
        refine (wakes4_calls _).mono ?_
        rintro e w' ⟨rfl, hb⟩
        exact rel_val (.of_below hb)
      case ao46 =>
        rintro a wx hE hin (h44 : a.eval (.tmp 61) = _) (h45 : a.eval (.tmp 62) = _)
        clear hin
        have hcst : ∀ v, a.eval (.const v) = v := fun _ => rfl
        have hfnc : ∀ f, a.eval (.func f) = .func (.func f) #[] #[] := fun _ => rfl
        refine want_none rfl ?_
        unfold Oper.wp
        generalize a.eval = ρ at *
        go_simp
        try go_bits
        first | exact rel_val (Chg.refl _) | (go_simp; exact rel_val (Chg.refl _))
      case ao47 =>
        rintro a wx hE hin (h46 : a.eval (.tmp 63) = _)
        clear hin
        have hcst : ∀ v, a.eval (.const v) = v := fun _ => rfl
        have hfnc : ∀ f, a.eval (.func f) = .func (.func f) #[] #[] := fun _ => rfl
        refine want_none rfl ?_
        unfold Oper.wp
        generalize a.eval = ρ at *
        go_simp
        try go_bits
        first | exact rel_val (Chg.refl _) | (go_simp; exact rel_val (Chg.refl _))
    case afin =>
      intro wx hE
      rintro _ rfl _ rfl _ rfl _ rfl _ rfl _ rfl _ rfl _ rfl _ rfl _ ⟨g9, rfl, s9, t9, f9, c9⟩ _ rfl _ rfl _ rfl _ rfl _ rfl _ rfl _ rfl _ rfl _ rfl _ rfl _ ⟨g20, rfl, s20, t20, f20, c20⟩ _ rfl _ rfl _ ⟨g23, rfl, s23, t23, f23, c23⟩ _ rfl _ rfl _ rfl _ rfl _ rfl _ rfl _ rfl _ rfl _ rfl _ rfl _ rfl _ rfl _ rfl _ rfl _ rfl _ rfl _ rfl _ rfl _ rfl _ rfl _ rfl _ rfl _ rfl _ rfl
      simp only [FinOk, List.take_succ_cons, List.take_zero, List.take_nil, List.drop_succ_cons, List.drop_zero, List.drop_nil, Act.put, List.setIfInBounds_toArray, List.set_cons_succ, List.set_cons_zero]
      go_wp2
      go_ret
      exact ⟨rfl, HW.out.trans (Chg.below (Chg.trans (Chg.refl w1).drew hE) HW.out.size (fun _ _ => id))⟩
end Go.Proofs.Ytnjaldafejbdgaa
