/- The walk of LabelLater. -/
import Derived.Test.YtnpcehlbboeadaaLabOpen
namespace Go.Proofs.Ytnpcehlbboeadaa
open Go.RowKit
set_option linter.unusedVariables false
set_option linter.unusedSimpArgs false

theorem later_iff {e s t n : UInt32} : laterB e s t n = true ↔ t.toNat < e.toNat ∨ (e.toNat = t.toNat ∧ n.toNat < s.toNat) := by simp [laterB]
theorem later_lt {e s t n : UInt32} (h : t.toNat < e.toNat) : laterB e s t n = true := later_iff.2 (.inl h)
theorem later_eq {e s t n : UInt32} (h : e.toNat = t.toNat) (h2 : n.toNat < s.toNat) : laterB e s t n = true := later_iff.2 (.inr ⟨h, h2⟩)
theorem later_no {e s t n : UInt32} (h : ¬ t.toNat < e.toNat) (h2 : ¬ (e.toNat = t.toNat ∧ n.toNat < s.toNat)) : laterB e s t n = false := by
  rw [← Bool.not_eq_true, later_iff]
  exact fun hh => hh.elim h h2
theorem later_self (e s : UInt32) : laterB e s e s = false := later_no (by omega) (by omega)
theorem later_trans {a b c d e f : UInt32} (h : laterB a b c d = true) (h2 : laterB c d e f = true) : laterB a b e f = true := by
  rw [later_iff] at *
  omega
set_option maxRecDepth 100000 in
set_option maxHeartbeats 4000000 in
theorem labelLater_calls (w : World) (a0 a1 a2 a3 a4 a5 : UInt32) : Calls Try.prog 10 #[.agg ([a0, a1, a2, a3, a4, a5].map vu32).toArray] w fun e w' => e = .returned (.bool true) ∧ Below w.heap.size w w' := by
  obtain ⟨vs, hvs⟩ : ∃ vs, [a0, a1, a2, a3, a4, a5].map vu32 = vs := ⟨_, rfl⟩
  have D0 : Hid (vs[0]? = some (vu32 a0)) := by rw [← hvs]; exact (rfl : _ = _)
  have D1 : Hid (vs[1]? = some (vu32 a1)) := by rw [← hvs]; exact (rfl : _ = _)
  have D2 : Hid (vs[2]? = some (vu32 a2)) := by rw [← hvs]; exact (rfl : _ = _)
  have D3 : Hid (vs[3]? = some (vu32 a3)) := by rw [← hvs]; exact (rfl : _ = _)
  have D4 : Hid (vs[4]? = some (vu32 a4)) := by rw [← hvs]; exact (rfl : _ = _)
  have D5 : Hid (vs[5]? = some (vu32 a5)) := by rw [← hvs]; exact (rfl : _ = _)
  rw [hvs]
  clear hvs
  go_enter Try.func10, Try.ntmps10
  go_wp2_with fail
  refine code_at fun w0 hw0 => ?_
  have X0 : Hid (Bk w0 w.heap.size vs) := by rw [← hw0]; exact Bk.new w vs _
  have E0 : Hid (Below w.heap.size w w0) := by rw [← hw0]; exact (Below.refl _ _).alloc (Nat.le_refl _) _
  clear hw0
  apply wp_region_rel 18 (Chg NoS) [(Veq _), (Veq _), (Veq _), (Veq _), (Veq _), (Veq _), (Veq _), (Veq _), (Veq _), (Veq _), (Veq _), (Veq _), (Veq _), (Veq _), (Veq _), (Veq _), (Veq _), (Veq _)] [[], [0], [], [2], [], [4], [], [6], [1, 3, 5, 7], [], [9], [], [11], [], [13], [], [15], [10, 12, 14, 16]] [6, 7, 8, 9, 10, 11, 12, 13, 14, 15, 16, 17, 18, 19, 20, 21, 22, 23] (by kernel_rfl) (by kernel_rfl) rfl rfl rfl Chg.refl (fun _ _ _ => Chg.trans) ⟨Veq.lasts, Veq.lasts, Veq.lasts, Veq.lasts, Veq.lasts, Veq.lasts, Veq.lasts, Veq.lasts, Veq.lasts, Veq.lasts, Veq.lasts, Veq.lasts, Veq.lasts, Veq.lasts, Veq.lasts, Veq.lasts, Veq.lasts, Veq.lasts, trivial⟩ ?aops ?afin
  case aops =>
    refine ⟨?ao0, ?ao1, ?ao2, ?ao3, ?ao4, ?ao5, ?ao6, ?ao7, ?ao8, ?ao9, ?ao10, ?ao11, ?ao12, ?ao13, ?ao14, ?ao15, ?ao16, ?ao17, trivial⟩
    case ao0 =>
      intro a wx hE hin
      have i1 : a.eval (.tmp 1) = .pointer (some ⟨w.heap.size, 0, none⟩) := hin 1 rfl
      clear hin
      have hcst : ∀ v, a.eval (.const v) = v := fun _ => rfl
      have hfnc : ∀ f, a.eval (.func f) = .func (.func f) #[] #[] := fun _ => rfl
      refine want_none rfl ?_
      unfold Oper.wp
      generalize a.eval = ρ at *
      go_simp
      try go_bits
      first | exact rel_val (Chg.refl _) | (go_simp; exact rel_val (Chg.refl _))
    case ao1 =>
      rintro a wx hE hin (h0 : a.eval (.tmp 6) = _)
      clear hin
      have hcst : ∀ v, a.eval (.const v) = v := fun _ => rfl
      have hfnc : ∀ f, a.eval (.func f) = .func (.func f) #[] #[] := fun _ => rfl
      refine want_none rfl ?_
      unfold Oper.wp
      generalize a.eval = ρ at *
      have c := Bk.cell (j := 0) (X0.out.drew.chg hE id) D0.out
      go_simp
      try go_bits
      first | exact rel_val (Chg.refl _) | (go_simp; exact rel_val (Chg.refl _))
    case ao2 =>
      intro a wx hE hin
      have i1 : a.eval (.tmp 1) = .pointer (some ⟨w.heap.size, 0, none⟩) := hin 1 rfl
      clear hin
      have hcst : ∀ v, a.eval (.const v) = v := fun _ => rfl
      have hfnc : ∀ f, a.eval (.func f) = .func (.func f) #[] #[] := fun _ => rfl
      refine want_none rfl ?_
      unfold Oper.wp
      generalize a.eval = ρ at *
      go_simp
      try go_bits
      first | exact rel_val (Chg.refl _) | (go_simp; exact rel_val (Chg.refl _))
    case ao3 =>
      rintro a wx hE hin (h2 : a.eval (.tmp 8) = _)
      clear hin
      have hcst : ∀ v, a.eval (.const v) = v := fun _ => rfl
      have hfnc : ∀ f, a.eval (.func f) = .func (.func f) #[] #[] := fun _ => rfl
      refine want_none rfl ?_
      unfold Oper.wp
      generalize a.eval = ρ at *
      have c := Bk.cell (j := 1) (X0.out.drew.chg hE id) D1.out
      go_simp
      try go_bits
      first | exact rel_val (Chg.refl _) | (go_simp; exact rel_val (Chg.refl _))
    case ao4 =>
      intro a wx hE hin
      have i1 : a.eval (.tmp 1) = .pointer (some ⟨w.heap.size, 0, none⟩) := hin 1 rfl
      clear hin
      have hcst : ∀ v, a.eval (.const v) = v := fun _ => rfl
      have hfnc : ∀ f, a.eval (.func f) = .func (.func f) #[] #[] := fun _ => rfl
      refine want_none rfl ?_
      unfold Oper.wp
      generalize a.eval = ρ at *
      go_simp
      try go_bits
      first | exact rel_val (Chg.refl _) | (go_simp; exact rel_val (Chg.refl _))
    case ao5 =>
      rintro a wx hE hin (h4 : a.eval (.tmp 10) = _)
      clear hin
      have hcst : ∀ v, a.eval (.const v) = v := fun _ => rfl
      have hfnc : ∀ f, a.eval (.func f) = .func (.func f) #[] #[] := fun _ => rfl
      refine want_none rfl ?_
      unfold Oper.wp
      generalize a.eval = ρ at *
      have c := Bk.cell (j := 2) (X0.out.drew.chg hE id) D2.out
      go_simp
      try go_bits
      first | exact rel_val (Chg.refl _) | (go_simp; exact rel_val (Chg.refl _))
    case ao6 =>
      intro a wx hE hin
      have i1 : a.eval (.tmp 1) = .pointer (some ⟨w.heap.size, 0, none⟩) := hin 1 rfl
      clear hin
      have hcst : ∀ v, a.eval (.const v) = v := fun _ => rfl
      have hfnc : ∀ f, a.eval (.func f) = .func (.func f) #[] #[] := fun _ => rfl
      refine want_none rfl ?_
      unfold Oper.wp
      generalize a.eval = ρ at *
      go_simp
      try go_bits
      first | exact rel_val (Chg.refl _) | (go_simp; exact rel_val (Chg.refl _))
    case ao7 =>
      rintro a wx hE hin (h6 : a.eval (.tmp 12) = _)
      clear hin
      have hcst : ∀ v, a.eval (.const v) = v := fun _ => rfl
      have hfnc : ∀ f, a.eval (.func f) = .func (.func f) #[] #[] := fun _ => rfl
      refine want_none rfl ?_
      unfold Oper.wp
      generalize a.eval = ρ at *
      have c := Bk.cell (j := 3) (X0.out.drew.chg hE id) D3.out
      go_simp
      try go_bits
      first | exact rel_val (Chg.refl _) | (go_simp; exact rel_val (Chg.refl _))
    case ao8 =>
      rintro a wx hE hin (h1 : a.eval (.tmp 7) = _) (h3 : a.eval (.tmp 9) = _) (h5 : a.eval (.tmp 11) = _) (h7 : a.eval (.tmp 13) = _)
      clear hin
      have hcst : ∀ v, a.eval (.const v) = v := fun _ => rfl
      have hfnc : ∀ f, a.eval (.func f) = .func (.func f) #[] #[] := fun _ => rfl
      refine want_none rfl ?_
      unfold Oper.wp
      generalize a.eval = ρ at *
      go_simp
      refine (later_calls a0 a1 a2 a3 wx).mono ?_
      rintro e w' ⟨rfl, rfl⟩
      exact rel_val (Chg.refl _)
    case ao9 =>
      intro a wx hE hin
      have i1 : a.eval (.tmp 1) = .pointer (some ⟨w.heap.size, 0, none⟩) := hin 1 rfl
      clear hin
      have hcst : ∀ v, a.eval (.const v) = v := fun _ => rfl
      have hfnc : ∀ f, a.eval (.func f) = .func (.func f) #[] #[] := fun _ => rfl
      refine want_none rfl ?_
      unfold Oper.wp
      generalize a.eval = ρ at *
      go_simp
      try go_bits
      first | exact rel_val (Chg.refl _) | (go_simp; exact rel_val (Chg.refl _))
    case ao10 =>
      rintro a wx hE hin (h9 : a.eval (.tmp 15) = _)
      clear hin
      have hcst : ∀ v, a.eval (.const v) = v := fun _ => rfl
      have hfnc : ∀ f, a.eval (.func f) = .func (.func f) #[] #[] := fun _ => rfl
      refine want_none rfl ?_
      unfold Oper.wp
      generalize a.eval = ρ at *
      have c := Bk.cell (j := 2) (X0.out.drew.chg hE id) D2.out
      go_simp
      try go_bits
      first | exact rel_val (Chg.refl _) | (go_simp; exact rel_val (Chg.refl _))
    case ao11 =>
      intro a wx hE hin
      have i1 : a.eval (.tmp 1) = .pointer (some ⟨w.heap.size, 0, none⟩) := hin 1 rfl
      clear hin
      have hcst : ∀ v, a.eval (.const v) = v := fun _ => rfl
      have hfnc : ∀ f, a.eval (.func f) = .func (.func f) #[] #[] := fun _ => rfl
      refine want_none rfl ?_
      unfold Oper.wp
      generalize a.eval = ρ at *
      go_simp
      try go_bits
      first | exact rel_val (Chg.refl _) | (go_simp; exact rel_val (Chg.refl _))
    case ao12 =>
      rintro a wx hE hin (h11 : a.eval (.tmp 17) = _)
      clear hin
      have hcst : ∀ v, a.eval (.const v) = v := fun _ => rfl
      have hfnc : ∀ f, a.eval (.func f) = .func (.func f) #[] #[] := fun _ => rfl
      refine want_none rfl ?_
      unfold Oper.wp
      generalize a.eval = ρ at *
      have c := Bk.cell (j := 3) (X0.out.drew.chg hE id) D3.out
      go_simp
      try go_bits
      first | exact rel_val (Chg.refl _) | (go_simp; exact rel_val (Chg.refl _))
    case ao13 =>
      intro a wx hE hin
      have i1 : a.eval (.tmp 1) = .pointer (some ⟨w.heap.size, 0, none⟩) := hin 1 rfl
      clear hin
      have hcst : ∀ v, a.eval (.const v) = v := fun _ => rfl
      have hfnc : ∀ f, a.eval (.func f) = .func (.func f) #[] #[] := fun _ => rfl
      refine want_none rfl ?_
      unfold Oper.wp
      generalize a.eval = ρ at *
      go_simp
      try go_bits
      first | exact rel_val (Chg.refl _) | (go_simp; exact rel_val (Chg.refl _))
    case ao14 =>
      rintro a wx hE hin (h13 : a.eval (.tmp 19) = _)
      clear hin
      have hcst : ∀ v, a.eval (.const v) = v := fun _ => rfl
      have hfnc : ∀ f, a.eval (.func f) = .func (.func f) #[] #[] := fun _ => rfl
      refine want_none rfl ?_
      unfold Oper.wp
      generalize a.eval = ρ at *
      have c := Bk.cell (j := 0) (X0.out.drew.chg hE id) D0.out
      go_simp
      try go_bits
      first | exact rel_val (Chg.refl _) | (go_simp; exact rel_val (Chg.refl _))
    case ao15 =>
      intro a wx hE hin
      have i1 : a.eval (.tmp 1) = .pointer (some ⟨w.heap.size, 0, none⟩) := hin 1 rfl
      clear hin
      have hcst : ∀ v, a.eval (.const v) = v := fun _ => rfl
      have hfnc : ∀ f, a.eval (.func f) = .func (.func f) #[] #[] := fun _ => rfl
      refine want_none rfl ?_
      unfold Oper.wp
      generalize a.eval = ρ at *
      go_simp
      try go_bits
      first | exact rel_val (Chg.refl _) | (go_simp; exact rel_val (Chg.refl _))
    case ao16 =>
      rintro a wx hE hin (h15 : a.eval (.tmp 21) = _)
      clear hin
      have hcst : ∀ v, a.eval (.const v) = v := fun _ => rfl
      have hfnc : ∀ f, a.eval (.func f) = .func (.func f) #[] #[] := fun _ => rfl
      refine want_none rfl ?_
      unfold Oper.wp
      generalize a.eval = ρ at *
      have c := Bk.cell (j := 1) (X0.out.drew.chg hE id) D1.out
      go_simp
      try go_bits
      first | exact rel_val (Chg.refl _) | (go_simp; exact rel_val (Chg.refl _))
    case ao17 =>
      rintro a wx hE hin (h10 : a.eval (.tmp 16) = _) (h12 : a.eval (.tmp 18) = _) (h14 : a.eval (.tmp 20) = _) (h16 : a.eval (.tmp 22) = _)
      clear hin
      have hcst : ∀ v, a.eval (.const v) = v := fun _ => rfl
      have hfnc : ∀ f, a.eval (.func f) = .func (.func f) #[] #[] := fun _ => rfl
      refine want_none rfl ?_
      unfold Oper.wp
      generalize a.eval = ρ at *
      go_simp
      refine (later_calls a2 a3 a0 a1 wx).mono ?_
      rintro e w' ⟨rfl, rfl⟩
      exact rel_val (Chg.refl _)
  case afin =>
    intro wx hE
    rintro _ rfl _ rfl _ rfl _ rfl _ rfl _ rfl _ rfl _ rfl _ rfl _ rfl _ rfl _ rfl _ rfl _ rfl _ rfl _ rfl _ rfl _ rfl
    simp only [FinOk, List.take_succ_cons, List.take_zero, List.take_nil, List.drop_succ_cons, List.drop_zero, List.drop_nil, Act.put, List.setIfInBounds_toArray, List.set_cons_succ, List.set_cons_zero]
    have C0 := Bk.cell (j := 0) (X0.out.drew.chg hE id) D0.out
    have C1 := Bk.cell (j := 1) (X0.out.drew.chg hE id) D1.out
    have C2 := Bk.cell (j := 2) (X0.out.drew.chg hE id) D2.out
    have C3 := Bk.cell (j := 3) (X0.out.drew.chg hE id) D3.out
    have C4 := Bk.cell (j := 4) (X0.out.drew.chg hE id) D4.out
    have C5 := Bk.cell (j := 5) (X0.out.drew.chg hE id) D5.out
    have EX : Hid (Below w.heap.size w wx) := E0.out.trans ((hE.undrew).below (B := w.heap.size) E0.out.size (fun _ _ => id))
    have HS := Lib.hid (later_self a0 a1)
    clear hE
    rcases Nat.lt_trichotomy a0.toNat a2.toNat with h | h | h
    · have ha : laterB a0 a1 a2 a3 = false := later_no (by omega) (by omega)
      have hb : laterB a2 a3 a0 a1 = true := later_lt h
      rw [ha, hb]
      have hq : ((a0.toNat : Int) == (a2.toNat : Int)) = false := by rw [beq_eq_false_iff_ne]; omega
      have hle : (a0.toNat : Int) ≤ (a2.toNat : Int) := by omega
      clear ha hb h
      go_wp2_with fail
      refine (later_calls a0 a1 a0 a1 wx).mono ?_
      rintro e w' ⟨rfl, rfl⟩
      rw [HS.out]
      go_wp2_with fail
      refine (wakes7_calls wx).mono ?_
      rintro e w9 ⟨rfl, hb⟩
      have E9 : Hid (Below w.heap.size w w9) := EX.out.trans (hb.mono EX.out.size)
      clear hb
      go_wp2
      go_ret
      exact ⟨rfl, E9.out⟩
    · have hq : ((a0.toNat : Int) == (a2.toNat : Int)) = true := by rw [beq_iff_eq]; omega
      have hle : (a0.toNat : Int) ≤ (a2.toNat : Int) := by omega
      rcases Nat.lt_trichotomy a1.toNat a3.toNat with h2 | h2 | h2
      · have ha : laterB a0 a1 a2 a3 = false := later_no (by omega) (by omega)
        have hb : laterB a2 a3 a0 a1 = true := later_eq h.symm h2
        rw [ha, hb]
        have hq2 : ((a1.toNat : Int) == (a3.toNat : Int)) = false := by rw [beq_eq_false_iff_ne]; omega
        clear ha hb h h2
        go_wp2_with fail
        refine (later_calls a0 a1 a0 a1 wx).mono ?_
        rintro e w' ⟨rfl, rfl⟩
        rw [HS.out]
        go_wp2_with fail
        refine (wakes7_calls wx).mono ?_
        rintro e w9 ⟨rfl, hb⟩
        have E9 : Hid (Below w.heap.size w w9) := EX.out.trans (hb.mono EX.out.size)
        clear hb
        go_wp2
        go_ret
        exact ⟨rfl, E9.out⟩
      · have ha : laterB a0 a1 a2 a3 = false := later_no (by omega) (by omega)
        have hb : laterB a2 a3 a0 a1 = false := later_no (by omega) (by omega)
        rw [ha, hb]
        have hq2 : ((a1.toNat : Int) == (a3.toNat : Int)) = true := by rw [beq_iff_eq]; omega
        clear ha hb h h2
        go_wp2_with fail
        refine (later_calls a0 a1 a0 a1 wx).mono ?_
        rintro e w' ⟨rfl, rfl⟩
        rw [HS.out]
        go_wp2_with fail
        refine (wakes7_calls wx).mono ?_
        rintro e w9 ⟨rfl, hb⟩
        have E9 : Hid (Below w.heap.size w w9) := EX.out.trans (hb.mono EX.out.size)
        clear hb
        go_wp2
        go_ret
        exact ⟨rfl, E9.out⟩
      · have ha : laterB a0 a1 a2 a3 = true := later_eq h h2
        have hb : laterB a2 a3 a0 a1 = false := later_no (by omega) (by omega)
        rw [ha, hb]
        have hq2 : ((a1.toNat : Int) == (a3.toNat : Int)) = false := by rw [beq_eq_false_iff_ne]; omega
        clear hb h h2
        go_wp2_with fail
        refine (later_calls a0 a1 a0 a1 wx).mono ?_
        rintro e w' ⟨rfl, rfl⟩
        rw [HS.out]
        go_wp2_with fail
        refine (later_calls a2 a3 a4 a5 wx).mono ?_
        rintro e w' ⟨rfl, rfl⟩
        cases hc : laterB a2 a3 a4 a5 with
        | false =>
          clear hc
          go_wp2_with fail
          refine (wakes7_calls wx).mono ?_
          rintro e w9 ⟨rfl, hb⟩
          have E9 : Hid (Below w.heap.size w w9) := EX.out.trans (hb.mono EX.out.size)
          clear hb
          go_wp2
          go_ret
          exact ⟨rfl, E9.out⟩
        | true =>
          have HT := Lib.hid (later_trans ha hc)
          clear hc
          go_wp2_with fail
          refine (later_calls a0 a1 a4 a5 wx).mono ?_
          rintro e w' ⟨rfl, rfl⟩
          rw [HT.out]
          go_wp2_with fail
          refine (wakes7_calls wx).mono ?_
          rintro e w9 ⟨rfl, hb⟩
          have E9 : Hid (Below w.heap.size w w9) := EX.out.trans (hb.mono EX.out.size)
          clear hb
          go_wp2
          go_ret
          exact ⟨rfl, E9.out⟩
    · have ha : laterB a0 a1 a2 a3 = true := later_lt h
      have hb : laterB a2 a3 a0 a1 = false := later_no (by omega) (by omega)
      rw [ha, hb]
      have hq : ((a0.toNat : Int) == (a2.toNat : Int)) = false := by rw [beq_eq_false_iff_ne]; omega
      have hle : ¬ ((a0.toNat : Int) ≤ (a2.toNat : Int)) := by omega
      have hle2 : ((a2.toNat : Int) < (a0.toNat : Int)) := by omega
      clear hb h
      go_wp2_with fail
      refine (later_calls a0 a1 a0 a1 wx).mono ?_
      rintro e w' ⟨rfl, rfl⟩
      rw [HS.out]
      go_wp2_with fail
      refine (later_calls a2 a3 a4 a5 wx).mono ?_
      rintro e w' ⟨rfl, rfl⟩
      cases hc : laterB a2 a3 a4 a5 with
      | false =>
        clear hc
        go_wp2_with fail
        refine (wakes7_calls wx).mono ?_
        rintro e w9 ⟨rfl, hb⟩
        have E9 : Hid (Below w.heap.size w w9) := EX.out.trans (hb.mono EX.out.size)
        clear hb
        go_wp2
        go_ret
        exact ⟨rfl, E9.out⟩
      | true =>
        have HT := Lib.hid (later_trans ha hc)
        clear hc
        go_wp2_with fail
        refine (later_calls a0 a1 a4 a5 wx).mono ?_
        rintro e w' ⟨rfl, rfl⟩
        rw [HT.out]
        go_wp2_with fail
        refine (wakes7_calls wx).mono ?_
        rintro e w9 ⟨rfl, hb⟩
        have E9 : Hid (Below w.heap.size w w9) := EX.out.trans (hb.mono EX.out.size)
        clear hb
        go_wp2
        go_ret
        exact ⟨rfl, E9.out⟩
end Go.Proofs.Ytnpcehlbboeadaa
