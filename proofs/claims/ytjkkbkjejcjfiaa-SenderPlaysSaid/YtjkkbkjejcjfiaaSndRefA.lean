
/- law24's reference sender: Acked. -/
import Derived.Test.YtjkkbkjejcjfiaaSndRef
namespace Go.Proofs.Ytjkkbkjejcjfiaa
open Go.RowKit
set_option linter.unusedVariables false
set_option linter.unusedSimpArgs false

set_option maxRecDepth 100000 in
set_option maxHeartbeats 16000000 in
theorem refAcked_calls (w : World) (q : Nat) (v : SV) (hs : QSt w q v) (p : PkV) (A1 : Option Addr) (n1 c1 : Nat) : Calls Try.prog 32 #[.pointer (some ⟨q, 0, none⟩), .agg (pktC p.k p.e p.q A1 n1 c1).toArray] w (QPost w q (v.acked p) (.tuple #[.bool (v.ackB p && v.tc), .bool (v.ackB p)])) := by
  obtain ⟨A, n, c, B, m, d, h⟩ := hs
  have HS := Lib.hid h
  clear h
  obtain ⟨bx, hbx⟩ : ∃ bx, pktC p.k p.e p.q A1 n1 c1 = bx := ⟨_, rfl⟩
  have HBX := Lib.hid hbx
  have D0 : Hid (bx[0]? = some (.int .i64 p.k)) := by rw [← hbx]; exact (rfl : _ = _)
  have D1 : Hid (bx[1]? = some (vu32 p.e)) := by rw [← hbx]; exact (rfl : _ = _)
  have D2 : Hid (bx[2]? = some (vu32 p.q)) := by rw [← hbx]; exact (rfl : _ = _)
  have HBL : Hid (bx.length = 4) := by show _ = _; rw [← hbx]; rfl
  rw [hbx]
  clear hbx
  have HNO : Hid (v.ackB p = false → ∀ w', Below w.heap.size w w' → QPost w q (v.acked p) (.tuple #[.bool (v.ackB p && v.tc), .bool (v.ackB p)]) (.returned (.tuple #[.bool false, .bool false])) w') := fun h1 w' hb => by
    rw [SV.acked, h1, if_neg (by decide)]
    exact ⟨rfl, ⟨A, n, c, B, m, d, HS.out.below hb⟩, (Chg.of_below (S := NoS) hb).mono (fun _ hj => hj.elim)⟩
  have HCL : Hid (∀ w1, Below w.heap.size w w1 → w1.cell? ⟨q, 0, none⟩ = some (.bool v.is) ∧ w1.cell? ⟨q, 3, none⟩ = some (vu32 v.o.e) ∧ w1.cell? ⟨q, 4, none⟩ = some (vu32 v.o.q)) := fun w1 hb => ⟨(HS.out.below hb).bk.cell rfl, (HS.out.below hb).bk.cell rfl, (HS.out.below hb).bk.cell rfl⟩
  cases hi : v.is with
  | false =>
    have HF : Hid (v.ackB p = false) := by show _ = _; rw [SV.ackB, hi]; rfl
    go_enter Try.func32, Try.ntmps32
    go_wp2_with fail
    refine code_at fun w1 hw1 => ?_
    have KX1 : Hid (Bk w1 w.heap.size bx) := by rw [← hw1]; exact Bk.new w bx _
    have E1 : Hid (Below w.heap.size w w1) := by rw [← hw1]; exact (Below.refl _ _).alloc (Nat.le_refl _) _
    clear hw1
    obtain ⟨C0, C3, C4⟩ : Hid (w1.cell? ⟨q, 0, none⟩ = some (.bool v.is)) ∧ Hid (w1.cell? ⟨q, 3, none⟩ = some (vu32 v.o.e)) ∧ Hid (w1.cell? ⟨q, 4, none⟩ = some (vu32 v.o.q)) := ⟨(HCL.out w1 E1.out).1, (HCL.out w1 E1.out).2.1, (HCL.out w1 E1.out).2.2⟩
    rw [hi] at C0
    clear hi
    apply wp_region_rel 30 (Chg NoS) [(Veq _), (Veq _), (Veq _), (Veq _), (Veq _), (Veq _), (Veq undef), (Veq undef), (Veq undef), (Veq _), (Veq _), (Veq undef), (Veq undef), (Veq undef), (Veq undef), (Veq undef), (Veq undef), (Veq undef), (Veq undef), (Veq _), (Veq _), (Veq undef), (Veq undef), (Veq undef), (Veq undef), (Veq undef), (Veq undef), (Veq undef), (Veq undef), (Veq _)] [[], [0], [1], [2], [3], [4], [5], [5], [5], [5, 8], [9], [10], [10], [10], [10], [10], [10], [10], [10], [10, 18], [19], [20], [20], [20], [20], [20], [20], [20], [20], [20, 28]] [7, 8, 9, 10, 11, 12, 13, 14, 15, 16, 17, 18, 19, 20, 21, 22, 23, 24, 25, 26, 27, 28, 29, 30, 31, 32, 33, 34, 35, 36] (by kernel_rfl) (by kernel_rfl) rfl rfl rfl Chg.refl (fun _ _ _ => Chg.trans) ⟨Veq.lasts, Veq.lasts, Veq.lasts, Veq.lasts, Veq.lasts, Veq.lasts, Veq.lasts, Veq.lasts, Veq.lasts, Veq.lasts, Veq.lasts, Veq.lasts, Veq.lasts, Veq.lasts, Veq.lasts, Veq.lasts, Veq.lasts, Veq.lasts, Veq.lasts, Veq.lasts, Veq.lasts, Veq.lasts, Veq.lasts, Veq.lasts, Veq.lasts, Veq.lasts, Veq.lasts, Veq.lasts, Veq.lasts, Veq.lasts, trivial⟩ ?a1ops ?a1fin
    case a1ops =>
      refine ⟨?a1o0, ?a1o1, ?a1o2, ?a1o3, ?a1o4, ?a1o5, ?a1o6, ?a1o7, ?a1o8, ?a1o9, ?a1o10, ?a1o11, ?a1o12, ?a1o13, ?a1o14, ?a1o15, ?a1o16, ?a1o17, ?a1o18, ?a1o19, ?a1o20, ?a1o21, ?a1o22, ?a1o23, ?a1o24, ?a1o25, ?a1o26, ?a1o27, ?a1o28, ?a1o29, trivial⟩
      case a1o0 =>
        intro a wx hE hin
        have i0 : a.eval (.tmp 0) = .pointer (some ⟨q, 0, none⟩) := hin 0 rfl
        clear hin
        have hcst : ∀ v, a.eval (.const v) = v := fun _ => rfl
        have hfnc : ∀ f, a.eval (.func f) = .func (.func f) #[] #[] := fun _ => rfl
        refine want_none rfl ?_
        unfold Oper.wp
        generalize a.eval = ρ at *
        go_simp
        try go_bits
        first | exact rel_val (Chg.refl _) | (go_simp; exact rel_val (Chg.refl _))
      case a1o1 =>
        rintro a wx hE hin (h0 : a.eval (.tmp 7) = _)
        clear hin
        have hcst : ∀ v, a.eval (.const v) = v := fun _ => rfl
        have hfnc : ∀ f, a.eval (.func f) = .func (.func f) #[] #[] := fun _ => rfl
        refine want_none rfl ?_
        unfold Oper.wp
        generalize a.eval = ρ at *
        go_simp
        try go_bits
        first | exact rel_val (Chg.refl _) | (go_simp; exact rel_val (Chg.refl _))
      case a1o2 =>
        rintro a wx hE hin (h1 : a.eval (.tmp 8) = _)
        clear hin
        have hcst : ∀ v, a.eval (.const v) = v := fun _ => rfl
        have hfnc : ∀ f, a.eval (.func f) = .func (.func f) #[] #[] := fun _ => rfl
        refine want_none rfl ?_
        unfold Oper.wp
        generalize a.eval = ρ at *
        go_simp
        try go_bits
        first | exact rel_val (Chg.refl _) | (go_simp; exact rel_val (Chg.refl _))
      case a1o3 =>
        rintro a wx hE hin (h2 : a.eval (.tmp 9) = _)
        clear hin
        have hcst : ∀ v, a.eval (.const v) = v := fun _ => rfl
        have hfnc : ∀ f, a.eval (.func f) = .func (.func f) #[] #[] := fun _ => rfl
        refine want_none rfl ?_
        unfold Oper.wp
        generalize a.eval = ρ at *
        have c := hE.cell (w := w1.drew) C0.out id
        go_simp
        try go_bits
        first | exact rel_val (Chg.refl _) | (go_simp; exact rel_val (Chg.refl _))
      case a1o4 =>
        rintro a wx hE hin (h3 : a.eval (.tmp 10) = _)
        clear hin
        have hcst : ∀ v, a.eval (.const v) = v := fun _ => rfl
        have hfnc : ∀ f, a.eval (.func f) = .func (.func f) #[] #[] := fun _ => rfl
        refine want_none rfl ?_
        unfold Oper.wp
        generalize a.eval = ρ at *
        go_simp
        try go_bits
        first | exact rel_val (Chg.refl _) | (go_simp; exact rel_val (Chg.refl _))
      case a1o5 =>
        rintro a wx hE hin (h4 : a.eval (.tmp 11) = _)
        clear hin
        have hcst : ∀ v, a.eval (.const v) = v := fun _ => rfl
        have hfnc : ∀ f, a.eval (.func f) = .func (.func f) #[] #[] := fun _ => rfl
        refine want_none rfl ?_
        unfold Oper.wp
        generalize a.eval = ρ at *
        go_simp
        try go_bits
        first | exact rel_val (Chg.refl _) | (go_simp; exact rel_val (Chg.refl _))
      case a1o6 =>
        rintro a wx hE hin (h5 : a.eval (.tmp 12) = _)
        clear hin
        exact want_not rfl rfl h5 rfl
      case a1o7 =>
        rintro a wx hE hin (h5 : a.eval (.tmp 12) = _)
        clear hin
        exact want_not rfl rfl h5 rfl
      case a1o8 =>
        rintro a wx hE hin (h5 : a.eval (.tmp 12) = _)
        clear hin
        exact want_not rfl rfl h5 rfl
      case a1o9 =>
        rintro a wx hE hin (h5 : a.eval (.tmp 12) = _) (h8 : a.eval (.tmp 15) = _)
        clear hin
        have hcst : ∀ v, a.eval (.const v) = v := fun _ => rfl
        have hfnc : ∀ f, a.eval (.func f) = .func (.func f) #[] #[] := fun _ => rfl
        refine want_none rfl ?_
        unfold Oper.wp
        generalize a.eval = ρ at *
        go_simp
        try go_bits
        first | exact rel_val (Chg.refl _) | (go_simp; exact rel_val (Chg.refl _))
      case a1o10 =>
        rintro a wx hE hin (h9 : a.eval (.tmp 16) = _)
        clear hin
        have hcst : ∀ v, a.eval (.const v) = v := fun _ => rfl
        have hfnc : ∀ f, a.eval (.func f) = .func (.func f) #[] #[] := fun _ => rfl
        refine want_none rfl ?_
        unfold Oper.wp
        generalize a.eval = ρ at *
        go_simp
        try go_bits
        first | exact rel_val (Chg.refl _) | (go_simp; exact rel_val (Chg.refl _))
      case a1o11 =>
        rintro a wx hE hin (h10 : a.eval (.tmp 17) = _)
        clear hin
        exact want_not rfl rfl h10 rfl
      case a1o12 =>
        rintro a wx hE hin (h10 : a.eval (.tmp 17) = _)
        clear hin
        exact want_not rfl rfl h10 rfl
      case a1o13 =>
        rintro a wx hE hin (h10 : a.eval (.tmp 17) = _)
        clear hin
        exact want_not rfl rfl h10 rfl
      case a1o14 =>
        rintro a wx hE hin (h10 : a.eval (.tmp 17) = _)
        clear hin
        exact want_not rfl rfl h10 rfl
      case a1o15 =>
        rintro a wx hE hin (h10 : a.eval (.tmp 17) = _)
        clear hin
        exact want_not rfl rfl h10 rfl
      case a1o16 =>
        rintro a wx hE hin (h10 : a.eval (.tmp 17) = _)
        clear hin
        exact want_not rfl rfl h10 rfl
      case a1o17 =>
        rintro a wx hE hin (h10 : a.eval (.tmp 17) = _)
        clear hin
        exact want_not rfl rfl h10 rfl
      case a1o18 =>
        rintro a wx hE hin (h10 : a.eval (.tmp 17) = _)
        clear hin
        exact want_not rfl rfl h10 rfl
      case a1o19 =>
        rintro a wx hE hin (h10 : a.eval (.tmp 17) = _) (h18 : a.eval (.tmp 25) = _)
        clear hin
        have hcst : ∀ v, a.eval (.const v) = v := fun _ => rfl
        have hfnc : ∀ f, a.eval (.func f) = .func (.func f) #[] #[] := fun _ => rfl
        refine want_none rfl ?_
        unfold Oper.wp
        generalize a.eval = ρ at *
        go_simp
        try go_bits
        first | exact rel_val (Chg.refl _) | (go_simp; exact rel_val (Chg.refl _))
      case a1o20 =>
        rintro a wx hE hin (h19 : a.eval (.tmp 26) = _)
        clear hin
        have hcst : ∀ v, a.eval (.const v) = v := fun _ => rfl
        have hfnc : ∀ f, a.eval (.func f) = .func (.func f) #[] #[] := fun _ => rfl
        refine want_none rfl ?_
        unfold Oper.wp
        generalize a.eval = ρ at *
        go_simp
        try go_bits
        first | exact rel_val (Chg.refl _) | (go_simp; exact rel_val (Chg.refl _))
      case a1o21 =>
        rintro a wx hE hin (h20 : a.eval (.tmp 27) = _)
        clear hin
        exact want_not rfl rfl h20 rfl
      case a1o22 =>
        rintro a wx hE hin (h20 : a.eval (.tmp 27) = _)
        clear hin
        exact want_not rfl rfl h20 rfl
      case a1o23 =>
        rintro a wx hE hin (h20 : a.eval (.tmp 27) = _)
        clear hin
        exact want_not rfl rfl h20 rfl
      case a1o24 =>
        rintro a wx hE hin (h20 : a.eval (.tmp 27) = _)
        clear hin
        exact want_not rfl rfl h20 rfl
      case a1o25 =>
        rintro a wx hE hin (h20 : a.eval (.tmp 27) = _)
        clear hin
        exact want_not rfl rfl h20 rfl
      case a1o26 =>
        rintro a wx hE hin (h20 : a.eval (.tmp 27) = _)
        clear hin
        exact want_not rfl rfl h20 rfl
      case a1o27 =>
        rintro a wx hE hin (h20 : a.eval (.tmp 27) = _)
        clear hin
        exact want_not rfl rfl h20 rfl
      case a1o28 =>
        rintro a wx hE hin (h20 : a.eval (.tmp 27) = _)
        clear hin
        exact want_not rfl rfl h20 rfl
      case a1o29 =>
        rintro a wx hE hin (h20 : a.eval (.tmp 27) = _) (h28 : a.eval (.tmp 35) = _)
        clear hin
        have hcst : ∀ v, a.eval (.const v) = v := fun _ => rfl
        have hfnc : ∀ f, a.eval (.func f) = .func (.func f) #[] #[] := fun _ => rfl
        refine want_none rfl ?_
        unfold Oper.wp
        generalize a.eval = ρ at *
        go_simp
        try go_bits
        first | exact rel_val (Chg.refl _) | (go_simp; exact rel_val (Chg.refl _))
    case a1fin =>
      intro wx hE
      rintro _ rfl _ rfl _ rfl _ rfl _ rfl _ rfl _ rfl _ rfl _ rfl _ rfl _ rfl _ rfl _ rfl _ rfl _ rfl _ rfl _ rfl _ rfl _ rfl _ rfl _ rfl _ rfl _ rfl _ rfl _ rfl _ rfl _ rfl _ rfl _ rfl _ rfl
      simp only [FinOk, List.take_succ_cons, List.take_zero, List.take_nil, List.drop_succ_cons, List.drop_zero, List.drop_nil, Act.put, List.setIfInBounds_toArray, List.set_cons_succ, List.set_cons_zero]
      have EX : Hid (Below w.heap.size w wx) := E1.out.trans (hE.undrew.below E1.out.size (fun _ _ => id))
      clear hE
      go_wp2_with fail
      (try simp only [Exit.inBlock, Exit.then])
      go_ret2
      exact HNO.out HF.out _ EX.out
  | true =>
    by_cases hk : p.k = 3
    case neg =>
      have HF : Hid (v.ackB p = false) := by show _ = _; rw [SV.ackB, decide_eq_false hk]; simp
      have HNE : Hid ((p.k != 3) = true) := by show _ = _; rw [bne_iff_ne]; exact hk
      clear hk
      go_enter Try.func32, Try.ntmps32
      go_wp2_with fail
      refine code_at fun w1 hw1 => ?_
      have KX1 : Hid (Bk w1 w.heap.size bx) := by rw [← hw1]; exact Bk.new w bx _
      have E1 : Hid (Below w.heap.size w w1) := by rw [← hw1]; exact (Below.refl _ _).alloc (Nat.le_refl _) _
      clear hw1
      obtain ⟨C0, C3, C4⟩ : Hid (w1.cell? ⟨q, 0, none⟩ = some (.bool v.is)) ∧ Hid (w1.cell? ⟨q, 3, none⟩ = some (vu32 v.o.e)) ∧ Hid (w1.cell? ⟨q, 4, none⟩ = some (vu32 v.o.q)) := ⟨(HCL.out w1 E1.out).1, (HCL.out w1 E1.out).2.1, (HCL.out w1 E1.out).2.2⟩
      rw [hi] at C0
      clear hi
      apply wp_region_rel 30 (Chg NoS) [(Veq _), (Veq _), (Veq _), (Veq _), (Veq _), (Veq _), (Veq _), (Veq _), (Veq (.bool true)), (Veq _), (Veq _), (Veq undef), (Veq undef), (Veq undef), (Veq undef), (Veq undef), (Veq undef), (Veq undef), (Veq undef), (Veq _), (Veq _), (Veq undef), (Veq undef), (Veq undef), (Veq undef), (Veq undef), (Veq undef), (Veq undef), (Veq undef), (Veq _)] [[], [0], [1], [2], [3], [4], [5], [5, 6], [5, 7], [5, 8], [9], [10], [10], [10], [10], [10], [10], [10], [10], [10, 18], [19], [20], [20], [20], [20], [20], [20], [20], [20], [20, 28]] [7, 8, 9, 10, 11, 12, 13, 14, 15, 16, 17, 18, 19, 20, 21, 22, 23, 24, 25, 26, 27, 28, 29, 30, 31, 32, 33, 34, 35, 36] (by kernel_rfl) (by kernel_rfl) rfl rfl rfl Chg.refl (fun _ _ _ => Chg.trans) ⟨Veq.lasts, Veq.lasts, Veq.lasts, Veq.lasts, Veq.lasts, Veq.lasts, Veq.lasts, Veq.lasts, Veq.lasts, Veq.lasts, Veq.lasts, Veq.lasts, Veq.lasts, Veq.lasts, Veq.lasts, Veq.lasts, Veq.lasts, Veq.lasts, Veq.lasts, Veq.lasts, Veq.lasts, Veq.lasts, Veq.lasts, Veq.lasts, Veq.lasts, Veq.lasts, Veq.lasts, Veq.lasts, Veq.lasts, Veq.lasts, trivial⟩ ?a2ops ?a2fin
      case a2ops =>
        refine ⟨?a2o0, ?a2o1, ?a2o2, ?a2o3, ?a2o4, ?a2o5, ?a2o6, ?a2o7, ?a2o8, ?a2o9, ?a2o10, ?a2o11, ?a2o12, ?a2o13, ?a2o14, ?a2o15, ?a2o16, ?a2o17, ?a2o18, ?a2o19, ?a2o20, ?a2o21, ?a2o22, ?a2o23, ?a2o24, ?a2o25, ?a2o26, ?a2o27, ?a2o28, ?a2o29, trivial⟩
        case a2o0 =>
          intro a wx hE hin
          have i0 : a.eval (.tmp 0) = .pointer (some ⟨q, 0, none⟩) := hin 0 rfl
          clear hin
          have hcst : ∀ v, a.eval (.const v) = v := fun _ => rfl
          have hfnc : ∀ f, a.eval (.func f) = .func (.func f) #[] #[] := fun _ => rfl
          refine want_none rfl ?_
          unfold Oper.wp
          generalize a.eval = ρ at *
          go_simp
          try go_bits
          first | exact rel_val (Chg.refl _) | (go_simp; exact rel_val (Chg.refl _))
        case a2o1 =>
          rintro a wx hE hin (h0 : a.eval (.tmp 7) = _)
          clear hin
          have hcst : ∀ v, a.eval (.const v) = v := fun _ => rfl
          have hfnc : ∀ f, a.eval (.func f) = .func (.func f) #[] #[] := fun _ => rfl
          refine want_none rfl ?_
          unfold Oper.wp
          generalize a.eval = ρ at *
          go_simp
          try go_bits
          first | exact rel_val (Chg.refl _) | (go_simp; exact rel_val (Chg.refl _))
        case a2o2 =>
          rintro a wx hE hin (h1 : a.eval (.tmp 8) = _)
          clear hin
          have hcst : ∀ v, a.eval (.const v) = v := fun _ => rfl
          have hfnc : ∀ f, a.eval (.func f) = .func (.func f) #[] #[] := fun _ => rfl
          refine want_none rfl ?_
          unfold Oper.wp
          generalize a.eval = ρ at *
          go_simp
          try go_bits
          first | exact rel_val (Chg.refl _) | (go_simp; exact rel_val (Chg.refl _))
        case a2o3 =>
          rintro a wx hE hin (h2 : a.eval (.tmp 9) = _)
          clear hin
          have hcst : ∀ v, a.eval (.const v) = v := fun _ => rfl
          have hfnc : ∀ f, a.eval (.func f) = .func (.func f) #[] #[] := fun _ => rfl
          refine want_none rfl ?_
          unfold Oper.wp
          generalize a.eval = ρ at *
          have c := hE.cell (w := w1.drew) C0.out id
          go_simp
          try go_bits
          first | exact rel_val (Chg.refl _) | (go_simp; exact rel_val (Chg.refl _))
        case a2o4 =>
          rintro a wx hE hin (h3 : a.eval (.tmp 10) = _)
          clear hin
          have hcst : ∀ v, a.eval (.const v) = v := fun _ => rfl
          have hfnc : ∀ f, a.eval (.func f) = .func (.func f) #[] #[] := fun _ => rfl
          refine want_none rfl ?_
          unfold Oper.wp
          generalize a.eval = ρ at *
          go_simp
          try go_bits
          first | exact rel_val (Chg.refl _) | (go_simp; exact rel_val (Chg.refl _))
        case a2o5 =>
          rintro a wx hE hin (h4 : a.eval (.tmp 11) = _)
          clear hin
          have hcst : ∀ v, a.eval (.const v) = v := fun _ => rfl
          have hfnc : ∀ f, a.eval (.func f) = .func (.func f) #[] #[] := fun _ => rfl
          refine want_none rfl ?_
          unfold Oper.wp
          generalize a.eval = ρ at *
          go_simp
          try go_bits
          first | exact rel_val (Chg.refl _) | (go_simp; exact rel_val (Chg.refl _))
        case a2o6 =>
          rintro a wx hE hin (h5 : a.eval (.tmp 12) = _)
          have i3 : a.eval (.tmp 3) = .pointer (some ⟨w.heap.size, 0, none⟩) := hin 3 rfl
          clear hin
          have hcst : ∀ v, a.eval (.const v) = v := fun _ => rfl
          have hfnc : ∀ f, a.eval (.func f) = .func (.func f) #[] #[] := fun _ => rfl
          refine want_yes rfl rfl h5 ?_
          unfold Oper.wp
          generalize a.eval = ρ at *
          go_simp
          try go_bits
          first | exact rel_val (Chg.refl _) | (go_simp; exact rel_val (Chg.refl _))
        case a2o7 =>
          rintro a wx hE hin (h5 : a.eval (.tmp 12) = _) (h6 : a.eval (.tmp 13) = _)
          clear hin
          have hcst : ∀ v, a.eval (.const v) = v := fun _ => rfl
          have hfnc : ∀ f, a.eval (.func f) = .func (.func f) #[] #[] := fun _ => rfl
          refine want_yes rfl rfl h5 ?_
          unfold Oper.wp
          generalize a.eval = ρ at *
          have c := Bk.cell (KX1.out.drew.chg hE id) D0.out
          go_simp
          try go_bits
          first | exact rel_val (Chg.refl _) | (go_simp; exact rel_val (Chg.refl _))
        case a2o8 =>
          rintro a wx hE hin (h5 : a.eval (.tmp 12) = _) (h7 : a.eval (.tmp 14) = _)
          clear hin
          have hcst : ∀ v, a.eval (.const v) = v := fun _ => rfl
          have hfnc : ∀ f, a.eval (.func f) = .func (.func f) #[] #[] := fun _ => rfl
          refine want_yes rfl rfl h5 ?_
          unfold Oper.wp
          generalize a.eval = ρ at *
          have hx : (p.k != 3) = true := HNE.out
          go_simp
          try go_bits
          first | exact rel_val (e := .bool true) (Chg.refl _) | (show RelPost _ _ a (some 15) wx (a.put (some 15) (.bool (p.k != 3))) wx; rw [hx]; exact rel_val (Chg.refl _))
        case a2o9 =>
          rintro a wx hE hin (h5 : a.eval (.tmp 12) = _) (h8 : a.eval (.tmp 15) = _)
          clear hin
          have hcst : ∀ v, a.eval (.const v) = v := fun _ => rfl
          have hfnc : ∀ f, a.eval (.func f) = .func (.func f) #[] #[] := fun _ => rfl
          refine want_none rfl ?_
          unfold Oper.wp
          generalize a.eval = ρ at *
          go_simp
          try go_bits
          first | exact rel_val (Chg.refl _) | (go_simp; exact rel_val (Chg.refl _))
        case a2o10 =>
          rintro a wx hE hin (h9 : a.eval (.tmp 16) = _)
          clear hin
          have hcst : ∀ v, a.eval (.const v) = v := fun _ => rfl
          have hfnc : ∀ f, a.eval (.func f) = .func (.func f) #[] #[] := fun _ => rfl
          refine want_none rfl ?_
          unfold Oper.wp
          generalize a.eval = ρ at *
          go_simp
          try go_bits
          first | exact rel_val (Chg.refl _) | (go_simp; exact rel_val (Chg.refl _))
        case a2o11 =>
          rintro a wx hE hin (h10 : a.eval (.tmp 17) = _)
          clear hin
          exact want_not rfl rfl h10 rfl
        case a2o12 =>
          rintro a wx hE hin (h10 : a.eval (.tmp 17) = _)
          clear hin
          exact want_not rfl rfl h10 rfl
        case a2o13 =>
          rintro a wx hE hin (h10 : a.eval (.tmp 17) = _)
          clear hin
          exact want_not rfl rfl h10 rfl
        case a2o14 =>
          rintro a wx hE hin (h10 : a.eval (.tmp 17) = _)
          clear hin
          exact want_not rfl rfl h10 rfl
        case a2o15 =>
          rintro a wx hE hin (h10 : a.eval (.tmp 17) = _)
          clear hin
          exact want_not rfl rfl h10 rfl
        case a2o16 =>
          rintro a wx hE hin (h10 : a.eval (.tmp 17) = _)
          clear hin
          exact want_not rfl rfl h10 rfl
        case a2o17 =>
          rintro a wx hE hin (h10 : a.eval (.tmp 17) = _)
          clear hin
          exact want_not rfl rfl h10 rfl
        case a2o18 =>
          rintro a wx hE hin (h10 : a.eval (.tmp 17) = _)
          clear hin
          exact want_not rfl rfl h10 rfl
        case a2o19 =>
          rintro a wx hE hin (h10 : a.eval (.tmp 17) = _) (h18 : a.eval (.tmp 25) = _)
          clear hin
          have hcst : ∀ v, a.eval (.const v) = v := fun _ => rfl
          have hfnc : ∀ f, a.eval (.func f) = .func (.func f) #[] #[] := fun _ => rfl
          refine want_none rfl ?_
          unfold Oper.wp
          generalize a.eval = ρ at *
          go_simp
          try go_bits
          first | exact rel_val (Chg.refl _) | (go_simp; exact rel_val (Chg.refl _))
        case a2o20 =>
          rintro a wx hE hin (h19 : a.eval (.tmp 26) = _)
          clear hin
          have hcst : ∀ v, a.eval (.const v) = v := fun _ => rfl
          have hfnc : ∀ f, a.eval (.func f) = .func (.func f) #[] #[] := fun _ => rfl
          refine want_none rfl ?_
          unfold Oper.wp
          generalize a.eval = ρ at *
          go_simp
          try go_bits
          first | exact rel_val (Chg.refl _) | (go_simp; exact rel_val (Chg.refl _))
        case a2o21 =>
          rintro a wx hE hin (h20 : a.eval (.tmp 27) = _)
          clear hin
          exact want_not rfl rfl h20 rfl
        case a2o22 =>
          rintro a wx hE hin (h20 : a.eval (.tmp 27) = _)
          clear hin
          exact want_not rfl rfl h20 rfl
        case a2o23 =>
          rintro a wx hE hin (h20 : a.eval (.tmp 27) = _)
          clear hin
          exact want_not rfl rfl h20 rfl
        case a2o24 =>
          rintro a wx hE hin (h20 : a.eval (.tmp 27) = _)
          clear hin
          exact want_not rfl rfl h20 rfl
        case a2o25 =>
          rintro a wx hE hin (h20 : a.eval (.tmp 27) = _)
          clear hin
          exact want_not rfl rfl h20 rfl
        case a2o26 =>
          rintro a wx hE hin (h20 : a.eval (.tmp 27) = _)
          clear hin
          exact want_not rfl rfl h20 rfl
        case a2o27 =>
          rintro a wx hE hin (h20 : a.eval (.tmp 27) = _)
          clear hin
          exact want_not rfl rfl h20 rfl
        case a2o28 =>
          rintro a wx hE hin (h20 : a.eval (.tmp 27) = _)
          clear hin
          exact want_not rfl rfl h20 rfl
        case a2o29 =>
          rintro a wx hE hin (h20 : a.eval (.tmp 27) = _) (h28 : a.eval (.tmp 35) = _)
          clear hin
          have hcst : ∀ v, a.eval (.const v) = v := fun _ => rfl
          have hfnc : ∀ f, a.eval (.func f) = .func (.func f) #[] #[] := fun _ => rfl
          refine want_none rfl ?_
          unfold Oper.wp
          generalize a.eval = ρ at *
          go_simp
          try go_bits
          first | exact rel_val (Chg.refl _) | (go_simp; exact rel_val (Chg.refl _))
      case a2fin =>
        intro wx hE
        rintro _ rfl _ rfl _ rfl _ rfl _ rfl _ rfl _ rfl _ rfl _ rfl _ rfl _ rfl _ rfl _ rfl _ rfl _ rfl _ rfl _ rfl _ rfl _ rfl _ rfl _ rfl _ rfl _ rfl _ rfl _ rfl _ rfl _ rfl _ rfl _ rfl _ rfl
        simp only [FinOk, List.take_succ_cons, List.take_zero, List.take_nil, List.drop_succ_cons, List.drop_zero, List.drop_nil, Act.put, List.setIfInBounds_toArray, List.set_cons_succ, List.set_cons_zero]
        have EX : Hid (Below w.heap.size w wx) := E1.out.trans (hE.undrew.below E1.out.size (fun _ _ => id))
        clear hE
        go_wp2_with fail
        (try simp only [Exit.inBlock, Exit.then])
        go_ret2
        exact HNO.out HF.out _ EX.out
    by_cases he : p.e = v.o.e
    case neg =>
      have HF : Hid (v.ackB p = false) := by show _ = _; rw [SV.ackB, decide_eq_false he]; simp
      have HNE : Hid ((((p.e.toNat : Nat) : Int) != ((v.o.e.toNat : Nat) : Int)) = true) := by show _ = _; rw [bne_iff_ne]; exact fun h => he (UInt32.toNat_inj.1 (by omega))
      rw [hk] at D0
      clear hk he
      go_enter Try.func32, Try.ntmps32
      go_wp2_with fail
      refine code_at fun w1 hw1 => ?_
      have KX1 : Hid (Bk w1 w.heap.size bx) := by rw [← hw1]; exact Bk.new w bx _
      have E1 : Hid (Below w.heap.size w w1) := by rw [← hw1]; exact (Below.refl _ _).alloc (Nat.le_refl _) _
      clear hw1
      obtain ⟨C0, C3, C4⟩ : Hid (w1.cell? ⟨q, 0, none⟩ = some (.bool v.is)) ∧ Hid (w1.cell? ⟨q, 3, none⟩ = some (vu32 v.o.e)) ∧ Hid (w1.cell? ⟨q, 4, none⟩ = some (vu32 v.o.q)) := ⟨(HCL.out w1 E1.out).1, (HCL.out w1 E1.out).2.1, (HCL.out w1 E1.out).2.2⟩
      rw [hi] at C0
      clear hi
      apply wp_region_rel 30 (Chg NoS) [(Veq _), (Veq _), (Veq _), (Veq _), (Veq _), (Veq _), (Veq _), (Veq _), (Veq (.bool false)), (Veq _), (Veq _), (Veq _), (Veq _), (Veq _), (Veq _), (Veq _), (Veq _), (Veq _), (Veq (.bool true)), (Veq _), (Veq _), (Veq undef), (Veq undef), (Veq undef), (Veq undef), (Veq undef), (Veq undef), (Veq undef), (Veq undef), (Veq _)] [[], [0], [1], [2], [3], [4], [5], [5, 6], [5, 7], [5, 8], [9], [10], [10, 11], [10], [10, 13], [10, 14], [10, 15], [10, 16], [10, 12, 17], [10, 18], [19], [20], [20], [20], [20], [20], [20], [20], [20], [20, 28]] [7, 8, 9, 10, 11, 12, 13, 14, 15, 16, 17, 18, 19, 20, 21, 22, 23, 24, 25, 26, 27, 28, 29, 30, 31, 32, 33, 34, 35, 36] (by kernel_rfl) (by kernel_rfl) rfl rfl rfl Chg.refl (fun _ _ _ => Chg.trans) ⟨Veq.lasts, Veq.lasts, Veq.lasts, Veq.lasts, Veq.lasts, Veq.lasts, Veq.lasts, Veq.lasts, Veq.lasts, Veq.lasts, Veq.lasts, Veq.lasts, Veq.lasts, Veq.lasts, Veq.lasts, Veq.lasts, Veq.lasts, Veq.lasts, Veq.lasts, Veq.lasts, Veq.lasts, Veq.lasts, Veq.lasts, Veq.lasts, Veq.lasts, Veq.lasts, Veq.lasts, Veq.lasts, Veq.lasts, Veq.lasts, trivial⟩ ?a3ops ?a3fin
      case a3ops =>
        refine ⟨?a3o0, ?a3o1, ?a3o2, ?a3o3, ?a3o4, ?a3o5, ?a3o6, ?a3o7, ?a3o8, ?a3o9, ?a3o10, ?a3o11, ?a3o12, ?a3o13, ?a3o14, ?a3o15, ?a3o16, ?a3o17, ?a3o18, ?a3o19, ?a3o20, ?a3o21, ?a3o22, ?a3o23, ?a3o24, ?a3o25, ?a3o26, ?a3o27, ?a3o28, ?a3o29, trivial⟩
        case a3o0 =>
          intro a wx hE hin
          have i0 : a.eval (.tmp 0) = .pointer (some ⟨q, 0, none⟩) := hin 0 rfl
          clear hin
          have hcst : ∀ v, a.eval (.const v) = v := fun _ => rfl
          have hfnc : ∀ f, a.eval (.func f) = .func (.func f) #[] #[] := fun _ => rfl
          refine want_none rfl ?_
          unfold Oper.wp
          generalize a.eval = ρ at *
          go_simp
          try go_bits
          first | exact rel_val (Chg.refl _) | (go_simp; exact rel_val (Chg.refl _))
        case a3o1 =>
          rintro a wx hE hin (h0 : a.eval (.tmp 7) = _)
          clear hin
          have hcst : ∀ v, a.eval (.const v) = v := fun _ => rfl
          have hfnc : ∀ f, a.eval (.func f) = .func (.func f) #[] #[] := fun _ => rfl
          refine want_none rfl ?_
          unfold Oper.wp
          generalize a.eval = ρ at *
          go_simp
          try go_bits
          first | exact rel_val (Chg.refl _) | (go_simp; exact rel_val (Chg.refl _))
        case a3o2 =>
          rintro a wx hE hin (h1 : a.eval (.tmp 8) = _)
          clear hin
          have hcst : ∀ v, a.eval (.const v) = v := fun _ => rfl
          have hfnc : ∀ f, a.eval (.func f) = .func (.func f) #[] #[] := fun _ => rfl
          refine want_none rfl ?_
          unfold Oper.wp
          generalize a.eval = ρ at *
          go_simp
          try go_bits
          first | exact rel_val (Chg.refl _) | (go_simp; exact rel_val (Chg.refl _))
        case a3o3 =>
          rintro a wx hE hin (h2 : a.eval (.tmp 9) = _)
          clear hin
          have hcst : ∀ v, a.eval (.const v) = v := fun _ => rfl
          have hfnc : ∀ f, a.eval (.func f) = .func (.func f) #[] #[] := fun _ => rfl
          refine want_none rfl ?_
          unfold Oper.wp
          generalize a.eval = ρ at *
          have c := hE.cell (w := w1.drew) C0.out id
          go_simp
          try go_bits
          first | exact rel_val (Chg.refl _) | (go_simp; exact rel_val (Chg.refl _))
        case a3o4 =>
          rintro a wx hE hin (h3 : a.eval (.tmp 10) = _)
          clear hin
          have hcst : ∀ v, a.eval (.const v) = v := fun _ => rfl
          have hfnc : ∀ f, a.eval (.func f) = .func (.func f) #[] #[] := fun _ => rfl
          refine want_none rfl ?_
          unfold Oper.wp
          generalize a.eval = ρ at *
          go_simp
          try go_bits
          first | exact rel_val (Chg.refl _) | (go_simp; exact rel_val (Chg.refl _))
        case a3o5 =>
          rintro a wx hE hin (h4 : a.eval (.tmp 11) = _)
          clear hin
          have hcst : ∀ v, a.eval (.const v) = v := fun _ => rfl
          have hfnc : ∀ f, a.eval (.func f) = .func (.func f) #[] #[] := fun _ => rfl
          refine want_none rfl ?_
          unfold Oper.wp
          generalize a.eval = ρ at *
          go_simp
          try go_bits
          first | exact rel_val (Chg.refl _) | (go_simp; exact rel_val (Chg.refl _))
        case a3o6 =>
          rintro a wx hE hin (h5 : a.eval (.tmp 12) = _)
          have i3 : a.eval (.tmp 3) = .pointer (some ⟨w.heap.size, 0, none⟩) := hin 3 rfl
          clear hin
          have hcst : ∀ v, a.eval (.const v) = v := fun _ => rfl
          have hfnc : ∀ f, a.eval (.func f) = .func (.func f) #[] #[] := fun _ => rfl
          refine want_yes rfl rfl h5 ?_
          unfold Oper.wp
          generalize a.eval = ρ at *
          go_simp
          try go_bits
          first | exact rel_val (Chg.refl _) | (go_simp; exact rel_val (Chg.refl _))
        case a3o7 =>
          rintro a wx hE hin (h5 : a.eval (.tmp 12) = _) (h6 : a.eval (.tmp 13) = _)
          clear hin
          have hcst : ∀ v, a.eval (.const v) = v := fun _ => rfl
          have hfnc : ∀ f, a.eval (.func f) = .func (.func f) #[] #[] := fun _ => rfl
          refine want_yes rfl rfl h5 ?_
          unfold Oper.wp
          generalize a.eval = ρ at *
          have c := Bk.cell (KX1.out.drew.chg hE id) D0.out
          go_simp
          try go_bits
          first | exact rel_val (Chg.refl _) | (go_simp; exact rel_val (Chg.refl _))
        case a3o8 =>
          rintro a wx hE hin (h5 : a.eval (.tmp 12) = _) (h7 : a.eval (.tmp 14) = _)
          clear hin
          have hcst : ∀ v, a.eval (.const v) = v := fun _ => rfl
          have hfnc : ∀ f, a.eval (.func f) = .func (.func f) #[] #[] := fun _ => rfl
          refine want_yes rfl rfl h5 ?_
          unfold Oper.wp
          generalize a.eval = ρ at *
          go_simp
          try go_bits
          first | exact rel_val (e := .bool false) (Chg.refl _) | (have hx := HNE.out; simp only [hx]; exact rel_val (e := .bool false) (Chg.refl _)) | (simp only [bne_self_eq_false]; exact rel_val (e := .bool false) (Chg.refl _)) | (rw [bne_self_eq_false]; exact rel_val (e := .bool false) (Chg.refl _))
        case a3o9 =>
          rintro a wx hE hin (h5 : a.eval (.tmp 12) = _) (h8 : a.eval (.tmp 15) = _)
          clear hin
          have hcst : ∀ v, a.eval (.const v) = v := fun _ => rfl
          have hfnc : ∀ f, a.eval (.func f) = .func (.func f) #[] #[] := fun _ => rfl
          refine want_none rfl ?_
          unfold Oper.wp
          generalize a.eval = ρ at *
          go_simp
          try go_bits
          first | exact rel_val (Chg.refl _) | (go_simp; exact rel_val (Chg.refl _))
        case a3o10 =>
          rintro a wx hE hin (h9 : a.eval (.tmp 16) = _)
          clear hin
          have hcst : ∀ v, a.eval (.const v) = v := fun _ => rfl
          have hfnc : ∀ f, a.eval (.func f) = .func (.func f) #[] #[] := fun _ => rfl
          refine want_none rfl ?_
          unfold Oper.wp
          generalize a.eval = ρ at *
          go_simp
          try go_bits
          first | exact rel_val (Chg.refl _) | (go_simp; exact rel_val (Chg.refl _))
        case a3o11 =>
          rintro a wx hE hin (h10 : a.eval (.tmp 17) = _)
          have i3 : a.eval (.tmp 3) = .pointer (some ⟨w.heap.size, 0, none⟩) := hin 3 rfl
          clear hin
          have hcst : ∀ v, a.eval (.const v) = v := fun _ => rfl
          have hfnc : ∀ f, a.eval (.func f) = .func (.func f) #[] #[] := fun _ => rfl
          refine want_yes rfl rfl h10 ?_
          unfold Oper.wp
          generalize a.eval = ρ at *
          go_simp
          try go_bits
          first | exact rel_val (Chg.refl _) | (go_simp; exact rel_val (Chg.refl _))
        case a3o12 =>
          rintro a wx hE hin (h10 : a.eval (.tmp 17) = _) (h11 : a.eval (.tmp 18) = _)
          clear hin
          have hcst : ∀ v, a.eval (.const v) = v := fun _ => rfl
          have hfnc : ∀ f, a.eval (.func f) = .func (.func f) #[] #[] := fun _ => rfl
          refine want_yes rfl rfl h10 ?_
          unfold Oper.wp
          generalize a.eval = ρ at *
          have c := Bk.cell (KX1.out.drew.chg hE id) D1.out
          go_simp
          try go_bits
          first | exact rel_val (Chg.refl _) | (go_simp; exact rel_val (Chg.refl _))
        case a3o13 =>
          rintro a wx hE hin (h10 : a.eval (.tmp 17) = _)
          have i0 : a.eval (.tmp 0) = .pointer (some ⟨q, 0, none⟩) := hin 0 rfl
          clear hin
          have hcst : ∀ v, a.eval (.const v) = v := fun _ => rfl
          have hfnc : ∀ f, a.eval (.func f) = .func (.func f) #[] #[] := fun _ => rfl
          refine want_yes rfl rfl h10 ?_
          unfold Oper.wp
          generalize a.eval = ρ at *
          go_simp
          try go_bits
          first | exact rel_val (Chg.refl _) | (go_simp; exact rel_val (Chg.refl _))
        case a3o14 =>
          rintro a wx hE hin (h10 : a.eval (.tmp 17) = _) (h13 : a.eval (.tmp 20) = _)
          clear hin
          have hcst : ∀ v, a.eval (.const v) = v := fun _ => rfl
          have hfnc : ∀ f, a.eval (.func f) = .func (.func f) #[] #[] := fun _ => rfl
          refine want_yes rfl rfl h10 ?_
          unfold Oper.wp
          generalize a.eval = ρ at *
          go_simp
          try go_bits
          first | exact rel_val (Chg.refl _) | (go_simp; exact rel_val (Chg.refl _))
        case a3o15 =>
          rintro a wx hE hin (h10 : a.eval (.tmp 17) = _) (h14 : a.eval (.tmp 21) = _)
          clear hin
          have hcst : ∀ v, a.eval (.const v) = v := fun _ => rfl
          have hfnc : ∀ f, a.eval (.func f) = .func (.func f) #[] #[] := fun _ => rfl
          refine want_yes rfl rfl h10 ?_
          unfold Oper.wp
          generalize a.eval = ρ at *
          go_simp
          try go_bits
          first | exact rel_val (Chg.refl _) | (go_simp; exact rel_val (Chg.refl _))
        case a3o16 =>
          rintro a wx hE hin (h10 : a.eval (.tmp 17) = _) (h15 : a.eval (.tmp 22) = _)
          clear hin
          have hcst : ∀ v, a.eval (.const v) = v := fun _ => rfl
          have hfnc : ∀ f, a.eval (.func f) = .func (.func f) #[] #[] := fun _ => rfl
          refine want_yes rfl rfl h10 ?_
          unfold Oper.wp
          generalize a.eval = ρ at *
          go_simp
          try go_bits
          first | exact rel_val (Chg.refl _) | (go_simp; exact rel_val (Chg.refl _))
        case a3o17 =>
          rintro a wx hE hin (h10 : a.eval (.tmp 17) = _) (h16 : a.eval (.tmp 23) = _)
          clear hin
          have hcst : ∀ v, a.eval (.const v) = v := fun _ => rfl
          have hfnc : ∀ f, a.eval (.func f) = .func (.func f) #[] #[] := fun _ => rfl
          refine want_yes rfl rfl h10 ?_
          unfold Oper.wp
          generalize a.eval = ρ at *
          have c := hE.cell (w := w1.drew) C3.out id
          go_simp
          try go_bits
          first | exact rel_val (Chg.refl _) | (go_simp; exact rel_val (Chg.refl _))
        case a3o18 =>
          rintro a wx hE hin (h10 : a.eval (.tmp 17) = _) (h12 : a.eval (.tmp 19) = _) (h17 : a.eval (.tmp 24) = _)
          clear hin
          have hcst : ∀ v, a.eval (.const v) = v := fun _ => rfl
          have hfnc : ∀ f, a.eval (.func f) = .func (.func f) #[] #[] := fun _ => rfl
          refine want_yes rfl rfl h10 ?_
          unfold Oper.wp
          generalize a.eval = ρ at *
          have hx : (((p.e.toNat : Nat) : Int) != ((v.o.e.toNat : Nat) : Int)) = true := HNE.out
          go_simp
          try go_bits
          first | exact rel_val (e := .bool true) (Chg.refl _) | (show RelPost _ _ a (some 25) wx (a.put (some 25) (.bool (((p.e.toNat : Nat) : Int) != ((v.o.e.toNat : Nat) : Int)))) wx; rw [hx]; exact rel_val (Chg.refl _))
        case a3o19 =>
          rintro a wx hE hin (h10 : a.eval (.tmp 17) = _) (h18 : a.eval (.tmp 25) = _)
          clear hin
          have hcst : ∀ v, a.eval (.const v) = v := fun _ => rfl
          have hfnc : ∀ f, a.eval (.func f) = .func (.func f) #[] #[] := fun _ => rfl
          refine want_none rfl ?_
          unfold Oper.wp
          generalize a.eval = ρ at *
          go_simp
          try go_bits
          first | exact rel_val (Chg.refl _) | (go_simp; exact rel_val (Chg.refl _))
        case a3o20 =>
          rintro a wx hE hin (h19 : a.eval (.tmp 26) = _)
          clear hin
          have hcst : ∀ v, a.eval (.const v) = v := fun _ => rfl
          have hfnc : ∀ f, a.eval (.func f) = .func (.func f) #[] #[] := fun _ => rfl
          refine want_none rfl ?_
          unfold Oper.wp
          generalize a.eval = ρ at *
          go_simp
          try go_bits
          first | exact rel_val (Chg.refl _) | (go_simp; exact rel_val (Chg.refl _))
        case a3o21 =>
          rintro a wx hE hin (h20 : a.eval (.tmp 27) = _)
          clear hin
          exact want_not rfl rfl h20 rfl
        case a3o22 =>
          rintro a wx hE hin (h20 : a.eval (.tmp 27) = _)
          clear hin
          exact want_not rfl rfl h20 rfl
        case a3o23 =>
          rintro a wx hE hin (h20 : a.eval (.tmp 27) = _)
          clear hin
          exact want_not rfl rfl h20 rfl
        case a3o24 =>
          rintro a wx hE hin (h20 : a.eval (.tmp 27) = _)
          clear hin
          exact want_not rfl rfl h20 rfl
        case a3o25 =>
          rintro a wx hE hin (h20 : a.eval (.tmp 27) = _)
          clear hin
          exact want_not rfl rfl h20 rfl
        case a3o26 =>
          rintro a wx hE hin (h20 : a.eval (.tmp 27) = _)
          clear hin
          exact want_not rfl rfl h20 rfl
        case a3o27 =>
          rintro a wx hE hin (h20 : a.eval (.tmp 27) = _)
          clear hin
          exact want_not rfl rfl h20 rfl
        case a3o28 =>
          rintro a wx hE hin (h20 : a.eval (.tmp 27) = _)
          clear hin
          exact want_not rfl rfl h20 rfl
        case a3o29 =>
          rintro a wx hE hin (h20 : a.eval (.tmp 27) = _) (h28 : a.eval (.tmp 35) = _)
          clear hin
          have hcst : ∀ v, a.eval (.const v) = v := fun _ => rfl
          have hfnc : ∀ f, a.eval (.func f) = .func (.func f) #[] #[] := fun _ => rfl
          refine want_none rfl ?_
          unfold Oper.wp
          generalize a.eval = ρ at *
          go_simp
          try go_bits
          first | exact rel_val (Chg.refl _) | (go_simp; exact rel_val (Chg.refl _))
      case a3fin =>
        intro wx hE
        rintro _ rfl _ rfl _ rfl _ rfl _ rfl _ rfl _ rfl _ rfl _ rfl _ rfl _ rfl _ rfl _ rfl _ rfl _ rfl _ rfl _ rfl _ rfl _ rfl _ rfl _ rfl _ rfl _ rfl _ rfl _ rfl _ rfl _ rfl _ rfl _ rfl _ rfl
        simp only [FinOk, List.take_succ_cons, List.take_zero, List.take_nil, List.drop_succ_cons, List.drop_zero, List.drop_nil, Act.put, List.setIfInBounds_toArray, List.set_cons_succ, List.set_cons_zero]
        have EX : Hid (Below w.heap.size w wx) := E1.out.trans (hE.undrew.below E1.out.size (fun _ _ => id))
        clear hE
        go_wp2_with fail
        (try simp only [Exit.inBlock, Exit.then])
        go_ret2
        exact HNO.out HF.out _ EX.out
    by_cases hq : p.q = v.o.q
    case neg =>
      have HF : Hid (v.ackB p = false) := by show _ = _; rw [SV.ackB, decide_eq_false hq]; simp
      have HNE : Hid ((((p.q.toNat : Nat) : Int) != ((v.o.q.toNat : Nat) : Int)) = true) := by show _ = _; rw [bne_iff_ne]; exact fun h => hq (UInt32.toNat_inj.1 (by omega))
      rw [hk] at D0
      rw [he] at D1
      clear hk he hq
      go_enter Try.func32, Try.ntmps32
      go_wp2_with fail
      refine code_at fun w1 hw1 => ?_
      have KX1 : Hid (Bk w1 w.heap.size bx) := by rw [← hw1]; exact Bk.new w bx _
      have E1 : Hid (Below w.heap.size w w1) := by rw [← hw1]; exact (Below.refl _ _).alloc (Nat.le_refl _) _
      clear hw1
      obtain ⟨C0, C3, C4⟩ : Hid (w1.cell? ⟨q, 0, none⟩ = some (.bool v.is)) ∧ Hid (w1.cell? ⟨q, 3, none⟩ = some (vu32 v.o.e)) ∧ Hid (w1.cell? ⟨q, 4, none⟩ = some (vu32 v.o.q)) := ⟨(HCL.out w1 E1.out).1, (HCL.out w1 E1.out).2.1, (HCL.out w1 E1.out).2.2⟩
      rw [hi] at C0
      clear hi
      apply wp_region_rel 30 (Chg NoS) [(Veq _), (Veq _), (Veq _), (Veq _), (Veq _), (Veq _), (Veq _), (Veq _), (Veq (.bool false)), (Veq _), (Veq _), (Veq _), (Veq _), (Veq _), (Veq _), (Veq _), (Veq _), (Veq _), (Veq (.bool false)), (Veq _), (Veq _), (Veq _), (Veq _), (Veq _), (Veq _), (Veq _), (Veq _), (Veq _), (Veq (.bool true)), (Veq _)] [[], [0], [1], [2], [3], [4], [5], [5, 6], [5, 7], [5, 8], [9], [10], [10, 11], [10], [10, 13], [10, 14], [10, 15], [10, 16], [10, 12, 17], [10, 18], [19], [20], [20, 21], [20], [20, 23], [20, 24], [20, 25], [20, 26], [20, 22, 27], [20, 28]] [7, 8, 9, 10, 11, 12, 13, 14, 15, 16, 17, 18, 19, 20, 21, 22, 23, 24, 25, 26, 27, 28, 29, 30, 31, 32, 33, 34, 35, 36] (by kernel_rfl) (by kernel_rfl) rfl rfl rfl Chg.refl (fun _ _ _ => Chg.trans) ⟨Veq.lasts, Veq.lasts, Veq.lasts, Veq.lasts, Veq.lasts, Veq.lasts, Veq.lasts, Veq.lasts, Veq.lasts, Veq.lasts, Veq.lasts, Veq.lasts, Veq.lasts, Veq.lasts, Veq.lasts, Veq.lasts, Veq.lasts, Veq.lasts, Veq.lasts, Veq.lasts, Veq.lasts, Veq.lasts, Veq.lasts, Veq.lasts, Veq.lasts, Veq.lasts, Veq.lasts, Veq.lasts, Veq.lasts, Veq.lasts, trivial⟩ ?a4ops ?a4fin
      case a4ops =>
        refine ⟨?a4o0, ?a4o1, ?a4o2, ?a4o3, ?a4o4, ?a4o5, ?a4o6, ?a4o7, ?a4o8, ?a4o9, ?a4o10, ?a4o11, ?a4o12, ?a4o13, ?a4o14, ?a4o15, ?a4o16, ?a4o17, ?a4o18, ?a4o19, ?a4o20, ?a4o21, ?a4o22, ?a4o23, ?a4o24, ?a4o25, ?a4o26, ?a4o27, ?a4o28, ?a4o29, trivial⟩
        case a4o0 =>
          intro a wx hE hin
          have i0 : a.eval (.tmp 0) = .pointer (some ⟨q, 0, none⟩) := hin 0 rfl
          clear hin
          have hcst : ∀ v, a.eval (.const v) = v := fun _ => rfl
          have hfnc : ∀ f, a.eval (.func f) = .func (.func f) #[] #[] := fun _ => rfl
          refine want_none rfl ?_
          unfold Oper.wp
          generalize a.eval = ρ at *
          go_simp
          try go_bits
          first | exact rel_val (Chg.refl _) | (go_simp; exact rel_val (Chg.refl _))
        case a4o1 =>
          rintro a wx hE hin (h0 : a.eval (.tmp 7) = _)
          clear hin
          have hcst : ∀ v, a.eval (.const v) = v := fun _ => rfl
          have hfnc : ∀ f, a.eval (.func f) = .func (.func f) #[] #[] := fun _ => rfl
          refine want_none rfl ?_
          unfold Oper.wp
          generalize a.eval = ρ at *
          go_simp
          try go_bits
          first | exact rel_val (Chg.refl _) | (go_simp; exact rel_val (Chg.refl _))
        case a4o2 =>
          rintro a wx hE hin (h1 : a.eval (.tmp 8) = _)
          clear hin
          have hcst : ∀ v, a.eval (.const v) = v := fun _ => rfl
          have hfnc : ∀ f, a.eval (.func f) = .func (.func f) #[] #[] := fun _ => rfl
          refine want_none rfl ?_
          unfold Oper.wp
          generalize a.eval = ρ at *
          go_simp
          try go_bits
          first | exact rel_val (Chg.refl _) | (go_simp; exact rel_val (Chg.refl _))
        case a4o3 =>
          rintro a wx hE hin (h2 : a.eval (.tmp 9) = _)
          clear hin
          have hcst : ∀ v, a.eval (.const v) = v := fun _ => rfl
          have hfnc : ∀ f, a.eval (.func f) = .func (.func f) #[] #[] := fun _ => rfl
          refine want_none rfl ?_
          unfold Oper.wp
          generalize a.eval = ρ at *
          have c := hE.cell (w := w1.drew) C0.out id
          go_simp
          try go_bits
          first | exact rel_val (Chg.refl _) | (go_simp; exact rel_val (Chg.refl _))
        case a4o4 =>
          rintro a wx hE hin (h3 : a.eval (.tmp 10) = _)
          clear hin
          have hcst : ∀ v, a.eval (.const v) = v := fun _ => rfl
          have hfnc : ∀ f, a.eval (.func f) = .func (.func f) #[] #[] := fun _ => rfl
          refine want_none rfl ?_
          unfold Oper.wp
          generalize a.eval = ρ at *
          go_simp
          try go_bits
          first | exact rel_val (Chg.refl _) | (go_simp; exact rel_val (Chg.refl _))
        case a4o5 =>
          rintro a wx hE hin (h4 : a.eval (.tmp 11) = _)
          clear hin
          have hcst : ∀ v, a.eval (.const v) = v := fun _ => rfl
          have hfnc : ∀ f, a.eval (.func f) = .func (.func f) #[] #[] := fun _ => rfl
          refine want_none rfl ?_
          unfold Oper.wp
          generalize a.eval = ρ at *
          go_simp
          try go_bits
          first | exact rel_val (Chg.refl _) | (go_simp; exact rel_val (Chg.refl _))
        case a4o6 =>
          rintro a wx hE hin (h5 : a.eval (.tmp 12) = _)
          have i3 : a.eval (.tmp 3) = .pointer (some ⟨w.heap.size, 0, none⟩) := hin 3 rfl
          clear hin
          have hcst : ∀ v, a.eval (.const v) = v := fun _ => rfl
          have hfnc : ∀ f, a.eval (.func f) = .func (.func f) #[] #[] := fun _ => rfl
          refine want_yes rfl rfl h5 ?_
          unfold Oper.wp
          generalize a.eval = ρ at *
          go_simp
          try go_bits
          first | exact rel_val (Chg.refl _) | (go_simp; exact rel_val (Chg.refl _))
        case a4o7 =>
          rintro a wx hE hin (h5 : a.eval (.tmp 12) = _) (h6 : a.eval (.tmp 13) = _)
          clear hin
          have hcst : ∀ v, a.eval (.const v) = v := fun _ => rfl
          have hfnc : ∀ f, a.eval (.func f) = .func (.func f) #[] #[] := fun _ => rfl
          refine want_yes rfl rfl h5 ?_
          unfold Oper.wp
          generalize a.eval = ρ at *
          have c := Bk.cell (KX1.out.drew.chg hE id) D0.out
          go_simp
          try go_bits
          first | exact rel_val (Chg.refl _) | (go_simp; exact rel_val (Chg.refl _))
        case a4o8 =>
          rintro a wx hE hin (h5 : a.eval (.tmp 12) = _) (h7 : a.eval (.tmp 14) = _)
          clear hin
          have hcst : ∀ v, a.eval (.const v) = v := fun _ => rfl
          have hfnc : ∀ f, a.eval (.func f) = .func (.func f) #[] #[] := fun _ => rfl
          refine want_yes rfl rfl h5 ?_
          unfold Oper.wp
          generalize a.eval = ρ at *
          go_simp
          try go_bits
          first | exact rel_val (e := .bool false) (Chg.refl _) | (have hx := HNE.out; simp only [hx]; exact rel_val (e := .bool false) (Chg.refl _)) | (simp only [bne_self_eq_false]; exact rel_val (e := .bool false) (Chg.refl _)) | (rw [bne_self_eq_false]; exact rel_val (e := .bool false) (Chg.refl _))
        case a4o9 =>
          rintro a wx hE hin (h5 : a.eval (.tmp 12) = _) (h8 : a.eval (.tmp 15) = _)
          clear hin
          have hcst : ∀ v, a.eval (.const v) = v := fun _ => rfl
          have hfnc : ∀ f, a.eval (.func f) = .func (.func f) #[] #[] := fun _ => rfl
          refine want_none rfl ?_
          unfold Oper.wp
          generalize a.eval = ρ at *
          go_simp
          try go_bits
          first | exact rel_val (Chg.refl _) | (go_simp; exact rel_val (Chg.refl _))
        case a4o10 =>
          rintro a wx hE hin (h9 : a.eval (.tmp 16) = _)
          clear hin
          have hcst : ∀ v, a.eval (.const v) = v := fun _ => rfl
          have hfnc : ∀ f, a.eval (.func f) = .func (.func f) #[] #[] := fun _ => rfl
          refine want_none rfl ?_
          unfold Oper.wp
          generalize a.eval = ρ at *
          go_simp
          try go_bits
          first | exact rel_val (Chg.refl _) | (go_simp; exact rel_val (Chg.refl _))
        case a4o11 =>
          rintro a wx hE hin (h10 : a.eval (.tmp 17) = _)
          have i3 : a.eval (.tmp 3) = .pointer (some ⟨w.heap.size, 0, none⟩) := hin 3 rfl
          clear hin
          have hcst : ∀ v, a.eval (.const v) = v := fun _ => rfl
          have hfnc : ∀ f, a.eval (.func f) = .func (.func f) #[] #[] := fun _ => rfl
          refine want_yes rfl rfl h10 ?_
          unfold Oper.wp
          generalize a.eval = ρ at *
          go_simp
          try go_bits
          first | exact rel_val (Chg.refl _) | (go_simp; exact rel_val (Chg.refl _))
        case a4o12 =>
          rintro a wx hE hin (h10 : a.eval (.tmp 17) = _) (h11 : a.eval (.tmp 18) = _)
          clear hin
          have hcst : ∀ v, a.eval (.const v) = v := fun _ => rfl
          have hfnc : ∀ f, a.eval (.func f) = .func (.func f) #[] #[] := fun _ => rfl
          refine want_yes rfl rfl h10 ?_
          unfold Oper.wp
          generalize a.eval = ρ at *
          have c := Bk.cell (KX1.out.drew.chg hE id) D1.out
          go_simp
          try go_bits
          first | exact rel_val (Chg.refl _) | (go_simp; exact rel_val (Chg.refl _))
        case a4o13 =>
          rintro a wx hE hin (h10 : a.eval (.tmp 17) = _)
          have i0 : a.eval (.tmp 0) = .pointer (some ⟨q, 0, none⟩) := hin 0 rfl
          clear hin
          have hcst : ∀ v, a.eval (.const v) = v := fun _ => rfl
          have hfnc : ∀ f, a.eval (.func f) = .func (.func f) #[] #[] := fun _ => rfl
          refine want_yes rfl rfl h10 ?_
          unfold Oper.wp
          generalize a.eval = ρ at *
          go_simp
          try go_bits
          first | exact rel_val (Chg.refl _) | (go_simp; exact rel_val (Chg.refl _))
        case a4o14 =>
          rintro a wx hE hin (h10 : a.eval (.tmp 17) = _) (h13 : a.eval (.tmp 20) = _)
          clear hin
          have hcst : ∀ v, a.eval (.const v) = v := fun _ => rfl
          have hfnc : ∀ f, a.eval (.func f) = .func (.func f) #[] #[] := fun _ => rfl
          refine want_yes rfl rfl h10 ?_
          unfold Oper.wp
          generalize a.eval = ρ at *
          go_simp
          try go_bits
          first | exact rel_val (Chg.refl _) | (go_simp; exact rel_val (Chg.refl _))
        case a4o15 =>
          rintro a wx hE hin (h10 : a.eval (.tmp 17) = _) (h14 : a.eval (.tmp 21) = _)
          clear hin
          have hcst : ∀ v, a.eval (.const v) = v := fun _ => rfl
          have hfnc : ∀ f, a.eval (.func f) = .func (.func f) #[] #[] := fun _ => rfl
          refine want_yes rfl rfl h10 ?_
          unfold Oper.wp
          generalize a.eval = ρ at *
          go_simp
          try go_bits
          first | exact rel_val (Chg.refl _) | (go_simp; exact rel_val (Chg.refl _))
        case a4o16 =>
          rintro a wx hE hin (h10 : a.eval (.tmp 17) = _) (h15 : a.eval (.tmp 22) = _)
          clear hin
          have hcst : ∀ v, a.eval (.const v) = v := fun _ => rfl
          have hfnc : ∀ f, a.eval (.func f) = .func (.func f) #[] #[] := fun _ => rfl
          refine want_yes rfl rfl h10 ?_
          unfold Oper.wp
          generalize a.eval = ρ at *
          go_simp
          try go_bits
          first | exact rel_val (Chg.refl _) | (go_simp; exact rel_val (Chg.refl _))
        case a4o17 =>
          rintro a wx hE hin (h10 : a.eval (.tmp 17) = _) (h16 : a.eval (.tmp 23) = _)
          clear hin
          have hcst : ∀ v, a.eval (.const v) = v := fun _ => rfl
          have hfnc : ∀ f, a.eval (.func f) = .func (.func f) #[] #[] := fun _ => rfl
          refine want_yes rfl rfl h10 ?_
          unfold Oper.wp
          generalize a.eval = ρ at *
          have c := hE.cell (w := w1.drew) C3.out id
          go_simp
          try go_bits
          first | exact rel_val (Chg.refl _) | (go_simp; exact rel_val (Chg.refl _))
        case a4o18 =>
          rintro a wx hE hin (h10 : a.eval (.tmp 17) = _) (h12 : a.eval (.tmp 19) = _) (h17 : a.eval (.tmp 24) = _)
          clear hin
          have hcst : ∀ v, a.eval (.const v) = v := fun _ => rfl
          have hfnc : ∀ f, a.eval (.func f) = .func (.func f) #[] #[] := fun _ => rfl
          refine want_yes rfl rfl h10 ?_
          unfold Oper.wp
          generalize a.eval = ρ at *
          go_simp
          try go_bits
          first | exact rel_val (e := .bool false) (Chg.refl _) | (have hx := HNE.out; simp only [hx]; exact rel_val (e := .bool false) (Chg.refl _)) | (simp only [bne_self_eq_false]; exact rel_val (e := .bool false) (Chg.refl _)) | (rw [bne_self_eq_false]; exact rel_val (e := .bool false) (Chg.refl _))
        case a4o19 =>
          rintro a wx hE hin (h10 : a.eval (.tmp 17) = _) (h18 : a.eval (.tmp 25) = _)
          clear hin
          have hcst : ∀ v, a.eval (.const v) = v := fun _ => rfl
          have hfnc : ∀ f, a.eval (.func f) = .func (.func f) #[] #[] := fun _ => rfl
          refine want_none rfl ?_
          unfold Oper.wp
          generalize a.eval = ρ at *
          go_simp
          try go_bits
          first | exact rel_val (Chg.refl _) | (go_simp; exact rel_val (Chg.refl _))
        case a4o20 =>
          rintro a wx hE hin (h19 : a.eval (.tmp 26) = _)
          clear hin
          have hcst : ∀ v, a.eval (.const v) = v := fun _ => rfl
          have hfnc : ∀ f, a.eval (.func f) = .func (.func f) #[] #[] := fun _ => rfl
          refine want_none rfl ?_
          unfold Oper.wp
          generalize a.eval = ρ at *
          go_simp
          try go_bits
          first | exact rel_val (Chg.refl _) | (go_simp; exact rel_val (Chg.refl _))
        case a4o21 =>
          rintro a wx hE hin (h20 : a.eval (.tmp 27) = _)
          have i3 : a.eval (.tmp 3) = .pointer (some ⟨w.heap.size, 0, none⟩) := hin 3 rfl
          clear hin
          have hcst : ∀ v, a.eval (.const v) = v := fun _ => rfl
          have hfnc : ∀ f, a.eval (.func f) = .func (.func f) #[] #[] := fun _ => rfl
          refine want_yes rfl rfl h20 ?_
          unfold Oper.wp
          generalize a.eval = ρ at *
          go_simp
          try go_bits
          first | exact rel_val (Chg.refl _) | (go_simp; exact rel_val (Chg.refl _))
        case a4o22 =>
          rintro a wx hE hin (h20 : a.eval (.tmp 27) = _) (h21 : a.eval (.tmp 28) = _)
          clear hin
          have hcst : ∀ v, a.eval (.const v) = v := fun _ => rfl
          have hfnc : ∀ f, a.eval (.func f) = .func (.func f) #[] #[] := fun _ => rfl
          refine want_yes rfl rfl h20 ?_
          unfold Oper.wp
          generalize a.eval = ρ at *
          have c := Bk.cell (KX1.out.drew.chg hE id) D2.out
          go_simp
          try go_bits
          first | exact rel_val (Chg.refl _) | (go_simp; exact rel_val (Chg.refl _))
        case a4o23 =>
          rintro a wx hE hin (h20 : a.eval (.tmp 27) = _)
          have i0 : a.eval (.tmp 0) = .pointer (some ⟨q, 0, none⟩) := hin 0 rfl
          clear hin
          have hcst : ∀ v, a.eval (.const v) = v := fun _ => rfl
          have hfnc : ∀ f, a.eval (.func f) = .func (.func f) #[] #[] := fun _ => rfl
          refine want_yes rfl rfl h20 ?_
          unfold Oper.wp
          generalize a.eval = ρ at *
          go_simp
          try go_bits
          first | exact rel_val (Chg.refl _) | (go_simp; exact rel_val (Chg.refl _))
        case a4o24 =>
          rintro a wx hE hin (h20 : a.eval (.tmp 27) = _) (h23 : a.eval (.tmp 30) = _)
          clear hin
          have hcst : ∀ v, a.eval (.const v) = v := fun _ => rfl
          have hfnc : ∀ f, a.eval (.func f) = .func (.func f) #[] #[] := fun _ => rfl
          refine want_yes rfl rfl h20 ?_
          unfold Oper.wp
          generalize a.eval = ρ at *
          go_simp
          try go_bits
          first | exact rel_val (Chg.refl _) | (go_simp; exact rel_val (Chg.refl _))
        case a4o25 =>
          rintro a wx hE hin (h20 : a.eval (.tmp 27) = _) (h24 : a.eval (.tmp 31) = _)
          clear hin
          have hcst : ∀ v, a.eval (.const v) = v := fun _ => rfl
          have hfnc : ∀ f, a.eval (.func f) = .func (.func f) #[] #[] := fun _ => rfl
          refine want_yes rfl rfl h20 ?_
          unfold Oper.wp
          generalize a.eval = ρ at *
          go_simp
          try go_bits
          first | exact rel_val (Chg.refl _) | (go_simp; exact rel_val (Chg.refl _))
        case a4o26 =>
          rintro a wx hE hin (h20 : a.eval (.tmp 27) = _) (h25 : a.eval (.tmp 32) = _)
          clear hin
          have hcst : ∀ v, a.eval (.const v) = v := fun _ => rfl
          have hfnc : ∀ f, a.eval (.func f) = .func (.func f) #[] #[] := fun _ => rfl
          refine want_yes rfl rfl h20 ?_
          unfold Oper.wp
          generalize a.eval = ρ at *
          go_simp
          try go_bits
          first | exact rel_val (Chg.refl _) | (go_simp; exact rel_val (Chg.refl _))
        case a4o27 =>
          rintro a wx hE hin (h20 : a.eval (.tmp 27) = _) (h26 : a.eval (.tmp 33) = _)
          clear hin
          have hcst : ∀ v, a.eval (.const v) = v := fun _ => rfl
          have hfnc : ∀ f, a.eval (.func f) = .func (.func f) #[] #[] := fun _ => rfl
          refine want_yes rfl rfl h20 ?_
          unfold Oper.wp
          generalize a.eval = ρ at *
          have c := hE.cell (w := w1.drew) C4.out id
          go_simp
          try go_bits
          first | exact rel_val (Chg.refl _) | (go_simp; exact rel_val (Chg.refl _))
        case a4o28 =>
          rintro a wx hE hin (h20 : a.eval (.tmp 27) = _) (h22 : a.eval (.tmp 29) = _) (h27 : a.eval (.tmp 34) = _)
          clear hin
          have hcst : ∀ v, a.eval (.const v) = v := fun _ => rfl
          have hfnc : ∀ f, a.eval (.func f) = .func (.func f) #[] #[] := fun _ => rfl
          refine want_yes rfl rfl h20 ?_
          unfold Oper.wp
          generalize a.eval = ρ at *
          have hx : (((p.q.toNat : Nat) : Int) != ((v.o.q.toNat : Nat) : Int)) = true := HNE.out
          go_simp
          try go_bits
          first | exact rel_val (e := .bool true) (Chg.refl _) | (show RelPost _ _ a (some 35) wx (a.put (some 35) (.bool (((p.q.toNat : Nat) : Int) != ((v.o.q.toNat : Nat) : Int)))) wx; rw [hx]; exact rel_val (Chg.refl _))
        case a4o29 =>
          rintro a wx hE hin (h20 : a.eval (.tmp 27) = _) (h28 : a.eval (.tmp 35) = _)
          clear hin
          have hcst : ∀ v, a.eval (.const v) = v := fun _ => rfl
          have hfnc : ∀ f, a.eval (.func f) = .func (.func f) #[] #[] := fun _ => rfl
          refine want_none rfl ?_
          unfold Oper.wp
          generalize a.eval = ρ at *
          go_simp
          try go_bits
          first | exact rel_val (Chg.refl _) | (go_simp; exact rel_val (Chg.refl _))
      case a4fin =>
        intro wx hE
        rintro _ rfl _ rfl _ rfl _ rfl _ rfl _ rfl _ rfl _ rfl _ rfl _ rfl _ rfl _ rfl _ rfl _ rfl _ rfl _ rfl _ rfl _ rfl _ rfl _ rfl _ rfl _ rfl _ rfl _ rfl _ rfl _ rfl _ rfl _ rfl _ rfl _ rfl
        simp only [FinOk, List.take_succ_cons, List.take_zero, List.take_nil, List.drop_succ_cons, List.drop_zero, List.drop_nil, Act.put, List.setIfInBounds_toArray, List.set_cons_succ, List.set_cons_zero]
        have EX : Hid (Below w.heap.size w wx) := E1.out.trans (hE.undrew.below E1.out.size (fun _ _ => id))
        clear hE
        go_wp2_with fail
        (try simp only [Exit.inBlock, Exit.then])
        go_ret2
        exact HNO.out HF.out _ EX.out
    have HF : Hid (v.ackB p = true) := by show _ = _; rw [SV.ackB, hi, decide_eq_true hk, decide_eq_true he, decide_eq_true hq]; rfl
    rw [hk] at D0
    rw [he] at D1
    rw [hq] at D2
    clear hk he hq
    go_enter Try.func32, Try.ntmps32
    go_wp2_with fail
    refine code_at fun w1 hw1 => ?_
    have KX1 : Hid (Bk w1 w.heap.size bx) := by rw [← hw1]; exact Bk.new w bx _
    have E1 : Hid (Below w.heap.size w w1) := by rw [← hw1]; exact (Below.refl _ _).alloc (Nat.le_refl _) _
    clear hw1
    obtain ⟨C0, C3, C4⟩ : Hid (w1.cell? ⟨q, 0, none⟩ = some (.bool v.is)) ∧ Hid (w1.cell? ⟨q, 3, none⟩ = some (vu32 v.o.e)) ∧ Hid (w1.cell? ⟨q, 4, none⟩ = some (vu32 v.o.q)) := ⟨(HCL.out w1 E1.out).1, (HCL.out w1 E1.out).2.1, (HCL.out w1 E1.out).2.2⟩
    rw [hi] at C0
    clear hi
    apply wp_region_rel 30 (Chg NoS) [(Veq _), (Veq _), (Veq _), (Veq _), (Veq _), (Veq _), (Veq _), (Veq _), (Veq (.bool false)), (Veq _), (Veq _), (Veq _), (Veq _), (Veq _), (Veq _), (Veq _), (Veq _), (Veq _), (Veq (.bool false)), (Veq _), (Veq _), (Veq _), (Veq _), (Veq _), (Veq _), (Veq _), (Veq _), (Veq _), (Veq (.bool false)), (Veq _)] [[], [0], [1], [2], [3], [4], [5], [5, 6], [5, 7], [5, 8], [9], [10], [10, 11], [10], [10, 13], [10, 14], [10, 15], [10, 16], [10, 12, 17], [10, 18], [19], [20], [20, 21], [20], [20, 23], [20, 24], [20, 25], [20, 26], [20, 22, 27], [20, 28]] [7, 8, 9, 10, 11, 12, 13, 14, 15, 16, 17, 18, 19, 20, 21, 22, 23, 24, 25, 26, 27, 28, 29, 30, 31, 32, 33, 34, 35, 36] (by kernel_rfl) (by kernel_rfl) rfl rfl rfl Chg.refl (fun _ _ _ => Chg.trans) ⟨Veq.lasts, Veq.lasts, Veq.lasts, Veq.lasts, Veq.lasts, Veq.lasts, Veq.lasts, Veq.lasts, Veq.lasts, Veq.lasts, Veq.lasts, Veq.lasts, Veq.lasts, Veq.lasts, Veq.lasts, Veq.lasts, Veq.lasts, Veq.lasts, Veq.lasts, Veq.lasts, Veq.lasts, Veq.lasts, Veq.lasts, Veq.lasts, Veq.lasts, Veq.lasts, Veq.lasts, Veq.lasts, Veq.lasts, Veq.lasts, trivial⟩ ?a5ops ?a5fin
    case a5ops =>
      refine ⟨?a5o0, ?a5o1, ?a5o2, ?a5o3, ?a5o4, ?a5o5, ?a5o6, ?a5o7, ?a5o8, ?a5o9, ?a5o10, ?a5o11, ?a5o12, ?a5o13, ?a5o14, ?a5o15, ?a5o16, ?a5o17, ?a5o18, ?a5o19, ?a5o20, ?a5o21, ?a5o22, ?a5o23, ?a5o24, ?a5o25, ?a5o26, ?a5o27, ?a5o28, ?a5o29, trivial⟩
      case a5o0 =>
        intro a wx hE hin
        have i0 : a.eval (.tmp 0) = .pointer (some ⟨q, 0, none⟩) := hin 0 rfl
        clear hin
        have hcst : ∀ v, a.eval (.const v) = v := fun _ => rfl
        have hfnc : ∀ f, a.eval (.func f) = .func (.func f) #[] #[] := fun _ => rfl
        refine want_none rfl ?_
        unfold Oper.wp
        generalize a.eval = ρ at *
        go_simp
        try go_bits
        first | exact rel_val (Chg.refl _) | (go_simp; exact rel_val (Chg.refl _))
      case a5o1 =>
        rintro a wx hE hin (h0 : a.eval (.tmp 7) = _)
        clear hin
        have hcst : ∀ v, a.eval (.const v) = v := fun _ => rfl
        have hfnc : ∀ f, a.eval (.func f) = .func (.func f) #[] #[] := fun _ => rfl
        refine want_none rfl ?_
        unfold Oper.wp
        generalize a.eval = ρ at *
        go_simp
        try go_bits
        first | exact rel_val (Chg.refl _) | (go_simp; exact rel_val (Chg.refl _))
      case a5o2 =>
        rintro a wx hE hin (h1 : a.eval (.tmp 8) = _)
        clear hin
        have hcst : ∀ v, a.eval (.const v) = v := fun _ => rfl
        have hfnc : ∀ f, a.eval (.func f) = .func (.func f) #[] #[] := fun _ => rfl
        refine want_none rfl ?_
        unfold Oper.wp
        generalize a.eval = ρ at *
        go_simp
        try go_bits
        first | exact rel_val (Chg.refl _) | (go_simp; exact rel_val (Chg.refl _))
      case a5o3 =>
        rintro a wx hE hin (h2 : a.eval (.tmp 9) = _)
        clear hin
        have hcst : ∀ v, a.eval (.const v) = v := fun _ => rfl
        have hfnc : ∀ f, a.eval (.func f) = .func (.func f) #[] #[] := fun _ => rfl
        refine want_none rfl ?_
        unfold Oper.wp
        generalize a.eval = ρ at *
        have c := hE.cell (w := w1.drew) C0.out id
        go_simp
        try go_bits
        first | exact rel_val (Chg.refl _) | (go_simp; exact rel_val (Chg.refl _))
      case a5o4 =>
        rintro a wx hE hin (h3 : a.eval (.tmp 10) = _)
        clear hin
        have hcst : ∀ v, a.eval (.const v) = v := fun _ => rfl
        have hfnc : ∀ f, a.eval (.func f) = .func (.func f) #[] #[] := fun _ => rfl
        refine want_none rfl ?_
        unfold Oper.wp
        generalize a.eval = ρ at *
        go_simp
        try go_bits
        first | exact rel_val (Chg.refl _) | (go_simp; exact rel_val (Chg.refl _))
      case a5o5 =>
        rintro a wx hE hin (h4 : a.eval (.tmp 11) = _)
        clear hin
        have hcst : ∀ v, a.eval (.const v) = v := fun _ => rfl
        have hfnc : ∀ f, a.eval (.func f) = .func (.func f) #[] #[] := fun _ => rfl
        refine want_none rfl ?_
        unfold Oper.wp
        generalize a.eval = ρ at *
        go_simp
        try go_bits
        first | exact rel_val (Chg.refl _) | (go_simp; exact rel_val (Chg.refl _))
      case a5o6 =>
        rintro a wx hE hin (h5 : a.eval (.tmp 12) = _)
        have i3 : a.eval (.tmp 3) = .pointer (some ⟨w.heap.size, 0, none⟩) := hin 3 rfl
        clear hin
        have hcst : ∀ v, a.eval (.const v) = v := fun _ => rfl
        have hfnc : ∀ f, a.eval (.func f) = .func (.func f) #[] #[] := fun _ => rfl
        refine want_yes rfl rfl h5 ?_
        unfold Oper.wp
        generalize a.eval = ρ at *
        go_simp
        try go_bits
        first | exact rel_val (Chg.refl _) | (go_simp; exact rel_val (Chg.refl _))
      case a5o7 =>
        rintro a wx hE hin (h5 : a.eval (.tmp 12) = _) (h6 : a.eval (.tmp 13) = _)
        clear hin
        have hcst : ∀ v, a.eval (.const v) = v := fun _ => rfl
        have hfnc : ∀ f, a.eval (.func f) = .func (.func f) #[] #[] := fun _ => rfl
        refine want_yes rfl rfl h5 ?_
        unfold Oper.wp
        generalize a.eval = ρ at *
        have c := Bk.cell (KX1.out.drew.chg hE id) D0.out
        go_simp
        try go_bits
        first | exact rel_val (Chg.refl _) | (go_simp; exact rel_val (Chg.refl _))
      case a5o8 =>
        rintro a wx hE hin (h5 : a.eval (.tmp 12) = _) (h7 : a.eval (.tmp 14) = _)
        clear hin
        have hcst : ∀ v, a.eval (.const v) = v := fun _ => rfl
        have hfnc : ∀ f, a.eval (.func f) = .func (.func f) #[] #[] := fun _ => rfl
        refine want_yes rfl rfl h5 ?_
        unfold Oper.wp
        generalize a.eval = ρ at *
        go_simp
        try go_bits
        first | exact rel_val (e := .bool false) (Chg.refl _) | (have hx := HNE.out; simp only [hx]; exact rel_val (e := .bool false) (Chg.refl _)) | (simp only [bne_self_eq_false]; exact rel_val (e := .bool false) (Chg.refl _)) | (rw [bne_self_eq_false]; exact rel_val (e := .bool false) (Chg.refl _))
      case a5o9 =>
        rintro a wx hE hin (h5 : a.eval (.tmp 12) = _) (h8 : a.eval (.tmp 15) = _)
        clear hin
        have hcst : ∀ v, a.eval (.const v) = v := fun _ => rfl
        have hfnc : ∀ f, a.eval (.func f) = .func (.func f) #[] #[] := fun _ => rfl
        refine want_none rfl ?_
        unfold Oper.wp
        generalize a.eval = ρ at *
        go_simp
        try go_bits
        first | exact rel_val (Chg.refl _) | (go_simp; exact rel_val (Chg.refl _))
      case a5o10 =>
        rintro a wx hE hin (h9 : a.eval (.tmp 16) = _)
        clear hin
        have hcst : ∀ v, a.eval (.const v) = v := fun _ => rfl
        have hfnc : ∀ f, a.eval (.func f) = .func (.func f) #[] #[] := fun _ => rfl
        refine want_none rfl ?_
        unfold Oper.wp
        generalize a.eval = ρ at *
        go_simp
        try go_bits
        first | exact rel_val (Chg.refl _) | (go_simp; exact rel_val (Chg.refl _))
      case a5o11 =>
        rintro a wx hE hin (h10 : a.eval (.tmp 17) = _)
        have i3 : a.eval (.tmp 3) = .pointer (some ⟨w.heap.size, 0, none⟩) := hin 3 rfl
        clear hin
        have hcst : ∀ v, a.eval (.const v) = v := fun _ => rfl
        have hfnc : ∀ f, a.eval (.func f) = .func (.func f) #[] #[] := fun _ => rfl
        refine want_yes rfl rfl h10 ?_
        unfold Oper.wp
        generalize a.eval = ρ at *
        go_simp
        try go_bits
        first | exact rel_val (Chg.refl _) | (go_simp; exact rel_val (Chg.refl _))
      case a5o12 =>
        rintro a wx hE hin (h10 : a.eval (.tmp 17) = _) (h11 : a.eval (.tmp 18) = _)
        clear hin
        have hcst : ∀ v, a.eval (.const v) = v := fun _ => rfl
        have hfnc : ∀ f, a.eval (.func f) = .func (.func f) #[] #[] := fun _ => rfl
        refine want_yes rfl rfl h10 ?_
        unfold Oper.wp
        generalize a.eval = ρ at *
        have c := Bk.cell (KX1.out.drew.chg hE id) D1.out
        go_simp
        try go_bits
        first | exact rel_val (Chg.refl _) | (go_simp; exact rel_val (Chg.refl _))
      case a5o13 =>
        rintro a wx hE hin (h10 : a.eval (.tmp 17) = _)
        have i0 : a.eval (.tmp 0) = .pointer (some ⟨q, 0, none⟩) := hin 0 rfl
        clear hin
        have hcst : ∀ v, a.eval (.const v) = v := fun _ => rfl
        have hfnc : ∀ f, a.eval (.func f) = .func (.func f) #[] #[] := fun _ => rfl
        refine want_yes rfl rfl h10 ?_
        unfold Oper.wp
        generalize a.eval = ρ at *
        go_simp
        try go_bits
        first | exact rel_val (Chg.refl _) | (go_simp; exact rel_val (Chg.refl _))
      case a5o14 =>
        rintro a wx hE hin (h10 : a.eval (.tmp 17) = _) (h13 : a.eval (.tmp 20) = _)
        clear hin
        have hcst : ∀ v, a.eval (.const v) = v := fun _ => rfl
        have hfnc : ∀ f, a.eval (.func f) = .func (.func f) #[] #[] := fun _ => rfl
        refine want_yes rfl rfl h10 ?_
        unfold Oper.wp
        generalize a.eval = ρ at *
        go_simp
        try go_bits
        first | exact rel_val (Chg.refl _) | (go_simp; exact rel_val (Chg.refl _))
      case a5o15 =>
        rintro a wx hE hin (h10 : a.eval (.tmp 17) = _) (h14 : a.eval (.tmp 21) = _)
        clear hin
        have hcst : ∀ v, a.eval (.const v) = v := fun _ => rfl
        have hfnc : ∀ f, a.eval (.func f) = .func (.func f) #[] #[] := fun _ => rfl
        refine want_yes rfl rfl h10 ?_
        unfold Oper.wp
        generalize a.eval = ρ at *
        go_simp
        try go_bits
        first | exact rel_val (Chg.refl _) | (go_simp; exact rel_val (Chg.refl _))
      case a5o16 =>
        rintro a wx hE hin (h10 : a.eval (.tmp 17) = _) (h15 : a.eval (.tmp 22) = _)
        clear hin
        have hcst : ∀ v, a.eval (.const v) = v := fun _ => rfl
        have hfnc : ∀ f, a.eval (.func f) = .func (.func f) #[] #[] := fun _ => rfl
        refine want_yes rfl rfl h10 ?_
        unfold Oper.wp
        generalize a.eval = ρ at *
        go_simp
        try go_bits
        first | exact rel_val (Chg.refl _) | (go_simp; exact rel_val (Chg.refl _))
      case a5o17 =>
        rintro a wx hE hin (h10 : a.eval (.tmp 17) = _) (h16 : a.eval (.tmp 23) = _)
        clear hin
        have hcst : ∀ v, a.eval (.const v) = v := fun _ => rfl
        have hfnc : ∀ f, a.eval (.func f) = .func (.func f) #[] #[] := fun _ => rfl
        refine want_yes rfl rfl h10 ?_
        unfold Oper.wp
        generalize a.eval = ρ at *
        have c := hE.cell (w := w1.drew) C3.out id
        go_simp
        try go_bits
        first | exact rel_val (Chg.refl _) | (go_simp; exact rel_val (Chg.refl _))
      case a5o18 =>
        rintro a wx hE hin (h10 : a.eval (.tmp 17) = _) (h12 : a.eval (.tmp 19) = _) (h17 : a.eval (.tmp 24) = _)
        clear hin
        have hcst : ∀ v, a.eval (.const v) = v := fun _ => rfl
        have hfnc : ∀ f, a.eval (.func f) = .func (.func f) #[] #[] := fun _ => rfl
        refine want_yes rfl rfl h10 ?_
        unfold Oper.wp
        generalize a.eval = ρ at *
        go_simp
        try go_bits
        first | exact rel_val (e := .bool false) (Chg.refl _) | (have hx := HNE.out; simp only [hx]; exact rel_val (e := .bool false) (Chg.refl _)) | (simp only [bne_self_eq_false]; exact rel_val (e := .bool false) (Chg.refl _)) | (rw [bne_self_eq_false]; exact rel_val (e := .bool false) (Chg.refl _))
      case a5o19 =>
        rintro a wx hE hin (h10 : a.eval (.tmp 17) = _) (h18 : a.eval (.tmp 25) = _)
        clear hin
        have hcst : ∀ v, a.eval (.const v) = v := fun _ => rfl
        have hfnc : ∀ f, a.eval (.func f) = .func (.func f) #[] #[] := fun _ => rfl
        refine want_none rfl ?_
        unfold Oper.wp
        generalize a.eval = ρ at *
        go_simp
        try go_bits
        first | exact rel_val (Chg.refl _) | (go_simp; exact rel_val (Chg.refl _))
      case a5o20 =>
        rintro a wx hE hin (h19 : a.eval (.tmp 26) = _)
        clear hin
        have hcst : ∀ v, a.eval (.const v) = v := fun _ => rfl
        have hfnc : ∀ f, a.eval (.func f) = .func (.func f) #[] #[] := fun _ => rfl
        refine want_none rfl ?_
        unfold Oper.wp
        generalize a.eval = ρ at *
        go_simp
        try go_bits
        first | exact rel_val (Chg.refl _) | (go_simp; exact rel_val (Chg.refl _))
      case a5o21 =>
        rintro a wx hE hin (h20 : a.eval (.tmp 27) = _)
        have i3 : a.eval (.tmp 3) = .pointer (some ⟨w.heap.size, 0, none⟩) := hin 3 rfl
        clear hin
        have hcst : ∀ v, a.eval (.const v) = v := fun _ => rfl
        have hfnc : ∀ f, a.eval (.func f) = .func (.func f) #[] #[] := fun _ => rfl
        refine want_yes rfl rfl h20 ?_
        unfold Oper.wp
        generalize a.eval = ρ at *
        go_simp
        try go_bits
        first | exact rel_val (Chg.refl _) | (go_simp; exact rel_val (Chg.refl _))
      case a5o22 =>
        rintro a wx hE hin (h20 : a.eval (.tmp 27) = _) (h21 : a.eval (.tmp 28) = _)
        clear hin
        have hcst : ∀ v, a.eval (.const v) = v := fun _ => rfl
        have hfnc : ∀ f, a.eval (.func f) = .func (.func f) #[] #[] := fun _ => rfl
        refine want_yes rfl rfl h20 ?_
        unfold Oper.wp
        generalize a.eval = ρ at *
        have c := Bk.cell (KX1.out.drew.chg hE id) D2.out
        go_simp
        try go_bits
        first | exact rel_val (Chg.refl _) | (go_simp; exact rel_val (Chg.refl _))
      case a5o23 =>
        rintro a wx hE hin (h20 : a.eval (.tmp 27) = _)
        have i0 : a.eval (.tmp 0) = .pointer (some ⟨q, 0, none⟩) := hin 0 rfl
        clear hin
        have hcst : ∀ v, a.eval (.const v) = v := fun _ => rfl
        have hfnc : ∀ f, a.eval (.func f) = .func (.func f) #[] #[] := fun _ => rfl
        refine want_yes rfl rfl h20 ?_
        unfold Oper.wp
        generalize a.eval = ρ at *
        go_simp
        try go_bits
        first | exact rel_val (Chg.refl _) | (go_simp; exact rel_val (Chg.refl _))
      case a5o24 =>
        rintro a wx hE hin (h20 : a.eval (.tmp 27) = _) (h23 : a.eval (.tmp 30) = _)
        clear hin
        have hcst : ∀ v, a.eval (.const v) = v := fun _ => rfl
        have hfnc : ∀ f, a.eval (.func f) = .func (.func f) #[] #[] := fun _ => rfl
        refine want_yes rfl rfl h20 ?_
        unfold Oper.wp
        generalize a.eval = ρ at *
        go_simp
        try go_bits
        first | exact rel_val (Chg.refl _) | (go_simp; exact rel_val (Chg.refl _))
      case a5o25 =>
        rintro a wx hE hin (h20 : a.eval (.tmp 27) = _) (h24 : a.eval (.tmp 31) = _)
        clear hin
        have hcst : ∀ v, a.eval (.const v) = v := fun _ => rfl
        have hfnc : ∀ f, a.eval (.func f) = .func (.func f) #[] #[] := fun _ => rfl
        refine want_yes rfl rfl h20 ?_
        unfold Oper.wp
        generalize a.eval = ρ at *
        go_simp
        try go_bits
        first | exact rel_val (Chg.refl _) | (go_simp; exact rel_val (Chg.refl _))
      case a5o26 =>
        rintro a wx hE hin (h20 : a.eval (.tmp 27) = _) (h25 : a.eval (.tmp 32) = _)
        clear hin
        have hcst : ∀ v, a.eval (.const v) = v := fun _ => rfl
        have hfnc : ∀ f, a.eval (.func f) = .func (.func f) #[] #[] := fun _ => rfl
        refine want_yes rfl rfl h20 ?_
        unfold Oper.wp
        generalize a.eval = ρ at *
        go_simp
        try go_bits
        first | exact rel_val (Chg.refl _) | (go_simp; exact rel_val (Chg.refl _))
      case a5o27 =>
        rintro a wx hE hin (h20 : a.eval (.tmp 27) = _) (h26 : a.eval (.tmp 33) = _)
        clear hin
        have hcst : ∀ v, a.eval (.const v) = v := fun _ => rfl
        have hfnc : ∀ f, a.eval (.func f) = .func (.func f) #[] #[] := fun _ => rfl
        refine want_yes rfl rfl h20 ?_
        unfold Oper.wp
        generalize a.eval = ρ at *
        have c := hE.cell (w := w1.drew) C4.out id
        go_simp
        try go_bits
        first | exact rel_val (Chg.refl _) | (go_simp; exact rel_val (Chg.refl _))
      case a5o28 =>
        rintro a wx hE hin (h20 : a.eval (.tmp 27) = _) (h22 : a.eval (.tmp 29) = _) (h27 : a.eval (.tmp 34) = _)
        clear hin
        have hcst : ∀ v, a.eval (.const v) = v := fun _ => rfl
        have hfnc : ∀ f, a.eval (.func f) = .func (.func f) #[] #[] := fun _ => rfl
        refine want_yes rfl rfl h20 ?_
        unfold Oper.wp
        generalize a.eval = ρ at *
        go_simp
        try go_bits
        first | exact rel_val (e := .bool false) (Chg.refl _) | (have hx := HNE.out; simp only [hx]; exact rel_val (e := .bool false) (Chg.refl _)) | (simp only [bne_self_eq_false]; exact rel_val (e := .bool false) (Chg.refl _)) | (rw [bne_self_eq_false]; exact rel_val (e := .bool false) (Chg.refl _))
      case a5o29 =>
        rintro a wx hE hin (h20 : a.eval (.tmp 27) = _) (h28 : a.eval (.tmp 35) = _)
        clear hin
        have hcst : ∀ v, a.eval (.const v) = v := fun _ => rfl
        have hfnc : ∀ f, a.eval (.func f) = .func (.func f) #[] #[] := fun _ => rfl
        refine want_none rfl ?_
        unfold Oper.wp
        generalize a.eval = ρ at *
        go_simp
        try go_bits
        first | exact rel_val (Chg.refl _) | (go_simp; exact rel_val (Chg.refl _))
    case a5fin =>
      intro wx hE
      rintro _ rfl _ rfl _ rfl _ rfl _ rfl _ rfl _ rfl _ rfl _ rfl _ rfl _ rfl _ rfl _ rfl _ rfl _ rfl _ rfl _ rfl _ rfl _ rfl _ rfl _ rfl _ rfl _ rfl _ rfl _ rfl _ rfl _ rfl _ rfl _ rfl _ rfl
      simp only [FinOk, List.take_succ_cons, List.take_zero, List.take_nil, List.drop_succ_cons, List.drop_zero, List.drop_nil, Act.put, List.setIfInBounds_toArray, List.set_cons_succ, List.set_cons_zero]
      have EX : Hid (Below w.heap.size w wx) := E1.out.trans (hE.undrew.below E1.out.size (fun _ _ => id))
      have HS2 := Lib.hid (HS.out.below EX.out)
      have c11 : wx.cell? ⟨q, 11, none⟩ = some (.bool v.tc) := HS2.out.bk.cell rfl
      clear hE
      go_wp2_with fail
      clear c11
      refine (refStop_calls wx q v true ⟨A, n, c, B, m, d, HS2.out⟩).mono ?_
      rintro en w5 ⟨rfl, hst, hch⟩
      have HST := Lib.hid hst
      have CW : Hid (Chg (· = q) w w5) := ((Chg.of_below (S := NoS) EX.out).mono (fun _ hj => hj.elim)).trans hch
      clear hst hch
      go_wp2_with fail
      (try simp only [Exit.inBlock, Exit.then])
      go_ret2
      refine ⟨by rw [HF.out, Bool.true_and]; rfl, ?_, CW.out⟩
      rw [SV.acked, HF.out, if_pos rfl]
      exact HST.out
end Go.Proofs.Ytjkkbkjejcjfiaa
