/- The walk of LabelBack. -/
import Derived.Test.YtnpcehlbboeadaaLabPlain
namespace Go.Proofs.Ytnpcehlbboeadaa
open Go.RowKit
set_option linter.unusedVariables false
set_option linter.unusedSimpArgs false

set_option maxRecDepth 100000 in
set_option maxHeartbeats 8000000 in
theorem labelBack_calls (w : World) (l m : Lab) (b : List UInt8) (hbl : b.length = 32) : Calls Try.prog 9 #[.agg (labC l).toArray, .agg (labC m).toArray, .agg (bts b).toArray] w fun e w' => e = .returned (.bool true) ∧ Below w.heap.size w w' := by
  have HbL := Lib.hid hbl
  clear hbl
  have hlm := enc_inj m l
  have hback := lab_back l
  have HxL := Lib.hid (labEnc_length l)
  have HyL := Lib.hid (labEnc_length m)
  obtain ⟨x, hx⟩ : ∃ x, labEnc l = x := ⟨_, rfl⟩
  obtain ⟨y, hy⟩ : ∃ y, labEnc m = y := ⟨_, rfl⟩
  rw [hx] at hlm hback HxL
  rw [hy] at hlm HyL
  have HX := Lib.hid hx
  have HM := Lib.hid hy
  have HIFF := Lib.hid hlm
  have HBACK := Lib.hid hback
  clear hlm hback hx hy
  go_enter Try.func9, Try.ntmps9
  go_wp2_with (refine wpList_ld rfl 63 (.tmp 3) rfl w.heap.size 0 5 (labC l) (labC l) rfl (((Bk.new w (labC l) _).alloc _).alloc _) (by kernel_rfl) (by kernel_rfl) (Nat.le_refl _) rfl ?_)
  refine calls_at fun w0 hw0 => ?_
  have A0 : Hid (Bk w0 w.heap.size (labC l)) := by rw [← hw0]; exact ((Bk.new w (labC l) _).alloc _).alloc _
  have B0 : Hid (Bk w0 (w.heap.size + 1) (labC m)) := by rw [← hw0]; exact (Bk.new_at (by simp) rfl).alloc _
  have C0 : Hid (Bk w0 (w.heap.size + 1 + 1) (bts b)) := by rw [← hw0]; exact Bk.new_at (by simp) rfl
  have E0 : Hid (Below w.heap.size w w0) := by rw [← hw0]; exact (((Below.refl _ _).alloc (Nat.le_refl _) _).alloc (by simp) _).alloc (by simp; omega) _
  clear hw0
  refine (labEncode_calls l w0).mono ?_
  rintro e w1 ⟨rfl, hb⟩
  rw [HX.out]
  have A1 := Lib.hid (A0.out.below hb)
  have B1 := Lib.hid (B0.out.below hb)
  have C1 := Lib.hid (C0.out.below hb)
  have E1 : Hid (Below w.heap.size w w1) := E0.out.trans (hb.mono E0.out.size)
  clear hb
  go_wp2_with (refine wpList_al rfl 37 rfl (bts (List.replicate 32 0)) (by kernel_rfl) ?_)
  intro g7 w2 hg hb hc hs
  have A2 := Lib.hid (A1.out.chg hc id)
  have B2 := Lib.hid (B1.out.chg hc id)
  have C2 := Lib.hid (C1.out.chg hc id)
  have E2 : Hid (Below w.heap.size w w2) := E1.out.trans (hc.below E1.out.size (fun _ _ => id))
  have G7 : Hid (w.heap.size + 1 + 1 < g7) := by show _ < _; rw [hg]; exact C1.out.lt
  have M2 := Lib.hid hb
  clear hg hb hc hs
  go_wp2_with (refine wpList_st rfl 37 (.tmp 7) (.tmp 11) rfl g7 0 32 (bts (List.replicate 32 0)) (bts x) rfl rfl M2.out (by kernel_rfl) (by rw [bts_length, HxL.out]) (by decide) (one_bts _) ?_)
  intro w3 hb hc
  rw [splice_whole _ _ (by rw [bts_length, HxL.out]; rfl)] at hb
  have hg7 := G7.out
  have A3 := Lib.hid (A2.out.chg hc (by omega))
  have B3 := Lib.hid (B2.out.chg hc (by omega))
  have C3 := Lib.hid (C2.out.chg hc (by omega))
  have E3 : Hid (Below w.heap.size w w3) := E2.out.trans (hc.below E2.out.size (fun _ _ => by omega))
  have M3 := Lib.hid hb
  clear hb hc hg7 A0 A1 A2 B0 B1 B2 C0 C1 C2
  go_wp2_with (refine wpList_ld rfl 37 (.tmp 7) rfl g7 0 32 (bts x) (bts x) rfl M3.out (by kernel_rfl) (by kernel_rfl) (by rw [bts_length, HxL.out]; decide) (by rw [List.drop_zero, List.take_of_length_le (by rw [bts_length, HxL.out]; decide)]) ?_)
  refine (labDecode_calls x w3 HxL.out).mono ?_
  rintro e w4 ⟨rfl, hb⟩
  rw [HBACK.out]
  have A5 := Lib.hid (A3.out.below hb)
  have B5 := Lib.hid (B3.out.below hb)
  have C5 := Lib.hid (C3.out.below hb)
  have M5 := Lib.hid (M3.out.below hb)
  have E5 : Hid (Below w.heap.size w w4) := E3.out.trans (hb.mono E3.out.size)
  clear hb
  go_wp2_with (refine wpList_al rfl 63 rfl (labC zLab) (by kernel_rfl) ?_)
  intro g8 w5 hg hb hc hs
  have A6 := Lib.hid (A5.out.chg hc id)
  have B6 := Lib.hid (B5.out.chg hc id)
  have C6 := Lib.hid (C5.out.chg hc id)
  have M6 := Lib.hid (M5.out.chg hc id)
  have E6 : Hid (Below w.heap.size w w5) := E5.out.trans (hc.below E5.out.size (fun _ _ => id))
  have G87 : Hid (g7 < g8) := by show _ < _; rw [hg]; exact M5.out.lt
  have G8 : Hid (w.heap.size + 1 + 1 < g8) := by show _ < _; rw [hg]; exact C5.out.lt
  have N6 := Lib.hid hb
  clear hg hb hc hs
  go_wp2_with (refine wpList_st rfl 63 (.tmp 8) (.tmp 15) rfl g8 0 5 (labC zLab) (labC l) rfl rfl N6.out (by kernel_rfl) rfl (by decide) (one_lab _) ?_)
  intro w6 hb hc
  rw [splice_whole (labC zLab) (labC l) rfl] at hb
  have hg8 := G8.out
  have hg87 := G87.out
  have A4 := Lib.hid (A6.out.chg hc (by omega))
  have B4 := Lib.hid (B6.out.chg hc (by omega))
  have C4 := Lib.hid (C6.out.chg hc (by omega))
  have M4 := Lib.hid (M6.out.chg hc (by omega))
  have E4 : Hid (Below w.heap.size w w6) := E6.out.trans (hc.below E6.out.size (fun _ _ => by omega))
  have N4 := Lib.hid hb
  clear hb hc hg8 hg87 A5 A6 B5 B6 C5 C6 M5 M6 E5 E6 N6 A3 B3 C3 M3 M2
  go_wp2_with fail
  by_cases hq : l = m
  · have HLM := Lib.hid hq
    have HYX : Hid (y = x) := HIFF.out.2 hq
    clear hq
    apply wp_region_rel 17 (Chg NoS) [(Veq _), (Veq _), (Veq _), (Veq _), (Veq _), (Veq _), (Veq _), (Veq _), (Veq _), (Veq _), (Veq _), (Veq _), (Veq _), (Veq _), (Veq _), (Veq _), (Veq _)] [[], [0], [1], [2], [2], [2, 3, 4], [2, 5], [6], [7], [7, 8], [7], [7, 9, 10], [7], [7], [7, 12, 13], [7, 11, 14], [7, 15]] [17, 18, 19, 20, 21, 22, 23, 24, 25, 26, 27, 28, 29, 30, 31, 32, 33] (by kernel_rfl) (by kernel_rfl) rfl rfl rfl Chg.refl (fun _ _ _ => Chg.trans) ⟨Veq.lasts, Veq.lasts, Veq.lasts, Veq.lasts, Veq.lasts, Veq.lasts, Veq.lasts, Veq.lasts, Veq.lasts, Veq.lasts, Veq.lasts, Veq.lasts, Veq.lasts, Veq.lasts, Veq.lasts, Veq.lasts, Veq.lasts, trivial⟩ ?aops ?afin
    case aops =>
      refine ⟨?ao0, ?ao1, ?ao2, ?ao3, ?ao4, ?ao5, ?ao6, ?ao7, ?ao8, ?ao9, ?ao10, ?ao11, ?ao12, ?ao13, ?ao14, ?ao15, ?ao16, trivial⟩
      case ao0 =>
        intro a wx hE hin
        have i9 : a.eval (.tmp 9) = .int .i64 0 := hin 9 rfl
        clear hin
        have hcst : ∀ v, a.eval (.const v) = v := fun _ => rfl
        have hfnc : ∀ f, a.eval (.func f) = .func (.func f) #[] #[] := fun _ => rfl
        refine want_none rfl ?_
        unfold Oper.wp
        generalize a.eval = ρ at *
        go_simp
        try go_bits
        first | exact rel_val (Chg.refl _) | (go_simp; exact rel_val (Chg.refl _))
      case ao1 =>
        rintro a wx hE hin (h0 : a.eval (.tmp 17) = _)
        clear hin
        have hcst : ∀ v, a.eval (.const v) = v := fun _ => rfl
        have hfnc : ∀ f, a.eval (.func f) = .func (.func f) #[] #[] := fun _ => rfl
        refine want_none rfl ?_
        unfold Oper.wp
        generalize a.eval = ρ at *
        go_simp
        try go_bits
        first | exact rel_val (Chg.refl _) | (go_simp; exact rel_val (Chg.refl _))
      case ao2 =>
        rintro a wx hE hin (h1 : a.eval (.tmp 18) = _)
        clear hin
        have hcst : ∀ v, a.eval (.const v) = v := fun _ => rfl
        have hfnc : ∀ f, a.eval (.func f) = .func (.func f) #[] #[] := fun _ => rfl
        refine want_none rfl ?_
        unfold Oper.wp
        generalize a.eval = ρ at *
        go_simp
        try go_bits
        first | exact rel_val (Chg.refl _) | (go_simp; exact rel_val (Chg.refl _))
      case ao3 =>
        rintro a wx hE hin (h2 : a.eval (.tmp 19) = _)
        have i8 : a.eval (.tmp 8) = .pointer (some ⟨g8, 0, none⟩) := hin 8 rfl
        clear hin
        have hcst : ∀ v, a.eval (.const v) = v := fun _ => rfl
        have hfnc : ∀ f, a.eval (.func f) = .func (.func f) #[] #[] := fun _ => rfl
        refine want_yes rfl rfl h2 ?_
        exact wp_ld 63 _ rfl g8 0 5 (labC l) (labC l) i8 ((N4.out.drew).chg hE id) (by kernel_rfl) (by kernel_rfl) (Nat.le_refl _) rfl (rel_val (Chg.refl _))
      case ao4 =>
        rintro a wx hE hin (h2 : a.eval (.tmp 19) = _)
        have i3 : a.eval (.tmp 3) = .pointer (some ⟨w.heap.size, 0, none⟩) := hin 3 rfl
        clear hin
        have hcst : ∀ v, a.eval (.const v) = v := fun _ => rfl
        have hfnc : ∀ f, a.eval (.func f) = .func (.func f) #[] #[] := fun _ => rfl
        refine want_yes rfl rfl h2 ?_
        exact wp_ld 63 _ rfl w.heap.size 0 5 (labC l) (labC l) i3 ((A4.out.drew).chg hE id) (by kernel_rfl) (by kernel_rfl) (Nat.le_refl _) rfl (rel_val (Chg.refl _))
      case ao5 =>
        rintro a wx hE hin (h2 : a.eval (.tmp 19) = _) (h3 : a.eval (.tmp 20) = _) (h4 : a.eval (.tmp 21) = _)
        clear hin
        have hcst : ∀ v, a.eval (.const v) = v := fun _ => rfl
        have hfnc : ∀ f, a.eval (.func f) = .func (.func f) #[] #[] := fun _ => rfl
        refine want_yes rfl rfl h2 ?_
        exact wp_eq_lab true 63 _ _ rfl l l h3 h4 (by rw [show (true ^^ decide (l = l)) = false by simp]; exact rel_val (e := .bool false) (Chg.refl _))
      case ao6 =>
        rintro a wx hE hin (h2 : a.eval (.tmp 19) = _) (h5 : a.eval (.tmp 22) = _)
        clear hin
        have hcst : ∀ v, a.eval (.const v) = v := fun _ => rfl
        have hfnc : ∀ f, a.eval (.func f) = .func (.func f) #[] #[] := fun _ => rfl
        refine want_none rfl ?_
        unfold Oper.wp
        generalize a.eval = ρ at *
        go_simp
        try go_bits
        first | exact rel_val (Chg.refl _) | (go_simp; exact rel_val (Chg.refl _))
      case ao7 =>
        rintro a wx hE hin (h6 : a.eval (.tmp 23) = _)
        clear hin
        have hcst : ∀ v, a.eval (.const v) = v := fun _ => rfl
        have hfnc : ∀ f, a.eval (.func f) = .func (.func f) #[] #[] := fun _ => rfl
        refine want_none rfl ?_
        unfold Oper.wp
        generalize a.eval = ρ at *
        go_simp
        try go_bits
        first | exact rel_val (Chg.refl _) | (go_simp; exact rel_val (Chg.refl _))
      case ao8 =>
        rintro a wx hE hin (h7 : a.eval (.tmp 24) = _)
        have i4 : a.eval (.tmp 4) = .pointer (some ⟨(w.heap.size + 1), 0, none⟩) := hin 4 rfl
        clear hin
        have hcst : ∀ v, a.eval (.const v) = v := fun _ => rfl
        have hfnc : ∀ f, a.eval (.func f) = .func (.func f) #[] #[] := fun _ => rfl
        refine want_yes rfl rfl h7 ?_
        exact wp_ld 63 _ rfl (w.heap.size + 1) 0 5 (labC m) (labC m) i4 ((B4.out.drew).chg hE id) (by kernel_rfl) (by kernel_rfl) (Nat.le_refl _) rfl (rel_val (Chg.refl _))
      case ao9 =>
        rintro a wx hE hin (h7 : a.eval (.tmp 24) = _) (h8 : a.eval (.tmp 25) = _)
        clear hin
        have hcst : ∀ v, a.eval (.const v) = v := fun _ => rfl
        have hfnc : ∀ f, a.eval (.func f) = .func (.func f) #[] #[] := fun _ => rfl
        refine want_yes rfl rfl h7 ?_
        unfold Oper.wp
        generalize a.eval = ρ at *
        go_simp
        refine (labEncode_calls m wx).mono ?_
        rintro e w' ⟨rfl, hb⟩
        rw [HM.out]
        exact rel_val (.of_below hb)
      case ao10 =>
        rintro a wx hE hin (h7 : a.eval (.tmp 24) = _)
        have i7 : a.eval (.tmp 7) = .pointer (some ⟨g7, 0, none⟩) := hin 7 rfl
        clear hin
        have hcst : ∀ v, a.eval (.const v) = v := fun _ => rfl
        have hfnc : ∀ f, a.eval (.func f) = .func (.func f) #[] #[] := fun _ => rfl
        refine want_yes rfl rfl h7 ?_
        exact wp_ld 37 _ rfl g7 0 32 (bts x) (bts x) i7 ((M4.out.drew).chg hE id) (by kernel_rfl) (by kernel_rfl) (by rw [bts_length, HxL.out]; decide) (by rw [List.drop_zero, List.take_of_length_le (by rw [bts_length, HxL.out]; decide)]) (rel_val (Chg.refl _))
      case ao11 =>
        rintro a wx hE hin (h7 : a.eval (.tmp 24) = _) (h9 : a.eval (.tmp 26) = _) (h10 : a.eval (.tmp 27) = _)
        clear hin
        have hcst : ∀ v, a.eval (.const v) = v := fun _ => rfl
        have hfnc : ∀ f, a.eval (.func f) = .func (.func f) #[] #[] := fun _ => rfl
        refine want_yes rfl rfl h7 ?_
        exact wp_eq_bytes false 37 37 _ _ rfl 5 32 Try.underlying37 Try.underlying5 (by kernel_rfl) (by kernel_rfl) y x h9 h10 HyL.out HxL.out (by rw [show (false ^^ decide (y = x)) = true by simp [HYX.out]]; exact rel_val (e := .bool true) (Chg.refl _))
      case ao12 =>
        rintro a wx hE hin (h7 : a.eval (.tmp 24) = _)
        have i3 : a.eval (.tmp 3) = .pointer (some ⟨w.heap.size, 0, none⟩) := hin 3 rfl
        clear hin
        have hcst : ∀ v, a.eval (.const v) = v := fun _ => rfl
        have hfnc : ∀ f, a.eval (.func f) = .func (.func f) #[] #[] := fun _ => rfl
        refine want_yes rfl rfl h7 ?_
        exact wp_ld 63 _ rfl w.heap.size 0 5 (labC l) (labC l) i3 ((A4.out.drew).chg hE id) (by kernel_rfl) (by kernel_rfl) (Nat.le_refl _) rfl (rel_val (Chg.refl _))
      case ao13 =>
        rintro a wx hE hin (h7 : a.eval (.tmp 24) = _)
        have i4 : a.eval (.tmp 4) = .pointer (some ⟨(w.heap.size + 1), 0, none⟩) := hin 4 rfl
        clear hin
        have hcst : ∀ v, a.eval (.const v) = v := fun _ => rfl
        have hfnc : ∀ f, a.eval (.func f) = .func (.func f) #[] #[] := fun _ => rfl
        refine want_yes rfl rfl h7 ?_
        exact wp_ld 63 _ rfl (w.heap.size + 1) 0 5 (labC m) (labC m) i4 ((B4.out.drew).chg hE id) (by kernel_rfl) (by kernel_rfl) (Nat.le_refl _) rfl (rel_val (Chg.refl _))
      case ao14 =>
        rintro a wx hE hin (h7 : a.eval (.tmp 24) = _) (h12 : a.eval (.tmp 29) = _) (h13 : a.eval (.tmp 30) = _)
        clear hin
        have hcst : ∀ v, a.eval (.const v) = v := fun _ => rfl
        have hfnc : ∀ f, a.eval (.func f) = .func (.func f) #[] #[] := fun _ => rfl
        refine want_yes rfl rfl h7 ?_
        exact wp_eq_lab false 63 _ _ rfl l m h12 h13 (by rw [show (false ^^ decide (l = m)) = true by simp [HLM.out]]; exact rel_val (e := .bool true) (Chg.refl _))
      case ao15 =>
        rintro a wx hE hin (h7 : a.eval (.tmp 24) = _) (h11 : a.eval (.tmp 28) = _) (h14 : a.eval (.tmp 31) = _)
        clear hin
        have hcst : ∀ v, a.eval (.const v) = v := fun _ => rfl
        have hfnc : ∀ f, a.eval (.func f) = .func (.func f) #[] #[] := fun _ => rfl
        refine want_yes rfl rfl h7 ?_
        unfold Oper.wp
        generalize a.eval = ρ at *
        go_simp
        try go_bits
        first | exact rel_val (e := .bool false) (Chg.refl _) | (simp only [bne_self_eq_false]; exact rel_val (e := .bool false) (Chg.refl _))
      case ao16 =>
        rintro a wx hE hin (h7 : a.eval (.tmp 24) = _) (h15 : a.eval (.tmp 32) = _)
        clear hin
        have hcst : ∀ v, a.eval (.const v) = v := fun _ => rfl
        have hfnc : ∀ f, a.eval (.func f) = .func (.func f) #[] #[] := fun _ => rfl
        refine want_none rfl ?_
        unfold Oper.wp
        generalize a.eval = ρ at *
        go_simp
        try go_bits
        first | exact rel_val (Chg.refl _) | (go_simp; exact rel_val (Chg.refl _))
    case afin =>
      intro wx hE
      rintro _ rfl _ rfl _ rfl _ rfl _ rfl _ rfl _ rfl _ rfl _ rfl _ rfl _ rfl _ rfl _ rfl _ rfl _ rfl _ rfl _ rfl
      simp only [FinOk, List.take_succ_cons, List.take_zero, List.take_nil, List.drop_succ_cons, List.drop_zero, List.drop_nil, Act.put, List.setIfInBounds_toArray, List.set_cons_succ, List.set_cons_zero]
      have C5 := Lib.hid ((C4.out.drew).chg hE id)
      have N5 := Lib.hid ((N4.out.drew).chg hE id)
      have E5 : Hid (Below w.heap.size w wx) := E4.out.trans ((hE.undrew).below (B := w.heap.size) E4.out.size (fun _ _ => id))
      clear hE
      go_wp2_with (refine wpList_ld rfl 37 (.tmp 5) rfl (w.heap.size + 1 + 1) 0 32 (bts b) (bts b) rfl C5.out (by kernel_rfl) (by kernel_rfl) (by rw [bts_length, HbL.out]; decide) (by rw [List.drop_zero, List.take_of_length_le (by rw [bts_length, HbL.out]; decide)]) ?_)
      refine (labDecode_calls b wx HbL.out).mono ?_
      rintro e w6 ⟨rfl, hb⟩
      have C6 := Lib.hid (C5.out.below hb)
      have N6 := Lib.hid (N5.out.below hb)
      have E6 : Hid (Below w.heap.size w w6) := E5.out.trans (hb.mono E5.out.size)
      have hok := dec_ok b
      obtain ⟨kk, hkk⟩ : ∃ kk, (labDec b).1 = kk := ⟨_, rfl⟩
      obtain ⟨ee, hee⟩ : ∃ ee, (labDec b).2 = ee := ⟨_, rfl⟩
      rw [hkk, hee] at hok ⊢
      clear hb hkk hee
      have HOK := Lib.hid hok
      clear hok
      go_wp2_with (refine wpList_st rfl 63 (.tmp 8) (.tmp 37) rfl g8 0 5 (labC l) (labC kk) rfl rfl N6.out (by kernel_rfl) rfl (by exact Nat.le_refl _) (one_lab _) ?_)
      intro w7 hb hc
      rw [splice_whole (labC l) (labC kk) rfl] at hb
      have hg8 := G8.out
      have C7 := Lib.hid (C6.out.chg hc (by omega))
      have E7 : Hid (Below w.heap.size w w7) := E6.out.trans (hc.below E6.out.size (fun _ _ => by omega))
      have N7 := Lib.hid hb
      clear hb hc hg8
      go_wp2_with fail
      rcases HOK.out with he | ⟨he, hkb⟩ | ⟨he, hbz, hkz⟩
      · have HEE : Hid ((ee == 0) = false) := by show _ = _; rw [beq_eq_false_iff_ne]; exact he
        clear he
        apply wp_region_rel 18 (Chg NoS) [(Veq _), (Veq _), (Veq _), (Veq undef), (Veq undef), (Veq undef), (Veq undef), (Veq _), (Veq _), (Veq undef), (Veq undef), (Veq undef), (Veq undef), (Veq undef), (Veq undef), (Veq undef), (Veq undef), (Veq _)] [[], [0], [1], [2], [2], [2], [2], [2, 6], [7], [8], [8], [8], [8], [12], [12], [12], [8], [8, 16]] [39, 40, 41, 42, 43, 44, 45, 46, 47, 48, 49, 50, 51, 52, 53, 54, 55, 56] (by kernel_rfl) (by kernel_rfl) rfl rfl rfl Chg.refl (fun _ _ _ => Chg.trans) ⟨Veq.lasts, Veq.lasts, Veq.lasts, Veq.lasts, Veq.lasts, Veq.lasts, Veq.lasts, Veq.lasts, Veq.lasts, Veq.lasts, Veq.lasts, Veq.lasts, Veq.lasts, Veq.lasts, Veq.lasts, Veq.lasts, Veq.lasts, Veq.lasts, trivial⟩ ?pxops ?pxfin
        case pxops =>
          refine ⟨?pxo0, ?pxo1, ?pxo2, ?pxo3, ?pxo4, ?pxo5, ?pxo6, ?pxo7, ?pxo8, ?pxo9, ?pxo10, ?pxo11, ?pxo12, ?pxo13, ?pxo14, ?pxo15, ?pxo16, ?pxo17, trivial⟩
          case pxo0 =>
            intro a wx hE hin
            have i9 : a.eval (.tmp 9) = .int .i64 ee := hin 9 rfl
            clear hin
            have hcst : ∀ v, a.eval (.const v) = v := fun _ => rfl
            have hfnc : ∀ f, a.eval (.func f) = .func (.func f) #[] #[] := fun _ => rfl
            refine want_none rfl ?_
            unfold Oper.wp
            generalize a.eval = ρ at *
            go_simp
            try go_bits
            first | exact rel_val (Chg.refl _) | (go_simp; exact rel_val (Chg.refl _))
          case pxo1 =>
            rintro a wx hE hin (h0 : a.eval (.tmp 39) = _)
            clear hin
            have hcst : ∀ v, a.eval (.const v) = v := fun _ => rfl
            have hfnc : ∀ f, a.eval (.func f) = .func (.func f) #[] #[] := fun _ => rfl
            refine want_none rfl ?_
            unfold Oper.wp
            generalize a.eval = ρ at *
            go_simp
            try go_bits
            rw [HEE.out]
            exact rel_val (e := .bool false) (Chg.refl _)
          case pxo2 =>
            rintro a wx hE hin (h1 : a.eval (.tmp 40) = _)
            clear hin
            have hcst : ∀ v, a.eval (.const v) = v := fun _ => rfl
            have hfnc : ∀ f, a.eval (.func f) = .func (.func f) #[] #[] := fun _ => rfl
            refine want_none rfl ?_
            unfold Oper.wp
            generalize a.eval = ρ at *
            go_simp
            try go_bits
            first | exact rel_val (Chg.refl _) | (go_simp; exact rel_val (Chg.refl _))
          case pxo3 =>
            rintro a wx hE hin (h2 : a.eval (.tmp 41) = _)
            clear hin
            exact want_not rfl rfl h2 rfl
          case pxo4 =>
            rintro a wx hE hin (h2 : a.eval (.tmp 41) = _)
            clear hin
            exact want_not rfl rfl h2 rfl
          case pxo5 =>
            rintro a wx hE hin (h2 : a.eval (.tmp 41) = _)
            clear hin
            exact want_not rfl rfl h2 rfl
          case pxo6 =>
            rintro a wx hE hin (h2 : a.eval (.tmp 41) = _)
            clear hin
            exact want_not rfl rfl h2 rfl
          case pxo7 =>
            rintro a wx hE hin (h2 : a.eval (.tmp 41) = _) (h6 : a.eval (.tmp 45) = _)
            clear hin
            have hcst : ∀ v, a.eval (.const v) = v := fun _ => rfl
            have hfnc : ∀ f, a.eval (.func f) = .func (.func f) #[] #[] := fun _ => rfl
            refine want_none rfl ?_
            unfold Oper.wp
            generalize a.eval = ρ at *
            go_simp
            try go_bits
            first | exact rel_val (Chg.refl _) | (go_simp; exact rel_val (Chg.refl _))
          case pxo8 =>
            rintro a wx hE hin (h7 : a.eval (.tmp 46) = _)
            clear hin
            have hcst : ∀ v, a.eval (.const v) = v := fun _ => rfl
            have hfnc : ∀ f, a.eval (.func f) = .func (.func f) #[] #[] := fun _ => rfl
            refine want_none rfl ?_
            unfold Oper.wp
            generalize a.eval = ρ at *
            go_simp
            try go_bits
            first | exact rel_val (Chg.refl _) | (go_simp; exact rel_val (Chg.refl _))
          case pxo9 =>
            rintro a wx hE hin (h8 : a.eval (.tmp 47) = _)
            clear hin
            exact want_not rfl rfl h8 rfl
          case pxo10 =>
            rintro a wx hE hin (h8 : a.eval (.tmp 47) = _)
            clear hin
            exact want_not rfl rfl h8 rfl
          case pxo11 =>
            rintro a wx hE hin (h8 : a.eval (.tmp 47) = _)
            clear hin
            exact want_not rfl rfl h8 rfl
          case pxo12 =>
            rintro a wx hE hin (h8 : a.eval (.tmp 47) = _)
            clear hin
            exact want_not rfl rfl h8 rfl
          case pxo13 =>
            rintro a wx hE hin (h12 : a.eval (.tmp 51) = _)
            clear hin
            exact want_undef rfl rfl h12 rfl
          case pxo14 =>
            rintro a wx hE hin (h12 : a.eval (.tmp 51) = _)
            clear hin
            exact want_undef rfl rfl h12 rfl
          case pxo15 =>
            rintro a wx hE hin (h12 : a.eval (.tmp 51) = _)
            clear hin
            exact want_undef rfl rfl h12 rfl
          case pxo16 =>
            rintro a wx hE hin (h8 : a.eval (.tmp 47) = _)
            clear hin
            exact want_not rfl rfl h8 rfl
          case pxo17 =>
            rintro a wx hE hin (h8 : a.eval (.tmp 47) = _) (h16 : a.eval (.tmp 55) = _)
            clear hin
            have hcst : ∀ v, a.eval (.const v) = v := fun _ => rfl
            have hfnc : ∀ f, a.eval (.func f) = .func (.func f) #[] #[] := fun _ => rfl
            refine want_none rfl ?_
            unfold Oper.wp
            generalize a.eval = ρ at *
            go_simp
            try go_bits
            first | exact rel_val (Chg.refl _) | (go_simp; exact rel_val (Chg.refl _))
        case pxfin =>
          intro wx hE
          rintro _ rfl _ rfl _ rfl _ rfl _ rfl _ rfl _ rfl _ rfl _ rfl _ rfl _ rfl _ rfl _ rfl _ rfl _ rfl _ rfl _ rfl _ rfl
          simp only [FinOk, List.take_succ_cons, List.take_zero, List.take_nil, List.drop_succ_cons, List.drop_zero, List.drop_nil, Act.put, List.setIfInBounds_toArray, List.set_cons_succ, List.set_cons_zero]
          have E8 : Hid (Below w.heap.size w wx) := E7.out.trans ((hE.undrew).below (B := w.heap.size) E7.out.size (fun _ _ => id))
          clear hE
          go_wp2_with fail
          refine (wakes7_calls wx).mono ?_
          rintro e w9 ⟨rfl, hb⟩
          have E9 : Hid (Below w.heap.size w w9) := E8.out.trans (hb.mono E8.out.size)
          clear hb
          go_wp2
          go_ret
          exact ⟨rfl, E9.out⟩
      · subst he
        have HKB := Lib.hid hkb
        clear hkb
        apply wp_region_rel 18 (Chg NoS) [(Veq _), (Veq _), (Veq _), (Veq _), (Veq _), (Veq _), (Veq _), (Veq _), (Veq _), (Veq undef), (Veq undef), (Veq undef), (Veq undef), (Veq undef), (Veq undef), (Veq undef), (Veq undef), (Veq _)] [[], [0], [1], [2], [2, 3], [2], [2, 4, 5], [2, 6], [7], [8], [8], [8], [8], [12], [12], [12], [8], [8, 16]] [39, 40, 41, 42, 43, 44, 45, 46, 47, 48, 49, 50, 51, 52, 53, 54, 55, 56] (by kernel_rfl) (by kernel_rfl) rfl rfl rfl Chg.refl (fun _ _ _ => Chg.trans) ⟨Veq.lasts, Veq.lasts, Veq.lasts, Veq.lasts, Veq.lasts, Veq.lasts, Veq.lasts, Veq.lasts, Veq.lasts, Veq.lasts, Veq.lasts, Veq.lasts, Veq.lasts, Veq.lasts, Veq.lasts, Veq.lasts, Veq.lasts, Veq.lasts, trivial⟩ ?pyops ?pyfin
        case pyops =>
          refine ⟨?pyo0, ?pyo1, ?pyo2, ?pyo3, ?pyo4, ?pyo5, ?pyo6, ?pyo7, ?pyo8, ?pyo9, ?pyo10, ?pyo11, ?pyo12, ?pyo13, ?pyo14, ?pyo15, ?pyo16, ?pyo17, trivial⟩
          case pyo0 =>
            intro a wx hE hin
            have i9 : a.eval (.tmp 9) = .int .i64 0 := hin 9 rfl
            clear hin
            have hcst : ∀ v, a.eval (.const v) = v := fun _ => rfl
            have hfnc : ∀ f, a.eval (.func f) = .func (.func f) #[] #[] := fun _ => rfl
            refine want_none rfl ?_
            unfold Oper.wp
            generalize a.eval = ρ at *
            go_simp
            try go_bits
            first | exact rel_val (Chg.refl _) | (go_simp; exact rel_val (Chg.refl _))
          case pyo1 =>
            rintro a wx hE hin (h0 : a.eval (.tmp 39) = _)
            clear hin
            have hcst : ∀ v, a.eval (.const v) = v := fun _ => rfl
            have hfnc : ∀ f, a.eval (.func f) = .func (.func f) #[] #[] := fun _ => rfl
            refine want_none rfl ?_
            unfold Oper.wp
            generalize a.eval = ρ at *
            go_simp
            try go_bits
            first | exact rel_val (Chg.refl _) | (go_simp; exact rel_val (Chg.refl _))
          case pyo2 =>
            rintro a wx hE hin (h1 : a.eval (.tmp 40) = _)
            clear hin
            have hcst : ∀ v, a.eval (.const v) = v := fun _ => rfl
            have hfnc : ∀ f, a.eval (.func f) = .func (.func f) #[] #[] := fun _ => rfl
            refine want_none rfl ?_
            unfold Oper.wp
            generalize a.eval = ρ at *
            go_simp
            try go_bits
            first | exact rel_val (Chg.refl _) | (go_simp; exact rel_val (Chg.refl _))
          case pyo3 =>
            rintro a wx hE hin (h2 : a.eval (.tmp 41) = _)
            have i8 : a.eval (.tmp 8) = .pointer (some ⟨g8, 0, none⟩) := hin 8 rfl
            clear hin
            have hcst : ∀ v, a.eval (.const v) = v := fun _ => rfl
            have hfnc : ∀ f, a.eval (.func f) = .func (.func f) #[] #[] := fun _ => rfl
            refine want_yes rfl rfl h2 ?_
            exact wp_ld 63 _ rfl g8 0 5 (labC kk) (labC kk) i8 ((N7.out.drew).chg hE id) (by kernel_rfl) (by kernel_rfl) (Nat.le_refl _) rfl (rel_val (Chg.refl _))
          case pyo4 =>
            rintro a wx hE hin (h2 : a.eval (.tmp 41) = _) (h3 : a.eval (.tmp 42) = _)
            clear hin
            have hcst : ∀ v, a.eval (.const v) = v := fun _ => rfl
            have hfnc : ∀ f, a.eval (.func f) = .func (.func f) #[] #[] := fun _ => rfl
            refine want_yes rfl rfl h2 ?_
            unfold Oper.wp
            generalize a.eval = ρ at *
            go_simp
            refine (labEncode_calls kk wx).mono ?_
            rintro e w' ⟨rfl, hb⟩
            exact rel_val (.of_below hb)
          case pyo5 =>
            rintro a wx hE hin (h2 : a.eval (.tmp 41) = _)
            have i5 : a.eval (.tmp 5) = .pointer (some ⟨(w.heap.size + 1 + 1), 0, none⟩) := hin 5 rfl
            clear hin
            have hcst : ∀ v, a.eval (.const v) = v := fun _ => rfl
            have hfnc : ∀ f, a.eval (.func f) = .func (.func f) #[] #[] := fun _ => rfl
            refine want_yes rfl rfl h2 ?_
            exact wp_ld 37 _ rfl (w.heap.size + 1 + 1) 0 32 (bts b) (bts b) i5 ((C7.out.drew).chg hE id) (by kernel_rfl) (by kernel_rfl) (by rw [bts_length, HbL.out]; decide) (by rw [List.drop_zero, List.take_of_length_le (by rw [bts_length, HbL.out]; decide)]) (rel_val (Chg.refl _))
          case pyo6 =>
            rintro a wx hE hin (h2 : a.eval (.tmp 41) = _) (h4 : a.eval (.tmp 43) = _) (h5 : a.eval (.tmp 44) = _)
            clear hin
            have hcst : ∀ v, a.eval (.const v) = v := fun _ => rfl
            have hfnc : ∀ f, a.eval (.func f) = .func (.func f) #[] #[] := fun _ => rfl
            refine want_yes rfl rfl h2 ?_
            exact wp_eq_bytes true 37 37 _ _ rfl 5 32 Try.underlying37 Try.underlying5 (by kernel_rfl) (by kernel_rfl) (labEnc kk) b h4 h5 (labEnc_length kk) HbL.out (by rw [show (true ^^ decide ((labEnc kk) = b)) = false by simp [HKB.out]]; exact rel_val (e := .bool false) (Chg.refl _))
          case pyo7 =>
            rintro a wx hE hin (h2 : a.eval (.tmp 41) = _) (h6 : a.eval (.tmp 45) = _)
            clear hin
            have hcst : ∀ v, a.eval (.const v) = v := fun _ => rfl
            have hfnc : ∀ f, a.eval (.func f) = .func (.func f) #[] #[] := fun _ => rfl
            refine want_none rfl ?_
            unfold Oper.wp
            generalize a.eval = ρ at *
            go_simp
            try go_bits
            first | exact rel_val (Chg.refl _) | (go_simp; exact rel_val (Chg.refl _))
          case pyo8 =>
            rintro a wx hE hin (h7 : a.eval (.tmp 46) = _)
            clear hin
            have hcst : ∀ v, a.eval (.const v) = v := fun _ => rfl
            have hfnc : ∀ f, a.eval (.func f) = .func (.func f) #[] #[] := fun _ => rfl
            refine want_none rfl ?_
            unfold Oper.wp
            generalize a.eval = ρ at *
            go_simp
            try go_bits
            first | exact rel_val (Chg.refl _) | (go_simp; exact rel_val (Chg.refl _))
          case pyo9 =>
            rintro a wx hE hin (h8 : a.eval (.tmp 47) = _)
            clear hin
            exact want_not rfl rfl h8 rfl
          case pyo10 =>
            rintro a wx hE hin (h8 : a.eval (.tmp 47) = _)
            clear hin
            exact want_not rfl rfl h8 rfl
          case pyo11 =>
            rintro a wx hE hin (h8 : a.eval (.tmp 47) = _)
            clear hin
            exact want_not rfl rfl h8 rfl
          case pyo12 =>
            rintro a wx hE hin (h8 : a.eval (.tmp 47) = _)
            clear hin
            exact want_not rfl rfl h8 rfl
          case pyo13 =>
            rintro a wx hE hin (h12 : a.eval (.tmp 51) = _)
            clear hin
            exact want_undef rfl rfl h12 rfl
          case pyo14 =>
            rintro a wx hE hin (h12 : a.eval (.tmp 51) = _)
            clear hin
            exact want_undef rfl rfl h12 rfl
          case pyo15 =>
            rintro a wx hE hin (h12 : a.eval (.tmp 51) = _)
            clear hin
            exact want_undef rfl rfl h12 rfl
          case pyo16 =>
            rintro a wx hE hin (h8 : a.eval (.tmp 47) = _)
            clear hin
            exact want_not rfl rfl h8 rfl
          case pyo17 =>
            rintro a wx hE hin (h8 : a.eval (.tmp 47) = _) (h16 : a.eval (.tmp 55) = _)
            clear hin
            have hcst : ∀ v, a.eval (.const v) = v := fun _ => rfl
            have hfnc : ∀ f, a.eval (.func f) = .func (.func f) #[] #[] := fun _ => rfl
            refine want_none rfl ?_
            unfold Oper.wp
            generalize a.eval = ρ at *
            go_simp
            try go_bits
            first | exact rel_val (Chg.refl _) | (go_simp; exact rel_val (Chg.refl _))
        case pyfin =>
          intro wx hE
          rintro _ rfl _ rfl _ rfl _ rfl _ rfl _ rfl _ rfl _ rfl _ rfl _ rfl _ rfl _ rfl _ rfl _ rfl _ rfl _ rfl _ rfl _ rfl
          simp only [FinOk, List.take_succ_cons, List.take_zero, List.take_nil, List.drop_succ_cons, List.drop_zero, List.drop_nil, Act.put, List.setIfInBounds_toArray, List.set_cons_succ, List.set_cons_zero]
          have E8 : Hid (Below w.heap.size w wx) := E7.out.trans ((hE.undrew).below (B := w.heap.size) E7.out.size (fun _ _ => id))
          clear hE
          go_wp2_with fail
          refine (wakes7_calls wx).mono ?_
          rintro e w9 ⟨rfl, hb⟩
          have E9 : Hid (Below w.heap.size w w9) := E8.out.trans (hb.mono E8.out.size)
          clear hb
          go_wp2
          go_ret
          exact ⟨rfl, E9.out⟩
      · subst he
        have HKZ := Lib.hid hkz
        have HBZ := Lib.hid hbz
        have HKN : Hid (labEnc kk ≠ b) := by show _ ≠ _; rw [hbz]; exact enc_not_zero kk
        clear hkz hbz
        apply wp_region_rel 18 (Chg NoS) [(Veq _), (Veq _), (Veq _), (Veq _), (Veq _), (Veq _), (Veq _), (Veq _), (Veq _), (Veq _), (Veq _), (Veq _), (Veq _), (Veq _), (Veq _), (Veq _), (Veq _), (Veq _)] [[], [0], [1], [2], [2, 3], [2], [2, 4, 5], [2, 6], [7], [8], [8], [8, 9, 10], [8, 11], [12], [12], [12, 13, 14], [8, 12, 15], [8, 16]] [39, 40, 41, 42, 43, 44, 45, 46, 47, 48, 49, 50, 51, 52, 53, 54, 55, 56] (by kernel_rfl) (by kernel_rfl) rfl rfl rfl Chg.refl (fun _ _ _ => Chg.trans) ⟨Veq.lasts, Veq.lasts, Veq.lasts, Veq.lasts, Veq.lasts, Veq.lasts, Veq.lasts, Veq.lasts, Veq.lasts, Veq.lasts, Veq.lasts, Veq.lasts, Veq.lasts, Veq.lasts, Veq.lasts, Veq.lasts, Veq.lasts, Veq.lasts, trivial⟩ ?pzops ?pzfin
        case pzops =>
          refine ⟨?pzo0, ?pzo1, ?pzo2, ?pzo3, ?pzo4, ?pzo5, ?pzo6, ?pzo7, ?pzo8, ?pzo9, ?pzo10, ?pzo11, ?pzo12, ?pzo13, ?pzo14, ?pzo15, ?pzo16, ?pzo17, trivial⟩
          case pzo0 =>
            intro a wx hE hin
            have i9 : a.eval (.tmp 9) = .int .i64 0 := hin 9 rfl
            clear hin
            have hcst : ∀ v, a.eval (.const v) = v := fun _ => rfl
            have hfnc : ∀ f, a.eval (.func f) = .func (.func f) #[] #[] := fun _ => rfl
            refine want_none rfl ?_
            unfold Oper.wp
            generalize a.eval = ρ at *
            go_simp
            try go_bits
            first | exact rel_val (Chg.refl _) | (go_simp; exact rel_val (Chg.refl _))
          case pzo1 =>
            rintro a wx hE hin (h0 : a.eval (.tmp 39) = _)
            clear hin
            have hcst : ∀ v, a.eval (.const v) = v := fun _ => rfl
            have hfnc : ∀ f, a.eval (.func f) = .func (.func f) #[] #[] := fun _ => rfl
            refine want_none rfl ?_
            unfold Oper.wp
            generalize a.eval = ρ at *
            go_simp
            try go_bits
            first | exact rel_val (Chg.refl _) | (go_simp; exact rel_val (Chg.refl _))
          case pzo2 =>
            rintro a wx hE hin (h1 : a.eval (.tmp 40) = _)
            clear hin
            have hcst : ∀ v, a.eval (.const v) = v := fun _ => rfl
            have hfnc : ∀ f, a.eval (.func f) = .func (.func f) #[] #[] := fun _ => rfl
            refine want_none rfl ?_
            unfold Oper.wp
            generalize a.eval = ρ at *
            go_simp
            try go_bits
            first | exact rel_val (Chg.refl _) | (go_simp; exact rel_val (Chg.refl _))
          case pzo3 =>
            rintro a wx hE hin (h2 : a.eval (.tmp 41) = _)
            have i8 : a.eval (.tmp 8) = .pointer (some ⟨g8, 0, none⟩) := hin 8 rfl
            clear hin
            have hcst : ∀ v, a.eval (.const v) = v := fun _ => rfl
            have hfnc : ∀ f, a.eval (.func f) = .func (.func f) #[] #[] := fun _ => rfl
            refine want_yes rfl rfl h2 ?_
            exact wp_ld 63 _ rfl g8 0 5 (labC kk) (labC kk) i8 ((N7.out.drew).chg hE id) (by kernel_rfl) (by kernel_rfl) (Nat.le_refl _) rfl (rel_val (Chg.refl _))
          case pzo4 =>
            rintro a wx hE hin (h2 : a.eval (.tmp 41) = _) (h3 : a.eval (.tmp 42) = _)
            clear hin
            have hcst : ∀ v, a.eval (.const v) = v := fun _ => rfl
            have hfnc : ∀ f, a.eval (.func f) = .func (.func f) #[] #[] := fun _ => rfl
            refine want_yes rfl rfl h2 ?_
            unfold Oper.wp
            generalize a.eval = ρ at *
            go_simp
            refine (labEncode_calls kk wx).mono ?_
            rintro e w' ⟨rfl, hb⟩
            exact rel_val (.of_below hb)
          case pzo5 =>
            rintro a wx hE hin (h2 : a.eval (.tmp 41) = _)
            have i5 : a.eval (.tmp 5) = .pointer (some ⟨(w.heap.size + 1 + 1), 0, none⟩) := hin 5 rfl
            clear hin
            have hcst : ∀ v, a.eval (.const v) = v := fun _ => rfl
            have hfnc : ∀ f, a.eval (.func f) = .func (.func f) #[] #[] := fun _ => rfl
            refine want_yes rfl rfl h2 ?_
            exact wp_ld 37 _ rfl (w.heap.size + 1 + 1) 0 32 (bts b) (bts b) i5 ((C7.out.drew).chg hE id) (by kernel_rfl) (by kernel_rfl) (by rw [bts_length, HbL.out]; decide) (by rw [List.drop_zero, List.take_of_length_le (by rw [bts_length, HbL.out]; decide)]) (rel_val (Chg.refl _))
          case pzo6 =>
            rintro a wx hE hin (h2 : a.eval (.tmp 41) = _) (h4 : a.eval (.tmp 43) = _) (h5 : a.eval (.tmp 44) = _)
            clear hin
            have hcst : ∀ v, a.eval (.const v) = v := fun _ => rfl
            have hfnc : ∀ f, a.eval (.func f) = .func (.func f) #[] #[] := fun _ => rfl
            refine want_yes rfl rfl h2 ?_
            exact wp_eq_bytes true 37 37 _ _ rfl 5 32 Try.underlying37 Try.underlying5 (by kernel_rfl) (by kernel_rfl) (labEnc kk) b h4 h5 (labEnc_length kk) HbL.out (by rw [show (true ^^ decide ((labEnc kk) = b)) = true by simp [HKN.out]]; exact rel_val (e := .bool true) (Chg.refl _))
          case pzo7 =>
            rintro a wx hE hin (h2 : a.eval (.tmp 41) = _) (h6 : a.eval (.tmp 45) = _)
            clear hin
            have hcst : ∀ v, a.eval (.const v) = v := fun _ => rfl
            have hfnc : ∀ f, a.eval (.func f) = .func (.func f) #[] #[] := fun _ => rfl
            refine want_none rfl ?_
            unfold Oper.wp
            generalize a.eval = ρ at *
            go_simp
            try go_bits
            first | exact rel_val (Chg.refl _) | (go_simp; exact rel_val (Chg.refl _))
          case pzo8 =>
            rintro a wx hE hin (h7 : a.eval (.tmp 46) = _)
            clear hin
            have hcst : ∀ v, a.eval (.const v) = v := fun _ => rfl
            have hfnc : ∀ f, a.eval (.func f) = .func (.func f) #[] #[] := fun _ => rfl
            refine want_none rfl ?_
            unfold Oper.wp
            generalize a.eval = ρ at *
            go_simp
            try go_bits
            first | exact rel_val (Chg.refl _) | (go_simp; exact rel_val (Chg.refl _))
          case pzo9 =>
            rintro a wx hE hin (h8 : a.eval (.tmp 47) = _)
            have i5 : a.eval (.tmp 5) = .pointer (some ⟨(w.heap.size + 1 + 1), 0, none⟩) := hin 5 rfl
            clear hin
            have hcst : ∀ v, a.eval (.const v) = v := fun _ => rfl
            have hfnc : ∀ f, a.eval (.func f) = .func (.func f) #[] #[] := fun _ => rfl
            refine want_yes rfl rfl h8 ?_
            exact wp_ld 37 _ rfl (w.heap.size + 1 + 1) 0 32 (bts b) (bts b) i5 ((C7.out.drew).chg hE id) (by kernel_rfl) (by kernel_rfl) (by rw [bts_length, HbL.out]; decide) (by rw [List.drop_zero, List.take_of_length_le (by rw [bts_length, HbL.out]; decide)]) (rel_val (Chg.refl _))
          case pzo10 =>
            rintro a wx hE hin (h8 : a.eval (.tmp 47) = _)
            clear hin
            have hcst : ∀ v, a.eval (.const v) = v := fun _ => rfl
            have hfnc : ∀ f, a.eval (.func f) = .func (.func f) #[] #[] := fun _ => rfl
            refine want_yes rfl rfl h8 ?_
            exact wp_bld 37 [] rfl (bts (List.replicate 32 0)) [] (bts (List.replicate 32 0)) (by kernel_rfl) (by kernel_rfl) trivial rfl (rel_val (Chg.refl _))
          case pzo11 =>
            rintro a wx hE hin (h8 : a.eval (.tmp 47) = _) (h9 : a.eval (.tmp 48) = _) (h10 : a.eval (.tmp 49) = _)
            clear hin
            have hcst : ∀ v, a.eval (.const v) = v := fun _ => rfl
            have hfnc : ∀ f, a.eval (.func f) = .func (.func f) #[] #[] := fun _ => rfl
            refine want_yes rfl rfl h8 ?_
            exact wp_eq_bytes true 37 37 _ _ rfl 5 32 Try.underlying37 Try.underlying5 (by kernel_rfl) (by kernel_rfl) b (List.replicate 32 0) h9 h10 HbL.out (by rw [List.length_replicate]) (by rw [show (true ^^ decide (b = (List.replicate 32 0))) = false by rw [HBZ.out]; simp]; exact rel_val (e := .bool false) (Chg.refl _))
          case pzo12 =>
            rintro a wx hE hin (h8 : a.eval (.tmp 47) = _) (h11 : a.eval (.tmp 50) = _)
            clear hin
            have hcst : ∀ v, a.eval (.const v) = v := fun _ => rfl
            have hfnc : ∀ f, a.eval (.func f) = .func (.func f) #[] #[] := fun _ => rfl
            refine want_yes rfl rfl h8 ?_
            unfold Oper.wp
            generalize a.eval = ρ at *
            go_simp
            try go_bits
            first | exact rel_val (Chg.refl _) | (go_simp; exact rel_val (Chg.refl _))
          case pzo13 =>
            rintro a wx hE hin (h12 : a.eval (.tmp 51) = _)
            have i8 : a.eval (.tmp 8) = .pointer (some ⟨g8, 0, none⟩) := hin 8 rfl
            clear hin
            have hcst : ∀ v, a.eval (.const v) = v := fun _ => rfl
            have hfnc : ∀ f, a.eval (.func f) = .func (.func f) #[] #[] := fun _ => rfl
            refine want_yes rfl rfl h12 ?_
            exact wp_ld 63 _ rfl g8 0 5 (labC kk) (labC kk) i8 ((N7.out.drew).chg hE id) (by kernel_rfl) (by kernel_rfl) (Nat.le_refl _) rfl (rel_val (Chg.refl _))
          case pzo14 =>
            rintro a wx hE hin (h12 : a.eval (.tmp 51) = _)
            clear hin
            have hcst : ∀ v, a.eval (.const v) = v := fun _ => rfl
            have hfnc : ∀ f, a.eval (.func f) = .func (.func f) #[] #[] := fun _ => rfl
            refine want_yes rfl rfl h12 ?_
            exact wp_bld 63 [] rfl (labC zLab) [] (labC zLab) (by kernel_rfl) (by kernel_rfl) trivial rfl (rel_val (Chg.refl _))
          case pzo15 =>
            rintro a wx hE hin (h12 : a.eval (.tmp 51) = _) (h13 : a.eval (.tmp 52) = _) (h14 : a.eval (.tmp 53) = _)
            clear hin
            have hcst : ∀ v, a.eval (.const v) = v := fun _ => rfl
            have hfnc : ∀ f, a.eval (.func f) = .func (.func f) #[] #[] := fun _ => rfl
            refine want_yes rfl rfl h12 ?_
            exact wp_eq_lab true 63 _ _ rfl kk zLab h13 h14 (by rw [show (true ^^ decide (kk = zLab)) = false by rw [HKZ.out]; simp]; exact rel_val (e := .bool false) (Chg.refl _))
          case pzo16 =>
            rintro a wx hE hin (h8 : a.eval (.tmp 47) = _) (h12 : a.eval (.tmp 51) = _) (h15 : a.eval (.tmp 54) = _)
            clear hin
            have hcst : ∀ v, a.eval (.const v) = v := fun _ => rfl
            have hfnc : ∀ f, a.eval (.func f) = .func (.func f) #[] #[] := fun _ => rfl
            refine want_yes rfl rfl h8 ?_
            unfold Oper.wp
            generalize a.eval = ρ at *
            go_simp
            try go_bits
            first | exact rel_val (Chg.refl _) | (go_simp; exact rel_val (Chg.refl _))
          case pzo17 =>
            rintro a wx hE hin (h8 : a.eval (.tmp 47) = _) (h16 : a.eval (.tmp 55) = _)
            clear hin
            have hcst : ∀ v, a.eval (.const v) = v := fun _ => rfl
            have hfnc : ∀ f, a.eval (.func f) = .func (.func f) #[] #[] := fun _ => rfl
            refine want_none rfl ?_
            unfold Oper.wp
            generalize a.eval = ρ at *
            go_simp
            try go_bits
            first | exact rel_val (Chg.refl _) | (go_simp; exact rel_val (Chg.refl _))
        case pzfin =>
          intro wx hE
          rintro _ rfl _ rfl _ rfl _ rfl _ rfl _ rfl _ rfl _ rfl _ rfl _ rfl _ rfl _ rfl _ rfl _ rfl _ rfl _ rfl _ rfl _ rfl
          simp only [FinOk, List.take_succ_cons, List.take_zero, List.take_nil, List.drop_succ_cons, List.drop_zero, List.drop_nil, Act.put, List.setIfInBounds_toArray, List.set_cons_succ, List.set_cons_zero]
          have E8 : Hid (Below w.heap.size w wx) := E7.out.trans ((hE.undrew).below (B := w.heap.size) E7.out.size (fun _ _ => id))
          clear hE
          go_wp2_with fail
          refine (wakes7_calls wx).mono ?_
          rintro e w9 ⟨rfl, hb⟩
          have E9 : Hid (Below w.heap.size w w9) := E8.out.trans (hb.mono E8.out.size)
          clear hb
          go_wp2
          go_ret
          exact ⟨rfl, E9.out⟩
  · have HLM := Lib.hid hq
    have HYX : Hid (y ≠ x) := fun h => hq (HIFF.out.1 h)
    clear hq
    apply wp_region_rel 17 (Chg NoS) [(Veq _), (Veq _), (Veq _), (Veq _), (Veq _), (Veq _), (Veq _), (Veq _), (Veq _), (Veq _), (Veq _), (Veq _), (Veq _), (Veq _), (Veq _), (Veq _), (Veq _)] [[], [0], [1], [2], [2], [2, 3, 4], [2, 5], [6], [7], [7, 8], [7], [7, 9, 10], [7], [7], [7, 12, 13], [7, 11, 14], [7, 15]] [17, 18, 19, 20, 21, 22, 23, 24, 25, 26, 27, 28, 29, 30, 31, 32, 33] (by kernel_rfl) (by kernel_rfl) rfl rfl rfl Chg.refl (fun _ _ _ => Chg.trans) ⟨Veq.lasts, Veq.lasts, Veq.lasts, Veq.lasts, Veq.lasts, Veq.lasts, Veq.lasts, Veq.lasts, Veq.lasts, Veq.lasts, Veq.lasts, Veq.lasts, Veq.lasts, Veq.lasts, Veq.lasts, Veq.lasts, Veq.lasts, trivial⟩ ?bops ?bfin
    case bops =>
      refine ⟨?bo0, ?bo1, ?bo2, ?bo3, ?bo4, ?bo5, ?bo6, ?bo7, ?bo8, ?bo9, ?bo10, ?bo11, ?bo12, ?bo13, ?bo14, ?bo15, ?bo16, trivial⟩
      case bo0 =>
        intro a wx hE hin
        have i9 : a.eval (.tmp 9) = .int .i64 0 := hin 9 rfl
        clear hin
        have hcst : ∀ v, a.eval (.const v) = v := fun _ => rfl
        have hfnc : ∀ f, a.eval (.func f) = .func (.func f) #[] #[] := fun _ => rfl
        refine want_none rfl ?_
        unfold Oper.wp
        generalize a.eval = ρ at *
        go_simp
        try go_bits
        first | exact rel_val (Chg.refl _) | (go_simp; exact rel_val (Chg.refl _))
      case bo1 =>
        rintro a wx hE hin (h0 : a.eval (.tmp 17) = _)
        clear hin
        have hcst : ∀ v, a.eval (.const v) = v := fun _ => rfl
        have hfnc : ∀ f, a.eval (.func f) = .func (.func f) #[] #[] := fun _ => rfl
        refine want_none rfl ?_
        unfold Oper.wp
        generalize a.eval = ρ at *
        go_simp
        try go_bits
        first | exact rel_val (Chg.refl _) | (go_simp; exact rel_val (Chg.refl _))
      case bo2 =>
        rintro a wx hE hin (h1 : a.eval (.tmp 18) = _)
        clear hin
        have hcst : ∀ v, a.eval (.const v) = v := fun _ => rfl
        have hfnc : ∀ f, a.eval (.func f) = .func (.func f) #[] #[] := fun _ => rfl
        refine want_none rfl ?_
        unfold Oper.wp
        generalize a.eval = ρ at *
        go_simp
        try go_bits
        first | exact rel_val (Chg.refl _) | (go_simp; exact rel_val (Chg.refl _))
      case bo3 =>
        rintro a wx hE hin (h2 : a.eval (.tmp 19) = _)
        have i8 : a.eval (.tmp 8) = .pointer (some ⟨g8, 0, none⟩) := hin 8 rfl
        clear hin
        have hcst : ∀ v, a.eval (.const v) = v := fun _ => rfl
        have hfnc : ∀ f, a.eval (.func f) = .func (.func f) #[] #[] := fun _ => rfl
        refine want_yes rfl rfl h2 ?_
        exact wp_ld 63 _ rfl g8 0 5 (labC l) (labC l) i8 ((N4.out.drew).chg hE id) (by kernel_rfl) (by kernel_rfl) (Nat.le_refl _) rfl (rel_val (Chg.refl _))
      case bo4 =>
        rintro a wx hE hin (h2 : a.eval (.tmp 19) = _)
        have i3 : a.eval (.tmp 3) = .pointer (some ⟨w.heap.size, 0, none⟩) := hin 3 rfl
        clear hin
        have hcst : ∀ v, a.eval (.const v) = v := fun _ => rfl
        have hfnc : ∀ f, a.eval (.func f) = .func (.func f) #[] #[] := fun _ => rfl
        refine want_yes rfl rfl h2 ?_
        exact wp_ld 63 _ rfl w.heap.size 0 5 (labC l) (labC l) i3 ((A4.out.drew).chg hE id) (by kernel_rfl) (by kernel_rfl) (Nat.le_refl _) rfl (rel_val (Chg.refl _))
      case bo5 =>
        rintro a wx hE hin (h2 : a.eval (.tmp 19) = _) (h3 : a.eval (.tmp 20) = _) (h4 : a.eval (.tmp 21) = _)
        clear hin
        have hcst : ∀ v, a.eval (.const v) = v := fun _ => rfl
        have hfnc : ∀ f, a.eval (.func f) = .func (.func f) #[] #[] := fun _ => rfl
        refine want_yes rfl rfl h2 ?_
        exact wp_eq_lab true 63 _ _ rfl l l h3 h4 (by rw [show (true ^^ decide (l = l)) = false by simp]; exact rel_val (e := .bool false) (Chg.refl _))
      case bo6 =>
        rintro a wx hE hin (h2 : a.eval (.tmp 19) = _) (h5 : a.eval (.tmp 22) = _)
        clear hin
        have hcst : ∀ v, a.eval (.const v) = v := fun _ => rfl
        have hfnc : ∀ f, a.eval (.func f) = .func (.func f) #[] #[] := fun _ => rfl
        refine want_none rfl ?_
        unfold Oper.wp
        generalize a.eval = ρ at *
        go_simp
        try go_bits
        first | exact rel_val (Chg.refl _) | (go_simp; exact rel_val (Chg.refl _))
      case bo7 =>
        rintro a wx hE hin (h6 : a.eval (.tmp 23) = _)
        clear hin
        have hcst : ∀ v, a.eval (.const v) = v := fun _ => rfl
        have hfnc : ∀ f, a.eval (.func f) = .func (.func f) #[] #[] := fun _ => rfl
        refine want_none rfl ?_
        unfold Oper.wp
        generalize a.eval = ρ at *
        go_simp
        try go_bits
        first | exact rel_val (Chg.refl _) | (go_simp; exact rel_val (Chg.refl _))
      case bo8 =>
        rintro a wx hE hin (h7 : a.eval (.tmp 24) = _)
        have i4 : a.eval (.tmp 4) = .pointer (some ⟨(w.heap.size + 1), 0, none⟩) := hin 4 rfl
        clear hin
        have hcst : ∀ v, a.eval (.const v) = v := fun _ => rfl
        have hfnc : ∀ f, a.eval (.func f) = .func (.func f) #[] #[] := fun _ => rfl
        refine want_yes rfl rfl h7 ?_
        exact wp_ld 63 _ rfl (w.heap.size + 1) 0 5 (labC m) (labC m) i4 ((B4.out.drew).chg hE id) (by kernel_rfl) (by kernel_rfl) (Nat.le_refl _) rfl (rel_val (Chg.refl _))
      case bo9 =>
        rintro a wx hE hin (h7 : a.eval (.tmp 24) = _) (h8 : a.eval (.tmp 25) = _)
        clear hin
        have hcst : ∀ v, a.eval (.const v) = v := fun _ => rfl
        have hfnc : ∀ f, a.eval (.func f) = .func (.func f) #[] #[] := fun _ => rfl
        refine want_yes rfl rfl h7 ?_
        unfold Oper.wp
        generalize a.eval = ρ at *
        go_simp
        refine (labEncode_calls m wx).mono ?_
        rintro e w' ⟨rfl, hb⟩
        rw [HM.out]
        exact rel_val (.of_below hb)
      case bo10 =>
        rintro a wx hE hin (h7 : a.eval (.tmp 24) = _)
        have i7 : a.eval (.tmp 7) = .pointer (some ⟨g7, 0, none⟩) := hin 7 rfl
        clear hin
        have hcst : ∀ v, a.eval (.const v) = v := fun _ => rfl
        have hfnc : ∀ f, a.eval (.func f) = .func (.func f) #[] #[] := fun _ => rfl
        refine want_yes rfl rfl h7 ?_
        exact wp_ld 37 _ rfl g7 0 32 (bts x) (bts x) i7 ((M4.out.drew).chg hE id) (by kernel_rfl) (by kernel_rfl) (by rw [bts_length, HxL.out]; decide) (by rw [List.drop_zero, List.take_of_length_le (by rw [bts_length, HxL.out]; decide)]) (rel_val (Chg.refl _))
      case bo11 =>
        rintro a wx hE hin (h7 : a.eval (.tmp 24) = _) (h9 : a.eval (.tmp 26) = _) (h10 : a.eval (.tmp 27) = _)
        clear hin
        have hcst : ∀ v, a.eval (.const v) = v := fun _ => rfl
        have hfnc : ∀ f, a.eval (.func f) = .func (.func f) #[] #[] := fun _ => rfl
        refine want_yes rfl rfl h7 ?_
        exact wp_eq_bytes false 37 37 _ _ rfl 5 32 Try.underlying37 Try.underlying5 (by kernel_rfl) (by kernel_rfl) y x h9 h10 HyL.out HxL.out (by rw [show (false ^^ decide (y = x)) = false by simp [HYX.out]]; exact rel_val (e := .bool false) (Chg.refl _))
      case bo12 =>
        rintro a wx hE hin (h7 : a.eval (.tmp 24) = _)
        have i3 : a.eval (.tmp 3) = .pointer (some ⟨w.heap.size, 0, none⟩) := hin 3 rfl
        clear hin
        have hcst : ∀ v, a.eval (.const v) = v := fun _ => rfl
        have hfnc : ∀ f, a.eval (.func f) = .func (.func f) #[] #[] := fun _ => rfl
        refine want_yes rfl rfl h7 ?_
        exact wp_ld 63 _ rfl w.heap.size 0 5 (labC l) (labC l) i3 ((A4.out.drew).chg hE id) (by kernel_rfl) (by kernel_rfl) (Nat.le_refl _) rfl (rel_val (Chg.refl _))
      case bo13 =>
        rintro a wx hE hin (h7 : a.eval (.tmp 24) = _)
        have i4 : a.eval (.tmp 4) = .pointer (some ⟨(w.heap.size + 1), 0, none⟩) := hin 4 rfl
        clear hin
        have hcst : ∀ v, a.eval (.const v) = v := fun _ => rfl
        have hfnc : ∀ f, a.eval (.func f) = .func (.func f) #[] #[] := fun _ => rfl
        refine want_yes rfl rfl h7 ?_
        exact wp_ld 63 _ rfl (w.heap.size + 1) 0 5 (labC m) (labC m) i4 ((B4.out.drew).chg hE id) (by kernel_rfl) (by kernel_rfl) (Nat.le_refl _) rfl (rel_val (Chg.refl _))
      case bo14 =>
        rintro a wx hE hin (h7 : a.eval (.tmp 24) = _) (h12 : a.eval (.tmp 29) = _) (h13 : a.eval (.tmp 30) = _)
        clear hin
        have hcst : ∀ v, a.eval (.const v) = v := fun _ => rfl
        have hfnc : ∀ f, a.eval (.func f) = .func (.func f) #[] #[] := fun _ => rfl
        refine want_yes rfl rfl h7 ?_
        exact wp_eq_lab false 63 _ _ rfl l m h12 h13 (by rw [show (false ^^ decide (l = m)) = false by simp [HLM.out]]; exact rel_val (e := .bool false) (Chg.refl _))
      case bo15 =>
        rintro a wx hE hin (h7 : a.eval (.tmp 24) = _) (h11 : a.eval (.tmp 28) = _) (h14 : a.eval (.tmp 31) = _)
        clear hin
        have hcst : ∀ v, a.eval (.const v) = v := fun _ => rfl
        have hfnc : ∀ f, a.eval (.func f) = .func (.func f) #[] #[] := fun _ => rfl
        refine want_yes rfl rfl h7 ?_
        unfold Oper.wp
        generalize a.eval = ρ at *
        go_simp
        try go_bits
        first | exact rel_val (e := .bool false) (Chg.refl _) | (simp only [bne_self_eq_false]; exact rel_val (e := .bool false) (Chg.refl _))
      case bo16 =>
        rintro a wx hE hin (h7 : a.eval (.tmp 24) = _) (h15 : a.eval (.tmp 32) = _)
        clear hin
        have hcst : ∀ v, a.eval (.const v) = v := fun _ => rfl
        have hfnc : ∀ f, a.eval (.func f) = .func (.func f) #[] #[] := fun _ => rfl
        refine want_none rfl ?_
        unfold Oper.wp
        generalize a.eval = ρ at *
        go_simp
        try go_bits
        first | exact rel_val (Chg.refl _) | (go_simp; exact rel_val (Chg.refl _))
    case bfin =>
      intro wx hE
      rintro _ rfl _ rfl _ rfl _ rfl _ rfl _ rfl _ rfl _ rfl _ rfl _ rfl _ rfl _ rfl _ rfl _ rfl _ rfl _ rfl _ rfl
      simp only [FinOk, List.take_succ_cons, List.take_zero, List.take_nil, List.drop_succ_cons, List.drop_zero, List.drop_nil, Act.put, List.setIfInBounds_toArray, List.set_cons_succ, List.set_cons_zero]
      have C5 := Lib.hid ((C4.out.drew).chg hE id)
      have N5 := Lib.hid ((N4.out.drew).chg hE id)
      have E5 : Hid (Below w.heap.size w wx) := E4.out.trans ((hE.undrew).below (B := w.heap.size) E4.out.size (fun _ _ => id))
      clear hE
      go_wp2_with (refine wpList_ld rfl 37 (.tmp 5) rfl (w.heap.size + 1 + 1) 0 32 (bts b) (bts b) rfl C5.out (by kernel_rfl) (by kernel_rfl) (by rw [bts_length, HbL.out]; decide) (by rw [List.drop_zero, List.take_of_length_le (by rw [bts_length, HbL.out]; decide)]) ?_)
      refine (labDecode_calls b wx HbL.out).mono ?_
      rintro e w6 ⟨rfl, hb⟩
      have C6 := Lib.hid (C5.out.below hb)
      have N6 := Lib.hid (N5.out.below hb)
      have E6 : Hid (Below w.heap.size w w6) := E5.out.trans (hb.mono E5.out.size)
      have hok := dec_ok b
      obtain ⟨kk, hkk⟩ : ∃ kk, (labDec b).1 = kk := ⟨_, rfl⟩
      obtain ⟨ee, hee⟩ : ∃ ee, (labDec b).2 = ee := ⟨_, rfl⟩
      rw [hkk, hee] at hok ⊢
      clear hb hkk hee
      have HOK := Lib.hid hok
      clear hok
      go_wp2_with (refine wpList_st rfl 63 (.tmp 8) (.tmp 37) rfl g8 0 5 (labC l) (labC kk) rfl rfl N6.out (by kernel_rfl) rfl (by exact Nat.le_refl _) (one_lab _) ?_)
      intro w7 hb hc
      rw [splice_whole (labC l) (labC kk) rfl] at hb
      have hg8 := G8.out
      have C7 := Lib.hid (C6.out.chg hc (by omega))
      have E7 : Hid (Below w.heap.size w w7) := E6.out.trans (hc.below E6.out.size (fun _ _ => by omega))
      have N7 := Lib.hid hb
      clear hb hc hg8
      go_wp2_with fail
      rcases HOK.out with he | ⟨he, hkb⟩ | ⟨he, hbz, hkz⟩
      · have HEE : Hid ((ee == 0) = false) := by show _ = _; rw [beq_eq_false_iff_ne]; exact he
        clear he
        apply wp_region_rel 18 (Chg NoS) [(Veq _), (Veq _), (Veq _), (Veq undef), (Veq undef), (Veq undef), (Veq undef), (Veq _), (Veq _), (Veq undef), (Veq undef), (Veq undef), (Veq undef), (Veq undef), (Veq undef), (Veq undef), (Veq undef), (Veq _)] [[], [0], [1], [2], [2], [2], [2], [2, 6], [7], [8], [8], [8], [8], [12], [12], [12], [8], [8, 16]] [39, 40, 41, 42, 43, 44, 45, 46, 47, 48, 49, 50, 51, 52, 53, 54, 55, 56] (by kernel_rfl) (by kernel_rfl) rfl rfl rfl Chg.refl (fun _ _ _ => Chg.trans) ⟨Veq.lasts, Veq.lasts, Veq.lasts, Veq.lasts, Veq.lasts, Veq.lasts, Veq.lasts, Veq.lasts, Veq.lasts, Veq.lasts, Veq.lasts, Veq.lasts, Veq.lasts, Veq.lasts, Veq.lasts, Veq.lasts, Veq.lasts, Veq.lasts, trivial⟩ ?qxops ?qxfin
        case qxops =>
          refine ⟨?qxo0, ?qxo1, ?qxo2, ?qxo3, ?qxo4, ?qxo5, ?qxo6, ?qxo7, ?qxo8, ?qxo9, ?qxo10, ?qxo11, ?qxo12, ?qxo13, ?qxo14, ?qxo15, ?qxo16, ?qxo17, trivial⟩
          case qxo0 =>
            intro a wx hE hin
            have i9 : a.eval (.tmp 9) = .int .i64 ee := hin 9 rfl
            clear hin
            have hcst : ∀ v, a.eval (.const v) = v := fun _ => rfl
            have hfnc : ∀ f, a.eval (.func f) = .func (.func f) #[] #[] := fun _ => rfl
            refine want_none rfl ?_
            unfold Oper.wp
            generalize a.eval = ρ at *
            go_simp
            try go_bits
            first | exact rel_val (Chg.refl _) | (go_simp; exact rel_val (Chg.refl _))
          case qxo1 =>
            rintro a wx hE hin (h0 : a.eval (.tmp 39) = _)
            clear hin
            have hcst : ∀ v, a.eval (.const v) = v := fun _ => rfl
            have hfnc : ∀ f, a.eval (.func f) = .func (.func f) #[] #[] := fun _ => rfl
            refine want_none rfl ?_
            unfold Oper.wp
            generalize a.eval = ρ at *
            go_simp
            try go_bits
            rw [HEE.out]
            exact rel_val (e := .bool false) (Chg.refl _)
          case qxo2 =>
            rintro a wx hE hin (h1 : a.eval (.tmp 40) = _)
            clear hin
            have hcst : ∀ v, a.eval (.const v) = v := fun _ => rfl
            have hfnc : ∀ f, a.eval (.func f) = .func (.func f) #[] #[] := fun _ => rfl
            refine want_none rfl ?_
            unfold Oper.wp
            generalize a.eval = ρ at *
            go_simp
            try go_bits
            first | exact rel_val (Chg.refl _) | (go_simp; exact rel_val (Chg.refl _))
          case qxo3 =>
            rintro a wx hE hin (h2 : a.eval (.tmp 41) = _)
            clear hin
            exact want_not rfl rfl h2 rfl
          case qxo4 =>
            rintro a wx hE hin (h2 : a.eval (.tmp 41) = _)
            clear hin
            exact want_not rfl rfl h2 rfl
          case qxo5 =>
            rintro a wx hE hin (h2 : a.eval (.tmp 41) = _)
            clear hin
            exact want_not rfl rfl h2 rfl
          case qxo6 =>
            rintro a wx hE hin (h2 : a.eval (.tmp 41) = _)
            clear hin
            exact want_not rfl rfl h2 rfl
          case qxo7 =>
            rintro a wx hE hin (h2 : a.eval (.tmp 41) = _) (h6 : a.eval (.tmp 45) = _)
            clear hin
            have hcst : ∀ v, a.eval (.const v) = v := fun _ => rfl
            have hfnc : ∀ f, a.eval (.func f) = .func (.func f) #[] #[] := fun _ => rfl
            refine want_none rfl ?_
            unfold Oper.wp
            generalize a.eval = ρ at *
            go_simp
            try go_bits
            first | exact rel_val (Chg.refl _) | (go_simp; exact rel_val (Chg.refl _))
          case qxo8 =>
            rintro a wx hE hin (h7 : a.eval (.tmp 46) = _)
            clear hin
            have hcst : ∀ v, a.eval (.const v) = v := fun _ => rfl
            have hfnc : ∀ f, a.eval (.func f) = .func (.func f) #[] #[] := fun _ => rfl
            refine want_none rfl ?_
            unfold Oper.wp
            generalize a.eval = ρ at *
            go_simp
            try go_bits
            first | exact rel_val (Chg.refl _) | (go_simp; exact rel_val (Chg.refl _))
          case qxo9 =>
            rintro a wx hE hin (h8 : a.eval (.tmp 47) = _)
            clear hin
            exact want_not rfl rfl h8 rfl
          case qxo10 =>
            rintro a wx hE hin (h8 : a.eval (.tmp 47) = _)
            clear hin
            exact want_not rfl rfl h8 rfl
          case qxo11 =>
            rintro a wx hE hin (h8 : a.eval (.tmp 47) = _)
            clear hin
            exact want_not rfl rfl h8 rfl
          case qxo12 =>
            rintro a wx hE hin (h8 : a.eval (.tmp 47) = _)
            clear hin
            exact want_not rfl rfl h8 rfl
          case qxo13 =>
            rintro a wx hE hin (h12 : a.eval (.tmp 51) = _)
            clear hin
            exact want_undef rfl rfl h12 rfl
          case qxo14 =>
            rintro a wx hE hin (h12 : a.eval (.tmp 51) = _)
            clear hin
            exact want_undef rfl rfl h12 rfl
          case qxo15 =>
            rintro a wx hE hin (h12 : a.eval (.tmp 51) = _)
            clear hin
            exact want_undef rfl rfl h12 rfl
          case qxo16 =>
            rintro a wx hE hin (h8 : a.eval (.tmp 47) = _)
            clear hin
            exact want_not rfl rfl h8 rfl
          case qxo17 =>
            rintro a wx hE hin (h8 : a.eval (.tmp 47) = _) (h16 : a.eval (.tmp 55) = _)
            clear hin
            have hcst : ∀ v, a.eval (.const v) = v := fun _ => rfl
            have hfnc : ∀ f, a.eval (.func f) = .func (.func f) #[] #[] := fun _ => rfl
            refine want_none rfl ?_
            unfold Oper.wp
            generalize a.eval = ρ at *
            go_simp
            try go_bits
            first | exact rel_val (Chg.refl _) | (go_simp; exact rel_val (Chg.refl _))
        case qxfin =>
          intro wx hE
          rintro _ rfl _ rfl _ rfl _ rfl _ rfl _ rfl _ rfl _ rfl _ rfl _ rfl _ rfl _ rfl _ rfl _ rfl _ rfl _ rfl _ rfl _ rfl
          simp only [FinOk, List.take_succ_cons, List.take_zero, List.take_nil, List.drop_succ_cons, List.drop_zero, List.drop_nil, Act.put, List.setIfInBounds_toArray, List.set_cons_succ, List.set_cons_zero]
          have E8 : Hid (Below w.heap.size w wx) := E7.out.trans ((hE.undrew).below (B := w.heap.size) E7.out.size (fun _ _ => id))
          clear hE
          go_wp2_with fail
          refine (wakes7_calls wx).mono ?_
          rintro e w9 ⟨rfl, hb⟩
          have E9 : Hid (Below w.heap.size w w9) := E8.out.trans (hb.mono E8.out.size)
          clear hb
          go_wp2
          go_ret
          exact ⟨rfl, E9.out⟩
      · subst he
        have HKB := Lib.hid hkb
        clear hkb
        apply wp_region_rel 18 (Chg NoS) [(Veq _), (Veq _), (Veq _), (Veq _), (Veq _), (Veq _), (Veq _), (Veq _), (Veq _), (Veq undef), (Veq undef), (Veq undef), (Veq undef), (Veq undef), (Veq undef), (Veq undef), (Veq undef), (Veq _)] [[], [0], [1], [2], [2, 3], [2], [2, 4, 5], [2, 6], [7], [8], [8], [8], [8], [12], [12], [12], [8], [8, 16]] [39, 40, 41, 42, 43, 44, 45, 46, 47, 48, 49, 50, 51, 52, 53, 54, 55, 56] (by kernel_rfl) (by kernel_rfl) rfl rfl rfl Chg.refl (fun _ _ _ => Chg.trans) ⟨Veq.lasts, Veq.lasts, Veq.lasts, Veq.lasts, Veq.lasts, Veq.lasts, Veq.lasts, Veq.lasts, Veq.lasts, Veq.lasts, Veq.lasts, Veq.lasts, Veq.lasts, Veq.lasts, Veq.lasts, Veq.lasts, Veq.lasts, Veq.lasts, trivial⟩ ?qyops ?qyfin
        case qyops =>
          refine ⟨?qyo0, ?qyo1, ?qyo2, ?qyo3, ?qyo4, ?qyo5, ?qyo6, ?qyo7, ?qyo8, ?qyo9, ?qyo10, ?qyo11, ?qyo12, ?qyo13, ?qyo14, ?qyo15, ?qyo16, ?qyo17, trivial⟩
          case qyo0 =>
            intro a wx hE hin
            have i9 : a.eval (.tmp 9) = .int .i64 0 := hin 9 rfl
            clear hin
            have hcst : ∀ v, a.eval (.const v) = v := fun _ => rfl
            have hfnc : ∀ f, a.eval (.func f) = .func (.func f) #[] #[] := fun _ => rfl
            refine want_none rfl ?_
            unfold Oper.wp
            generalize a.eval = ρ at *
            go_simp
            try go_bits
            first | exact rel_val (Chg.refl _) | (go_simp; exact rel_val (Chg.refl _))
          case qyo1 =>
            rintro a wx hE hin (h0 : a.eval (.tmp 39) = _)
            clear hin
            have hcst : ∀ v, a.eval (.const v) = v := fun _ => rfl
            have hfnc : ∀ f, a.eval (.func f) = .func (.func f) #[] #[] := fun _ => rfl
            refine want_none rfl ?_
            unfold Oper.wp
            generalize a.eval = ρ at *
            go_simp
            try go_bits
            first | exact rel_val (Chg.refl _) | (go_simp; exact rel_val (Chg.refl _))
          case qyo2 =>
            rintro a wx hE hin (h1 : a.eval (.tmp 40) = _)
            clear hin
            have hcst : ∀ v, a.eval (.const v) = v := fun _ => rfl
            have hfnc : ∀ f, a.eval (.func f) = .func (.func f) #[] #[] := fun _ => rfl
            refine want_none rfl ?_
            unfold Oper.wp
            generalize a.eval = ρ at *
            go_simp
            try go_bits
            first | exact rel_val (Chg.refl _) | (go_simp; exact rel_val (Chg.refl _))
          case qyo3 =>
            rintro a wx hE hin (h2 : a.eval (.tmp 41) = _)
            have i8 : a.eval (.tmp 8) = .pointer (some ⟨g8, 0, none⟩) := hin 8 rfl
            clear hin
            have hcst : ∀ v, a.eval (.const v) = v := fun _ => rfl
            have hfnc : ∀ f, a.eval (.func f) = .func (.func f) #[] #[] := fun _ => rfl
            refine want_yes rfl rfl h2 ?_
            exact wp_ld 63 _ rfl g8 0 5 (labC kk) (labC kk) i8 ((N7.out.drew).chg hE id) (by kernel_rfl) (by kernel_rfl) (Nat.le_refl _) rfl (rel_val (Chg.refl _))
          case qyo4 =>
            rintro a wx hE hin (h2 : a.eval (.tmp 41) = _) (h3 : a.eval (.tmp 42) = _)
            clear hin
            have hcst : ∀ v, a.eval (.const v) = v := fun _ => rfl
            have hfnc : ∀ f, a.eval (.func f) = .func (.func f) #[] #[] := fun _ => rfl
            refine want_yes rfl rfl h2 ?_
            unfold Oper.wp
            generalize a.eval = ρ at *
            go_simp
            refine (labEncode_calls kk wx).mono ?_
            rintro e w' ⟨rfl, hb⟩
            exact rel_val (.of_below hb)
          case qyo5 =>
            rintro a wx hE hin (h2 : a.eval (.tmp 41) = _)
            have i5 : a.eval (.tmp 5) = .pointer (some ⟨(w.heap.size + 1 + 1), 0, none⟩) := hin 5 rfl
            clear hin
            have hcst : ∀ v, a.eval (.const v) = v := fun _ => rfl
            have hfnc : ∀ f, a.eval (.func f) = .func (.func f) #[] #[] := fun _ => rfl
            refine want_yes rfl rfl h2 ?_
            exact wp_ld 37 _ rfl (w.heap.size + 1 + 1) 0 32 (bts b) (bts b) i5 ((C7.out.drew).chg hE id) (by kernel_rfl) (by kernel_rfl) (by rw [bts_length, HbL.out]; decide) (by rw [List.drop_zero, List.take_of_length_le (by rw [bts_length, HbL.out]; decide)]) (rel_val (Chg.refl _))
          case qyo6 =>
            rintro a wx hE hin (h2 : a.eval (.tmp 41) = _) (h4 : a.eval (.tmp 43) = _) (h5 : a.eval (.tmp 44) = _)
            clear hin
            have hcst : ∀ v, a.eval (.const v) = v := fun _ => rfl
            have hfnc : ∀ f, a.eval (.func f) = .func (.func f) #[] #[] := fun _ => rfl
            refine want_yes rfl rfl h2 ?_
            exact wp_eq_bytes true 37 37 _ _ rfl 5 32 Try.underlying37 Try.underlying5 (by kernel_rfl) (by kernel_rfl) (labEnc kk) b h4 h5 (labEnc_length kk) HbL.out (by rw [show (true ^^ decide ((labEnc kk) = b)) = false by simp [HKB.out]]; exact rel_val (e := .bool false) (Chg.refl _))
          case qyo7 =>
            rintro a wx hE hin (h2 : a.eval (.tmp 41) = _) (h6 : a.eval (.tmp 45) = _)
            clear hin
            have hcst : ∀ v, a.eval (.const v) = v := fun _ => rfl
            have hfnc : ∀ f, a.eval (.func f) = .func (.func f) #[] #[] := fun _ => rfl
            refine want_none rfl ?_
            unfold Oper.wp
            generalize a.eval = ρ at *
            go_simp
            try go_bits
            first | exact rel_val (Chg.refl _) | (go_simp; exact rel_val (Chg.refl _))
          case qyo8 =>
            rintro a wx hE hin (h7 : a.eval (.tmp 46) = _)
            clear hin
            have hcst : ∀ v, a.eval (.const v) = v := fun _ => rfl
            have hfnc : ∀ f, a.eval (.func f) = .func (.func f) #[] #[] := fun _ => rfl
            refine want_none rfl ?_
            unfold Oper.wp
            generalize a.eval = ρ at *
            go_simp
            try go_bits
            first | exact rel_val (Chg.refl _) | (go_simp; exact rel_val (Chg.refl _))
          case qyo9 =>
            rintro a wx hE hin (h8 : a.eval (.tmp 47) = _)
            clear hin
            exact want_not rfl rfl h8 rfl
          case qyo10 =>
            rintro a wx hE hin (h8 : a.eval (.tmp 47) = _)
            clear hin
            exact want_not rfl rfl h8 rfl
          case qyo11 =>
            rintro a wx hE hin (h8 : a.eval (.tmp 47) = _)
            clear hin
            exact want_not rfl rfl h8 rfl
          case qyo12 =>
            rintro a wx hE hin (h8 : a.eval (.tmp 47) = _)
            clear hin
            exact want_not rfl rfl h8 rfl
          case qyo13 =>
            rintro a wx hE hin (h12 : a.eval (.tmp 51) = _)
            clear hin
            exact want_undef rfl rfl h12 rfl
          case qyo14 =>
            rintro a wx hE hin (h12 : a.eval (.tmp 51) = _)
            clear hin
            exact want_undef rfl rfl h12 rfl
          case qyo15 =>
            rintro a wx hE hin (h12 : a.eval (.tmp 51) = _)
            clear hin
            exact want_undef rfl rfl h12 rfl
          case qyo16 =>
            rintro a wx hE hin (h8 : a.eval (.tmp 47) = _)
            clear hin
            exact want_not rfl rfl h8 rfl
          case qyo17 =>
            rintro a wx hE hin (h8 : a.eval (.tmp 47) = _) (h16 : a.eval (.tmp 55) = _)
            clear hin
            have hcst : ∀ v, a.eval (.const v) = v := fun _ => rfl
            have hfnc : ∀ f, a.eval (.func f) = .func (.func f) #[] #[] := fun _ => rfl
            refine want_none rfl ?_
            unfold Oper.wp
            generalize a.eval = ρ at *
            go_simp
            try go_bits
            first | exact rel_val (Chg.refl _) | (go_simp; exact rel_val (Chg.refl _))
        case qyfin =>
          intro wx hE
          rintro _ rfl _ rfl _ rfl _ rfl _ rfl _ rfl _ rfl _ rfl _ rfl _ rfl _ rfl _ rfl _ rfl _ rfl _ rfl _ rfl _ rfl _ rfl
          simp only [FinOk, List.take_succ_cons, List.take_zero, List.take_nil, List.drop_succ_cons, List.drop_zero, List.drop_nil, Act.put, List.setIfInBounds_toArray, List.set_cons_succ, List.set_cons_zero]
          have E8 : Hid (Below w.heap.size w wx) := E7.out.trans ((hE.undrew).below (B := w.heap.size) E7.out.size (fun _ _ => id))
          clear hE
          go_wp2_with fail
          refine (wakes7_calls wx).mono ?_
          rintro e w9 ⟨rfl, hb⟩
          have E9 : Hid (Below w.heap.size w w9) := E8.out.trans (hb.mono E8.out.size)
          clear hb
          go_wp2
          go_ret
          exact ⟨rfl, E9.out⟩
      · subst he
        have HKZ := Lib.hid hkz
        have HBZ := Lib.hid hbz
        have HKN : Hid (labEnc kk ≠ b) := by show _ ≠ _; rw [hbz]; exact enc_not_zero kk
        clear hkz hbz
        apply wp_region_rel 18 (Chg NoS) [(Veq _), (Veq _), (Veq _), (Veq _), (Veq _), (Veq _), (Veq _), (Veq _), (Veq _), (Veq _), (Veq _), (Veq _), (Veq _), (Veq _), (Veq _), (Veq _), (Veq _), (Veq _)] [[], [0], [1], [2], [2, 3], [2], [2, 4, 5], [2, 6], [7], [8], [8], [8, 9, 10], [8, 11], [12], [12], [12, 13, 14], [8, 12, 15], [8, 16]] [39, 40, 41, 42, 43, 44, 45, 46, 47, 48, 49, 50, 51, 52, 53, 54, 55, 56] (by kernel_rfl) (by kernel_rfl) rfl rfl rfl Chg.refl (fun _ _ _ => Chg.trans) ⟨Veq.lasts, Veq.lasts, Veq.lasts, Veq.lasts, Veq.lasts, Veq.lasts, Veq.lasts, Veq.lasts, Veq.lasts, Veq.lasts, Veq.lasts, Veq.lasts, Veq.lasts, Veq.lasts, Veq.lasts, Veq.lasts, Veq.lasts, Veq.lasts, trivial⟩ ?qzops ?qzfin
        case qzops =>
          refine ⟨?qzo0, ?qzo1, ?qzo2, ?qzo3, ?qzo4, ?qzo5, ?qzo6, ?qzo7, ?qzo8, ?qzo9, ?qzo10, ?qzo11, ?qzo12, ?qzo13, ?qzo14, ?qzo15, ?qzo16, ?qzo17, trivial⟩
          case qzo0 =>
            intro a wx hE hin
            have i9 : a.eval (.tmp 9) = .int .i64 0 := hin 9 rfl
            clear hin
            have hcst : ∀ v, a.eval (.const v) = v := fun _ => rfl
            have hfnc : ∀ f, a.eval (.func f) = .func (.func f) #[] #[] := fun _ => rfl
            refine want_none rfl ?_
            unfold Oper.wp
            generalize a.eval = ρ at *
            go_simp
            try go_bits
            first | exact rel_val (Chg.refl _) | (go_simp; exact rel_val (Chg.refl _))
          case qzo1 =>
            rintro a wx hE hin (h0 : a.eval (.tmp 39) = _)
            clear hin
            have hcst : ∀ v, a.eval (.const v) = v := fun _ => rfl
            have hfnc : ∀ f, a.eval (.func f) = .func (.func f) #[] #[] := fun _ => rfl
            refine want_none rfl ?_
            unfold Oper.wp
            generalize a.eval = ρ at *
            go_simp
            try go_bits
            first | exact rel_val (Chg.refl _) | (go_simp; exact rel_val (Chg.refl _))
          case qzo2 =>
            rintro a wx hE hin (h1 : a.eval (.tmp 40) = _)
            clear hin
            have hcst : ∀ v, a.eval (.const v) = v := fun _ => rfl
            have hfnc : ∀ f, a.eval (.func f) = .func (.func f) #[] #[] := fun _ => rfl
            refine want_none rfl ?_
            unfold Oper.wp
            generalize a.eval = ρ at *
            go_simp
            try go_bits
            first | exact rel_val (Chg.refl _) | (go_simp; exact rel_val (Chg.refl _))
          case qzo3 =>
            rintro a wx hE hin (h2 : a.eval (.tmp 41) = _)
            have i8 : a.eval (.tmp 8) = .pointer (some ⟨g8, 0, none⟩) := hin 8 rfl
            clear hin
            have hcst : ∀ v, a.eval (.const v) = v := fun _ => rfl
            have hfnc : ∀ f, a.eval (.func f) = .func (.func f) #[] #[] := fun _ => rfl
            refine want_yes rfl rfl h2 ?_
            exact wp_ld 63 _ rfl g8 0 5 (labC kk) (labC kk) i8 ((N7.out.drew).chg hE id) (by kernel_rfl) (by kernel_rfl) (Nat.le_refl _) rfl (rel_val (Chg.refl _))
          case qzo4 =>
            rintro a wx hE hin (h2 : a.eval (.tmp 41) = _) (h3 : a.eval (.tmp 42) = _)
            clear hin
            have hcst : ∀ v, a.eval (.const v) = v := fun _ => rfl
            have hfnc : ∀ f, a.eval (.func f) = .func (.func f) #[] #[] := fun _ => rfl
            refine want_yes rfl rfl h2 ?_
            unfold Oper.wp
            generalize a.eval = ρ at *
            go_simp
            refine (labEncode_calls kk wx).mono ?_
            rintro e w' ⟨rfl, hb⟩
            exact rel_val (.of_below hb)
          case qzo5 =>
            rintro a wx hE hin (h2 : a.eval (.tmp 41) = _)
            have i5 : a.eval (.tmp 5) = .pointer (some ⟨(w.heap.size + 1 + 1), 0, none⟩) := hin 5 rfl
            clear hin
            have hcst : ∀ v, a.eval (.const v) = v := fun _ => rfl
            have hfnc : ∀ f, a.eval (.func f) = .func (.func f) #[] #[] := fun _ => rfl
            refine want_yes rfl rfl h2 ?_
            exact wp_ld 37 _ rfl (w.heap.size + 1 + 1) 0 32 (bts b) (bts b) i5 ((C7.out.drew).chg hE id) (by kernel_rfl) (by kernel_rfl) (by rw [bts_length, HbL.out]; decide) (by rw [List.drop_zero, List.take_of_length_le (by rw [bts_length, HbL.out]; decide)]) (rel_val (Chg.refl _))
          case qzo6 =>
            rintro a wx hE hin (h2 : a.eval (.tmp 41) = _) (h4 : a.eval (.tmp 43) = _) (h5 : a.eval (.tmp 44) = _)
            clear hin
            have hcst : ∀ v, a.eval (.const v) = v := fun _ => rfl
            have hfnc : ∀ f, a.eval (.func f) = .func (.func f) #[] #[] := fun _ => rfl
            refine want_yes rfl rfl h2 ?_
            exact wp_eq_bytes true 37 37 _ _ rfl 5 32 Try.underlying37 Try.underlying5 (by kernel_rfl) (by kernel_rfl) (labEnc kk) b h4 h5 (labEnc_length kk) HbL.out (by rw [show (true ^^ decide ((labEnc kk) = b)) = true by simp [HKN.out]]; exact rel_val (e := .bool true) (Chg.refl _))
          case qzo7 =>
            rintro a wx hE hin (h2 : a.eval (.tmp 41) = _) (h6 : a.eval (.tmp 45) = _)
            clear hin
            have hcst : ∀ v, a.eval (.const v) = v := fun _ => rfl
            have hfnc : ∀ f, a.eval (.func f) = .func (.func f) #[] #[] := fun _ => rfl
            refine want_none rfl ?_
            unfold Oper.wp
            generalize a.eval = ρ at *
            go_simp
            try go_bits
            first | exact rel_val (Chg.refl _) | (go_simp; exact rel_val (Chg.refl _))
          case qzo8 =>
            rintro a wx hE hin (h7 : a.eval (.tmp 46) = _)
            clear hin
            have hcst : ∀ v, a.eval (.const v) = v := fun _ => rfl
            have hfnc : ∀ f, a.eval (.func f) = .func (.func f) #[] #[] := fun _ => rfl
            refine want_none rfl ?_
            unfold Oper.wp
            generalize a.eval = ρ at *
            go_simp
            try go_bits
            first | exact rel_val (Chg.refl _) | (go_simp; exact rel_val (Chg.refl _))
          case qzo9 =>
            rintro a wx hE hin (h8 : a.eval (.tmp 47) = _)
            have i5 : a.eval (.tmp 5) = .pointer (some ⟨(w.heap.size + 1 + 1), 0, none⟩) := hin 5 rfl
            clear hin
            have hcst : ∀ v, a.eval (.const v) = v := fun _ => rfl
            have hfnc : ∀ f, a.eval (.func f) = .func (.func f) #[] #[] := fun _ => rfl
            refine want_yes rfl rfl h8 ?_
            exact wp_ld 37 _ rfl (w.heap.size + 1 + 1) 0 32 (bts b) (bts b) i5 ((C7.out.drew).chg hE id) (by kernel_rfl) (by kernel_rfl) (by rw [bts_length, HbL.out]; decide) (by rw [List.drop_zero, List.take_of_length_le (by rw [bts_length, HbL.out]; decide)]) (rel_val (Chg.refl _))
          case qzo10 =>
            rintro a wx hE hin (h8 : a.eval (.tmp 47) = _)
            clear hin
            have hcst : ∀ v, a.eval (.const v) = v := fun _ => rfl
            have hfnc : ∀ f, a.eval (.func f) = .func (.func f) #[] #[] := fun _ => rfl
            refine want_yes rfl rfl h8 ?_
            exact wp_bld 37 [] rfl (bts (List.replicate 32 0)) [] (bts (List.replicate 32 0)) (by kernel_rfl) (by kernel_rfl) trivial rfl (rel_val (Chg.refl _))
          case qzo11 =>
            rintro a wx hE hin (h8 : a.eval (.tmp 47) = _) (h9 : a.eval (.tmp 48) = _) (h10 : a.eval (.tmp 49) = _)
            clear hin
            have hcst : ∀ v, a.eval (.const v) = v := fun _ => rfl
            have hfnc : ∀ f, a.eval (.func f) = .func (.func f) #[] #[] := fun _ => rfl
            refine want_yes rfl rfl h8 ?_
            exact wp_eq_bytes true 37 37 _ _ rfl 5 32 Try.underlying37 Try.underlying5 (by kernel_rfl) (by kernel_rfl) b (List.replicate 32 0) h9 h10 HbL.out (by rw [List.length_replicate]) (by rw [show (true ^^ decide (b = (List.replicate 32 0))) = false by rw [HBZ.out]; simp]; exact rel_val (e := .bool false) (Chg.refl _))
          case qzo12 =>
            rintro a wx hE hin (h8 : a.eval (.tmp 47) = _) (h11 : a.eval (.tmp 50) = _)
            clear hin
            have hcst : ∀ v, a.eval (.const v) = v := fun _ => rfl
            have hfnc : ∀ f, a.eval (.func f) = .func (.func f) #[] #[] := fun _ => rfl
            refine want_yes rfl rfl h8 ?_
            unfold Oper.wp
            generalize a.eval = ρ at *
            go_simp
            try go_bits
            first | exact rel_val (Chg.refl _) | (go_simp; exact rel_val (Chg.refl _))
          case qzo13 =>
            rintro a wx hE hin (h12 : a.eval (.tmp 51) = _)
            have i8 : a.eval (.tmp 8) = .pointer (some ⟨g8, 0, none⟩) := hin 8 rfl
            clear hin
            have hcst : ∀ v, a.eval (.const v) = v := fun _ => rfl
            have hfnc : ∀ f, a.eval (.func f) = .func (.func f) #[] #[] := fun _ => rfl
            refine want_yes rfl rfl h12 ?_
            exact wp_ld 63 _ rfl g8 0 5 (labC kk) (labC kk) i8 ((N7.out.drew).chg hE id) (by kernel_rfl) (by kernel_rfl) (Nat.le_refl _) rfl (rel_val (Chg.refl _))
          case qzo14 =>
            rintro a wx hE hin (h12 : a.eval (.tmp 51) = _)
            clear hin
            have hcst : ∀ v, a.eval (.const v) = v := fun _ => rfl
            have hfnc : ∀ f, a.eval (.func f) = .func (.func f) #[] #[] := fun _ => rfl
            refine want_yes rfl rfl h12 ?_
            exact wp_bld 63 [] rfl (labC zLab) [] (labC zLab) (by kernel_rfl) (by kernel_rfl) trivial rfl (rel_val (Chg.refl _))
          case qzo15 =>
            rintro a wx hE hin (h12 : a.eval (.tmp 51) = _) (h13 : a.eval (.tmp 52) = _) (h14 : a.eval (.tmp 53) = _)
            clear hin
            have hcst : ∀ v, a.eval (.const v) = v := fun _ => rfl
            have hfnc : ∀ f, a.eval (.func f) = .func (.func f) #[] #[] := fun _ => rfl
            refine want_yes rfl rfl h12 ?_
            exact wp_eq_lab true 63 _ _ rfl kk zLab h13 h14 (by rw [show (true ^^ decide (kk = zLab)) = false by rw [HKZ.out]; simp]; exact rel_val (e := .bool false) (Chg.refl _))
          case qzo16 =>
            rintro a wx hE hin (h8 : a.eval (.tmp 47) = _) (h12 : a.eval (.tmp 51) = _) (h15 : a.eval (.tmp 54) = _)
            clear hin
            have hcst : ∀ v, a.eval (.const v) = v := fun _ => rfl
            have hfnc : ∀ f, a.eval (.func f) = .func (.func f) #[] #[] := fun _ => rfl
            refine want_yes rfl rfl h8 ?_
            unfold Oper.wp
            generalize a.eval = ρ at *
            go_simp
            try go_bits
            first | exact rel_val (Chg.refl _) | (go_simp; exact rel_val (Chg.refl _))
          case qzo17 =>
            rintro a wx hE hin (h8 : a.eval (.tmp 47) = _) (h16 : a.eval (.tmp 55) = _)
            clear hin
            have hcst : ∀ v, a.eval (.const v) = v := fun _ => rfl
            have hfnc : ∀ f, a.eval (.func f) = .func (.func f) #[] #[] := fun _ => rfl
            refine want_none rfl ?_
            unfold Oper.wp
            generalize a.eval = ρ at *
            go_simp
            try go_bits
            first | exact rel_val (Chg.refl _) | (go_simp; exact rel_val (Chg.refl _))
        case qzfin =>
          intro wx hE
          rintro _ rfl _ rfl _ rfl _ rfl _ rfl _ rfl _ rfl _ rfl _ rfl _ rfl _ rfl _ rfl _ rfl _ rfl _ rfl _ rfl _ rfl _ rfl
          simp only [FinOk, List.take_succ_cons, List.take_zero, List.take_nil, List.drop_succ_cons, List.drop_zero, List.drop_nil, Act.put, List.setIfInBounds_toArray, List.set_cons_succ, List.set_cons_zero]
          have E8 : Hid (Below w.heap.size w wx) := E7.out.trans ((hE.undrew).below (B := w.heap.size) E7.out.size (fun _ _ => id))
          clear hE
          go_wp2_with fail
          refine (wakes7_calls wx).mono ?_
          rintro e w9 ⟨rfl, hb⟩
          have E9 : Hid (Below w.heap.size w w9) := E8.out.trans (hb.mono E8.out.size)
          clear hb
          go_wp2
          go_ret
          exact ⟨rfl, E9.out⟩
end Go.Proofs.Ytnpcehlbboeadaa
