/- The walk of the reference's Decode of labels. -/
import Derived.Test.YtnpcehlbboeadaaLabRefEnc
namespace Go.Proofs.Ytnpcehlbboeadaa
open Go.RowKit
set_option linter.unusedVariables false
set_option linter.unusedSimpArgs false

theorem got_rd {w : World} {g : Nat} {d b : List UInt8} {dv : List Value} (hd : dv.length = 31 ∧ ∃ u, dv = bts d ++ [u] ∧ d.length = 30) (hb : (d.drop 1).take 29 = b) (h : Bk w g dv) (off n : Nat) (hn : 1 + off + n ≤ 30) : Rd w (some ⟨g, 1 + off, none⟩) (bts ((b.drop off).take n)) := by
  obtain ⟨_, u, rfl, hl⟩ := hd
  have := h.rd_at (1 + off) n
  rw [List.drop_append_of_le_length (by rw [bts_length]; omega), List.take_append_of_le_length (by rw [List.length_drop, bts_length]; omega), bts_drop, bts_take] at this
  rw [← hb, List.drop_take, List.take_take, List.drop_drop, Nat.min_eq_left (by omega)]
  exact this
set_option maxRecDepth 100000 in
set_option maxHeartbeats 8000000 in
theorem refLabDecode_calls (x : List UInt8) (w : World) (hx : x.length = 32) :
    Calls Try.prog 33 #[.agg (bts x).toArray] w fun e w' => e = .returned (.tuple #[.agg (labC (labDec x).1).toArray, .int .i64 (labDec x).2]) ∧ Below w.heap.size w w' := by
  have HXL := Lib.hid hx
  have HBX : Hid ((bts x).length = 32) := by show _ = _; rw [bts_length, hx]
  clear hx
  go_enter Try.func33, Try.ntmps33
  go_wp2_with (refine wpList_al rfl 63 rfl (labC zLab) (by kernel_rfl) ?_)
  intro g2 w1 hg hb hc hs
  have X1 : Hid (Bk w1 w.heap.size (bts x)) := (Bk.new w (bts x) _).chg hc id
  have E1 : Hid (Below w.heap.size w w1) := ((Below.refl _ _).alloc (Nat.le_refl _) _).trans (hc.below (by simp) (fun _ _ => id))
  have G2 : Hid (w.heap.size < g2) := by show _ < _; rw [hg]; simp
  have R1 := Lib.hid hb
  clear hg hb hc hs
  by_cases hz : x = (List.replicate 32 0)
  · have HZ := Lib.hid hz
    have HD : Hid (labDec x = (zLab, 0)) := by show _ = _; rw [labDec, if_pos hz]
    clear hz
    go_wp2_with (first
      | (refine wpList_ld rfl 37 (.tmp 1) rfl w.heap.size 0 32 (bts x) (bts x) rfl X1.out (by kernel_rfl) (by kernel_rfl) (by rw [HBX.out]; decide) (by rw [List.drop_zero, ← HBX.out, List.take_length]) ?_)
      | (refine wpList_bld rfl 37 [] rfl (bts (List.replicate 32 0)) [] (bts (List.replicate 32 0)) (by kernel_rfl) (by kernel_rfl) trivial rfl ?_)
      | (refine wpList_eq_bytes rfl false 37 37 (.tmp 7) (.tmp 8) rfl 5 32 Try.underlying37 Try.underlying5 (by kernel_rfl) (by kernel_rfl) x (List.replicate 32 0) rfl rfl HXL.out (by rw [List.length_replicate]) true (by rw [HZ.out]; simp) ?_)
      | (refine wpList_bld rfl 63 [] rfl (labC zLab) [] (labC zLab) (by kernel_rfl) (by kernel_rfl) trivial rfl ?_)
      | (refine wpList_st rfl 63 (.tmp 2) (.tmp 10) rfl g2 0 5 (labC zLab) (labC zLab) rfl rfl R1.out (by kernel_rfl) rfl (by decide) (one_lab _) ?_))
    intro w2 hb hc
    rw [splice_whole (labC zLab) (labC zLab) rfl] at hb
    have hg2 := G2.out
    have E2 : Hid (Below w.heap.size w w2) := E1.out.trans (hc.below E1.out.size (fun _ _ => by omega))
    have R2 := Lib.hid hb
    clear hb hc hg2
    go_wp2_with fail
    (try simp only [Exit.inBlock, Exit.then])
    refine bodyPost_ret (res_cell_tmp rfl _ _ g2 5 (labC zLab) rfl R2.out (by kernel_rfl) (by kernel_rfl) rfl) rfl ?_
    exact ⟨by rw [HD.out]; rfl, E2.out⟩
  · have HZ := Lib.hid hz
    go_wp2_with (first
      | (refine wpList_ld rfl 37 (.tmp 1) rfl w.heap.size 0 32 (bts x) (bts x) rfl X1.out (by kernel_rfl) (by kernel_rfl) (by rw [HBX.out]; decide) (by rw [List.drop_zero, ← HBX.out, List.take_length]) ?_)
      | (refine wpList_bld rfl 37 [] rfl (bts (List.replicate 32 0)) [] (bts (List.replicate 32 0)) (by kernel_rfl) (by kernel_rfl) trivial rfl ?_)
      | (refine wpList_eq_bytes rfl false 37 37 (.tmp 7) (.tmp 8) rfl 5 32 Try.underlying37 Try.underlying5 (by kernel_rfl) (by kernel_rfl) x (List.replicate 32 0) rfl rfl HXL.out (by rw [List.length_replicate]) false (by rw [decide_eq_false HZ.out]; rfl) ?_))
    refine (refDecode_calls x w1 HXL.out).mono ?_
    rintro e w2 ⟨rfl, hb⟩
    have X2 := Lib.hid (X1.out.below hb)
    have R2 := Lib.hid (R1.out.below hb)
    have E2 : Hid (Below w.heap.size w w2) := E1.out.trans (hb.mono E1.out.size)
    clear hb
    have hdl := decR_len HXL.out
    obtain ⟨b, hb0⟩ : ∃ b, ((decR x).1.drop 1).take 29 = b := ⟨_, rfl⟩
    have HDB := Lib.hid hb0
    have HB29 : Hid (b.length = 29) := by show _ = _; rw [← hb0, List.length_take, List.length_drop, hdl]; rfl
    obtain ⟨dv, hdv⟩ : ∃ dv, bts (decR x).1 ++ [Value.int .i64 (decR x).2] = dv := ⟨_, rfl⟩
    have HDL : Hid (dv.length = 31 ∧ ∃ u, dv = bts (decR x).1 ++ [u] ∧ (decR x).1.length = 30) := ⟨by rw [← hdv, List.length_append, bts_length, hdl]; rfl, _, hdv.symm, hdl⟩
    have HDO : Hid (∀ u ∈ dv, u.oneCell' = true) := by rw [← hdv]; exact one_got _ _
    have HDC : Hid (dv[30]? = some (.int .i64 (decR x).2)) := by show _ = _; rw [← hdv, List.getElem?_append_right (by rw [bts_length, hdl]; decide), bts_length, hdl]; rfl
    rw [hdv]
    clear hdv hdl hb0 hz
    go_wp2_with (refine wpList_al rfl 102 rfl (bts (List.replicate 30 0) ++ [Value.int .i64 0]) (by kernel_rfl) ?_)
    intro g4 w3 hg hb hc hs
    have X3 := Lib.hid (X2.out.chg hc id)
    have R3 := Lib.hid (R2.out.chg hc id)
    have E3 : Hid (Below w.heap.size w w3) := E2.out.trans (hc.below E2.out.size (fun _ _ => id))
    have G4 : Hid (g2 < g4) := by show _ < _; rw [hg]; exact R2.out.lt
    have S3 := Lib.hid hb
    clear hg hb hc hs
    go_wp2_with (refine wpList_st rfl 102 (.tmp 4) (.tmp 12) rfl g4 0 31 (bts (List.replicate 30 0) ++ [Value.int .i64 0]) dv rfl rfl S3.out (by kernel_rfl) HDL.out.1 (by decide) HDO.out ?_)
    intro w4 hb hc
    rw [splice_whole _ _ (by rw [HDL.out.1]; rfl)] at hb
    have hg2 := G2.out
    have hg4 := G4.out
    have X4 := Lib.hid (X3.out.chg hc (by omega))
    have R4 := Lib.hid (R3.out.chg hc (by omega))
    have E4 : Hid (Below w.heap.size w w4) := E3.out.trans (hc.below E3.out.size (fun _ _ => by omega))
    have S4 := Lib.hid hb
    clear hb hc hg2 hg4
    have HK0 := Lib.hid (num32 b 0)
    have HK1 := Lib.hid (num32 b 4)
    have HK2 := Lib.hid (num32 b 8)
    have HK3 := Lib.hid (num16m b 12)
    have HK4 := Lib.hid (num16m b 14)
    go_wp2_with fail
    apply wp_region_rel 19 (Chg NoS) [(Veq _), (Veq _), (Veq _), (Veq _), (Veq _), (Veq _), (Veq _), (Veq _), (Veq _), (Veq _), (Veq _), (Veq _), (Veq _), (Veq _), (Veq _), (Veq _), (Veq _), (Veq _), (PtrAt NoS w4.heap.size (labC zLab))] [[], [0], [1], [], [3], [4], [], [6], [7], [], [9], [10], [11], [], [13], [14], [15], [2, 5, 8, 12, 16], []] [15, 16, 17, 18, 19, 20, 21, 22, 23, 24, 25, 26, 27, 28, 29, 30, 31, 32, 6] (by kernel_rfl) (by kernel_rfl) rfl rfl rfl Chg.refl (fun _ _ _ => Chg.trans) ⟨Veq.lasts, Veq.lasts, Veq.lasts, Veq.lasts, Veq.lasts, Veq.lasts, Veq.lasts, Veq.lasts, Veq.lasts, Veq.lasts, Veq.lasts, Veq.lasts, Veq.lasts, Veq.lasts, Veq.lasts, Veq.lasts, Veq.lasts, Veq.lasts, PtrAt.lasts, trivial⟩ ?aops ?afin
    case aops =>
      refine ⟨?ao0, ?ao1, ?ao2, ?ao3, ?ao4, ?ao5, ?ao6, ?ao7, ?ao8, ?ao9, ?ao10, ?ao11, ?ao12, ?ao13, ?ao14, ?ao15, ?ao16, ?ao17, ?ao18, trivial⟩
      case ao0 =>
        intro a wx hE hin
        have i5 : a.eval (.tmp 5) = .slice (some ⟨g4, 1, none⟩) 29 29 := hin 5 rfl
        clear hin
        have hcst : ∀ v, a.eval (.const v) = v := fun _ => rfl
        have hfnc : ∀ f, a.eval (.func f) = .func (.func f) #[] #[] := fun _ => rfl
        refine want_none rfl ?_
        unfold Oper.wp
        generalize a.eval = ρ at *
        go_simp
        try go_bits
        first | exact rel_val (Chg.refl _) | (go_simp; exact rel_val (Chg.refl _))
      case ao1 =>
        rintro a wx hE hin (h0 : a.eval (.tmp 15) = _)
        clear hin
        have hcst : ∀ v, a.eval (.const v) = v := fun _ => rfl
        have hfnc : ∀ f, a.eval (.func f) = .func (.func f) #[] #[] := fun _ => rfl
        refine want_none rfl ?_
        unfold Oper.wp
        generalize a.eval = ρ at *
        go_simp
        try go_bits
        first | exact rel_val (Chg.refl _) | (go_simp; exact rel_val (Chg.refl _))
      case ao2 =>
        rintro a wx hE hin (h1 : a.eval (.tmp 16) = _)
        clear hin
        have hcst : ∀ v, a.eval (.const v) = v := fun _ => rfl
        have hfnc : ∀ f, a.eval (.func f) = .func (.func f) #[] #[] := fun _ => rfl
        refine want_none rfl ?_
        unfold Oper.wp
        generalize a.eval = ρ at *
        go_simp
        refine (refNum_calls ((b.drop 0).take 4) (some ⟨g4, 1, none⟩) 4 _ wx (by rw [List.length_take, List.length_drop, HB29.out]; decide) (by decide) (got_rd HDL.out HDB.out ((S4.out.drew).chg hE id) 0 4 (by decide))).mono ?_
        rintro e w' ⟨rfl, rfl⟩
        exact rel_val (Chg.refl _)
      case ao3 =>
        intro a wx hE hin
        have i5 : a.eval (.tmp 5) = .slice (some ⟨g4, 1, none⟩) 29 29 := hin 5 rfl
        clear hin
        have hcst : ∀ v, a.eval (.const v) = v := fun _ => rfl
        have hfnc : ∀ f, a.eval (.func f) = .func (.func f) #[] #[] := fun _ => rfl
        refine want_none rfl ?_
        unfold Oper.wp
        generalize a.eval = ρ at *
        go_simp
        try go_bits
        first | exact rel_val (Chg.refl _) | (go_simp; exact rel_val (Chg.refl _))
      case ao4 =>
        rintro a wx hE hin (h3 : a.eval (.tmp 18) = _)
        clear hin
        have hcst : ∀ v, a.eval (.const v) = v := fun _ => rfl
        have hfnc : ∀ f, a.eval (.func f) = .func (.func f) #[] #[] := fun _ => rfl
        refine want_none rfl ?_
        unfold Oper.wp
        generalize a.eval = ρ at *
        go_simp
        try go_bits
        first | exact rel_val (Chg.refl _) | (go_simp; exact rel_val (Chg.refl _))
      case ao5 =>
        rintro a wx hE hin (h4 : a.eval (.tmp 19) = _)
        clear hin
        have hcst : ∀ v, a.eval (.const v) = v := fun _ => rfl
        have hfnc : ∀ f, a.eval (.func f) = .func (.func f) #[] #[] := fun _ => rfl
        refine want_none rfl ?_
        unfold Oper.wp
        generalize a.eval = ρ at *
        go_simp
        refine (refNum_calls ((b.drop 4).take 4) (some ⟨g4, 5, none⟩) 4 _ wx (by rw [List.length_take, List.length_drop, HB29.out]; decide) (by decide) (got_rd HDL.out HDB.out ((S4.out.drew).chg hE id) 4 4 (by decide))).mono ?_
        rintro e w' ⟨rfl, rfl⟩
        exact rel_val (Chg.refl _)
      case ao6 =>
        intro a wx hE hin
        have i5 : a.eval (.tmp 5) = .slice (some ⟨g4, 1, none⟩) 29 29 := hin 5 rfl
        clear hin
        have hcst : ∀ v, a.eval (.const v) = v := fun _ => rfl
        have hfnc : ∀ f, a.eval (.func f) = .func (.func f) #[] #[] := fun _ => rfl
        refine want_none rfl ?_
        unfold Oper.wp
        generalize a.eval = ρ at *
        go_simp
        try go_bits
        first | exact rel_val (Chg.refl _) | (go_simp; exact rel_val (Chg.refl _))
      case ao7 =>
        rintro a wx hE hin (h6 : a.eval (.tmp 21) = _)
        clear hin
        have hcst : ∀ v, a.eval (.const v) = v := fun _ => rfl
        have hfnc : ∀ f, a.eval (.func f) = .func (.func f) #[] #[] := fun _ => rfl
        refine want_none rfl ?_
        unfold Oper.wp
        generalize a.eval = ρ at *
        go_simp
        try go_bits
        first | exact rel_val (Chg.refl _) | (go_simp; exact rel_val (Chg.refl _))
      case ao8 =>
        rintro a wx hE hin (h7 : a.eval (.tmp 22) = _)
        clear hin
        have hcst : ∀ v, a.eval (.const v) = v := fun _ => rfl
        have hfnc : ∀ f, a.eval (.func f) = .func (.func f) #[] #[] := fun _ => rfl
        refine want_none rfl ?_
        unfold Oper.wp
        generalize a.eval = ρ at *
        go_simp
        refine (refNum_calls ((b.drop 8).take 4) (some ⟨g4, 9, none⟩) 4 _ wx (by rw [List.length_take, List.length_drop, HB29.out]; decide) (by decide) (got_rd HDL.out HDB.out ((S4.out.drew).chg hE id) 8 4 (by decide))).mono ?_
        rintro e w' ⟨rfl, rfl⟩
        exact rel_val (Chg.refl _)
      case ao9 =>
        intro a wx hE hin
        have i5 : a.eval (.tmp 5) = .slice (some ⟨g4, 1, none⟩) 29 29 := hin 5 rfl
        clear hin
        have hcst : ∀ v, a.eval (.const v) = v := fun _ => rfl
        have hfnc : ∀ f, a.eval (.func f) = .func (.func f) #[] #[] := fun _ => rfl
        refine want_none rfl ?_
        unfold Oper.wp
        generalize a.eval = ρ at *
        go_simp
        try go_bits
        first | exact rel_val (Chg.refl _) | (go_simp; exact rel_val (Chg.refl _))
      case ao10 =>
        rintro a wx hE hin (h9 : a.eval (.tmp 24) = _)
        clear hin
        have hcst : ∀ v, a.eval (.const v) = v := fun _ => rfl
        have hfnc : ∀ f, a.eval (.func f) = .func (.func f) #[] #[] := fun _ => rfl
        refine want_none rfl ?_
        unfold Oper.wp
        generalize a.eval = ρ at *
        go_simp
        try go_bits
        first | exact rel_val (Chg.refl _) | (go_simp; exact rel_val (Chg.refl _))
      case ao11 =>
        rintro a wx hE hin (h10 : a.eval (.tmp 25) = _)
        clear hin
        have hcst : ∀ v, a.eval (.const v) = v := fun _ => rfl
        have hfnc : ∀ f, a.eval (.func f) = .func (.func f) #[] #[] := fun _ => rfl
        refine want_none rfl ?_
        unfold Oper.wp
        generalize a.eval = ρ at *
        go_simp
        refine (refNum_calls ((b.drop 12).take 2) (some ⟨g4, 13, none⟩) 2 _ wx (by rw [List.length_take, List.length_drop, HB29.out]; decide) (by decide) (got_rd HDL.out HDB.out ((S4.out.drew).chg hE id) 12 2 (by decide))).mono ?_
        rintro e w' ⟨rfl, rfl⟩
        exact rel_val (Chg.refl _)
      case ao12 =>
        rintro a wx hE hin (h11 : a.eval (.tmp 26) = _)
        clear hin
        have hcst : ∀ v, a.eval (.const v) = v := fun _ => rfl
        have hfnc : ∀ f, a.eval (.func f) = .func (.func f) #[] #[] := fun _ => rfl
        refine want_none rfl ?_
        unfold Oper.wp
        generalize a.eval = ρ at *
        go_simp
        try go_bits
        first | exact rel_val (Chg.refl _) | (go_simp; exact rel_val (Chg.refl _))
      case ao13 =>
        intro a wx hE hin
        have i5 : a.eval (.tmp 5) = .slice (some ⟨g4, 1, none⟩) 29 29 := hin 5 rfl
        clear hin
        have hcst : ∀ v, a.eval (.const v) = v := fun _ => rfl
        have hfnc : ∀ f, a.eval (.func f) = .func (.func f) #[] #[] := fun _ => rfl
        refine want_none rfl ?_
        unfold Oper.wp
        generalize a.eval = ρ at *
        go_simp
        try go_bits
        first | exact rel_val (Chg.refl _) | (go_simp; exact rel_val (Chg.refl _))
      case ao14 =>
        rintro a wx hE hin (h13 : a.eval (.tmp 28) = _)
        clear hin
        have hcst : ∀ v, a.eval (.const v) = v := fun _ => rfl
        have hfnc : ∀ f, a.eval (.func f) = .func (.func f) #[] #[] := fun _ => rfl
        refine want_none rfl ?_
        unfold Oper.wp
        generalize a.eval = ρ at *
        go_simp
        try go_bits
        first | exact rel_val (Chg.refl _) | (go_simp; exact rel_val (Chg.refl _))
      case ao15 =>
        rintro a wx hE hin (h14 : a.eval (.tmp 29) = _)
        clear hin
        have hcst : ∀ v, a.eval (.const v) = v := fun _ => rfl
        have hfnc : ∀ f, a.eval (.func f) = .func (.func f) #[] #[] := fun _ => rfl
        refine want_none rfl ?_
        unfold Oper.wp
        generalize a.eval = ρ at *
        go_simp
        refine (refNum_calls ((b.drop 14).take 2) (some ⟨g4, 15, none⟩) 2 _ wx (by rw [List.length_take, List.length_drop, HB29.out]; decide) (by decide) (got_rd HDL.out HDB.out ((S4.out.drew).chg hE id) 14 2 (by decide))).mono ?_
        rintro e w' ⟨rfl, rfl⟩
        exact rel_val (Chg.refl _)
      case ao16 =>
        rintro a wx hE hin (h15 : a.eval (.tmp 30) = _)
        clear hin
        have hcst : ∀ v, a.eval (.const v) = v := fun _ => rfl
        have hfnc : ∀ f, a.eval (.func f) = .func (.func f) #[] #[] := fun _ => rfl
        refine want_none rfl ?_
        unfold Oper.wp
        generalize a.eval = ρ at *
        go_simp
        try go_bits
        first | exact rel_val (Chg.refl _) | (go_simp; exact rel_val (Chg.refl _))
      case ao17 =>
        rintro a wx hE hin (h2 : a.eval (.tmp 17) = _) (h5 : a.eval (.tmp 20) = _) (h8 : a.eval (.tmp 23) = _) (h12 : a.eval (.tmp 27) = _) (h16 : a.eval (.tmp 31) = _)
        clear hin
        have hcst : ∀ v, a.eval (.const v) = v := fun _ => rfl
        have hfnc : ∀ f, a.eval (.func f) = .func (.func f) #[] #[] := fun _ => rfl
        refine want_none rfl ?_
        exact wp_bld 63 [(0, .tmp 17), (1, .tmp 20), (2, .tmp 23), (3, .tmp 27), (4, .tmp 31)] rfl (labC zLab) [(0, [vu32 (labOf b).e]), (1, [vu32 (labOf b).s]), (2, [vu32 (labOf b).n]), (3, [vu16 (labOf b).d]), (4, [vu16 (labOf b).la])] (labC (labOf b)) (by kernel_rfl) (by kernel_rfl)
          ⟨by rw [h2, HK0.out]; rfl, ⟨1, rfl, by kernel_rfl, by decide⟩, by rw [h5, HK1.out]; rfl, ⟨1, rfl, by kernel_rfl, by decide⟩, by rw [h8, HK2.out]; rfl, ⟨1, rfl, by kernel_rfl, by decide⟩, by rw [h12, HK3.out]; rfl, ⟨1, rfl, by kernel_rfl, by decide⟩, by rw [h16, HK4.out]; rfl, ⟨1, rfl, by kernel_rfl, by decide⟩, trivial⟩ rfl (rel_val (Chg.refl _))
      case ao18 =>
        intro a wx hE hin
        clear hin
        have hcst : ∀ v, a.eval (.const v) = v := fun _ => rfl
        have hfnc : ∀ f, a.eval (.func f) = .func (.func f) #[] #[] := fun _ => rfl
        refine want_none rfl ?_
        exact wp_al 63 rfl (labC zLab) (by kernel_rfl) ⟨_, rfl, ⟨_, rfl, hE.size, id, Bk.new wx _ _⟩, (Chg.refl _).alloc _⟩
    case afin =>
      intro wx hE
      rintro _ rfl _ rfl _ rfl _ rfl _ rfl _ rfl _ rfl _ rfl _ rfl _ rfl _ rfl _ rfl _ rfl _ rfl _ rfl _ rfl _ rfl _ rfl _ ⟨g6, rfl, p7, n7, b7⟩
      simp only [FinOk, List.take_succ_cons, List.take_zero, List.take_nil, List.drop_succ_cons, List.drop_zero, List.drop_nil, Act.put, List.setIfInBounds_toArray, List.set_cons_succ, List.set_cons_zero]
      have K7 : Hid (Bk wx w.heap.size (bts x)) := (X4.out.drew).chg hE id
      have R7 : Hid (Bk wx g2 (labC zLab)) := (R4.out.drew).chg hE id
      have S7 := Lib.hid ((S4.out.drew).chg hE id)
      have E7 : Hid (Below w.heap.size w wx) := E4.out.trans ((hE.undrew).below (B := w.heap.size) E4.out.size (fun _ _ => id))
      have L7 := Lib.hid b7
      have P7 := Lib.hid p7
      clear hE b7 p7 n7
      obtain ⟨k, hk⟩ : ∃ k, labOf b = k := ⟨_, rfl⟩
      have HKB := Lib.hid hk
      rw [hk]
      have hg6 : g2 < g6 := Nat.lt_of_lt_of_le R4.out.lt P7.out
      have hg46 : g4 < g6 := Nat.lt_of_lt_of_le S4.out.lt P7.out
      have G6 := Lib.hid hg6
      have G46 := Lib.hid hg46
      clear hk hg6 hg46 HK0 HK1 HK2 HK3 HK4
      go_wp2_with (refine wpList_st rfl 63 (.tmp 6) (.tmp 32) rfl g6 0 5 (labC zLab) (labC k) rfl rfl L7.out (by kernel_rfl) rfl (by decide) (one_lab _) ?_)
      intro w8 hb hc
      rw [splice_whole (labC zLab) (labC k) rfl] at hb
      have hg2 := G2.out
      have hg6 := G6.out
      have hg46 := G46.out
      have X8 := Lib.hid (K7.out.chg hc (by omega))
      have R8 := Lib.hid (R7.out.chg hc (by omega))
      have S8 := Lib.hid (S7.out.chg hc (by omega))
      have E8 : Hid (Below w.heap.size w w8) := E7.out.trans (hc.below E7.out.size (fun _ _ => by omega))
      have L8 := Lib.hid hb
      clear hb hc hg2 hg6 hg46
      go_wp2_with fail
      rcases decR_err x with he | he
      · have hbo : b = bodyOf x := by rw [← HDB.out, decR_ok he, List.drop_succ_cons, List.drop_zero, List.take_of_length_le (by rw [bodyOf, List.length_take]; omega)]
        have HD30 : Hid (dv[30]? = some (.int .i64 0)) := by show _ = _; rw [HDC.out, he]
        have HD0 : Hid (labDec x = if labEnc k ≠ x then (zLab, 11) else (k, 0)) := by
          show _ = _
          rw [labDec, if_neg HZ.out, ← hbo, HKB.out]
          by_cases h : labEnc k ≠ x
          · rw [if_pos (.inr h), if_pos h]
          · rw [if_neg (fun hh => hh.elim (fun h2 => h2 he) h), if_neg h]
        clear he hbo
        by_cases hq : labEnc k = x
        · have HQ := Lib.hid hq
          have HD : Hid (labDec x = (k, 0)) := by show _ = _; rw [HD0.out, if_neg (fun h => h hq)]
          clear hq
          apply wp_region_rel 9 (Chg NoS) [(Veq _), (Veq _), (Veq _), (Veq _), (Veq _), (Veq _), (Veq _), (Veq _), (Veq _)] [[], [0], [1], [2], [3], [3, 4], [3], [3, 5, 6], [3, 7]] [33, 34, 35, 36, 37, 38, 39, 40, 41] (by kernel_rfl) (by kernel_rfl) rfl rfl rfl Chg.refl (fun _ _ _ => Chg.trans) ⟨Veq.lasts, Veq.lasts, Veq.lasts, Veq.lasts, Veq.lasts, Veq.lasts, Veq.lasts, Veq.lasts, Veq.lasts, trivial⟩ ?bops ?bfin
          case bops =>
            refine ⟨?bo0, ?bo1, ?bo2, ?bo3, ?bo4, ?bo5, ?bo6, ?bo7, ?bo8, trivial⟩
            case bo0 =>
              intro a wx hE hin
              have i4 : a.eval (.tmp 4) = .pointer (some ⟨g4, 0, none⟩) := hin 4 rfl
              clear hin
              have hcst : ∀ v, a.eval (.const v) = v := fun _ => rfl
              have hfnc : ∀ f, a.eval (.func f) = .func (.func f) #[] #[] := fun _ => rfl
              refine want_none rfl ?_
              unfold Oper.wp
              generalize a.eval = ρ at *
              go_simp
              try go_bits
              first | exact rel_val (Chg.refl _) | (go_simp; exact rel_val (Chg.refl _))
            case bo1 =>
              rintro a wx hE hin (h0 : a.eval (.tmp 33) = _)
              clear hin
              have hcst : ∀ v, a.eval (.const v) = v := fun _ => rfl
              have hfnc : ∀ f, a.eval (.func f) = .func (.func f) #[] #[] := fun _ => rfl
              refine want_none rfl ?_
              unfold Oper.wp
              generalize a.eval = ρ at *
              have c := Bk.cell ((S8.out.drew).chg hE id) HD30.out
              go_simp
              try go_bits
              first | exact rel_val (Chg.refl _) | (go_simp; exact rel_val (Chg.refl _))
            case bo2 =>
              rintro a wx hE hin (h1 : a.eval (.tmp 34) = _)
              clear hin
              have hcst : ∀ v, a.eval (.const v) = v := fun _ => rfl
              have hfnc : ∀ f, a.eval (.func f) = .func (.func f) #[] #[] := fun _ => rfl
              refine want_none rfl ?_
              unfold Oper.wp
              generalize a.eval = ρ at *
              go_simp
              try go_bits
              first | exact rel_val (Chg.refl _) | (go_simp; exact rel_val (Chg.refl _))
            case bo3 =>
              rintro a wx hE hin (h2 : a.eval (.tmp 35) = _)
              clear hin
              have hcst : ∀ v, a.eval (.const v) = v := fun _ => rfl
              have hfnc : ∀ f, a.eval (.func f) = .func (.func f) #[] #[] := fun _ => rfl
              refine want_none rfl ?_
              unfold Oper.wp
              generalize a.eval = ρ at *
              go_simp
              try go_bits
              first | exact rel_val (Chg.refl _) | (go_simp; exact rel_val (Chg.refl _))
            case bo4 =>
              rintro a wx hE hin (h3 : a.eval (.tmp 36) = _)
              have i6 : a.eval (.tmp 6) = .pointer (some ⟨g6, 0, none⟩) := hin 6 rfl
              clear hin
              have hcst : ∀ v, a.eval (.const v) = v := fun _ => rfl
              have hfnc : ∀ f, a.eval (.func f) = .func (.func f) #[] #[] := fun _ => rfl
              refine want_yes rfl rfl h3 ?_
              exact wp_ld 63 _ rfl g6 0 5 (labC k) (labC k) i6 ((L8.out.drew).chg hE id) (by kernel_rfl) (by kernel_rfl) (Nat.le_refl _) rfl (rel_val (Chg.refl _))
            case bo5 =>
              rintro a wx hE hin (h3 : a.eval (.tmp 36) = _) (h4 : a.eval (.tmp 37) = _)
              clear hin
              have hcst : ∀ v, a.eval (.const v) = v := fun _ => rfl
              have hfnc : ∀ f, a.eval (.func f) = .func (.func f) #[] #[] := fun _ => rfl
              refine want_yes rfl rfl h3 ?_
              unfold Oper.wp
              generalize a.eval = ρ at *
              go_simp
              refine (refLabEncode_calls k wx).mono ?_
              rintro e w' ⟨rfl, hb⟩
              exact rel_val (.of_below hb)
            case bo6 =>
              rintro a wx hE hin (h3 : a.eval (.tmp 36) = _)
              have i1 : a.eval (.tmp 1) = .pointer (some ⟨w.heap.size, 0, none⟩) := hin 1 rfl
              clear hin
              have hcst : ∀ v, a.eval (.const v) = v := fun _ => rfl
              have hfnc : ∀ f, a.eval (.func f) = .func (.func f) #[] #[] := fun _ => rfl
              refine want_yes rfl rfl h3 ?_
              exact wp_ld 37 _ rfl w.heap.size 0 32 (bts x) (bts x) i1 ((X8.out.drew).chg hE id) (by kernel_rfl) (by kernel_rfl) (by rw [HBX.out]; decide) (by rw [List.drop_zero, ← HBX.out, List.take_length]) (rel_val (Chg.refl _))
            case bo7 =>
              rintro a wx hE hin (h3 : a.eval (.tmp 36) = _) (h5 : a.eval (.tmp 38) = _) (h6 : a.eval (.tmp 39) = _)
              clear hin
              have hcst : ∀ v, a.eval (.const v) = v := fun _ => rfl
              have hfnc : ∀ f, a.eval (.func f) = .func (.func f) #[] #[] := fun _ => rfl
              refine want_yes rfl rfl h3 ?_
              exact wp_eq_bytes true 37 37 _ _ rfl 5 32 Try.underlying37 Try.underlying5 (by kernel_rfl) (by kernel_rfl) (labEnc k) x h5 h6 (labEnc_length k) HXL.out (by rw [show (true ^^ decide (labEnc k = x)) = false by simp [HQ.out]]; exact rel_val (e := .bool false) (Chg.refl _))
            case bo8 =>
              rintro a wx hE hin (h3 : a.eval (.tmp 36) = _) (h7 : a.eval (.tmp 40) = _)
              clear hin
              have hcst : ∀ v, a.eval (.const v) = v := fun _ => rfl
              have hfnc : ∀ f, a.eval (.func f) = .func (.func f) #[] #[] := fun _ => rfl
              refine want_none rfl ?_
              unfold Oper.wp
              generalize a.eval = ρ at *
              go_simp
              try go_bits
              first | exact rel_val (Chg.refl _) | (go_simp; exact rel_val (Chg.refl _))
          case bfin =>
            intro wx hE
            rintro _ rfl _ rfl _ rfl _ rfl _ rfl _ rfl _ rfl _ rfl _ rfl
            simp only [FinOk, List.take_succ_cons, List.take_zero, List.take_nil, List.drop_succ_cons, List.drop_zero, List.drop_nil, Act.put, List.setIfInBounds_toArray, List.set_cons_succ, List.set_cons_zero]
            have R9 : Hid (Bk wx g2 (labC zLab)) := (R8.out.drew).chg hE id
            have L9 : Hid (Bk wx g6 (labC k)) := (L8.out.drew).chg hE id
            have E9 : Hid (Below w.heap.size w wx) := E8.out.trans ((hE.undrew).below (B := w.heap.size) E8.out.size (fun _ _ => id))
            clear hE
            go_wp2_with (first
              | (refine wpList_ld rfl 63 (.tmp 6) rfl g6 0 5 (labC k) (labC k) rfl L9.out (by kernel_rfl) (by kernel_rfl) (Nat.le_refl _) rfl ?_)
              | (refine wpList_st rfl 63 (.tmp 2) (.tmp 43) rfl g2 0 5 (labC zLab) (labC k) rfl rfl R9.out (by kernel_rfl) rfl (by decide) (one_lab _) ?_))
            intro w9 hb hc
            rw [splice_whole (labC zLab) (labC k) rfl] at hb
            have hg2 := G2.out
            have E10 : Hid (Below w.heap.size w w9) := E9.out.trans (hc.below E9.out.size (fun _ _ => by omega))
            have R10 := Lib.hid hb
            clear hb hc hg2
            go_wp2_with fail
            (try simp only [Exit.inBlock, Exit.then])
            refine bodyPost_ret (res_cell_tmp rfl _ _ g2 5 (labC k) rfl R10.out (by kernel_rfl) (by kernel_rfl) rfl) rfl ?_
            exact ⟨by rw [HD.out]; rfl, E10.out⟩
        · have HQ := Lib.hid hq
          have HD : Hid (labDec x = (zLab, 11)) := by show _ = _; rw [HD0.out, if_pos hq]
          clear hq
          apply wp_region_rel 9 (Chg NoS) [(Veq _), (Veq _), (Veq _), (Veq _), (Veq _), (Veq _), (Veq _), (Veq _), (Veq _)] [[], [0], [1], [2], [3], [3, 4], [3], [3, 5, 6], [3, 7]] [33, 34, 35, 36, 37, 38, 39, 40, 41] (by kernel_rfl) (by kernel_rfl) rfl rfl rfl Chg.refl (fun _ _ _ => Chg.trans) ⟨Veq.lasts, Veq.lasts, Veq.lasts, Veq.lasts, Veq.lasts, Veq.lasts, Veq.lasts, Veq.lasts, Veq.lasts, trivial⟩ ?cops ?cfin
          case cops =>
            refine ⟨?co0, ?co1, ?co2, ?co3, ?co4, ?co5, ?co6, ?co7, ?co8, trivial⟩
            case co0 =>
              intro a wx hE hin
              have i4 : a.eval (.tmp 4) = .pointer (some ⟨g4, 0, none⟩) := hin 4 rfl
              clear hin
              have hcst : ∀ v, a.eval (.const v) = v := fun _ => rfl
              have hfnc : ∀ f, a.eval (.func f) = .func (.func f) #[] #[] := fun _ => rfl
              refine want_none rfl ?_
              unfold Oper.wp
              generalize a.eval = ρ at *
              go_simp
              try go_bits
              first | exact rel_val (Chg.refl _) | (go_simp; exact rel_val (Chg.refl _))
            case co1 =>
              rintro a wx hE hin (h0 : a.eval (.tmp 33) = _)
              clear hin
              have hcst : ∀ v, a.eval (.const v) = v := fun _ => rfl
              have hfnc : ∀ f, a.eval (.func f) = .func (.func f) #[] #[] := fun _ => rfl
              refine want_none rfl ?_
              unfold Oper.wp
              generalize a.eval = ρ at *
              have c := Bk.cell ((S8.out.drew).chg hE id) HD30.out
              go_simp
              try go_bits
              first | exact rel_val (Chg.refl _) | (go_simp; exact rel_val (Chg.refl _))
            case co2 =>
              rintro a wx hE hin (h1 : a.eval (.tmp 34) = _)
              clear hin
              have hcst : ∀ v, a.eval (.const v) = v := fun _ => rfl
              have hfnc : ∀ f, a.eval (.func f) = .func (.func f) #[] #[] := fun _ => rfl
              refine want_none rfl ?_
              unfold Oper.wp
              generalize a.eval = ρ at *
              go_simp
              try go_bits
              first | exact rel_val (Chg.refl _) | (go_simp; exact rel_val (Chg.refl _))
            case co3 =>
              rintro a wx hE hin (h2 : a.eval (.tmp 35) = _)
              clear hin
              have hcst : ∀ v, a.eval (.const v) = v := fun _ => rfl
              have hfnc : ∀ f, a.eval (.func f) = .func (.func f) #[] #[] := fun _ => rfl
              refine want_none rfl ?_
              unfold Oper.wp
              generalize a.eval = ρ at *
              go_simp
              try go_bits
              first | exact rel_val (Chg.refl _) | (go_simp; exact rel_val (Chg.refl _))
            case co4 =>
              rintro a wx hE hin (h3 : a.eval (.tmp 36) = _)
              have i6 : a.eval (.tmp 6) = .pointer (some ⟨g6, 0, none⟩) := hin 6 rfl
              clear hin
              have hcst : ∀ v, a.eval (.const v) = v := fun _ => rfl
              have hfnc : ∀ f, a.eval (.func f) = .func (.func f) #[] #[] := fun _ => rfl
              refine want_yes rfl rfl h3 ?_
              exact wp_ld 63 _ rfl g6 0 5 (labC k) (labC k) i6 ((L8.out.drew).chg hE id) (by kernel_rfl) (by kernel_rfl) (Nat.le_refl _) rfl (rel_val (Chg.refl _))
            case co5 =>
              rintro a wx hE hin (h3 : a.eval (.tmp 36) = _) (h4 : a.eval (.tmp 37) = _)
              clear hin
              have hcst : ∀ v, a.eval (.const v) = v := fun _ => rfl
              have hfnc : ∀ f, a.eval (.func f) = .func (.func f) #[] #[] := fun _ => rfl
              refine want_yes rfl rfl h3 ?_
              unfold Oper.wp
              generalize a.eval = ρ at *
              go_simp
              refine (refLabEncode_calls k wx).mono ?_
              rintro e w' ⟨rfl, hb⟩
              exact rel_val (.of_below hb)
            case co6 =>
              rintro a wx hE hin (h3 : a.eval (.tmp 36) = _)
              have i1 : a.eval (.tmp 1) = .pointer (some ⟨w.heap.size, 0, none⟩) := hin 1 rfl
              clear hin
              have hcst : ∀ v, a.eval (.const v) = v := fun _ => rfl
              have hfnc : ∀ f, a.eval (.func f) = .func (.func f) #[] #[] := fun _ => rfl
              refine want_yes rfl rfl h3 ?_
              exact wp_ld 37 _ rfl w.heap.size 0 32 (bts x) (bts x) i1 ((X8.out.drew).chg hE id) (by kernel_rfl) (by kernel_rfl) (by rw [HBX.out]; decide) (by rw [List.drop_zero, ← HBX.out, List.take_length]) (rel_val (Chg.refl _))
            case co7 =>
              rintro a wx hE hin (h3 : a.eval (.tmp 36) = _) (h5 : a.eval (.tmp 38) = _) (h6 : a.eval (.tmp 39) = _)
              clear hin
              have hcst : ∀ v, a.eval (.const v) = v := fun _ => rfl
              have hfnc : ∀ f, a.eval (.func f) = .func (.func f) #[] #[] := fun _ => rfl
              refine want_yes rfl rfl h3 ?_
              exact wp_eq_bytes true 37 37 _ _ rfl 5 32 Try.underlying37 Try.underlying5 (by kernel_rfl) (by kernel_rfl) (labEnc k) x h5 h6 (labEnc_length k) HXL.out (by rw [show (true ^^ decide (labEnc k = x)) = true by simp [HQ.out]]; exact rel_val (e := .bool true) (Chg.refl _))
            case co8 =>
              rintro a wx hE hin (h3 : a.eval (.tmp 36) = _) (h7 : a.eval (.tmp 40) = _)
              clear hin
              have hcst : ∀ v, a.eval (.const v) = v := fun _ => rfl
              have hfnc : ∀ f, a.eval (.func f) = .func (.func f) #[] #[] := fun _ => rfl
              refine want_none rfl ?_
              unfold Oper.wp
              generalize a.eval = ρ at *
              go_simp
              try go_bits
              first | exact rel_val (Chg.refl _) | (go_simp; exact rel_val (Chg.refl _))
          case cfin =>
            intro wx hE
            rintro _ rfl _ rfl _ rfl _ rfl _ rfl _ rfl _ rfl _ rfl _ rfl
            simp only [FinOk, List.take_succ_cons, List.take_zero, List.take_nil, List.drop_succ_cons, List.drop_zero, List.drop_nil, Act.put, List.setIfInBounds_toArray, List.set_cons_succ, List.set_cons_zero]
            have R9 : Hid (Bk wx g2 (labC zLab)) := (R8.out.drew).chg hE id
            have L9 : Hid (Bk wx g6 (labC k)) := (L8.out.drew).chg hE id
            have E9 : Hid (Below w.heap.size w wx) := E8.out.trans ((hE.undrew).below (B := w.heap.size) E8.out.size (fun _ _ => id))
            clear hE
            go_wp2_with (first
              | (refine wpList_bld rfl 63 [] rfl (labC zLab) [] (labC zLab) (by kernel_rfl) (by kernel_rfl) trivial rfl ?_)
              | (refine wpList_st rfl 63 (.tmp 2) (.tmp 42) rfl g2 0 5 (labC zLab) (labC zLab) rfl rfl R9.out (by kernel_rfl) rfl (by decide) (one_lab _) ?_))
            intro w9 hb hc
            rw [splice_whole (labC zLab) (labC zLab) rfl] at hb
            have hg2 := G2.out
            have E10 : Hid (Below w.heap.size w w9) := E9.out.trans (hc.below E9.out.size (fun _ _ => by omega))
            have R10 := Lib.hid hb
            clear hb hc hg2
            go_wp2_with fail
            (try simp only [Exit.inBlock, Exit.then])
            refine bodyPost_ret (res_cell_tmp rfl _ _ g2 5 (labC zLab) rfl R10.out (by kernel_rfl) (by kernel_rfl) rfl) rfl ?_
            exact ⟨by rw [HD.out]; rfl, E10.out⟩
      · have HD30 : Hid (dv[30]? = some (.int .i64 11)) := by show _ = _; rw [HDC.out, he]
        have HD : Hid (labDec x = (zLab, 11)) := by show _ = _; rw [labDec, if_neg HZ.out, if_pos (.inl (by rw [he]; decide))]
        clear he
        apply wp_region_rel 9 (Chg NoS) [(Veq _), (Veq _), (Veq _), (Veq _), (Veq undef), (Veq undef), (Veq undef), (Veq undef), (Veq _)] [[], [0], [1], [2], [3], [3], [3], [3], [3, 7]] [33, 34, 35, 36, 37, 38, 39, 40, 41] (by kernel_rfl) (by kernel_rfl) rfl rfl rfl Chg.refl (fun _ _ _ => Chg.trans) ⟨Veq.lasts, Veq.lasts, Veq.lasts, Veq.lasts, Veq.lasts, Veq.lasts, Veq.lasts, Veq.lasts, Veq.lasts, trivial⟩ ?dops ?dfin
        case dops =>
          refine ⟨?do0, ?do1, ?do2, ?do3, ?do4, ?do5, ?do6, ?do7, ?do8, trivial⟩
          case do0 =>
            intro a wx hE hin
            have i4 : a.eval (.tmp 4) = .pointer (some ⟨g4, 0, none⟩) := hin 4 rfl
            clear hin
            have hcst : ∀ v, a.eval (.const v) = v := fun _ => rfl
            have hfnc : ∀ f, a.eval (.func f) = .func (.func f) #[] #[] := fun _ => rfl
            refine want_none rfl ?_
            unfold Oper.wp
            generalize a.eval = ρ at *
            go_simp
            try go_bits
            first | exact rel_val (Chg.refl _) | (go_simp; exact rel_val (Chg.refl _))
          case do1 =>
            rintro a wx hE hin (h0 : a.eval (.tmp 33) = _)
            clear hin
            have hcst : ∀ v, a.eval (.const v) = v := fun _ => rfl
            have hfnc : ∀ f, a.eval (.func f) = .func (.func f) #[] #[] := fun _ => rfl
            refine want_none rfl ?_
            unfold Oper.wp
            generalize a.eval = ρ at *
            have c := Bk.cell ((S8.out.drew).chg hE id) HD30.out
            go_simp
            try go_bits
            first | exact rel_val (Chg.refl _) | (go_simp; exact rel_val (Chg.refl _))
          case do2 =>
            rintro a wx hE hin (h1 : a.eval (.tmp 34) = _)
            clear hin
            have hcst : ∀ v, a.eval (.const v) = v := fun _ => rfl
            have hfnc : ∀ f, a.eval (.func f) = .func (.func f) #[] #[] := fun _ => rfl
            refine want_none rfl ?_
            unfold Oper.wp
            generalize a.eval = ρ at *
            go_simp
            try go_bits
            first | exact rel_val (Chg.refl _) | (go_simp; exact rel_val (Chg.refl _))
          case do3 =>
            rintro a wx hE hin (h2 : a.eval (.tmp 35) = _)
            clear hin
            have hcst : ∀ v, a.eval (.const v) = v := fun _ => rfl
            have hfnc : ∀ f, a.eval (.func f) = .func (.func f) #[] #[] := fun _ => rfl
            refine want_none rfl ?_
            unfold Oper.wp
            generalize a.eval = ρ at *
            go_simp
            try go_bits
            first | exact rel_val (Chg.refl _) | (go_simp; exact rel_val (Chg.refl _))
          case do4 =>
            rintro a wx hE hin (h3 : a.eval (.tmp 36) = _)
            clear hin
            exact want_not rfl rfl h3 rfl
          case do5 =>
            rintro a wx hE hin (h3 : a.eval (.tmp 36) = _)
            clear hin
            exact want_not rfl rfl h3 rfl
          case do6 =>
            rintro a wx hE hin (h3 : a.eval (.tmp 36) = _)
            clear hin
            exact want_not rfl rfl h3 rfl
          case do7 =>
            rintro a wx hE hin (h3 : a.eval (.tmp 36) = _)
            clear hin
            exact want_not rfl rfl h3 rfl
          case do8 =>
            rintro a wx hE hin (h3 : a.eval (.tmp 36) = _) (h7 : a.eval (.tmp 40) = _)
            clear hin
            have hcst : ∀ v, a.eval (.const v) = v := fun _ => rfl
            have hfnc : ∀ f, a.eval (.func f) = .func (.func f) #[] #[] := fun _ => rfl
            refine want_none rfl ?_
            unfold Oper.wp
            generalize a.eval = ρ at *
            go_simp
            try go_bits
            first | exact rel_val (Chg.refl _) | (go_simp; exact rel_val (Chg.refl _))
        case dfin =>
          intro wx hE
          rintro _ rfl _ rfl _ rfl _ rfl _ rfl _ rfl _ rfl _ rfl _ rfl
          simp only [FinOk, List.take_succ_cons, List.take_zero, List.take_nil, List.drop_succ_cons, List.drop_zero, List.drop_nil, Act.put, List.setIfInBounds_toArray, List.set_cons_succ, List.set_cons_zero]
          have R9 : Hid (Bk wx g2 (labC zLab)) := (R8.out.drew).chg hE id
          have L9 : Hid (Bk wx g6 (labC k)) := (L8.out.drew).chg hE id
          have E9 : Hid (Below w.heap.size w wx) := E8.out.trans ((hE.undrew).below (B := w.heap.size) E8.out.size (fun _ _ => id))
          clear hE
          go_wp2_with (first
            | (refine wpList_bld rfl 63 [] rfl (labC zLab) [] (labC zLab) (by kernel_rfl) (by kernel_rfl) trivial rfl ?_)
            | (refine wpList_st rfl 63 (.tmp 2) (.tmp 42) rfl g2 0 5 (labC zLab) (labC zLab) rfl rfl R9.out (by kernel_rfl) rfl (by decide) (one_lab _) ?_))
          intro w9 hb hc
          rw [splice_whole (labC zLab) (labC zLab) rfl] at hb
          have hg2 := G2.out
          have E10 : Hid (Below w.heap.size w w9) := E9.out.trans (hc.below E9.out.size (fun _ _ => by omega))
          have R10 := Lib.hid hb
          clear hb hc hg2
          go_wp2_with fail
          (try simp only [Exit.inBlock, Exit.then])
          refine bodyPost_ret (res_cell_tmp rfl _ _ g2 5 (labC zLab) rfl R10.out (by kernel_rfl) (by kernel_rfl) rfl) rfl ?_
          exact ⟨by rw [HD.out]; rfl, E10.out⟩
end Go.Proofs.Ytnpcehlbboeadaa
