/- The walk of label.Decode. -/
import Derived.Test.YtnpcehlbboeadaaLabEnc
namespace Go.Proofs.Ytnpcehlbboeadaa
open Go.RowKit
set_option linter.unusedVariables false
set_option linter.unusedSimpArgs false

/-- The label that stands in a body. -/
def labOf (b : List UInt8) : Lab := ⟨UInt32.ofNat (num ((b.drop 0).take 4)), UInt32.ofNat (num ((b.drop 4).take 4)), UInt32.ofNat (num ((b.drop 8).take 4)), UInt16.ofNat (num ((b.drop 12).take 2)), UInt16.ofNat (num ((b.drop 14).take 2))⟩
def labDec (x : List UInt8) : Lab × Int := if x = List.replicate 32 0 then (zLab, 0) else if (decR x).2 ≠ 0 ∨ labEnc (labOf (bodyOf x)) ≠ x then (zLab, 11) else (labOf (bodyOf x), 0)
theorem body_rd {w : World} {g : Nat} {b : List UInt8} (h : Bk w g (bts b)) (off n : Nat) : Rd w (some ⟨g, off, none⟩) (bts ((b.drop off).take n)) := by
  have := h.rd_at off n
  rwa [bts_drop, bts_take] at this
theorem num_part (b : List UInt8) (off n : Nat) : num ((b.drop off).take n) < 256 ^ n := by
  have h1 := num_lt ((b.drop off).take n)
  exact Nat.lt_of_lt_of_le h1 (Nat.pow_le_pow_right (by decide) (by rw [List.length_take]; omega))
theorem num32 (b : List UInt8) (off : Nat) : Value.int .u32 (num ((b.drop off).take 4) : Nat) = vu32 (UInt32.ofNat (num ((b.drop off).take 4))) := by
  have := num_part b off 4
  rw [vu32, UInt32.toNat_ofNat_of_lt' (by show _ < 4294967296; omega)]
theorem num16 (b : List UInt8) (off : Nat) : Value.int .u16 ((num ((b.drop off).take 2) : Nat) : Int) = vu16 (UInt16.ofNat (num ((b.drop off).take 2))) := by
  have := num_part b off 2
  rw [vu16, UInt16.toNat_ofNat_of_lt' (by show _ < 65536; omega)]
theorem num16m (b : List UInt8) (off : Nat) : Value.int .u16 (IntKind.u16.wrap ((num ((b.drop off).take 2) : Nat) : Int)) = vu16 (UInt16.ofNat (num ((b.drop off).take 2))) := by
  have := num_part b off 2
  rw [← num16, IntWalk.u16_in _ (by omega)]
theorem decR_err (x : List UInt8) : (decR x).2 = 0 ∨ (decR x).2 = 11 := by
  unfold decR
  split
  · exact .inr rfl
  · exact .inl rfl
theorem decR_ok {x : List UInt8} (h : (decR x).2 = 0) : (decR x).1 = x.getD 0 0 :: bodyOf x := by
  unfold decR at *
  split
  · rename_i hh
    rw [if_pos hh] at h
    exact absurd h (by decide)
  · rfl
theorem decR_len {x : List UInt8} (h : x.length = 32) : (decR x).1.length = 30 := by
  unfold decR
  split
  · rw [List.length_replicate]
  · rw [List.length_cons, bodyOf, List.length_take, List.length_drop, h]; rfl
set_option maxRecDepth 100000 in
set_option maxHeartbeats 4000000 in
theorem labDecode_calls (x : List UInt8) (w : World) (hx : x.length = 32) :
    Calls Try.prog 32 #[.agg (bts x).toArray] w fun e w' => e = .returned (.tuple #[.agg (labC (labDec x).1).toArray, .int .i64 (labDec x).2]) ∧ Below w.heap.size w w' := by
  have HXL := Lib.hid hx
  have HBX : Hid ((bts x).length = 32) := by show _ = _; rw [bts_length, hx]
  clear hx
  go_enter Try.func32, Try.ntmps32
  go_wp2_with (refine wpList_al rfl 63 rfl (labC zLab) (by kernel_rfl) ?_)
  intro g2 w1 hg hb hc hs
  have X1 : Hid (Bk w1 w.heap.size (bts x)) := (Bk.new w (bts x) _).chg hc id
  have E1 : Hid (Below w.heap.size w w1) := ((Below.refl _ _).alloc (Nat.le_refl _) _).trans (hc.below (by simp) (fun _ _ => id))
  have G2 : Hid (w.heap.size < g2) := by show _ < _; rw [hg]; simp
  have R1 := Lib.hid hb
  clear hg hb hc hs
  by_cases hz : x = (List.replicate 32 0)
  · have HZ := Lib.hid hz
    have HD : Hid (labDec x = (zLab, 0)) := by show _ = _; rw [labDec, if_pos hz]
    clear hz
    go_wp2_with (first
      | (refine wpList_ld rfl 37 (.tmp 1) rfl w.heap.size 0 32 (bts x) (bts x) rfl X1.out (by kernel_rfl) (by kernel_rfl) (by rw [HBX.out]; decide) (by rw [List.drop_zero, ← HBX.out, List.take_length]) ?_)
      | (refine wpList_bld rfl 37 [] rfl (bts (List.replicate 32 0)) [] (bts (List.replicate 32 0)) (by kernel_rfl) (by kernel_rfl) trivial rfl ?_)
      | (refine wpList_eq_bytes rfl false 37 37 (.tmp 8) (.tmp 9) rfl 5 32 Try.underlying37 Try.underlying5 (by kernel_rfl) (by kernel_rfl) x (List.replicate 32 0) rfl rfl HXL.out (by rw [List.length_replicate]) true (by rw [HZ.out]; simp) ?_)
      | (refine wpList_bld rfl 63 [] rfl (labC zLab) [] (labC zLab) (by kernel_rfl) (by kernel_rfl) trivial rfl ?_)
      | (refine wpList_st rfl 63 (.tmp 2) (.tmp 11) rfl g2 0 5 (labC zLab) (labC zLab) rfl rfl R1.out (by kernel_rfl) rfl (by decide) (one_lab _) ?_))
    intro w2 hb hc
    rw [splice_whole _ _ rfl] at hb
    have hg2 := G2.out
    have E2 : Hid (Below w.heap.size w w2) := E1.out.trans (hc.below E1.out.size (fun _ _ => by omega))
    have R2 := Lib.hid hb
    clear hb hc hg2
    go_wp2_with fail
    (try simp only [Exit.inBlock, Exit.then])
    refine bodyPost_ret (res_cell_tmp rfl _ _ g2 5 (labC zLab) rfl R2.out (by kernel_rfl) (by kernel_rfl) rfl) rfl ?_
    exact ⟨by rw [HD.out]; rfl, E2.out⟩
  · have HZ := Lib.hid hz
    go_wp2_with (first
      | (refine wpList_ld rfl 37 (.tmp 1) rfl w.heap.size 0 32 (bts x) (bts x) rfl X1.out (by kernel_rfl) (by kernel_rfl) (by rw [HBX.out]; decide) (by rw [List.drop_zero, ← HBX.out, List.take_length]) ?_)
      | (refine wpList_bld rfl 37 [] rfl (bts (List.replicate 32 0)) [] (bts (List.replicate 32 0)) (by kernel_rfl) (by kernel_rfl) trivial rfl ?_)
      | (refine wpList_eq_bytes rfl false 37 37 (.tmp 8) (.tmp 9) rfl 5 32 Try.underlying37 Try.underlying5 (by kernel_rfl) (by kernel_rfl) x (List.replicate 32 0) rfl rfl HXL.out (by rw [List.length_replicate]) false (by rw [decide_eq_false HZ.out]; rfl) ?_))
    refine (sealDecode_calls x w1 HXL.out).mono ?_
    rintro e w2 ⟨rfl, hb⟩
    have X2 := Lib.hid (X1.out.below hb)
    have R2 := Lib.hid (R1.out.below hb)
    have E2 : Hid (Below w.heap.size w w2) := E1.out.trans (hb.mono E1.out.size)
    clear hb
    have hdl := decR_len HXL.out
    obtain ⟨dv, hdv⟩ : ∃ dv, bts (decR x).1 = dv := ⟨_, rfl⟩
    have HDL : Hid (dv.length = 30) := by show _ = _; rw [← hdv, bts_length, hdl]
    have HDO : Hid (∀ u ∈ dv, u.oneCell' = true) := by rw [← hdv]; exact one_bts _
    have HDV := Lib.hid hdv
    rw [hdv]
    clear hdv hdl
    rcases decR_err x with he | he
    rotate_left
    · have HD : Hid (labDec x = (zLab, 11)) := by show _ = _; rw [labDec, if_neg HZ.out, if_pos (.inl (by rw [he]; decide))]
      rw [he]
      clear he hz
      go_wp2_with (refine wpList_al rfl 97 rfl (bts (List.replicate 30 0)) (by kernel_rfl) ?_)
      intro g4 w3 hg hb hc hs
      have R3 := Lib.hid (R2.out.chg hc id)
      have E3 : Hid (Below w.heap.size w w3) := E2.out.trans (hc.below E2.out.size (fun _ _ => id))
      have G4 : Hid (g2 < g4) := by show _ < _; rw [hg]; exact R2.out.lt
      have S3 := Lib.hid hb
      clear hg hb hc hs
      go_wp2_with (refine wpList_st rfl 97 (.tmp 4) (.tmp 15) rfl g4 0 30 (bts (List.replicate 30 0)) dv rfl rfl S3.out (by kernel_rfl) HDL.out (by decide) HDO.out ?_)
      intro w4 hb hc
      have hg2 := G2.out
      have hg4 := G4.out
      have R4 := Lib.hid (R3.out.chg hc (by omega))
      have E4 : Hid (Below w.heap.size w w4) := E3.out.trans (hc.below E3.out.size (fun _ _ => by omega))
      clear hb hc hg2 hg4
      go_wp2_with (first
        | (refine wpList_bld rfl 63 [] rfl (labC zLab) [] (labC zLab) (by kernel_rfl) (by kernel_rfl) trivial rfl ?_)
        | (refine wpList_st rfl 63 (.tmp 2) (.tmp 19) rfl g2 0 5 (labC zLab) (labC zLab) rfl rfl R4.out (by kernel_rfl) rfl (by decide) (one_lab _) ?_))
      intro w5 hb hc
      rw [splice_whole _ _ rfl] at hb
      have hg2 := G2.out
      have E5 : Hid (Below w.heap.size w w5) := E4.out.trans (hc.below E4.out.size (fun _ _ => by omega))
      have R5 := Lib.hid hb
      clear hb hc hg2
      go_wp2_with fail
      (try simp only [Exit.inBlock, Exit.then])
      refine bodyPost_ret (res_cell_tmp rfl _ _ g2 5 (labC zLab) rfl R5.out (by kernel_rfl) (by kernel_rfl) rfl) rfl ?_
      exact ⟨by rw [HD.out]; rfl, E5.out⟩
    · have HD : Hid (labDec x = if labEnc (labOf (bodyOf x)) ≠ x then (zLab, 11) else (labOf (bodyOf x), 0)) := by
        show _ = _
        rw [labDec, if_neg HZ.out]
        by_cases h : labEnc (labOf (bodyOf x)) ≠ x
        · rw [if_pos (.inr h), if_pos h]
        · rw [if_neg (fun hh => hh.elim (fun h2 => h2 he) h), if_neg h]
      have hok := decR_ok he
      obtain ⟨b, hb0⟩ : ∃ b, bodyOf x = b := ⟨_, rfl⟩
      have HB29 : Hid (b.length = 29) := by show _ = _; rw [← hb0, bodyOf, List.length_take, List.length_drop, HXL.out]; rfl
      have HDB : Hid ((dv.drop 1).take 29 = bts b) := by show _ = _; rw [← HDV.out, hok, hb0]; show (bts b).take 29 = bts b; rw [List.take_of_length_le (by rw [bts_length, HB29.out]; decide)]
      rw [hb0] at HD
      rw [he]
      clear he hz hok hb0
      go_wp2_with (refine wpList_al rfl 97 rfl (bts (List.replicate 30 0)) (by kernel_rfl) ?_)
      intro g4 w3 hg hb hc hs
      have X3 := Lib.hid (X2.out.chg hc id)
      have R3 := Lib.hid (R2.out.chg hc id)
      have E3 : Hid (Below w.heap.size w w3) := E2.out.trans (hc.below E2.out.size (fun _ _ => id))
      have G4 : Hid (g2 < g4) := by show _ < _; rw [hg]; exact R2.out.lt
      have S3 := Lib.hid hb
      clear hg hb hc hs
      go_wp2_with (refine wpList_st rfl 97 (.tmp 4) (.tmp 15) rfl g4 0 30 (bts (List.replicate 30 0)) dv rfl rfl S3.out (by kernel_rfl) HDL.out (by decide) HDO.out ?_)
      intro w4 hb hc
      rw [splice_whole _ _ (by rw [HDL.out]; rfl)] at hb
      have hg2 := G2.out
      have hg4 := G4.out
      have X4 := Lib.hid (X3.out.chg hc (by omega))
      have R4 := Lib.hid (R3.out.chg hc (by omega))
      have E4 : Hid (Below w.heap.size w w4) := E3.out.trans (hc.below E3.out.size (fun _ _ => by omega))
      have S4 := Lib.hid hb
      clear hb hc hg2 hg4
      go_wp2_with (first
        | (refine wpList_ld rfl 95 (.tmp 21) rfl g4 1 29 dv (bts b) rfl S4.out (by kernel_rfl) (by kernel_rfl) (by rw [HDL.out]; decide) HDB.out ?_)
        | (refine wpList_al rfl 95 rfl (bts (List.replicate 29 0)) (by kernel_rfl) ?_))
      intro g6 w5 hg hb hc hs
      have X5 := Lib.hid (X4.out.chg hc id)
      have R5 := Lib.hid (R4.out.chg hc id)
      have E5 : Hid (Below w.heap.size w w5) := E4.out.trans (hc.below E4.out.size (fun _ _ => id))
      have G6 : Hid (g2 < g6) := by show _ < _; rw [hg]; exact R4.out.lt
      have S5 := Lib.hid hb
      clear hg hb hc hs
      go_wp2_with (refine wpList_st rfl 95 (.tmp 6) (.tmp 22) rfl g6 0 29 (bts (List.replicate 29 0)) (bts b) rfl rfl S5.out (by kernel_rfl) (by rw [bts_length, HB29.out]) (by decide) (one_bts _) ?_)
      intro w6 hb hc
      rw [splice_whole _ _ (by rw [bts_length, HB29.out]; rfl)] at hb
      have hg2 := G2.out
      have hg6 := G6.out
      have X6 := Lib.hid (X5.out.chg hc (by omega))
      have R6 := Lib.hid (R5.out.chg hc (by omega))
      have E6 : Hid (Below w.heap.size w w6) := E5.out.trans (hc.below E5.out.size (fun _ _ => by omega))
      have K6 := Lib.hid hb
      clear hb hc hg2 hg6
      have HK0 := Lib.hid (num32 b 0)
      have HK1 := Lib.hid (num32 b 4)
      have HK2 := Lib.hid (num32 b 8)
      have HK3 := Lib.hid (num16m b 12)
      have HK4 := Lib.hid (num16m b 14)
      go_wp2_with fail
      apply wp_region_rel 14 (Chg NoS) [(Veq _), (Veq _), (Veq _), (Veq _), (Veq _), (Veq _), (Veq _), (Veq _), (Veq _), (Veq _), (Veq _), (Veq _), (Veq _), (PtrAt NoS w6.heap.size (labC zLab))] [[], [0], [], [2], [], [4], [], [6], [7], [], [9], [10], [1, 3, 5, 8, 11], []] [23, 24, 25, 26, 27, 28, 29, 30, 31, 32, 33, 34, 35, 7] (by kernel_rfl) (by kernel_rfl) rfl rfl rfl Chg.refl (fun _ _ _ => Chg.trans) ⟨Veq.lasts, Veq.lasts, Veq.lasts, Veq.lasts, Veq.lasts, Veq.lasts, Veq.lasts, Veq.lasts, Veq.lasts, Veq.lasts, Veq.lasts, Veq.lasts, Veq.lasts, PtrAt.lasts, trivial⟩ ?aops ?afin
      case aops =>
        refine ⟨?ao0, ?ao1, ?ao2, ?ao3, ?ao4, ?ao5, ?ao6, ?ao7, ?ao8, ?ao9, ?ao10, ?ao11, ?ao12, ?ao13, trivial⟩
        case ao0 =>
          intro a wx hE hin
          have i6 : a.eval (.tmp 6) = .pointer (some ⟨g6, 0, none⟩) := hin 6 rfl
          clear hin
          have hcst : ∀ v, a.eval (.const v) = v := fun _ => rfl
          have hfnc : ∀ f, a.eval (.func f) = .func (.func f) #[] #[] := fun _ => rfl
          refine want_none rfl ?_
          unfold Oper.wp
          generalize a.eval = ρ at *
          go_simp
          try go_bits
          first | exact rel_val (Chg.refl _) | (go_simp; exact rel_val (Chg.refl _))
        case ao1 =>
          rintro a wx hE hin (h0 : a.eval (.tmp 23) = _)
          clear hin
          have hcst : ∀ v, a.eval (.const v) = v := fun _ => rfl
          have hfnc : ∀ f, a.eval (.func f) = .func (.func f) #[] #[] := fun _ => rfl
          refine want_none rfl ?_
          unfold Oper.wp
          generalize a.eval = ρ at *
          go_simp
          refine (number_calls ((b.drop 0).take 4) _ 4 _ wx (by rw [List.length_take, List.length_drop, HB29.out]; decide) (by decide) (body_rd ((K6.out.drew).chg hE id) 0 4)).mono ?_
          rintro e w' ⟨rfl, rfl⟩
          exact rel_val (Chg.refl _)
        case ao2 =>
          intro a wx hE hin
          have i6 : a.eval (.tmp 6) = .pointer (some ⟨g6, 0, none⟩) := hin 6 rfl
          clear hin
          have hcst : ∀ v, a.eval (.const v) = v := fun _ => rfl
          have hfnc : ∀ f, a.eval (.func f) = .func (.func f) #[] #[] := fun _ => rfl
          refine want_none rfl ?_
          unfold Oper.wp
          generalize a.eval = ρ at *
          go_simp
          try go_bits
          first | exact rel_val (Chg.refl _) | (go_simp; exact rel_val (Chg.refl _))
        case ao3 =>
          rintro a wx hE hin (h2 : a.eval (.tmp 25) = _)
          clear hin
          have hcst : ∀ v, a.eval (.const v) = v := fun _ => rfl
          have hfnc : ∀ f, a.eval (.func f) = .func (.func f) #[] #[] := fun _ => rfl
          refine want_none rfl ?_
          unfold Oper.wp
          generalize a.eval = ρ at *
          go_simp
          refine (number_calls ((b.drop 4).take 4) _ 4 _ wx (by rw [List.length_take, List.length_drop, HB29.out]; decide) (by decide) (body_rd ((K6.out.drew).chg hE id) 4 4)).mono ?_
          rintro e w' ⟨rfl, rfl⟩
          exact rel_val (Chg.refl _)
        case ao4 =>
          intro a wx hE hin
          have i6 : a.eval (.tmp 6) = .pointer (some ⟨g6, 0, none⟩) := hin 6 rfl
          clear hin
          have hcst : ∀ v, a.eval (.const v) = v := fun _ => rfl
          have hfnc : ∀ f, a.eval (.func f) = .func (.func f) #[] #[] := fun _ => rfl
          refine want_none rfl ?_
          unfold Oper.wp
          generalize a.eval = ρ at *
          go_simp
          try go_bits
          first | exact rel_val (Chg.refl _) | (go_simp; exact rel_val (Chg.refl _))
        case ao5 =>
          rintro a wx hE hin (h4 : a.eval (.tmp 27) = _)
          clear hin
          have hcst : ∀ v, a.eval (.const v) = v := fun _ => rfl
          have hfnc : ∀ f, a.eval (.func f) = .func (.func f) #[] #[] := fun _ => rfl
          refine want_none rfl ?_
          unfold Oper.wp
          generalize a.eval = ρ at *
          go_simp
          refine (number_calls ((b.drop 8).take 4) _ 4 _ wx (by rw [List.length_take, List.length_drop, HB29.out]; decide) (by decide) (body_rd ((K6.out.drew).chg hE id) 8 4)).mono ?_
          rintro e w' ⟨rfl, rfl⟩
          exact rel_val (Chg.refl _)
        case ao6 =>
          intro a wx hE hin
          have i6 : a.eval (.tmp 6) = .pointer (some ⟨g6, 0, none⟩) := hin 6 rfl
          clear hin
          have hcst : ∀ v, a.eval (.const v) = v := fun _ => rfl
          have hfnc : ∀ f, a.eval (.func f) = .func (.func f) #[] #[] := fun _ => rfl
          refine want_none rfl ?_
          unfold Oper.wp
          generalize a.eval = ρ at *
          go_simp
          try go_bits
          first | exact rel_val (Chg.refl _) | (go_simp; exact rel_val (Chg.refl _))
        case ao7 =>
          rintro a wx hE hin (h6 : a.eval (.tmp 29) = _)
          clear hin
          have hcst : ∀ v, a.eval (.const v) = v := fun _ => rfl
          have hfnc : ∀ f, a.eval (.func f) = .func (.func f) #[] #[] := fun _ => rfl
          refine want_none rfl ?_
          unfold Oper.wp
          generalize a.eval = ρ at *
          go_simp
          refine (number_calls ((b.drop 12).take 2) _ 2 _ wx (by rw [List.length_take, List.length_drop, HB29.out]; decide) (by decide) (body_rd ((K6.out.drew).chg hE id) 12 2)).mono ?_
          rintro e w' ⟨rfl, rfl⟩
          exact rel_val (Chg.refl _)
        case ao8 =>
          rintro a wx hE hin (h7 : a.eval (.tmp 30) = _)
          clear hin
          have hcst : ∀ v, a.eval (.const v) = v := fun _ => rfl
          have hfnc : ∀ f, a.eval (.func f) = .func (.func f) #[] #[] := fun _ => rfl
          refine want_none rfl ?_
          unfold Oper.wp
          generalize a.eval = ρ at *
          go_simp
          try go_bits
          first | exact rel_val (Chg.refl _) | (go_simp; exact rel_val (Chg.refl _))
        case ao9 =>
          intro a wx hE hin
          have i6 : a.eval (.tmp 6) = .pointer (some ⟨g6, 0, none⟩) := hin 6 rfl
          clear hin
          have hcst : ∀ v, a.eval (.const v) = v := fun _ => rfl
          have hfnc : ∀ f, a.eval (.func f) = .func (.func f) #[] #[] := fun _ => rfl
          refine want_none rfl ?_
          unfold Oper.wp
          generalize a.eval = ρ at *
          go_simp
          try go_bits
          first | exact rel_val (Chg.refl _) | (go_simp; exact rel_val (Chg.refl _))
        case ao10 =>
          rintro a wx hE hin (h9 : a.eval (.tmp 32) = _)
          clear hin
          have hcst : ∀ v, a.eval (.const v) = v := fun _ => rfl
          have hfnc : ∀ f, a.eval (.func f) = .func (.func f) #[] #[] := fun _ => rfl
          refine want_none rfl ?_
          unfold Oper.wp
          generalize a.eval = ρ at *
          go_simp
          refine (number_calls ((b.drop 14).take 2) _ 2 _ wx (by rw [List.length_take, List.length_drop, HB29.out]; decide) (by decide) (body_rd ((K6.out.drew).chg hE id) 14 2)).mono ?_
          rintro e w' ⟨rfl, rfl⟩
          exact rel_val (Chg.refl _)
        case ao11 =>
          rintro a wx hE hin (h10 : a.eval (.tmp 33) = _)
          clear hin
          have hcst : ∀ v, a.eval (.const v) = v := fun _ => rfl
          have hfnc : ∀ f, a.eval (.func f) = .func (.func f) #[] #[] := fun _ => rfl
          refine want_none rfl ?_
          unfold Oper.wp
          generalize a.eval = ρ at *
          go_simp
          try go_bits
          first | exact rel_val (Chg.refl _) | (go_simp; exact rel_val (Chg.refl _))
        case ao12 =>
          rintro a wx hE hin (h1 : a.eval (.tmp 24) = _) (h3 : a.eval (.tmp 26) = _) (h5 : a.eval (.tmp 28) = _) (h8 : a.eval (.tmp 31) = _) (h11 : a.eval (.tmp 34) = _)
          clear hin
          have hcst : ∀ v, a.eval (.const v) = v := fun _ => rfl
          have hfnc : ∀ f, a.eval (.func f) = .func (.func f) #[] #[] := fun _ => rfl
          refine want_none rfl ?_
          exact wp_bld 63 [(0, .tmp 24), (1, .tmp 26), (2, .tmp 28), (3, .tmp 31), (4, .tmp 34)] rfl (labC zLab) [(0, [vu32 (labOf b).e]), (1, [vu32 (labOf b).s]), (2, [vu32 (labOf b).n]), (3, [vu16 (labOf b).d]), (4, [vu16 (labOf b).la])] (labC (labOf b)) (by kernel_rfl) (by kernel_rfl)
            ⟨by rw [h1, HK0.out]; rfl, ⟨1, rfl, by kernel_rfl, by decide⟩, by rw [h3, HK1.out]; rfl, ⟨1, rfl, by kernel_rfl, by decide⟩, by rw [h5, HK2.out]; rfl, ⟨1, rfl, by kernel_rfl, by decide⟩, by rw [h8, HK3.out]; rfl, ⟨1, rfl, by kernel_rfl, by decide⟩, by rw [h11, HK4.out]; rfl, ⟨1, rfl, by kernel_rfl, by decide⟩, trivial⟩ rfl (rel_val (Chg.refl _))
        case ao13 =>
          intro a wx hE hin
          clear hin
          have hcst : ∀ v, a.eval (.const v) = v := fun _ => rfl
          have hfnc : ∀ f, a.eval (.func f) = .func (.func f) #[] #[] := fun _ => rfl
          refine want_none rfl ?_
          exact wp_al 63 rfl (labC zLab) (by kernel_rfl) ⟨_, rfl, ⟨_, rfl, hE.size, id, Bk.new wx _ _⟩, (Chg.refl _).alloc _⟩
      case afin =>
        intro wx hE
        rintro _ rfl _ rfl _ rfl _ rfl _ rfl _ rfl _ rfl _ rfl _ rfl _ rfl _ rfl _ rfl _ rfl _ ⟨g7, rfl, p7, n7, b7⟩
        simp only [FinOk, List.take_succ_cons, List.take_zero, List.take_nil, List.drop_succ_cons, List.drop_zero, List.drop_nil, Act.put, List.setIfInBounds_toArray, List.set_cons_succ, List.set_cons_zero]
        have K7 : Hid (Bk wx w.heap.size (bts x)) := (X6.out.drew).chg hE id
        have R7 : Hid (Bk wx g2 (labC zLab)) := (R6.out.drew).chg hE id
        have E7 : Hid (Below w.heap.size w wx) := E6.out.trans ((hE.undrew).below (B := w.heap.size) E6.out.size (fun _ _ => id))
        have L7 := Lib.hid b7
        have P7 := Lib.hid p7
        clear hE b7 p7 n7
        obtain ⟨k, hk⟩ : ∃ k, labOf b = k := ⟨_, rfl⟩
        rw [hk] at HD ⊢
        have hg7 : g2 < g7 := Nat.lt_of_lt_of_le R6.out.lt P7.out
        have G7 := Lib.hid hg7
        clear hk hg7 HK0 HK1 HK2 HK3 HK4
        go_wp2_with (refine wpList_st rfl 63 (.tmp 7) (.tmp 35) rfl g7 0 5 (labC zLab) (labC k) rfl rfl L7.out (by kernel_rfl) rfl (by decide) (one_lab _) ?_)
        intro w8 hb hc
        rw [splice_whole (labC zLab) (labC k) rfl] at hb
        have hg2 := G2.out
        have hg7 := G7.out
        have X8 := Lib.hid (K7.out.chg hc (by omega))
        have R8 := Lib.hid (R7.out.chg hc (by omega))
        have E8 : Hid (Below w.heap.size w w8) := E7.out.trans (hc.below E7.out.size (fun _ _ => by omega))
        have L8 := Lib.hid hb
        clear hb hc hg2 hg7
        go_wp2_with fail
        by_cases hq : labEnc k = x
        · have HQ := Lib.hid hq
          clear hq
          apply wp_region_rel 4 (Chg NoS) [(Veq _), (Veq _), (Veq _), (Veq _)] [[], [0], [], [1, 2]] [36, 37, 38, 39] (by kernel_rfl) (by kernel_rfl) rfl rfl rfl Chg.refl (fun _ _ _ => Chg.trans) ⟨Veq.lasts, Veq.lasts, Veq.lasts, Veq.lasts, trivial⟩ ?bops ?bfin
          case bops =>
            refine ⟨?bo0, ?bo1, ?bo2, ?bo3, trivial⟩
            case bo0 =>
              intro a wx hE hin
              have i7 : a.eval (.tmp 7) = .pointer (some ⟨g7, 0, none⟩) := hin 7 rfl
              clear hin
              have hcst : ∀ v, a.eval (.const v) = v := fun _ => rfl
              have hfnc : ∀ f, a.eval (.func f) = .func (.func f) #[] #[] := fun _ => rfl
              refine want_none rfl ?_
              exact wp_ld 63 _ rfl g7 0 5 (labC k) (labC k) i7 ((L8.out.drew).chg hE id) (by kernel_rfl) (by kernel_rfl) (Nat.le_refl _) rfl (rel_val (Chg.refl _))
            case bo1 =>
              rintro a wx hE hin (h0 : a.eval (.tmp 36) = _)
              clear hin
              have hcst : ∀ v, a.eval (.const v) = v := fun _ => rfl
              have hfnc : ∀ f, a.eval (.func f) = .func (.func f) #[] #[] := fun _ => rfl
              refine want_none rfl ?_
              unfold Oper.wp
              generalize a.eval = ρ at *
              go_simp
              refine (labEncode_calls k wx).mono ?_
              rintro e w' ⟨rfl, hb⟩
              exact rel_val (.of_below hb)
            case bo2 =>
              intro a wx hE hin
              have i1 : a.eval (.tmp 1) = .pointer (some ⟨w.heap.size, 0, none⟩) := hin 1 rfl
              clear hin
              have hcst : ∀ v, a.eval (.const v) = v := fun _ => rfl
              have hfnc : ∀ f, a.eval (.func f) = .func (.func f) #[] #[] := fun _ => rfl
              refine want_none rfl ?_
              exact wp_ld 37 _ rfl w.heap.size 0 32 (bts x) (bts x) i1 ((X8.out.drew).chg hE id) (by kernel_rfl) (by kernel_rfl) (by rw [HBX.out]; decide) (by rw [List.drop_zero, ← HBX.out, List.take_length]) (rel_val (Chg.refl _))
            case bo3 =>
              rintro a wx hE hin (h1 : a.eval (.tmp 37) = _) (h2 : a.eval (.tmp 38) = _)
              clear hin
              have hcst : ∀ v, a.eval (.const v) = v := fun _ => rfl
              have hfnc : ∀ f, a.eval (.func f) = .func (.func f) #[] #[] := fun _ => rfl
              refine want_none rfl ?_
              exact wp_eq_bytes true 37 37 _ _ rfl 5 32 Try.underlying37 Try.underlying5 (by kernel_rfl) (by kernel_rfl) (labEnc k) x h1 h2 (labEnc_length k) HXL.out (by rw [show (true ^^ decide (labEnc k = x)) = false by simp [HQ.out]]; exact rel_val (e := .bool false) (Chg.refl _))
          case bfin =>
            intro wx hE
            rintro _ rfl _ rfl _ rfl _ rfl
            simp only [FinOk, List.take_succ_cons, List.take_zero, List.take_nil, List.drop_succ_cons, List.drop_zero, List.drop_nil, Act.put, List.setIfInBounds_toArray, List.set_cons_succ, List.set_cons_zero]
            have R9 : Hid (Bk wx g2 (labC zLab)) := (R8.out.drew).chg hE id
            have L9 : Hid (Bk wx g7 (labC k)) := (L8.out.drew).chg hE id
            have E9 : Hid (Below w.heap.size w wx) := E8.out.trans ((hE.undrew).below (B := w.heap.size) E8.out.size (fun _ _ => id))
            clear hE
            go_wp2_with (first
              | (refine wpList_ld rfl 63 (.tmp 7) rfl g7 0 5 (labC k) (labC k) rfl L9.out (by kernel_rfl) (by kernel_rfl) (Nat.le_refl _) rfl ?_)
              | (refine wpList_st rfl 63 (.tmp 2) (.tmp 41) rfl g2 0 5 (labC zLab) (labC k) rfl rfl R9.out (by kernel_rfl) rfl (by decide) (one_lab _) ?_))
            intro w9 hb hc
            rw [splice_whole (labC zLab) (labC k) rfl] at hb
            have hg2 := G2.out
            have E10 : Hid (Below w.heap.size w w9) := E9.out.trans (hc.below E9.out.size (fun _ _ => by omega))
            have R10 := Lib.hid hb
            clear hb hc hg2
            go_wp2_with fail
            (try simp only [Exit.inBlock, Exit.then])
            refine bodyPost_ret (res_cell_tmp rfl _ _ g2 5 (labC k) rfl R10.out (by kernel_rfl) (by kernel_rfl) rfl) rfl ?_
            exact ⟨by rw [HD.out, if_neg (fun h => h HQ.out)]; rfl, E10.out⟩
        · have HQ := Lib.hid hq
          clear hq
          apply wp_region_rel 4 (Chg NoS) [(Veq _), (Veq _), (Veq _), (Veq _)] [[], [0], [], [1, 2]] [36, 37, 38, 39] (by kernel_rfl) (by kernel_rfl) rfl rfl rfl Chg.refl (fun _ _ _ => Chg.trans) ⟨Veq.lasts, Veq.lasts, Veq.lasts, Veq.lasts, trivial⟩ ?cops ?cfin
          case cops =>
            refine ⟨?co0, ?co1, ?co2, ?co3, trivial⟩
            case co0 =>
              intro a wx hE hin
              have i7 : a.eval (.tmp 7) = .pointer (some ⟨g7, 0, none⟩) := hin 7 rfl
              clear hin
              have hcst : ∀ v, a.eval (.const v) = v := fun _ => rfl
              have hfnc : ∀ f, a.eval (.func f) = .func (.func f) #[] #[] := fun _ => rfl
              refine want_none rfl ?_
              exact wp_ld 63 _ rfl g7 0 5 (labC k) (labC k) i7 ((L8.out.drew).chg hE id) (by kernel_rfl) (by kernel_rfl) (Nat.le_refl _) rfl (rel_val (Chg.refl _))
            case co1 =>
              rintro a wx hE hin (h0 : a.eval (.tmp 36) = _)
              clear hin
              have hcst : ∀ v, a.eval (.const v) = v := fun _ => rfl
              have hfnc : ∀ f, a.eval (.func f) = .func (.func f) #[] #[] := fun _ => rfl
              refine want_none rfl ?_
              unfold Oper.wp
              generalize a.eval = ρ at *
              go_simp
              refine (labEncode_calls k wx).mono ?_
              rintro e w' ⟨rfl, hb⟩
              exact rel_val (.of_below hb)
            case co2 =>
              intro a wx hE hin
              have i1 : a.eval (.tmp 1) = .pointer (some ⟨w.heap.size, 0, none⟩) := hin 1 rfl
              clear hin
              have hcst : ∀ v, a.eval (.const v) = v := fun _ => rfl
              have hfnc : ∀ f, a.eval (.func f) = .func (.func f) #[] #[] := fun _ => rfl
              refine want_none rfl ?_
              exact wp_ld 37 _ rfl w.heap.size 0 32 (bts x) (bts x) i1 ((X8.out.drew).chg hE id) (by kernel_rfl) (by kernel_rfl) (by rw [HBX.out]; decide) (by rw [List.drop_zero, ← HBX.out, List.take_length]) (rel_val (Chg.refl _))
            case co3 =>
              rintro a wx hE hin (h1 : a.eval (.tmp 37) = _) (h2 : a.eval (.tmp 38) = _)
              clear hin
              have hcst : ∀ v, a.eval (.const v) = v := fun _ => rfl
              have hfnc : ∀ f, a.eval (.func f) = .func (.func f) #[] #[] := fun _ => rfl
              refine want_none rfl ?_
              exact wp_eq_bytes true 37 37 _ _ rfl 5 32 Try.underlying37 Try.underlying5 (by kernel_rfl) (by kernel_rfl) (labEnc k) x h1 h2 (labEnc_length k) HXL.out (by rw [show (true ^^ decide (labEnc k = x)) = true by simp [HQ.out]]; exact rel_val (e := .bool true) (Chg.refl _))
          case cfin =>
            intro wx hE
            rintro _ rfl _ rfl _ rfl _ rfl
            simp only [FinOk, List.take_succ_cons, List.take_zero, List.take_nil, List.drop_succ_cons, List.drop_zero, List.drop_nil, Act.put, List.setIfInBounds_toArray, List.set_cons_succ, List.set_cons_zero]
            have R9 : Hid (Bk wx g2 (labC zLab)) := (R8.out.drew).chg hE id
            have L9 : Hid (Bk wx g7 (labC k)) := (L8.out.drew).chg hE id
            have E9 : Hid (Below w.heap.size w wx) := E8.out.trans ((hE.undrew).below (B := w.heap.size) E8.out.size (fun _ _ => id))
            clear hE
            go_wp2_with (first
              | (refine wpList_bld rfl 63 [] rfl (labC zLab) [] (labC zLab) (by kernel_rfl) (by kernel_rfl) trivial rfl ?_)
              | (refine wpList_st rfl 63 (.tmp 2) (.tmp 40) rfl g2 0 5 (labC zLab) (labC zLab) rfl rfl R9.out (by kernel_rfl) rfl (by decide) (one_lab _) ?_))
            intro w9 hb hc
            rw [splice_whole (labC zLab) (labC zLab) rfl] at hb
            have hg2 := G2.out
            have E10 : Hid (Below w.heap.size w w9) := E9.out.trans (hc.below E9.out.size (fun _ _ => by omega))
            have R10 := Lib.hid hb
            clear hb hc hg2
            go_wp2_with fail
            (try simp only [Exit.inBlock, Exit.then])
            refine bodyPost_ret (res_cell_tmp rfl _ _ g2 5 (labC zLab) rfl R10.out (by kernel_rfl) (by kernel_rfl) rfl) rfl ?_
            exact ⟨by rw [HD.out, if_pos HQ.out]; rfl, E10.out⟩
end Go.Proofs.Ytnpcehlbboeadaa
