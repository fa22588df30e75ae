/- The walks of a sector with a check: what the program's functions compute. -/
import Derived.Test.YtnpcehlbboeadaaSealWa
import Derived.Test.YtnpcehlbboeadaaBlk
import Derived.Test.YtnpcehlbboeadaaArr
namespace Go.Proofs.Ytnpcehlbboeadaa
open Go.RowKit
set_option linter.unusedVariables false
set_option linter.unusedSimpArgs false

theorem block_cells (m : UInt8) (b : List UInt8) (c : UInt16) (hb : b.length = 29) : splice (splice (splice (vu8 m :: zb 31) 1 ((bts b).take 31)) 30 [vu8 c.toUInt8]) 31 [vu8 (c >>> 8).toUInt8] = bts (m :: b ++ [c.toUInt8, (c >>> 8).toUInt8]) := by
  have h1 : splice (vu8 m :: zb 31) 1 ((bts b).take 31) = bts (m :: b) ++ zb 2 := by
    rw [List.take_of_length_le (by simp [hb])]
    simp [splice, hb, zb, bts]
  rw [h1]
  have h2 : splice (bts (m :: b) ++ zb 2) 30 [vu8 c.toUInt8] = bts (m :: b) ++ [vu8 c.toUInt8, vu8 0] := by
    simp only [splice]
    rw [List.take_append_of_le_length (by simp [hb]), List.take_of_length_le (by simp [hb]), List.drop_append, List.drop_eq_nil_of_le (by simp [hb])]
    simp [hb, zb]
  rw [h2]
  simp only [splice]
  rw [List.take_append, List.take_of_length_le (by simp [hb]), List.drop_append, List.drop_eq_nil_of_le (by simp [hb])]
  simp [hb, bts]
set_option maxRecDepth 100000 in
set_option maxHeartbeats 1000000 in
theorem sealBlock_calls (m : UInt8) (b : List UInt8) (c : UInt16) (w : World) (hb : b.length = 29) :
    Calls Try.prog 54 #[.agg (bts (m :: b) ++ [vu16 c]).toArray] w fun e w' => e = .returned (.agg (bts (m :: b ++ [c.toUInt8, (c >>> 8).toUInt8])).toArray) ∧ Below w.heap.size w w' := by
  have h3 := block_cells m b c hb
  have h2 : ((bts (m :: b) ++ [vu16 c]).drop 1).take 29 = bts b := by
    rw [bts_cons, List.cons_append, List.drop_succ_cons, List.drop_zero, List.take_append_of_le_length (by simp [hb]), List.take_of_length_le (by simp [hb])]
  have h30 : (bts (m :: b) ++ [vu16 c])[30]? = some (vu16 c) := by rw [List.getElem?_append_right (by simp [hb])]; simp [hb]
  rw [bts_cons, List.cons_append] at h2 h30 ⊢
  generalize hrs : bts (m :: b ++ [c.toUInt8, (c >>> 8).toUInt8]) = rs at h3
  have hrl : rs.length = 32 := by rw [← hrs]; simp [hb]
  generalize hvs : bts b ++ [vu16 c] = vs at h2 h30
  have hl : vs.length = 30 := by rw [← hvs]; simp [hb]
  have hone : ∀ u ∈ rs, u.oneCell' = true := by rw [← hrs]; exact one_bts _
  have HO := Lib.hid hone
  have HV := Lib.hid hvs
  have HL := Lib.hid hl
  have HRL := Lib.hid hrl
  have HB1 := Lib.hid hb
  have H2 := Lib.hid h2
  have H3 := Lib.hid h3
  have HN : Hid (vs.length + 1 = 31) := by rw [hl]; rfl
  have H30 := Lib.hid h30
  clear hvs hl hb h2 h3 h30 hrs hrl hone
  go_enter Try.func54, Try.ntmps54
  go_wp2_with (refine wpList_al rfl 37 rfl (zb 32) (by kernel_rfl) ?_)
  intro g1 w1 hg1 hb1 hc1 hz1
  obtain rfl : g1 = w.heap.size + 1 := by simp [hg1]
  have HB1w := Lib.hid hb1
  have HBm : Hid (Bk w1 w.heap.size (vu8 m :: vs)) := (Bk.new w _ _).chg hc1 id
  have HBe : Hid (Below w.heap.size w w1) := ((Below.refl _ _).alloc (Nat.le_refl _) _).trans (hc1.below (by simp) (fun _ _ => id))
  have HS1 := Lib.hid hz1
  have hcm := HBm.out.cell (j := 0) rfl
  clear hb1 hc1 hz1 hg1
  go_wp2_with (first
    | (refine wpList_al rfl 37 rfl (zb 32) (by kernel_rfl) ?_)
    | (refine wpList_bld rfl 37 [(0, .tmp 6)] rfl (zb 32) [(0, [vu8 m])] (vu8 m :: zb 31) (by kernel_rfl) (by kernel_rfl) ?f1 rfl ?_))
  case f1 => exact ⟨rfl, ⟨1, rfl, by kernel_rfl, by decide⟩, trivial⟩
  intro g2 w2 hg2 hb2 hc2 hz2
  rw [HS1.out] at hg2
  subst hg2
  have HB2w := Lib.hid hb2
  have HB2m : Hid (Bk w2 w.heap.size (vu8 m :: vs)) := HBm.out.chg hc2 id
  have HB21 : Hid (Bk w2 (w.heap.size + 1) (zb 32)) := HB1w.out.chg hc2 id
  have HBe2 : Hid (Below w.heap.size w w2) := HBe.out.trans (hc2.below HBe.out.size (fun _ _ => id))
  clear hb2 hc2 hz2
  go_wp2_with (refine wpList_st rfl 37 _ _ rfl (w.heap.size + 1 + 1) 0 32 (zb 32) (vu8 m :: zb 31) rfl rfl HB2w.out (by kernel_rfl) rfl (by decide) (one_bts (m :: List.replicate 31 0)) ?_)
  intro w0 hd hc
  rw [splice_whole (zb 32) (vu8 m :: zb 31) rfl] at hd
  have HD := Lib.hid hd
  have HB : Hid (Bk w0 w.heap.size (vu8 m :: vs)) := HB2m.out.chg hc (by omega)
  have HZ : Hid (Bk w0 (w.heap.size + 1) (zb 32)) := HB21.out.chg hc (by omega)
  have HBel : Hid (Below w.heap.size w w0) := HBe2.out.trans (hc.below HBe2.out.size (fun k hk he => by omega))
  clear hd hc
  go_wp2_with fail
  apply wp_region_rel 4 (Chg NoS) [(Veq _), (Veq _), (Veq _), (Veq _)] [[], [], [1], [2]] [8, 9, 10, 11] (by kernel_rfl) (by kernel_rfl) rfl rfl rfl Chg.refl (fun _ _ _ => Chg.trans) ⟨Veq.lasts, Veq.lasts, Veq.lasts, Veq.lasts, trivial⟩ ?aops ?afin
  case aops =>
    refine ⟨?ao0, ?ao1, ?ao2, ?ao3, trivial⟩
    case ao0 =>
      intro a wx hE hin
      have i3 : a.eval (.tmp 3) = .pointer (some ⟨w.heap.size + 1 + 1, 0, none⟩) := hin 3 rfl
      clear hin
      have hcst : ∀ v, a.eval (.const v) = v := fun _ => rfl
      have hfnc : ∀ f, a.eval (.func f) = .func (.func f) #[] #[] := fun _ => rfl
      refine want_none rfl ?_
      unfold Oper.wp
      generalize a.eval = ρ at *
      go_simp
      try go_bits
      first | exact rel_val (Chg.refl _) | (go_simp; exact rel_val (Chg.refl _))
    case ao1 =>
      intro a wx hE hin
      have i1 : a.eval (.tmp 1) = .pointer (some ⟨w.heap.size, 0, none⟩) := hin 1 rfl
      clear hin
      have hcst : ∀ v, a.eval (.const v) = v := fun _ => rfl
      have hfnc : ∀ f, a.eval (.func f) = .func (.func f) #[] #[] := fun _ => rfl
      refine want_none rfl ?_
      unfold Oper.wp
      generalize a.eval = ρ at *
      go_simp
      try go_bits
      first | exact rel_val (Chg.refl _) | (go_simp; exact rel_val (Chg.refl _))
    case ao2 =>
      rintro a wx hE hin (h1 : a.eval (.tmp 9) = _)
      clear hin
      have hcst : ∀ v, a.eval (.const v) = v := fun _ => rfl
      have hfnc : ∀ f, a.eval (.func f) = .func (.func f) #[] #[] := fun _ => rfl
      refine want_none rfl ?_
      unfold Oper.wp
      generalize a.eval = ρ at *
      go_simp
      try go_bits
      first | exact rel_val (Chg.refl _) | (go_simp; exact rel_val (Chg.refl _))
    case ao3 =>
      rintro a wx hE hin (h2 : a.eval (.tmp 10) = _)
      clear hin
      have hcst : ∀ v, a.eval (.const v) = v := fun _ => rfl
      have hfnc : ∀ f, a.eval (.func f) = .func (.func f) #[] #[] := fun _ => rfl
      refine want_none rfl ?_
      unfold Oper.wp
      generalize a.eval = ρ at *
      go_simp
      try go_bits
      first | exact rel_val (Chg.refl _) | (go_simp; exact rel_val (Chg.refl _))
  case afin =>
    intro wx hE
    rintro _ rfl _ rfl _ rfl _ rfl
    simp only [FinOk, List.take_succ_cons, List.take_zero, List.take_nil, List.drop_succ_cons, List.drop_zero, List.drop_nil, Act.put, List.setIfInBounds_toArray, List.set_cons_succ, List.set_cons_zero]
    refine wpList_cp rfl _ _ 32 32 5 rfl Try.underlying32 (by kernel_rfl) (w.heap.size + 1 + 1) 1 31 31 (some ⟨w.heap.size, 1, none⟩) 29 29 (vu8 m :: zb 31) (bts b) rfl rfl (HD.out.drew.chg hE id) (by have := (HB.out.drew.chg hE id).rd_at 1 29; rwa [H2.out] at this) (by rw [bts_length, HB1.out]) (by simp [zb]) (one_bts _) ?_
    intro w2 hb2 hc2
    have hbel : Below w.heap.size w w2 := HBel.out.trans ((hE.undrew.below (B := w.heap.size) HBel.out.size (fun _ _ => id)).trans (hc2.below (Nat.le_trans HBel.out.size hE.size) (fun k hk he => by omega)))
    have HB2 : Hid (Bk w2 w.heap.size (vu8 m :: vs)) := (HB.out.drew.chg hE id).chg hc2 (by omega)
    have HZ2 : Hid (Bk w2 (w.heap.size + 1) (zb 32)) := (HZ.out.drew.chg hE id).chg hc2 (by omega)
    have hc : w2.cell? ⟨w.heap.size, 30, none⟩ = some (vu16 c) := HB2.out.cell H30.out
    have HK := Lib.hid hb2
    have HF := Lib.hid hbel
    clear hb2 hbel hc2 hE
    go_wp2_with (refine wpList_st rfl 5 _ _ rfl (w.heap.size + 1 + 1) 30 1 _ [vu8 c.toUInt8] rfl (congrArg (fun z => [Value.int .u8 z]) (mod8_u16 c)) HK.out (by kernel_rfl) rfl ?len (fun u hu => by obtain rfl := List.mem_singleton.1 hu; rfl) ?_)
    case len => rw [length_splice _ _ _ (by simp [HB1.out, zb])]; simp [zb]
    intro w3 hb3 hc3
    have HK3 := Lib.hid hb3
    have HC3 := Lib.hid hc3
    clear hb3 hc3
    go_wp2_with (refine wpList_st rfl 5 _ _ rfl (w.heap.size + 1 + 1) 31 1 _ [vu8 (c >>> 8).toUInt8] rfl (congrArg (fun z => [Value.int .u8 z]) (mod8_hi c)) HK3.out (by kernel_rfl) rfl ?len2 (fun u hu => by obtain rfl := List.mem_singleton.1 hu; rfl) ?_)
    case len2 => rw [length_splice _ _ _ (by rw [length_splice _ _ _ (by simp [HB1.out, zb])]; simp [zb]), length_splice _ _ _ (by simp [HB1.out, zb])]; simp [zb]
    intro w4 hb4 hc4
    rw [H3.out] at hb4
    have HK4 := Lib.hid hb4
    have HC4 := Lib.hid hc4
    clear hb4 hc4
    go_wp2_with (first | (refine wpList_ld rfl 37 _ rfl (w.heap.size + 1 + 1) 0 32 rs rs rfl HK4.out (by kernel_rfl) (by kernel_rfl) (by rw [HRL.out]; decide) (by rw [List.drop_zero, ← HRL.out, List.take_length]) ?_) | (refine wpList_st rfl 37 _ _ rfl (w.heap.size + 1) 0 32 (zb 32) rs rfl rfl ((HZ2.out.chg HC3.out (by omega)).chg HC4.out (by omega)) (by kernel_rfl) HRL.out (by decide) HO.out ?_))
    intro w5 hb5 hc5
    rw [splice_whole _ _ (by rw [HRL.out]; rfl)] at hb5
    have hbel : Below w.heap.size w w5 := HF.out.trans ((HC3.out.below (B := w.heap.size) HF.out.size (fun k hk he => by omega)).trans ((HC4.out.below (Nat.le_trans HF.out.size HC3.out.size) (fun k hk he => by omega)).trans (hc5.below (Nat.le_trans (Nat.le_trans HF.out.size HC3.out.size) HC4.out.size) (fun k hk he => by omega))))
    have HK5 := Lib.hid hb5
    have HF5 := Lib.hid hbel
    clear hb5 hbel hc5
    go_wp2_with fail
    try simp only [Exit.inBlock, Exit.then]
    refine bodyPost_ret (res_cell rfl _ _ (w.heap.size + 1) 32 rs rfl HK5.out (by kernel_rfl) (by kernel_rfl) HRL.out) rfl ?_
    exact ⟨rfl, HF5.out⟩

end Go.Proofs.Ytnpcehlbboeadaa
