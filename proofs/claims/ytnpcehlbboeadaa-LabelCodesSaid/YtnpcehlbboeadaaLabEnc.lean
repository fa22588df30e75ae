/- The walk of label.Encode. -/
import Derived.Test.YtnpcehlbboeadaaLabBody
namespace Go.Proofs.Ytnpcehlbboeadaa
open Go.RowKit
set_option linter.unusedVariables false
set_option linter.unusedSimpArgs false

/-- A label's sector. -/
def labEnc (l : Lab) : List UInt8 := secOf 76 (padB (bodyB l))
theorem labEnc_length (l : Lab) : (labEnc l).length = 32 := secOf_length (padB_length (by rw [bodyB_length]; decide))
theorem enc_lab (l : Lab) : encR 76 (bodyB l) = (labEnc l, 0) := encR_yes (by rw [bodyB_length]; decide)
theorem labC_length (l : Lab) : (labC l).length = 5 := rfl
theorem one_lab (l : Lab) : ∀ u ∈ labC l, u.oneCell' = true := by
  intro u hu
  simp only [labC, List.mem_cons, List.not_mem_nil, or_false] at hu
  rcases hu with rfl | rfl | rfl | rfl | rfl <;> rfl
def zLab : Lab := ⟨0, 0, 0, 0, 0⟩
set_option maxRecDepth 100000 in
set_option maxHeartbeats 2000000 in
theorem labEncode_calls (l : Lab) (w : World) :
    Calls Try.prog 34 #[.agg (labC l).toArray] w fun e w' => e = .returned (.agg (bts (labEnc l)).toArray) ∧ Below w.heap.size w w' := by
  obtain ⟨bx, hbx⟩ : ∃ bx, labC l = bx := ⟨_, rfl⟩
  have HBX := Lib.hid hbx
  have HBL : Hid (bx.length = 5) := by show _ = _; rw [← hbx]; rfl
  rw [hbx]
  clear hbx
  have HN0 : Hid ((bts (List.replicate 32 0)).length = 32) := by show _ = _; rw [bts_length, List.length_replicate]
  go_enter Try.func34, Try.ntmps34
  go_wp2_with (refine wpList_al rfl 37 rfl (bts (List.replicate 32 0)) (by kernel_rfl) ?_)
  intro g2 w1 hg hb hc hs
  have HX1 : Hid (Bk w1 w.heap.size bx) := (Bk.new w bx _).chg hc id
  have HE1 : Hid (Below w.heap.size w w1) := ((Below.refl _ _).alloc (Nat.le_refl _) _).trans (hc.below (by simp) (fun _ _ => id))
  have HG2 : Hid (w.heap.size < g2) := by show _ < _; rw [hg]; simp
  have HZ1 := Lib.hid hb
  clear hg hb hc hs
  go_wp2_with (refine wpList_ld rfl 63 (.tmp 1) rfl w.heap.size 0 5 bx bx rfl HX1.out (by kernel_rfl) (by kernel_rfl) (by rw [HBL.out]; decide) (by rw [List.drop_zero, ← HBL.out, List.take_length]) ?_)
  go_wp2_with fail
  rw [← HBX.out]
  refine (body_calls l w1).mono ?_
  intro e w2 hp
  obtain ⟨A, c, rfl, ho, hb⟩ := hp
  obtain ⟨A', c', hv, hr, hlc, hcm⟩ := own_rd ho
  injection hv with h1 _ h3
  subst h1
  subst h3
  have hl16 := bodyB_length l
  rw [hl16] at hlc ⊢
  have HR2 := Lib.hid hr
  have HZ2 := Lib.hid (HZ1.out.below hb)
  have HE2 : Hid (Below w.heap.size w w2) := HE1.out.trans (hb.mono HE1.out.size)
  clear ho hr hb
  go_wp2_with fail
  refine (sealEncode_calls 76 A 16 c (bodyB l) w2 hl16 hlc hcm HR2.out).mono ?_
  rintro e w3 ⟨rfl, hb⟩
  rw [enc_lab]
  have HZ3 := Lib.hid (HZ2.out.below hb)
  have HE3 : Hid (Below w.heap.size w w3) := HE2.out.trans (hb.mono HE2.out.size)
  clear hb HR2 hl16
  obtain ⟨vv, hvv⟩ : ∃ vv, bts (labEnc l) = vv := ⟨_, rfl⟩
  have HVV := Lib.hid hvv
  have HVL : Hid (vv.length = 32) := by show _ = _; rw [← hvv, bts_length, labEnc_length]
  have HVO : Hid (∀ u ∈ vv, u.oneCell' = true) := by rw [← hvv]; exact one_bts _
  simp only []
  rw [hvv]
  clear hvv
  go_wp2_with (refine wpList_al rfl 37 rfl (bts (List.replicate 32 0)) (by kernel_rfl) ?_)
  intro g3 w4 hg hb hc hs
  have HG3 : Hid (g2 < g3) := by show _ < _; rw [hg]; exact HZ3.out.lt
  have HZ4 := Lib.hid (HZ3.out.chg hc id)
  have HE4 : Hid (Below w.heap.size w w4) := HE3.out.trans (hc.below HE3.out.size (fun _ _ => id))
  have HY4 := Lib.hid hb
  clear hg hb hc hs
  go_wp2_with (refine wpList_st rfl 37 (.tmp 3) (.tmp 9) rfl g3 0 32 (bts (List.replicate 32 0)) vv rfl rfl HY4.out (by kernel_rfl) HVL.out (by decide) HVO.out ?_)
  intro w5 hb hc
  rw [splice_whole _ _ (by rw [HVL.out]; rfl)] at hb
  have hg2 := HG2.out
  have hg3 := HG3.out
  have HZ5 := Lib.hid (HZ4.out.chg hc (by omega))
  have HE5 : Hid (Below w.heap.size w w5) := HE4.out.trans (hc.below HE4.out.size (fun _ _ => by omega))
  have HY5 := Lib.hid hb
  clear hb hc hg2 hg3
  go_wp2_with (first
    | (refine wpList_ld rfl 37 (.tmp 3) rfl g3 0 32 vv vv rfl HY5.out (by kernel_rfl) (by kernel_rfl) (by rw [HVL.out]; decide) (by rw [List.drop_zero, ← HVL.out, List.take_length]) ?_)
    | (refine wpList_st rfl 37 (.tmp 2) (.tmp 11) rfl g2 0 32 (bts (List.replicate 32 0)) vv rfl rfl HZ5.out (by kernel_rfl) HVL.out (by decide) HVO.out ?_))
  intro w6 hb hc
  rw [splice_whole _ _ (by rw [HVL.out]; rfl)] at hb
  have hg2 := HG2.out
  have HE6 : Hid (Below w.heap.size w w6) := HE5.out.trans (hc.below HE5.out.size (fun _ _ => by omega))
  have HY6 := Lib.hid hb
  clear hb hc hg2
  go_wp2_with fail
  (try simp only [Exit.inBlock, Exit.then])
  refine bodyPost_ret (res_cell rfl _ _ g2 32 vv rfl HY6.out (by kernel_rfl) (by kernel_rfl) HVL.out) rfl ?_
  exact ⟨by rw [HVV.out], HE6.out⟩
end Go.Proofs.Ytnpcehlbboeadaa
