import Derived.Test.YtcmfkdfegfablaaG4

/- The walk of NodeNone. -/
namespace Go.Proofs.Ytcmfkdfegfablaa
open Go.RowKit
set_option linter.unusedVariables false
set_option linter.unusedSimpArgs false

theorem nn18 : DOk (-1) 0 (Dst.new 18) := ⟨Nat.zero_le _, Int.le_refl _, by show (-1 : Int) ≤ _; decide⟩
theorem nnOp : (Dst.new 18).nOpen = (Dst.new 18, 1, zLab) := nOpen_len (by decide)
theorem DSes.opost_no {w0 w w' : World} {g gs : Nat} {lv : Value} {s t : Dst} {L : Lab} {z : Int} {e : Ending} (hs : DSes 92 w0 w g gs lv s) (hp : OPost w g gs lv t z L e w') (hz : ¬ z = 0) : e = .returned (.tuple #[.pointer none, .int .i64 z]) ∧ Below w0.heap.size w0 w' ∧ Chg (footD g gs lv) w w' := by
  obtain ⟨lv', h2, h4, h5, h6⟩ := hp
  rw [if_neg hz] at h6
  exact ⟨h6, hs.bel.trans (h5.below hs.bel.size (fun k hk hf => by have := hs.fr k hf; omega)), h5⟩
set_option maxRecDepth 100000 in
set_option maxHeartbeats 8000000 in
theorem nodeNone_calls (w : World) (r : RecV) (i : Int) (hok : RecOk w r) : Calls Try.prog 3 #[.agg (recC r).toArray, .int .i64 i] w fun e w' => e = .returned (.bool true) ∧ Below w.heap.size w w' := by
  have hcap := hok.cap
  have hmax := hok.max
  clear hok
  obtain ⟨bx, hbx⟩ : ∃ bx, recC r = bx := ⟨_, rfl⟩
  have D2 : Hid (bx[2]? = some (.slice r.A r.n r.c)) := by rw [← hbx]; exact (rfl : _ = _)
  have HBL : Hid (bx.length = 3) := by rw [← hbx]; exact (rfl : _ = _)
  rw [hbx]
  clear hbx
  go_enter Try.func3, Try.ntmps3
  have d2 := (Bk.new w bx 25).cell D2.out
  by_cases h50 : 50 < r.n
  · have h50i : (50 : Int) < (r.n : Int) := by omega
    go_wp2_with fail
    refine calls_at fun w1 hw1 => ?_
    have Ew1 : Hid (Below w.heap.size w w1) := by rw [← hw1]; exact (Below.refl _ _).alloc (Nat.le_refl _) _
    have Ktw1 : Hid (Bk w1 w.heap.size bx) := by rw [← hw1]; exact Bk.new w bx _
    clear hw1 d2
    refine (wakes9_calls w1).mono ?_
    rintro en w2 ⟨rfl, hb⟩
    have Ew2 : Hid (Below w.heap.size w w2) := Ew1.out.trans (hb.mono Ew1.out.size)
    have Ktw2 : Hid (Bk w2 w.heap.size bx) := Ktw1.out.below hb
    clear Ew1 Ktw1
    clear hb
    go_wp2_with fail
    (try simp only [Exit.inBlock, Exit.then])
    go_ret
    exact ⟨rfl, Ew2.out⟩
  have h50i : ¬ (50 : Int) < (r.n : Int) := by omega
  go_wp2_with fail
  refine calls_at fun w1 hw1 => ?_
  have Ew1 : Hid (Below w.heap.size w w1) := by rw [← hw1]; exact (Below.refl _ _).alloc (Nat.le_refl _) _
  have Ktw1 : Hid (Bk w1 w.heap.size bx) := by rw [← hw1]; exact Bk.new w bx _
  clear hw1 d2 h50 h50i hcap hmax
  refine (ndOpen_nil w1).mono ?_
  rintro en w2 ⟨rfl, hb⟩
  have Ew2 : Hid (Below w.heap.size w w2) := Ew1.out.trans (hb.mono Ew1.out.size)
  have Ktw2 : Hid (Bk w2 w.heap.size bx) := Ktw1.out.below hb
  clear Ew1 Ktw1
  clear hb
  go_wp2_with fail
  refine (diskNew_yes 18 w2 (by decide) (by decide)).mono ?_
  intro en w3 hp
  obtain ⟨gd, gsd, rfl, hd, hfe⟩ := DSes.new2 (wT := 92) (by decide) (Ew2.out) hp
  have hb : Below w2.heap.size w2 w3 := hp.bel
  have Fdt : Hid (¬ footD gd gsd (.slice none 0 0) w.heap.size) := fun hj => by have := hfe _ hj; have := Ktw2.out.lt; omega
  have Ew3 : Hid (Below w.heap.size w w3) := Ew2.out.trans (hb.mono Ew2.out.size)
  have Ktw3 : Hid (Bk w3 w.heap.size bx) := Ktw2.out.below hb
  clear Ew2 Ktw2
  have Ddw3 : Hid (DSes 92 w w3 gd gsd (.slice none 0 0) (Dst.new 18)) := hd
  clear hp hb hd hfe
  go_wp2_with fail
  refine (ndOpen_calls w3 gd gsd (.slice none 0 0) (Dst.new 18) 0 Ddw3.out.at_ nn18 (by decide)).mono ?_
  intro en w4 hp
  rw [nnOp] at hp
  obtain ⟨rfl, hbl, hch⟩ := DSes.opost_no (z := 1) (L := zLab) (t := Dst.new 18) Ddw3.out hp (by decide)
  have Ew4 : Hid (Below w.heap.size w w4) := hbl
  have Ktw4 : Hid (Bk w4 w.heap.size bx) := Ktw3.out.chg hch Fdt.out
  clear hp hbl hch Ddw3 Ew3 Ktw3
  go_wp2_with fail
  refine (ndBlock_out w4 (.pointer none) i (.inl rfl)).mono ?_
  rintro en w5 ⟨rfl, hb⟩
  have Ew5 : Hid (Below w.heap.size w w5) := Ew4.out.trans (hb.mono Ew4.out.size)
  have Ktw5 : Hid (Bk w5 w.heap.size bx) := Ktw4.out.below hb
  clear Ew4 Ktw4
  clear hb
  go_wp2_with (refine wpList_al rfl 35 rfl (bts (List.replicate 32 0)) (by kernel_rfl) ?_)
  intro ga w6 hg hb hc hs
  have HQa : Hid (Below w5.heap.size w5 w6) := hc.below (Nat.le_refl _) (fun _ _ => id)
  have HGa : Hid (ga = w5.heap.size) := hg
  have KZa := Lib.hid hb
  clear hg hb hc hs
  go_wp2_with (refine wpList_st rfl 35 (.tmp 12) (.tmp 36) rfl ga 0 32 (bts (List.replicate 32 0)) (bts (List.replicate 32 0)) rfl rfl KZa.out (by kernel_rfl) nw32z (by decide) (one_bts _) ?_)
  intro w7 hbk hc
  rw [splice_whole _ _ (by rfl)] at hbk
  have hb : Below w5.heap.size w5 w7 := HQa.out.trans (hc.below HQa.out.size (fun q hq he => by have := HGa.out; omega))
  have Ata : Hid (w.heap.size < ga) := by show _ < _; have := Ktw5.out.lt; have := HGa.out; omega
  have Ew7 : Hid (Below w.heap.size w w7) := Ew5.out.trans (hb.mono Ew5.out.size)
  have Ktw7 : Hid (Bk w7 w.heap.size bx) := Ktw5.out.below hb
  clear Ew5 Ktw5
  have Kaw7 : Hid (Bk w7 ga (bts (List.replicate 32 0))) := hbk
  have Kaw7 : Hid (Bk w7 ga (bts (List.replicate 32 0))) := hbk
  clear hbk hb hc KZa HQa HGa
  go_wp2_with (first
    | (refine wpList_ld rfl 35 (.tmp 12) rfl ga 0 32 (bts (List.replicate 32 0)) (bts (List.replicate 32 0)) rfl Kaw7.out (by kernel_rfl) (by kernel_rfl) (by decide) rfl ?_)
    | (refine wpList_bld rfl 35 [] rfl (bts (List.replicate 32 0)) [] (bts (List.replicate 32 0)) (by kernel_rfl) (by kernel_rfl) trivial rfl ?_)
    | (refine wpList_eq_bytes rfl false 35 35 (.tmp 57) (.tmp 58) rfl 5 32 Try.underlying35 Try.underlying5 (by kernel_rfl) (by kernel_rfl) (List.replicate 32 0) (List.replicate 32 0) rfl rfl (by decide) (by decide) true (by decide) ?_))
  refine (ndLabel_nil w7).mono ?_
  rintro en w8 ⟨rfl, hb⟩
  have Ew8 : Hid (Below w.heap.size w w8) := Ew7.out.trans (hb.mono Ew7.out.size)
  have Ktw8 : Hid (Bk w8 w.heap.size bx) := Ktw7.out.below hb
  have Kaw8 : Hid (Bk w8 ga (bts (List.replicate 32 0))) := Kaw7.out.below hb
  clear Ew7 Ktw7 Kaw7
  clear hb
  go_wp2_with (first
    | (refine wpList_bld rfl 40 [] rfl (labC zLab) [] (labC zLab) (by kernel_rfl) (by kernel_rfl) trivial rfl ?_)
    | (refine wpList_eq_lab rfl false 40 (.tmp 67) (.tmp 68) rfl zLab zLab rfl rfl true (by decide) ?_))
  refine (ndSetLabel_nil w8 zLab).mono ?_
  rintro en w9 ⟨rfl, hb⟩
  have Ew9 : Hid (Below w.heap.size w w9) := Ew8.out.trans (hb.mono Ew8.out.size)
  have Ktw9 : Hid (Bk w9 w.heap.size bx) := Ktw8.out.below hb
  have Kaw9 : Hid (Bk w9 ga (bts (List.replicate 32 0))) := Kaw8.out.below hb
  clear Ew8 Ktw8 Kaw8
  clear hb
  go_wp2_with (refine wpList_ld rfl 25 (.tmp 2) rfl w.heap.size 0 3 bx bx rfl Ktw9.out (by kernel_rfl) (by kernel_rfl) (by rw [HBL.out]; decide) (by rw [List.drop_zero, List.take_of_length_le (by rw [HBL.out]; exact Nat.le_refl _)]) ?_)
  refine (ndApply_nil w9 bx.toArray 1).mono ?_
  rintro en w10 ⟨rfl, hb⟩
  have Ew10 : Hid (Below w.heap.size w w10) := Ew9.out.trans (hb.mono Ew9.out.size)
  have Ktw10 : Hid (Bk w10 w.heap.size bx) := Ktw9.out.below hb
  have Kaw10 : Hid (Bk w10 ga (bts (List.replicate 32 0))) := Kaw9.out.below hb
  clear Ew9 Ktw9 Kaw9
  clear hb
  go_wp2_with fail
  refine (wakes9_calls w10).mono ?_
  rintro en w11 ⟨rfl, hb⟩
  have Ew11 : Hid (Below w.heap.size w w11) := Ew10.out.trans (hb.mono Ew10.out.size)
  have Ktw11 : Hid (Bk w11 w.heap.size bx) := Ktw10.out.below hb
  have Kaw11 : Hid (Bk w11 ga (bts (List.replicate 32 0))) := Kaw10.out.below hb
  clear Ew10 Ktw10 Kaw10
  clear hb
  go_wp2_with fail
  (try simp only [Exit.inBlock, Exit.then])
  go_ret
  exact ⟨rfl, Ew11.out⟩
end Go.Proofs.Ytcmfkdfegfablaa
