import Derived.Test.YtchcnkobgdbdkaaLf

/- The walk of WalNone. -/
namespace Go.Proofs.Ytchcnkobgdbdkaa
open Go.RowKit
set_option linter.unusedVariables false
set_option linter.unusedSimpArgs false

theorem wnM (fr : Int) : ¬ mayB (Dst.new 5).S.length fr = true := fun h => by
  have h1 := mayB_at h
  have h2 : (Dst.new 5).S.length = 5 := rfl
  omega
theorem wnG (fr : Int) : (Dst.new 5).walGet fr = (Rec.no, 1) := walGet_a (wnM fr)
theorem wnP (fr : Int) (e q : UInt32) (ps : List PutV) : (Dst.new 5).walPut fr e q ps = ((Dst.new 5), 1) := Dst.walPut_no (fun h => wnM fr h.1)
theorem wnOk : DOk (-1) 0 (Dst.new 5) := ⟨by decide, by decide, by decide⟩
set_option maxRecDepth 100000 in
set_option maxHeartbeats 8000000 in
theorem walNone_calls (w : World) (r : RecV) (fr : Int) (hok : RecOk w r) : Calls Try.prog 3 #[.agg (recC r).toArray, .int .i64 fr] w fun e w' => e = .returned (.bool true) ∧ Below w.heap.size w w' := by
  have HOK := Lib.hid hok
  have HRR : Hid (∀ w', Below w.heap.size w w' → Rd w' r.A (r.ps.flatMap putC)) := fun w' hb => hok.rd.below hb
  have hcap := hok.cap
  have hmax := hok.max
  clear hok
  obtain ⟨bx, hbx⟩ : ∃ bx, recC r = bx := ⟨_, rfl⟩
  have HBX := Lib.hid hbx
  have D2 : Hid (bx[2]? = some (.slice r.A r.n r.c)) := by rw [← hbx]; exact (rfl : _ = _)
  have HBL : Hid (bx.length = 3) := by rw [← hbx]; exact (rfl : _ = _)
  rw [hbx]
  clear hbx
  go_enter Try.func3, Try.ntmps3
  have d2 := (Bk.new w bx 25).cell D2.out
  by_cases h50 : 50 < r.n
  · have h50i : (50 : Int) < (r.n : Int) := by omega
    go_wp2_with fail
    refine calls_at fun w1 hw1 => ?_
    have Ew1 : Hid (Below w.heap.size w w1) := by rw [← hw1]; exact (Below.refl _ _).alloc (Nat.le_refl _) _
    have Ktw1 : Hid (Bk w1 w.heap.size bx) := by rw [← hw1]; exact Bk.new w bx _
    clear hw1 d2
    refine (wakes8_calls w1).mono ?_
    rintro en w2 ⟨rfl, hb⟩
    have Ew2 : Hid (Below w.heap.size w w2) := Ew1.out.trans (hb.mono Ew1.out.size)
    have Ktw2 : Hid (Bk w2 w.heap.size bx) := Ktw1.out.below hb
    clear Ew1 Ktw1
    clear hb
    go_wp2_with fail
    (try simp only [Exit.inBlock, Exit.then])
    go_ret
    exact ⟨rfl, Ew2.out⟩
  have h50i : ¬ (50 : Int) < (r.n : Int) := by omega
  go_wp2_with fail
  refine calls_at fun w1 hw1 => ?_
  have Ew1 : Hid (Below w.heap.size w w1) := by rw [← hw1]; exact (Below.refl _ _).alloc (Nat.le_refl _) _
  have Ktw1 : Hid (Bk w1 w.heap.size bx) := by rw [← hw1]; exact Bk.new w bx _
  clear hw1 d2 h50 h50i hcap hmax
  refine (diskNew_yes 5 w1 (by decide) (by decide)).mono ?_
  intro en w2 hp
  obtain ⟨gd, gsd, rfl, hd⟩ := DSes.new (wT := 99) (by decide) (Ew1.out) hp
  have hb : Below w1.heap.size w1 w2 := hp.bel
  have Ew2 : Hid (Below w.heap.size w w2) := Ew1.out.trans (hb.mono Ew1.out.size)
  have Ktw2 : Hid (Bk w2 w.heap.size bx) := Ktw1.out.below hb
  clear Ew1 Ktw1
  have Ddw2 : Hid (DSes 99 w w2 gd gsd (.slice none 0 0) (Dst.new 5)) := hd
  clear hp hb hd
  go_wp2_with fail
  refine (walGet_nil w2 fr).mono ?_
  intro en w3 hp
  obtain ⟨Aw3, cw3, he, hR, hncw3, hcmw3, hb⟩ := hp
  have he' : en = .returned (.tuple #[.agg #[vu32 0, vu32 0, .slice Aw3 0 cw3], .int .i64 1]) := he
  subst he'
  have hR' : Rd w3 Aw3 ([].flatMap putC) := hR
  have Ew3 : Hid (Below w.heap.size w w3) := Ew2.out.trans (hb.mono Ew2.out.size)
  have Ktw3 : Hid (Bk w3 w.heap.size bx) := Ktw2.out.below hb
  have Ddw3 : Hid (DSes 99 w w3 gd gsd (.slice none 0 0) (Dst.new 5)) := Ddw2.out.below hb
  clear Ew2 Ktw2 Ddw2
  have Rw3w3 := Lib.hid hR'
  clear he hb hR hR'
  go_wp2_with (refine wpList_al rfl 25 rfl zR (by kernel_rfl) ?_)
  intro ga w4 hg hb hc hs
  have HQa : Hid (Below w3.heap.size w3 w4) := hc.below (Nat.le_refl _) (fun _ _ => id)
  have HGa : Hid (ga = w3.heap.size) := hg
  have KZa := Lib.hid hb
  clear hg hb hc hs
  go_wp2_with (refine wpList_st rfl 25 (.tmp 7) (.tmp 23) rfl ga 0 3 zR [vu32 0, vu32 0, .slice Aw3 0 cw3] rfl rfl KZa.out (by kernel_rfl) rfl (by decide) (one_rec _ _ _ _ _) ?_)
  intro w5 hbk hc
  rw [splice_whole zR [vu32 0, vu32 0, .slice Aw3 0 cw3] rfl] at hbk
  have hb : Below w3.heap.size w3 w5 := HQa.out.trans (hc.below HQa.out.size (fun q hq he => by have := HGa.out; omega))
  have Ata : Hid (w.heap.size < ga) := by show _ < _; have := Ktw3.out.lt; have := HGa.out; omega
  have Ew5 : Hid (Below w.heap.size w w5) := Ew3.out.trans (hb.mono Ew3.out.size)
  have Ktw5 : Hid (Bk w5 w.heap.size bx) := Ktw3.out.below hb
  have Rw3w5 : Hid (Rd w5 Aw3 ([].flatMap putC)) := Rw3w3.out.below hb
  have Ddw5 : Hid (DSes 99 w w5 gd gsd (.slice none 0 0) (Dst.new 5)) := Ddw3.out.below hb
  clear Ew3 Ktw3 Rw3w3 Ddw3
  have Kaw5 : Hid (Bk w5 ga [vu32 0, vu32 0, .slice Aw3 0 cw3]) := hbk
  have Kaw5 : Hid (Bk w5 ga [vu32 0, vu32 0, .slice Aw3 0 cw3]) := hbk
  clear hbk hb hc KZa HQa HGa
  go_wp2_with fail
  refine (walGet_calls w5 gd gsd (.slice none 0 0) (Dst.new 5) fr Ddw5.out.at_).mono ?_
  intro en w6 hp
  rw [wnG] at hp
  obtain ⟨Aw6, cw6, he, hR, hncw6, hcmw6, hb⟩ := hp
  have he' : en = .returned (.tuple #[.agg #[vu32 0, vu32 0, .slice Aw6 0 cw6], .int .i64 1]) := he
  subst he'
  have hR' : Rd w6 Aw6 ([].flatMap putC) := hR
  have Ew6 : Hid (Below w.heap.size w w6) := Ew5.out.trans (hb.mono Ew5.out.size)
  have Ktw6 : Hid (Bk w6 w.heap.size bx) := Ktw5.out.below hb
  have Kaw6 : Hid (Bk w6 ga [vu32 0, vu32 0, .slice Aw3 0 cw3]) := Kaw5.out.below hb
  have Ddw6 : Hid (DSes 99 w w6 gd gsd (.slice none 0 0) (Dst.new 5)) := Ddw5.out.below hb
  clear Ew5 Ktw5 Kaw5 Ddw5
  have Rw6w6 := Lib.hid hR'
  clear he hb hR hR'
  go_wp2_with (refine wpList_al rfl 25 rfl zR (by kernel_rfl) ?_)
  intro gb w7 hg hb hc hs
  have HQb : Hid (Below w6.heap.size w6 w7) := hc.below (Nat.le_refl _) (fun _ _ => id)
  have HGb : Hid (gb = w6.heap.size) := hg
  have KZb := Lib.hid hb
  clear hg hb hc hs
  go_wp2_with (refine wpList_st rfl 25 (.tmp 9) (.tmp 29) rfl gb 0 3 zR [vu32 0, vu32 0, .slice Aw6 0 cw6] rfl rfl KZb.out (by kernel_rfl) rfl (by decide) (one_rec _ _ _ _ _) ?_)
  intro w8 hbk hc
  rw [splice_whole zR [vu32 0, vu32 0, .slice Aw6 0 cw6] rfl] at hbk
  have hb : Below w6.heap.size w6 w8 := HQb.out.trans (hc.below HQb.out.size (fun q hq he => by have := HGb.out; omega))
  have Atb : Hid (w.heap.size < gb) := by show _ < _; have := Ktw6.out.lt; have := HGb.out; omega
  have Aab : Hid (ga < gb) := by show _ < _; have := Kaw6.out.lt; have := HGb.out; omega
  have Ew8 : Hid (Below w.heap.size w w8) := Ew6.out.trans (hb.mono Ew6.out.size)
  have Ktw8 : Hid (Bk w8 w.heap.size bx) := Ktw6.out.below hb
  have Kaw8 : Hid (Bk w8 ga [vu32 0, vu32 0, .slice Aw3 0 cw3]) := Kaw6.out.below hb
  have Rw6w8 : Hid (Rd w8 Aw6 ([].flatMap putC)) := Rw6w6.out.below hb
  have Ddw8 : Hid (DSes 99 w w8 gd gsd (.slice none 0 0) (Dst.new 5)) := Ddw6.out.below hb
  clear Ew6 Ktw6 Kaw6 Rw6w6 Ddw6
  have Kbw8 : Hid (Bk w8 gb [vu32 0, vu32 0, .slice Aw6 0 cw6]) := hbk
  have Kbw8 : Hid (Bk w8 gb [vu32 0, vu32 0, .slice Aw6 0 cw6]) := hbk
  clear hbk hb hc KZb HQb HGb
  have ca0 := Kaw8.out.cell (j := 0) rfl
  have ca2 := Kaw8.out.cell (j := 2) rfl
  have cb2 := Kbw8.out.cell (j := 2) rfl
  go_wp2_with (refine wpList_ld rfl 25 (.tmp 2) rfl w.heap.size 0 3 bx bx rfl Ktw8.out (by kernel_rfl) (by kernel_rfl) (by rw [HBL.out]; decide) (by rw [List.drop_zero, List.take_of_length_le (by rw [HBL.out]; exact Nat.le_refl _)]) ?_)
  clear ca0 ca2 cb2
  refine (walPut_nil w8 fr bx).mono ?_
  rintro en w9 ⟨rfl, hb⟩
  have Ew9 : Hid (Below w.heap.size w w9) := Ew8.out.trans (hb.mono Ew8.out.size)
  have Ktw9 : Hid (Bk w9 w.heap.size bx) := Ktw8.out.below hb
  have Kaw9 : Hid (Bk w9 ga [vu32 0, vu32 0, .slice Aw3 0 cw3]) := Kaw8.out.below hb
  have Kbw9 : Hid (Bk w9 gb [vu32 0, vu32 0, .slice Aw6 0 cw6]) := Kbw8.out.below hb
  have Ddw9 : Hid (DSes 99 w w9 gd gsd (.slice none 0 0) (Dst.new 5)) := Ddw8.out.below hb
  clear Ew8 Ktw8 Kaw8 Kbw8 Ddw8
  clear hb
  go_wp2_with (refine wpList_ld rfl 25 (.tmp 2) rfl w.heap.size 0 3 bx bx rfl Ktw9.out (by kernel_rfl) (by kernel_rfl) (by rw [HBL.out]; decide) (by rw [List.drop_zero, List.take_of_length_le (by rw [HBL.out]; exact Nat.le_refl _)]) ?_)
  rw [show bx.toArray = #[vu32 r.e, vu32 r.q, .slice r.A r.n r.c] by rw [← HBX.out]; rfl]
  refine (walPut_calls w9 gd gsd (.slice none 0 0) (Dst.new 5) fr r.e r.q r.ps r.A r.n r.c 0 HOK.out.len Ddw9.out.at_ wnOk (by decide) (fun w' hc => HRR.out w' (Ew9.out.trans (hc.below Ew9.out.size (fun j hj hf => by have := Ddw9.out.fr j hf; omega)))) HOK.out.ok).mono ?_
  intro en w10 hp
  rw [wnP] at hp
  obtain ⟨rfl, lv9, hd, hft⟩ := DSes.post2 Ddw9.out hp
  have E9 : Hid (Below w.heap.size w w10) := hd.bel
  clear hp hd hft
  go_wp2_with fail
  refine (wakes8_calls w10).mono ?_
  rintro en wz ⟨rfl, hb⟩
  have EZ : Hid (Below w.heap.size w wz) := E9.out.trans (hb.mono E9.out.size)
  clear hb
  go_wp2_with fail
  (try simp only [Exit.inBlock, Exit.then])
  go_ret
  exact ⟨rfl, EZ.out⟩
end Go.Proofs.Ytchcnkobgdbdkaa
