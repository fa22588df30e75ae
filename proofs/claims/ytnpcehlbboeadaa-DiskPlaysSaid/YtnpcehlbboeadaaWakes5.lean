/- The walk of the statements' own trial of the disk. -/
import Derived.Test.YtnpcehlbboeadaaDiskSes
namespace Go.Proofs.Ytnpcehlbboeadaa
open Go.RowKit
set_option linter.unusedVariables false
set_option linter.unusedSimpArgs false

def wk0 : Dst := Dst.new 4
def wk1 : Dst := wk0.write 1 (List.replicate 32 7)
def wk2 : Dst := wk1.write 1 (List.replicate 32 8)
def wk3 : Dst := wk2.write 4 (List.replicate 32 8)
def wk4 : Dst := wk3.fuse (max 1 (-1))
def wk5 : Dst := wk4.write 2 (List.replicate 32 9)
def wk6 : Dst := wk5.flush
def wk7 : Dst := wk6.up [1, 2, 3]
theorem wkE1 : wk0.writeE 1 = 0 := by decide +kernel
theorem wkE2 : wk1.writeE 1 = 0 := by decide +kernel
theorem wkE3 : wk2.writeE 4 = 1 := by decide +kernel
theorem wkE5 : wk4.writeE 2 = 0 := by decide +kernel
theorem wkE6 : wk5.flushE = 20 := by decide +kernel
theorem wkB6 : wk6.readB 1 = List.replicate 32 0 := by decide +kernel
theorem wkR6 : wk6.readE 1 = 20 := by decide +kernel
theorem wkB7 : wk7.readB 1 = List.replicate 32 7 := by decide +kernel
theorem wkR7 : wk7.readE 1 = 0 := by decide +kernel
theorem wkB7b : wk7.readB 2 = List.replicate 32 9 := by decide +kernel
theorem wkR7b : wk7.readE 2 = 0 := by decide +kernel
set_option maxRecDepth 100000 in
set_option maxHeartbeats 4000000 in
theorem wakes5_calls (w : World) : Calls Try.prog 14 #[] w fun e w' => e = .returned (.bool true) ∧ Below w.heap.size w w' := by
  go_enter Try.func14, Try.ntmps14
  go_wp2_with fail
  refine (diskNew_yes 4 w (by decide) (by decide)).mono ?_
  intro e w1 hp
  obtain ⟨g, gs, rfl, hs⟩ := DSes.new (wT := 91) (by decide) (Below.refl _ _) hp
  have HD1 : Hid (DSes 91 w w1 g gs (.slice none 0 0) wk0) := hs
  clear hp hs
  go_wp2_with fail
  refine (fill_calls 7 w1).mono ?_
  rintro e w2 ⟨rfl, hb⟩
  have HD2 := Lib.hid (HD1.out.below hb)
  clear HD1 hb
  go_wp2_with fail
  refine (diskWrite_at w2 g gs (.slice none 0 0) wk0 1 (List.replicate 32 7) HD2.out.at_ rfl (by decide +kernel) (by decide +kernel) (by decide +kernel)).mono ?_
  intro e w3 hp
  rw [wkE1] at hp
  obtain ⟨rfl, lv3, hs⟩ := HD2.out.post hp
  have HD3 : Hid (DSes 91 w w3 g gs lv3 wk1) := hs
  clear HD2 hp hs
  go_wp2_with fail
  refine (fill_calls 8 w3).mono ?_
  rintro e w4 ⟨rfl, hb⟩
  have HD4 := Lib.hid (HD3.out.below hb)
  clear HD3 hb
  go_wp2_with fail
  refine (diskWrite_at w4 g gs lv3 wk1 1 (List.replicate 32 8) HD4.out.at_ rfl (by decide +kernel) (by decide +kernel) (by decide +kernel)).mono ?_
  intro e w5 hp
  rw [wkE2] at hp
  obtain ⟨rfl, lv5, hs⟩ := HD4.out.post hp
  have HD5 : Hid (DSes 91 w w5 g gs lv5 wk2) := hs
  clear HD4 hp hs
  go_wp2_with fail
  refine (fill_calls 8 w5).mono ?_
  rintro e w6 ⟨rfl, hb⟩
  have HD6 := Lib.hid (HD5.out.below hb)
  clear HD5 hb
  go_wp2_with fail
  refine (diskWrite_at w6 g gs lv5 wk2 4 (List.replicate 32 8) HD6.out.at_ rfl (by decide +kernel) (by decide +kernel) (by decide +kernel)).mono ?_
  intro e w7 hp
  rw [wkE3] at hp
  obtain ⟨rfl, lv7, hs⟩ := HD6.out.post hp
  have HD7 : Hid (DSes 91 w w7 g gs lv7 wk3) := hs
  clear HD6 hp hs
  go_wp2_with fail
  refine (diskLoose_at w7 g gs lv7 wk3 HD7.out.at_).mono ?_
  rintro e w' ⟨rfl, rfl⟩
  rw [show (wk3.L.length : Int) = 2 by decide +kernel]
  go_wp2_with fail
  refine (diskFuse_at w7 g gs lv7 wk3 1 HD7.out.at_).mono ?_
  intro e w8 hp
  obtain ⟨rfl, lv8, hs⟩ := HD7.out.post hp
  have HD8 : Hid (DSes 91 w w8 g gs lv8 wk4) := hs
  clear HD7 hp hs
  go_wp2_with fail
  refine (fill_calls 9 w8).mono ?_
  rintro e w9 ⟨rfl, hb⟩
  have HD9 := Lib.hid (HD8.out.below hb)
  clear HD8 hb
  go_wp2_with fail
  refine (diskWrite_at w9 g gs lv8 wk4 2 (List.replicate 32 9) HD9.out.at_ rfl (by decide +kernel) (by decide +kernel) (by decide +kernel)).mono ?_
  intro e w10 hp
  rw [wkE5] at hp
  obtain ⟨rfl, lv10, hs⟩ := HD9.out.post hp
  have HD10 : Hid (DSes 91 w w10 g gs lv10 wk5) := hs
  clear HD9 hp hs
  go_wp2_with fail
  refine (diskFlush_at w10 g gs lv10 wk5 HD10.out.at_ (by decide +kernel) (by decide +kernel)).mono ?_
  intro e w11 hp
  rw [wkE6] at hp
  obtain ⟨rfl, lv11, hs⟩ := HD10.out.post hp
  have HD11 : Hid (DSes 91 w w11 g gs lv11 wk6) := hs
  clear HD10 hp hs
  go_wp2_with fail
  refine (diskRead_at w11 g gs lv11 wk6 1 HD11.out.at_).mono ?_
  rintro e w12 ⟨rfl, hb⟩
  have HD12 := Lib.hid (HD11.out.below hb)
  clear HD11 hb
  rw [wkB6, wkR6]
  generalize hvv : bts (List.replicate 32 0) = vv13
  have HVV13 := Lib.hid hvv
  have HN13 : Hid (vv13.length = 32) := by show _ = _; rw [← hvv, bts_length, List.length_replicate]
  have HO13 : Hid (∀ u ∈ vv13, u.oneCell' = true) := by rw [← hvv]; exact one_bts _
  clear hvv
  go_wp2_with (refine wpList_al rfl 37 rfl (bts (List.replicate 32 0)) (by kernel_rfl) ?_)
  intro gx w13 hg hb hc hs
  have HD13 := Lib.hid (HD12.out.chgN hc)
  have HGgx : Hid (w.heap.size ≤ gx) := by show w.heap.size ≤ gx; rw [hg]; exact HD12.out.bel.size
  have HFgx : Hid (∀ j, footD g gs lv11 j → j < gx) := by intro j hj; rw [hg]; exact DiskAt.lt HD12.out.at_ j hj
  clear HD12
  have Kgx13 := Lib.hid hb
  clear hb hg hc hs
  go_wp2_with (refine wpList_st rfl 37 (.tmp 5) (.tmp 55) rfl gx 0 32 (bts (List.replicate 32 0)) vv13 rfl rfl Kgx13.out (by kernel_rfl) HN13.out (by decide) HO13.out ?_)
  intro w14 hb hc
  rw [splice_whole _ _ (by rw [HN13.out]; rfl), ← HVV13.out] at hb
  have hltgx := HFgx.out
  have HD14 : Hid (DSes 91 w w14 g gs lv11 wk6) := ⟨DiskAt.chg HD13.out.at_ hc (fun j hj he => by have := hltgx j hj; omega), HD13.out.fr, HD13.out.bel.trans (hc.below HD13.out.bel.size (fun j hj he => by have := HGgx.out; omega))⟩
  clear HD13 hc hltgx Kgx13
  have Kgx14 := Lib.hid hb
  clear hb
  rw [← HVV13.out]
  go_wp2_with fail
  refine (diskDown_at w14 g gs lv11 wk6 HD14.out.at_).mono ?_
  rintro e w' ⟨rfl, rfl⟩
  rw [show wk6.dn = true by decide +kernel]
  go_wp2_with fail
  refine calls_at fun w15 hw => ?_
  have HD15 : Hid (DSes 91 w w15 g gs lv11 wk6) := by rw [← hw]; exact HD14.out.chgN ((Chg.refl _).alloc _)
  have HU : Hid (Bk w15 w14.heap.size (bts [1, 2, 3])) := by rw [← hw]; exact Bk.new _ _ _
  have HUG : Hid (g ≠ w14.heap.size ∧ gs ≠ w14.heap.size) := ⟨fun he => by have := DiskAt.lt HD14.out.at_ g (.inl rfl); omega, fun he => by have := DiskAt.lt HD14.out.at_ gs (.inr (.inl rfl)); omega⟩
  clear HD14 hw
  refine (diskUp_at w15 g gs lv11 wk6 (some ⟨w14.heap.size, 0, none⟩) 3 3 [1, 2, 3] HD15.out.at_ rfl (fun w' hc => (HU.out.chg hc (fun hh => hh.elim (fun he => HUG.out.1 he.symm) (fun he => HUG.out.2 he.symm))).rd)).mono ?_
  intro e w16 hp
  obtain ⟨rfl, lv16, hs⟩ := HD15.out.post hp
  have HD16 : Hid (DSes 91 w w16 g gs lv16 wk7) := hs
  clear HD15 hp hs
  go_wp2_with fail
  clear HU HUG
  refine (diskRead_at w16 g gs lv16 wk7 1 HD16.out.at_).mono ?_
  rintro e w17 ⟨rfl, hb⟩
  have HD17 := Lib.hid (HD16.out.below hb)
  clear HD16 hb
  rw [wkB7, wkR7]
  generalize hvv : bts (List.replicate 32 7) = vv18
  have HVV18 := Lib.hid hvv
  have HN18 : Hid (vv18.length = 32) := by show _ = _; rw [← hvv, bts_length, List.length_replicate]
  have HO18 : Hid (∀ u ∈ vv18, u.oneCell' = true) := by rw [← hvv]; exact one_bts _
  clear hvv
  go_wp2_with (refine wpList_al rfl 37 rfl (bts (List.replicate 32 0)) (by kernel_rfl) ?_)
  intro gy w18 hg hb hc hs
  have HD18 := Lib.hid (HD17.out.chgN hc)
  have HGgy : Hid (w.heap.size ≤ gy) := by show w.heap.size ≤ gy; rw [hg]; exact HD17.out.bel.size
  have HFgy : Hid (∀ j, footD g gs lv16 j → j < gy) := by intro j hj; rw [hg]; exact DiskAt.lt HD17.out.at_ j hj
  clear HD17
  have Kgy18 := Lib.hid hb
  clear hb hg hc hs
  go_wp2_with (refine wpList_st rfl 37 (.tmp 8) (.tmp 65) rfl gy 0 32 (bts (List.replicate 32 0)) vv18 rfl rfl Kgy18.out (by kernel_rfl) HN18.out (by decide) HO18.out ?_)
  intro w19 hb hc
  rw [splice_whole _ _ (by rw [HN18.out]; rfl), ← HVV18.out] at hb
  have hltgy := HFgy.out
  have HD19 : Hid (DSes 91 w w19 g gs lv16 wk7) := ⟨DiskAt.chg HD18.out.at_ hc (fun j hj he => by have := hltgy j hj; omega), HD18.out.fr, HD18.out.bel.trans (hc.below HD18.out.bel.size (fun j hj he => by have := HGgy.out; omega))⟩
  clear HD18 hc hltgy Kgy18
  have Kgy19 := Lib.hid hb
  clear hb
  rw [← HVV18.out]
  go_wp2_with fail
  refine (diskRead_at w19 g gs lv16 wk7 2 HD19.out.at_).mono ?_
  rintro e w20 ⟨rfl, hb⟩
  have HD20 := Lib.hid (HD19.out.below hb)
  have Kgy20 : Hid (Bk w20 gy (bts (List.replicate 32 7))) := Kgy19.out.below hb
  clear HD19 Kgy19 hb
  rw [wkB7b, wkR7b]
  generalize hvv : bts (List.replicate 32 9) = vv21
  have HVV21 := Lib.hid hvv
  have HN21 : Hid (vv21.length = 32) := by show _ = _; rw [← hvv, bts_length, List.length_replicate]
  have HO21 : Hid (∀ u ∈ vv21, u.oneCell' = true) := by rw [← hvv]; exact one_bts _
  clear hvv
  go_wp2_with (refine wpList_al rfl 37 rfl (bts (List.replicate 32 0)) (by kernel_rfl) ?_)
  intro gz w21 hg hb hc hs
  have HD21 := Lib.hid (HD20.out.chgN hc)
  have HGgz : Hid (w.heap.size ≤ gz) := by show w.heap.size ≤ gz; rw [hg]; exact HD20.out.bel.size
  have HFgz : Hid (∀ j, footD g gs lv16 j → j < gz) := by intro j hj; rw [hg]; exact DiskAt.lt HD20.out.at_ j hj
  have HLgygz : Hid (gy < gz) := by show gy < gz; rw [hg]; exact Kgy20.out.lt
  have Kgy21 : Hid (Bk w21 gy (bts (List.replicate 32 7))) := Kgy20.out.chg hc id
  clear HD20 Kgy20
  have Kgz21 := Lib.hid hb
  clear hb hg hc hs
  go_wp2_with (refine wpList_st rfl 37 (.tmp 10) (.tmp 70) rfl gz 0 32 (bts (List.replicate 32 0)) vv21 rfl rfl Kgz21.out (by kernel_rfl) HN21.out (by decide) HO21.out ?_)
  intro w22 hb hc
  rw [splice_whole _ _ (by rw [HN21.out]; rfl), ← HVV21.out] at hb
  have hltgz := HFgz.out
  have HD22 : Hid (DSes 91 w w22 g gs lv16 wk7) := ⟨DiskAt.chg HD21.out.at_ hc (fun j hj he => by have := hltgz j hj; omega), HD21.out.fr, HD21.out.bel.trans (hc.below HD21.out.bel.size (fun j hj he => by have := HGgz.out; omega))⟩
  have Kgy22 : Hid (Bk w22 gy (bts (List.replicate 32 7))) := Kgy21.out.chg hc (fun he => by have := HLgygz.out; omega)
  clear HD21 Kgy21 hc hltgz Kgz21
  have Kgz22 := Lib.hid hb
  clear hb
  rw [← HVV21.out]
  go_wp2_with fail
  apply wp_region_rel 46 (Chg NoS) [(Veq _), (Veq _), (Veq _), (Veq _), (Veq _), (Veq _), (Veq _), (Veq _), (Veq _), (Veq _), (Veq _), (Veq _), (Veq _), (Veq _), (Veq _), (Veq _), (Veq _), (Veq _), (Veq _), (Veq _), (Veq _), (Veq _), (Veq _), (Veq _), (Veq _), (Veq _), (Veq _), (Veq _), (Veq _), (Veq _), (Veq _), (Veq _), (Veq _), (Veq _), (Veq _), (Veq _), (Veq _), (Veq _), (Veq _), (Veq _), (Veq _), (Veq _), (Veq _), (Veq _), (Veq _), (Veq _)] [[], [0], [1], [2], [2, 3], [2, 4], [5], [6], [6, 7], [6, 8], [9], [10], [10, 11], [12], [13], [13, 14], [13, 15], [13, 16], [17], [18], [18, 19], [18, 20], [21], [22], [22, 23], [22, 24], [25], [26], [26], [26, 27, 28], [26, 29], [30], [31], [31], [31, 32, 33], [31, 34], [35], [36], [36, 37], [36, 38], [36, 39], [40], [41], [41, 42], [41, 43], [41, 44]] [72, 73, 74, 75, 76, 77, 78, 79, 80, 81, 82, 83, 84, 85, 86, 87, 88, 89, 90, 91, 92, 93, 94, 95, 96, 97, 98, 99, 100, 101, 102, 103, 104, 105, 106, 107, 108, 109, 110, 111, 112, 113, 114, 115, 116, 117] (by kernel_rfl) (by kernel_rfl) rfl rfl rfl Chg.refl (fun _ _ _ => Chg.trans) ⟨Veq.lasts, Veq.lasts, Veq.lasts, Veq.lasts, Veq.lasts, Veq.lasts, Veq.lasts, Veq.lasts, Veq.lasts, Veq.lasts, Veq.lasts, Veq.lasts, Veq.lasts, Veq.lasts, Veq.lasts, Veq.lasts, Veq.lasts, Veq.lasts, Veq.lasts, Veq.lasts, Veq.lasts, Veq.lasts, Veq.lasts, Veq.lasts, Veq.lasts, Veq.lasts, Veq.lasts, Veq.lasts, Veq.lasts, Veq.lasts, Veq.lasts, Veq.lasts, Veq.lasts, Veq.lasts, Veq.lasts, Veq.lasts, Veq.lasts, Veq.lasts, Veq.lasts, Veq.lasts, Veq.lasts, Veq.lasts, Veq.lasts, Veq.lasts, Veq.lasts, Veq.lasts, trivial⟩ ?aops ?afin
  case aops =>
    refine ⟨?ao0, ?ao1, ?ao2, ?ao3, ?ao4, ?ao5, ?ao6, ?ao7, ?ao8, ?ao9, ?ao10, ?ao11, ?ao12, ?ao13, ?ao14, ?ao15, ?ao16, ?ao17, ?ao18, ?ao19, ?ao20, ?ao21, ?ao22, ?ao23, ?ao24, ?ao25, ?ao26, ?ao27, ?ao28, ?ao29, ?ao30, ?ao31, ?ao32, ?ao33, ?ao34, ?ao35, ?ao36, ?ao37, ?ao38, ?ao39, ?ao40, ?ao41, ?ao42, ?ao43, ?ao44, ?ao45, trivial⟩
    case ao0 =>
      intro a wx hE hin
      have i3 : a.eval (.tmp 3) = .int .i64 0 := hin 3 rfl
      clear hin
      have hcst : ∀ v, a.eval (.const v) = v := fun _ => rfl
      have hfnc : ∀ f, a.eval (.func f) = .func (.func f) #[] #[] := fun _ => rfl
      refine want_none rfl ?_
      unfold Oper.wp
      generalize a.eval = ρ at *
      go_simp
      try go_bits
      first | exact rel_val (Chg.refl _) | (go_simp; exact rel_val (Chg.refl _))
    case ao1 =>
      rintro a wx hE hin (h0 : a.eval (.tmp 72) = _)
      clear hin
      have hcst : ∀ v, a.eval (.const v) = v := fun _ => rfl
      have hfnc : ∀ f, a.eval (.func f) = .func (.func f) #[] #[] := fun _ => rfl
      refine want_none rfl ?_
      unfold Oper.wp
      generalize a.eval = ρ at *
      go_simp
      try go_bits
      first | exact rel_val (Chg.refl _) | (go_simp; exact rel_val (Chg.refl _))
    case ao2 =>
      rintro a wx hE hin (h1 : a.eval (.tmp 73) = _)
      clear hin
      have hcst : ∀ v, a.eval (.const v) = v := fun _ => rfl
      have hfnc : ∀ f, a.eval (.func f) = .func (.func f) #[] #[] := fun _ => rfl
      refine want_none rfl ?_
      unfold Oper.wp
      generalize a.eval = ρ at *
      go_simp
      try go_bits
      first | exact rel_val (Chg.refl _) | (go_simp; exact rel_val (Chg.refl _))
    case ao3 =>
      rintro a wx hE hin (h2 : a.eval (.tmp 74) = _)
      have i4 : a.eval (.tmp 4) = .int .i64 20 := hin 4 rfl
      clear hin
      have hcst : ∀ v, a.eval (.const v) = v := fun _ => rfl
      have hfnc : ∀ f, a.eval (.func f) = .func (.func f) #[] #[] := fun _ => rfl
      refine want_yes rfl rfl h2 ?_
      unfold Oper.wp
      generalize a.eval = ρ at *
      go_simp
      try go_bits
      first | exact rel_val (Chg.refl _) | (go_simp; exact rel_val (Chg.refl _))
    case ao4 =>
      rintro a wx hE hin (h2 : a.eval (.tmp 74) = _) (h3 : a.eval (.tmp 75) = _)
      clear hin
      have hcst : ∀ v, a.eval (.const v) = v := fun _ => rfl
      have hfnc : ∀ f, a.eval (.func f) = .func (.func f) #[] #[] := fun _ => rfl
      refine want_yes rfl rfl h2 ?_
      unfold Oper.wp
      generalize a.eval = ρ at *
      go_simp
      try go_bits
      first | exact rel_val (Chg.refl _) | (go_simp; exact rel_val (Chg.refl _))
    case ao5 =>
      rintro a wx hE hin (h2 : a.eval (.tmp 74) = _) (h4 : a.eval (.tmp 76) = _)
      clear hin
      have hcst : ∀ v, a.eval (.const v) = v := fun _ => rfl
      have hfnc : ∀ f, a.eval (.func f) = .func (.func f) #[] #[] := fun _ => rfl
      refine want_none rfl ?_
      unfold Oper.wp
      generalize a.eval = ρ at *
      go_simp
      try go_bits
      first | exact rel_val (Chg.refl _) | (go_simp; exact rel_val (Chg.refl _))
    case ao6 =>
      rintro a wx hE hin (h5 : a.eval (.tmp 77) = _)
      clear hin
      have hcst : ∀ v, a.eval (.const v) = v := fun _ => rfl
      have hfnc : ∀ f, a.eval (.func f) = .func (.func f) #[] #[] := fun _ => rfl
      refine want_none rfl ?_
      unfold Oper.wp
      generalize a.eval = ρ at *
      go_simp
      try go_bits
      first | exact rel_val (Chg.refl _) | (go_simp; exact rel_val (Chg.refl _))
    case ao7 =>
      rintro a wx hE hin (h6 : a.eval (.tmp 78) = _)
      have i6 : a.eval (.tmp 6) = .int .i64 20 := hin 6 rfl
      clear hin
      have hcst : ∀ v, a.eval (.const v) = v := fun _ => rfl
      have hfnc : ∀ f, a.eval (.func f) = .func (.func f) #[] #[] := fun _ => rfl
      refine want_yes rfl rfl h6 ?_
      unfold Oper.wp
      generalize a.eval = ρ at *
      go_simp
      try go_bits
      first | exact rel_val (Chg.refl _) | (go_simp; exact rel_val (Chg.refl _))
    case ao8 =>
      rintro a wx hE hin (h6 : a.eval (.tmp 78) = _) (h7 : a.eval (.tmp 79) = _)
      clear hin
      have hcst : ∀ v, a.eval (.const v) = v := fun _ => rfl
      have hfnc : ∀ f, a.eval (.func f) = .func (.func f) #[] #[] := fun _ => rfl
      refine want_yes rfl rfl h6 ?_
      unfold Oper.wp
      generalize a.eval = ρ at *
      go_simp
      try go_bits
      first | exact rel_val (Chg.refl _) | (go_simp; exact rel_val (Chg.refl _))
    case ao9 =>
      rintro a wx hE hin (h6 : a.eval (.tmp 78) = _) (h8 : a.eval (.tmp 80) = _)
      clear hin
      have hcst : ∀ v, a.eval (.const v) = v := fun _ => rfl
      have hfnc : ∀ f, a.eval (.func f) = .func (.func f) #[] #[] := fun _ => rfl
      refine want_none rfl ?_
      unfold Oper.wp
      generalize a.eval = ρ at *
      go_simp
      try go_bits
      first | exact rel_val (Chg.refl _) | (go_simp; exact rel_val (Chg.refl _))
    case ao10 =>
      rintro a wx hE hin (h9 : a.eval (.tmp 81) = _)
      clear hin
      have hcst : ∀ v, a.eval (.const v) = v := fun _ => rfl
      have hfnc : ∀ f, a.eval (.func f) = .func (.func f) #[] #[] := fun _ => rfl
      refine want_none rfl ?_
      unfold Oper.wp
      generalize a.eval = ρ at *
      go_simp
      try go_bits
      first | exact rel_val (Chg.refl _) | (go_simp; exact rel_val (Chg.refl _))
    case ao11 =>
      rintro a wx hE hin (h10 : a.eval (.tmp 82) = _)
      have i7 : a.eval (.tmp 7) = .bool true := hin 7 rfl
      clear hin
      have hcst : ∀ v, a.eval (.const v) = v := fun _ => rfl
      have hfnc : ∀ f, a.eval (.func f) = .func (.func f) #[] #[] := fun _ => rfl
      refine want_yes rfl rfl h10 ?_
      unfold Oper.wp
      generalize a.eval = ρ at *
      go_simp
      try go_bits
      first | exact rel_val (Chg.refl _) | (go_simp; exact rel_val (Chg.refl _))
    case ao12 =>
      rintro a wx hE hin (h10 : a.eval (.tmp 82) = _) (h11 : a.eval (.tmp 83) = _)
      clear hin
      have hcst : ∀ v, a.eval (.const v) = v := fun _ => rfl
      have hfnc : ∀ f, a.eval (.func f) = .func (.func f) #[] #[] := fun _ => rfl
      refine want_none rfl ?_
      unfold Oper.wp
      generalize a.eval = ρ at *
      go_simp
      try go_bits
      first | exact rel_val (Chg.refl _) | (go_simp; exact rel_val (Chg.refl _))
    case ao13 =>
      rintro a wx hE hin (h12 : a.eval (.tmp 84) = _)
      clear hin
      have hcst : ∀ v, a.eval (.const v) = v := fun _ => rfl
      have hfnc : ∀ f, a.eval (.func f) = .func (.func f) #[] #[] := fun _ => rfl
      refine want_none rfl ?_
      unfold Oper.wp
      generalize a.eval = ρ at *
      go_simp
      try go_bits
      first | exact rel_val (Chg.refl _) | (go_simp; exact rel_val (Chg.refl _))
    case ao14 =>
      rintro a wx hE hin (h13 : a.eval (.tmp 85) = _)
      have i1 : a.eval (.tmp 1) = .pointer (some ⟨g, 0, none⟩) := hin 1 rfl
      clear hin
      have hcst : ∀ v, a.eval (.const v) = v := fun _ => rfl
      have hfnc : ∀ f, a.eval (.func f) = .func (.func f) #[] #[] := fun _ => rfl
      refine want_yes rfl rfl h13 ?_
      unfold Oper.wp
      generalize a.eval = ρ at *
      go_simp
      try go_bits
      first | exact rel_val (Chg.refl _) | (go_simp; exact rel_val (Chg.refl _))
    case ao15 =>
      rintro a wx hE hin (h13 : a.eval (.tmp 85) = _) (h14 : a.eval (.tmp 86) = _)
      clear hin
      have hcst : ∀ v, a.eval (.const v) = v := fun _ => rfl
      have hfnc : ∀ f, a.eval (.func f) = .func (.func f) #[] #[] := fun _ => rfl
      refine want_yes rfl rfl h13 ?_
      unfold Oper.wp
      generalize a.eval = ρ at *
      go_simp
      refine (diskDown_at wx g gs lv16 wk7 (HD22.out.drew.chgN hE).at_).mono ?_
      rintro e w' ⟨rfl, rfl⟩
      rw [show wk7.dn = false by decide +kernel]
      exact rel_val (Chg.refl _)
    case ao16 =>
      rintro a wx hE hin (h13 : a.eval (.tmp 85) = _) (h15 : a.eval (.tmp 87) = _)
      clear hin
      have hcst : ∀ v, a.eval (.const v) = v := fun _ => rfl
      have hfnc : ∀ f, a.eval (.func f) = .func (.func f) #[] #[] := fun _ => rfl
      refine want_yes rfl rfl h13 ?_
      unfold Oper.wp
      generalize a.eval = ρ at *
      go_simp
      try go_bits
      first | exact rel_val (Chg.refl _) | (go_simp; exact rel_val (Chg.refl _))
    case ao17 =>
      rintro a wx hE hin (h13 : a.eval (.tmp 85) = _) (h16 : a.eval (.tmp 88) = _)
      clear hin
      have hcst : ∀ v, a.eval (.const v) = v := fun _ => rfl
      have hfnc : ∀ f, a.eval (.func f) = .func (.func f) #[] #[] := fun _ => rfl
      refine want_none rfl ?_
      unfold Oper.wp
      generalize a.eval = ρ at *
      go_simp
      try go_bits
      first | exact rel_val (Chg.refl _) | (go_simp; exact rel_val (Chg.refl _))
    case ao18 =>
      rintro a wx hE hin (h17 : a.eval (.tmp 89) = _)
      clear hin
      have hcst : ∀ v, a.eval (.const v) = v := fun _ => rfl
      have hfnc : ∀ f, a.eval (.func f) = .func (.func f) #[] #[] := fun _ => rfl
      refine want_none rfl ?_
      unfold Oper.wp
      generalize a.eval = ρ at *
      go_simp
      try go_bits
      first | exact rel_val (Chg.refl _) | (go_simp; exact rel_val (Chg.refl _))
    case ao19 =>
      rintro a wx hE hin (h18 : a.eval (.tmp 90) = _)
      have i9 : a.eval (.tmp 9) = .int .i64 0 := hin 9 rfl
      clear hin
      have hcst : ∀ v, a.eval (.const v) = v := fun _ => rfl
      have hfnc : ∀ f, a.eval (.func f) = .func (.func f) #[] #[] := fun _ => rfl
      refine want_yes rfl rfl h18 ?_
      unfold Oper.wp
      generalize a.eval = ρ at *
      go_simp
      try go_bits
      first | exact rel_val (Chg.refl _) | (go_simp; exact rel_val (Chg.refl _))
    case ao20 =>
      rintro a wx hE hin (h18 : a.eval (.tmp 90) = _) (h19 : a.eval (.tmp 91) = _)
      clear hin
      have hcst : ∀ v, a.eval (.const v) = v := fun _ => rfl
      have hfnc : ∀ f, a.eval (.func f) = .func (.func f) #[] #[] := fun _ => rfl
      refine want_yes rfl rfl h18 ?_
      unfold Oper.wp
      generalize a.eval = ρ at *
      go_simp
      try go_bits
      first | exact rel_val (Chg.refl _) | (go_simp; exact rel_val (Chg.refl _))
    case ao21 =>
      rintro a wx hE hin (h18 : a.eval (.tmp 90) = _) (h20 : a.eval (.tmp 92) = _)
      clear hin
      have hcst : ∀ v, a.eval (.const v) = v := fun _ => rfl
      have hfnc : ∀ f, a.eval (.func f) = .func (.func f) #[] #[] := fun _ => rfl
      refine want_none rfl ?_
      unfold Oper.wp
      generalize a.eval = ρ at *
      go_simp
      try go_bits
      first | exact rel_val (Chg.refl _) | (go_simp; exact rel_val (Chg.refl _))
    case ao22 =>
      rintro a wx hE hin (h21 : a.eval (.tmp 93) = _)
      clear hin
      have hcst : ∀ v, a.eval (.const v) = v := fun _ => rfl
      have hfnc : ∀ f, a.eval (.func f) = .func (.func f) #[] #[] := fun _ => rfl
      refine want_none rfl ?_
      unfold Oper.wp
      generalize a.eval = ρ at *
      go_simp
      try go_bits
      first | exact rel_val (Chg.refl _) | (go_simp; exact rel_val (Chg.refl _))
    case ao23 =>
      rintro a wx hE hin (h22 : a.eval (.tmp 94) = _)
      have i11 : a.eval (.tmp 11) = .int .i64 0 := hin 11 rfl
      clear hin
      have hcst : ∀ v, a.eval (.const v) = v := fun _ => rfl
      have hfnc : ∀ f, a.eval (.func f) = .func (.func f) #[] #[] := fun _ => rfl
      refine want_yes rfl rfl h22 ?_
      unfold Oper.wp
      generalize a.eval = ρ at *
      go_simp
      try go_bits
      first | exact rel_val (Chg.refl _) | (go_simp; exact rel_val (Chg.refl _))
    case ao24 =>
      rintro a wx hE hin (h22 : a.eval (.tmp 94) = _) (h23 : a.eval (.tmp 95) = _)
      clear hin
      have hcst : ∀ v, a.eval (.const v) = v := fun _ => rfl
      have hfnc : ∀ f, a.eval (.func f) = .func (.func f) #[] #[] := fun _ => rfl
      refine want_yes rfl rfl h22 ?_
      unfold Oper.wp
      generalize a.eval = ρ at *
      go_simp
      try go_bits
      first | exact rel_val (Chg.refl _) | (go_simp; exact rel_val (Chg.refl _))
    case ao25 =>
      rintro a wx hE hin (h22 : a.eval (.tmp 94) = _) (h24 : a.eval (.tmp 96) = _)
      clear hin
      have hcst : ∀ v, a.eval (.const v) = v := fun _ => rfl
      have hfnc : ∀ f, a.eval (.func f) = .func (.func f) #[] #[] := fun _ => rfl
      refine want_none rfl ?_
      unfold Oper.wp
      generalize a.eval = ρ at *
      go_simp
      try go_bits
      first | exact rel_val (Chg.refl _) | (go_simp; exact rel_val (Chg.refl _))
    case ao26 =>
      rintro a wx hE hin (h25 : a.eval (.tmp 97) = _)
      clear hin
      have hcst : ∀ v, a.eval (.const v) = v := fun _ => rfl
      have hfnc : ∀ f, a.eval (.func f) = .func (.func f) #[] #[] := fun _ => rfl
      refine want_none rfl ?_
      unfold Oper.wp
      generalize a.eval = ρ at *
      go_simp
      try go_bits
      first | exact rel_val (Chg.refl _) | (go_simp; exact rel_val (Chg.refl _))
    case ao27 =>
      rintro a wx hE hin (h26 : a.eval (.tmp 98) = _)
      have i8 : a.eval (.tmp 8) = .pointer (some ⟨gy, 0, none⟩) := hin 8 rfl
      clear hin
      have hcst : ∀ v, a.eval (.const v) = v := fun _ => rfl
      have hfnc : ∀ f, a.eval (.func f) = .func (.func f) #[] #[] := fun _ => rfl
      refine want_yes rfl rfl h26 ?_
      exact wp_ld 37 _ rfl gy 0 32 (bts (List.replicate 32 7)) (bts (List.replicate 32 7)) i8 ((Kgy22.out.drew).chg hE id) (by kernel_rfl) (by kernel_rfl) (Nat.le_refl _) rfl (rel_val (Chg.refl _))
    case ao28 =>
      rintro a wx hE hin (h26 : a.eval (.tmp 98) = _)
      clear hin
      have hcst : ∀ v, a.eval (.const v) = v := fun _ => rfl
      have hfnc : ∀ f, a.eval (.func f) = .func (.func f) #[] #[] := fun _ => rfl
      refine want_yes rfl rfl h26 ?_
      unfold Oper.wp
      generalize a.eval = ρ at *
      go_simp
      refine (fill_calls 7 wx).mono ?_
      rintro e w' ⟨rfl, hb⟩
      exact rel_val (.of_below hb)
    case ao29 =>
      rintro a wx hE hin (h26 : a.eval (.tmp 98) = _) (h27 : a.eval (.tmp 99) = _) (h28 : a.eval (.tmp 100) = _)
      clear hin
      have hcst : ∀ v, a.eval (.const v) = v := fun _ => rfl
      have hfnc : ∀ f, a.eval (.func f) = .func (.func f) #[] #[] := fun _ => rfl
      refine want_yes rfl rfl h26 ?_
      exact wp_eq_bytes false 37 37 _ _ rfl 5 32 Try.underlying37 Try.underlying5 (by kernel_rfl) (by kernel_rfl) (List.replicate 32 7) (List.replicate 32 7) h27 h28 (by rw [List.length_replicate]) (by rw [List.length_replicate]) (rel_val (e := .bool true) (Chg.refl _))
    case ao30 =>
      rintro a wx hE hin (h26 : a.eval (.tmp 98) = _) (h29 : a.eval (.tmp 101) = _)
      clear hin
      have hcst : ∀ v, a.eval (.const v) = v := fun _ => rfl
      have hfnc : ∀ f, a.eval (.func f) = .func (.func f) #[] #[] := fun _ => rfl
      refine want_none rfl ?_
      unfold Oper.wp
      generalize a.eval = ρ at *
      go_simp
      try go_bits
      first | exact rel_val (Chg.refl _) | (go_simp; exact rel_val (Chg.refl _))
    case ao31 =>
      rintro a wx hE hin (h30 : a.eval (.tmp 102) = _)
      clear hin
      have hcst : ∀ v, a.eval (.const v) = v := fun _ => rfl
      have hfnc : ∀ f, a.eval (.func f) = .func (.func f) #[] #[] := fun _ => rfl
      refine want_none rfl ?_
      unfold Oper.wp
      generalize a.eval = ρ at *
      go_simp
      try go_bits
      first | exact rel_val (Chg.refl _) | (go_simp; exact rel_val (Chg.refl _))
    case ao32 =>
      rintro a wx hE hin (h31 : a.eval (.tmp 103) = _)
      have i10 : a.eval (.tmp 10) = .pointer (some ⟨gz, 0, none⟩) := hin 10 rfl
      clear hin
      have hcst : ∀ v, a.eval (.const v) = v := fun _ => rfl
      have hfnc : ∀ f, a.eval (.func f) = .func (.func f) #[] #[] := fun _ => rfl
      refine want_yes rfl rfl h31 ?_
      exact wp_ld 37 _ rfl gz 0 32 (bts (List.replicate 32 9)) (bts (List.replicate 32 9)) i10 ((Kgz22.out.drew).chg hE id) (by kernel_rfl) (by kernel_rfl) (Nat.le_refl _) rfl (rel_val (Chg.refl _))
    case ao33 =>
      rintro a wx hE hin (h31 : a.eval (.tmp 103) = _)
      clear hin
      have hcst : ∀ v, a.eval (.const v) = v := fun _ => rfl
      have hfnc : ∀ f, a.eval (.func f) = .func (.func f) #[] #[] := fun _ => rfl
      refine want_yes rfl rfl h31 ?_
      unfold Oper.wp
      generalize a.eval = ρ at *
      go_simp
      refine (fill_calls 9 wx).mono ?_
      rintro e w' ⟨rfl, hb⟩
      exact rel_val (.of_below hb)
    case ao34 =>
      rintro a wx hE hin (h31 : a.eval (.tmp 103) = _) (h32 : a.eval (.tmp 104) = _) (h33 : a.eval (.tmp 105) = _)
      clear hin
      have hcst : ∀ v, a.eval (.const v) = v := fun _ => rfl
      have hfnc : ∀ f, a.eval (.func f) = .func (.func f) #[] #[] := fun _ => rfl
      refine want_yes rfl rfl h31 ?_
      exact wp_eq_bytes false 37 37 _ _ rfl 5 32 Try.underlying37 Try.underlying5 (by kernel_rfl) (by kernel_rfl) (List.replicate 32 9) (List.replicate 32 9) h32 h33 (by rw [List.length_replicate]) (by rw [List.length_replicate]) (rel_val (e := .bool true) (Chg.refl _))
    case ao35 =>
      rintro a wx hE hin (h31 : a.eval (.tmp 103) = _) (h34 : a.eval (.tmp 106) = _)
      clear hin
      have hcst : ∀ v, a.eval (.const v) = v := fun _ => rfl
      have hfnc : ∀ f, a.eval (.func f) = .func (.func f) #[] #[] := fun _ => rfl
      refine want_none rfl ?_
      unfold Oper.wp
      generalize a.eval = ρ at *
      go_simp
      try go_bits
      first | exact rel_val (Chg.refl _) | (go_simp; exact rel_val (Chg.refl _))
    case ao36 =>
      rintro a wx hE hin (h35 : a.eval (.tmp 107) = _)
      clear hin
      have hcst : ∀ v, a.eval (.const v) = v := fun _ => rfl
      have hfnc : ∀ f, a.eval (.func f) = .func (.func f) #[] #[] := fun _ => rfl
      refine want_none rfl ?_
      unfold Oper.wp
      generalize a.eval = ρ at *
      go_simp
      try go_bits
      first | exact rel_val (Chg.refl _) | (go_simp; exact rel_val (Chg.refl _))
    case ao37 =>
      rintro a wx hE hin (h36 : a.eval (.tmp 108) = _)
      have i1 : a.eval (.tmp 1) = .pointer (some ⟨g, 0, none⟩) := hin 1 rfl
      clear hin
      have hcst : ∀ v, a.eval (.const v) = v := fun _ => rfl
      have hfnc : ∀ f, a.eval (.func f) = .func (.func f) #[] #[] := fun _ => rfl
      refine want_yes rfl rfl h36 ?_
      unfold Oper.wp
      generalize a.eval = ρ at *
      go_simp
      try go_bits
      first | exact rel_val (Chg.refl _) | (go_simp; exact rel_val (Chg.refl _))
    case ao38 =>
      rintro a wx hE hin (h36 : a.eval (.tmp 108) = _) (h37 : a.eval (.tmp 109) = _)
      clear hin
      have hcst : ∀ v, a.eval (.const v) = v := fun _ => rfl
      have hfnc : ∀ f, a.eval (.func f) = .func (.func f) #[] #[] := fun _ => rfl
      refine want_yes rfl rfl h36 ?_
      unfold Oper.wp
      generalize a.eval = ρ at *
      go_simp
      refine (diskLoose_at wx g gs lv16 wk7 (HD22.out.drew.chgN hE).at_).mono ?_
      rintro e w' ⟨rfl, rfl⟩
      rw [show (wk7.L.length : Int) = 0 by decide +kernel]
      exact rel_val (Chg.refl _)
    case ao39 =>
      rintro a wx hE hin (h36 : a.eval (.tmp 108) = _) (h38 : a.eval (.tmp 110) = _)
      clear hin
      have hcst : ∀ v, a.eval (.const v) = v := fun _ => rfl
      have hfnc : ∀ f, a.eval (.func f) = .func (.func f) #[] #[] := fun _ => rfl
      refine want_yes rfl rfl h36 ?_
      unfold Oper.wp
      generalize a.eval = ρ at *
      go_simp
      try go_bits
      first | exact rel_val (Chg.refl _) | (go_simp; exact rel_val (Chg.refl _))
    case ao40 =>
      rintro a wx hE hin (h36 : a.eval (.tmp 108) = _) (h39 : a.eval (.tmp 111) = _)
      clear hin
      have hcst : ∀ v, a.eval (.const v) = v := fun _ => rfl
      have hfnc : ∀ f, a.eval (.func f) = .func (.func f) #[] #[] := fun _ => rfl
      refine want_none rfl ?_
      unfold Oper.wp
      generalize a.eval = ρ at *
      go_simp
      try go_bits
      first | exact rel_val (Chg.refl _) | (go_simp; exact rel_val (Chg.refl _))
    case ao41 =>
      rintro a wx hE hin (h40 : a.eval (.tmp 112) = _)
      clear hin
      have hcst : ∀ v, a.eval (.const v) = v := fun _ => rfl
      have hfnc : ∀ f, a.eval (.func f) = .func (.func f) #[] #[] := fun _ => rfl
      refine want_none rfl ?_
      unfold Oper.wp
      generalize a.eval = ρ at *
      go_simp
      try go_bits
      first | exact rel_val (Chg.refl _) | (go_simp; exact rel_val (Chg.refl _))
    case ao42 =>
      rintro a wx hE hin (h41 : a.eval (.tmp 113) = _)
      have i1 : a.eval (.tmp 1) = .pointer (some ⟨g, 0, none⟩) := hin 1 rfl
      clear hin
      have hcst : ∀ v, a.eval (.const v) = v := fun _ => rfl
      have hfnc : ∀ f, a.eval (.func f) = .func (.func f) #[] #[] := fun _ => rfl
      refine want_yes rfl rfl h41 ?_
      unfold Oper.wp
      generalize a.eval = ρ at *
      go_simp
      try go_bits
      first | exact rel_val (Chg.refl _) | (go_simp; exact rel_val (Chg.refl _))
    case ao43 =>
      rintro a wx hE hin (h41 : a.eval (.tmp 113) = _) (h42 : a.eval (.tmp 114) = _)
      clear hin
      have hcst : ∀ v, a.eval (.const v) = v := fun _ => rfl
      have hfnc : ∀ f, a.eval (.func f) = .func (.func f) #[] #[] := fun _ => rfl
      refine want_yes rfl rfl h41 ?_
      unfold Oper.wp
      generalize a.eval = ρ at *
      go_simp
      refine (diskLen_at wx g gs lv16 wk7 (HD22.out.drew.chgN hE).at_).mono ?_
      rintro e w' ⟨rfl, rfl⟩
      rw [show (wk7.S.length : Int) = 4 by decide +kernel]
      exact rel_val (Chg.refl _)
    case ao44 =>
      rintro a wx hE hin (h41 : a.eval (.tmp 113) = _) (h43 : a.eval (.tmp 115) = _)
      clear hin
      have hcst : ∀ v, a.eval (.const v) = v := fun _ => rfl
      have hfnc : ∀ f, a.eval (.func f) = .func (.func f) #[] #[] := fun _ => rfl
      refine want_yes rfl rfl h41 ?_
      unfold Oper.wp
      generalize a.eval = ρ at *
      go_simp
      try go_bits
      first | exact rel_val (Chg.refl _) | (go_simp; exact rel_val (Chg.refl _))
    case ao45 =>
      rintro a wx hE hin (h41 : a.eval (.tmp 113) = _) (h44 : a.eval (.tmp 116) = _)
      clear hin
      have hcst : ∀ v, a.eval (.const v) = v := fun _ => rfl
      have hfnc : ∀ f, a.eval (.func f) = .func (.func f) #[] #[] := fun _ => rfl
      refine want_none rfl ?_
      unfold Oper.wp
      generalize a.eval = ρ at *
      go_simp
      try go_bits
      first | exact rel_val (Chg.refl _) | (go_simp; exact rel_val (Chg.refl _))
  case afin =>
    intro wx hE
    rintro _ rfl _ rfl _ rfl _ rfl _ rfl _ rfl _ rfl _ rfl _ rfl _ rfl _ rfl _ rfl _ rfl _ rfl _ rfl _ rfl _ rfl _ rfl _ rfl _ rfl _ rfl _ rfl _ rfl _ rfl _ rfl _ rfl _ rfl _ rfl _ rfl _ rfl _ rfl _ rfl _ rfl _ rfl _ rfl _ rfl _ rfl _ rfl _ rfl _ rfl _ rfl _ rfl _ rfl _ rfl _ rfl _ rfl
    simp only [FinOk, List.take_succ_cons, List.take_zero, List.take_nil, List.drop_succ_cons, List.drop_zero, List.drop_nil, Act.put, List.setIfInBounds_toArray, List.set_cons_succ, List.set_cons_zero]
    have HE : Hid (Below w.heap.size w wx) := HD22.out.bel.trans ((hE.undrew).below (B := w.heap.size) HD22.out.bel.size (fun _ _ => id))
    clear hE
    go_wp2
    go_ret
    exact ⟨rfl, HE.out⟩
end Go.Proofs.Ytnpcehlbboeadaa
