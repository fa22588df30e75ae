
import Derived.Test.YtcmfkdfegfablaaWakes22
import Derived.Test.YtcmfkdfegfablaaPkArg

/- The walk of TakerLasts. -/
namespace Go.Proofs.Ytcmfkdfegfablaa
open Go.RowKit
set_option linter.unusedVariables false
set_option linter.unusedSimpArgs false

def LastRel (w : World) (gd gsd hm : Nat) (lv : Value) (S : List (List UInt8)) (L : Lab) (n : Nat) (pc : List Value) (v : Value) (wr : World) : Prop := ∃ (k : Nat), k ≤ n ∧ v = .int .i64 k ∧ DSes 92 w wr gd gsd lv (UpD S) ∧ Bk wr hm (NdC gd L) ∧ Bk wr w.heap.size pc
theorem last_lab {ps : List PutV} {L : Lab} (h : carryL zLab 2 9 ps 0 = L) : ∃ (a : UInt32) (b c : UInt16), labC L = [vu32 2, vu32 9, vu32 a, vu16 b, vu16 c] := by
  subst h
  exact ⟨_, _, _, rfl⟩
set_option maxRecDepth 100000 in
set_option maxHeartbeats 32000000 in
theorem takerLasts_calls (w : World) (p : PktV) (A2 : Option Addr) (n2 c2 : Nat) (ks : List UInt8) (hok : PktOk w p) (hl2 : ks.length = n2) (hnc2 : n2 ≤ c2) (hm2 : c2 ≤ 9223372036854775807) (hr2 : Rd w A2 (bts ks)) :
    Calls Try.prog 10 #[.agg (pvC p).toArray, .slice A2 n2 c2] w fun e w' => e = .returned (.bool true) ∧ Below w.heap.size w w' := by
  subst hl2
  have HOK := Lib.hid hok
  have HRK := Lib.hid hr2
  clear hok hr2
  obtain ⟨bx, hbx⟩ : ∃ bx, pvC p = bx := ⟨_, rfl⟩
  have HBX : Hid (pktC p.k p.e p.q p.A p.n p.c = bx) := hbx
  have D3 : Hid (bx[3]? = some (.slice p.A p.n p.c)) := by rw [← hbx]; exact (rfl : _ = _)
  rw [hbx]
  clear hbx
  go_enter Try.func10, Try.ntmps10
  have d3 := (Bk.new w bx 67).cell D3.out
  go_wp2_with fail
  refine calls_at fun w1 hw1 => ?_
  have Ew1 : Hid (Below w.heap.size w w1) := by rw [← hw1]; exact (Below.refl _ _).alloc (Nat.le_refl _) _
  have Ktw1 : Hid (Bk w1 w.heap.size bx) := by rw [← hw1]; exact Bk.new w bx _
  clear hw1 d3
  refine (refGood_calls p.ps p.A p.n p.c w1 HOK.out.len (by have h2 := HOK.out.cap; have h3 := HOK.out.max; omega) (HOK.out.rd.below Ew1.out) HOK.out.ok).mono ?_
  rintro en w2 ⟨rfl, hb⟩
  have Ew2 : Hid (Below w.heap.size w w2) := Ew1.out.trans (hb.mono Ew1.out.size)
  have Ktw2 := Lib.hid (Ktw1.out.below hb)
  clear hb Ew1 Ktw1
  by_cases hgood : goodB p.ps = true
  case neg =>
    rw [Bool.eq_false_iff.2 hgood]
    go_wp2_with fail
    refine (wakes22_calls w2).mono ?_
    rintro en w3 ⟨rfl, hb⟩
    have Ew3 : Hid (Below w.heap.size w w3) := Ew2.out.trans (hb.mono Ew2.out.size)
    have Ktw3 : Hid (Bk w3 w.heap.size bx) := Ktw2.out.below hb
    clear Ew2 Ktw2
    clear hb
    go_wp2_with fail
    (try simp only [Exit.inBlock, Exit.then])
    go_ret
    exact ⟨rfl, Ew3.out⟩
  rw [hgood]
  have HGD := Lib.hid hgood
  by_cases h3 : 300 < ks.length
  · have h3i : (300 : Int) < (ks.length : Int) := by omega
    go_wp2_with fail
    refine (wakes22_calls w2).mono ?_
    rintro en w3 ⟨rfl, hb⟩
    have Ew3 : Hid (Below w.heap.size w w3) := Ew2.out.trans (hb.mono Ew2.out.size)
    have Ktw3 : Hid (Bk w3 w.heap.size bx) := Ktw2.out.below hb
    clear Ew2 Ktw2
    clear hb
    go_wp2_with fail
    (try simp only [Exit.inBlock, Exit.then])
    go_ret
    exact ⟨rfl, Ew3.out⟩
  have h3i : ¬ (300 : Int) < (ks.length : Int) := by omega
  have HGP : Hid (goodP 1 p.ps = true) := by show _ = _; rw [goodP_put (.inl rfl)]; exact hgood
  obtain ⟨L1, hL1⟩ : ∃ L1, carryL zLab 2 9 p.ps 0 = L1 := ⟨_, rfl⟩
  obtain ⟨S1, hS1⟩ : ∃ S1, appS S0 2 9 p.ps L1 = S1 := ⟨_, rfl⟩
  have HAP : Hid ((UpD S0).nApply zLab 2 9 p.ps zLab.d = (UpD S1, 0)) := by show _ = _; rw [← hS1, ← hL1]; exact up_apply S0_len hgood (by decide)
  have HL1 : Hid (labAfter zLab (carryL zLab 2 9 p.ps zLab.d) 0 = L1) := hL1
  have HSL : Hid (S1.length = 19) := by show _ = _; rw [← hS1, appS_length]; exact S0_len
  have HOP : Hid ((UpD S1).nOpen = (UpD S1, 0, L1)) := by
    refine up_open (r := ⟨2, 9, p.ps⟩) HSL.out ?_ ?_ ?_
    · rw [← hS1]; exact appS_lab S0_len
    · rw [← hS1]; exact appS_get S0_len hgood
    · rw [← hL1]; exact (by decide : ¬ laterB 2 9 2 9 = true)
  have HBLK : Hid (∀ k (h : k < p.ps.length), S1.getD (7 + p.ps[k].at_.toNat) [] = p.ps[k].data) := fun k h => by
    rw [← hS1, appS_blk S0_len hgood (by have := goodB_ats' hgood _ (List.getElem_mem h); omega), wupd_at p.ps _ (goodB_ats' hgood) (goodB_at hgood).2.2.2 k h]
  obtain ⟨z3, z4, z5, hz⟩ := last_lab hL1
  have HL1C : Hid (labC L1 = [vu32 2, vu32 9, vu32 z3, vu16 z4, vu16 z5]) := hz
  clear hgood hL1 hS1 hz
  go_wp2_with fail
  refine (ndNew_calls w w2 Ew2.out).mono ?_
  rintro en w3 ⟨gd, gsd, rfl, hd, hfe, hb⟩
  have Fdt : Hid (¬ footD gd gsd (.slice none 0 0) w.heap.size) := fun hj => by have := hfe _ hj; have := Ktw2.out.lt; omega
  have Ew3 : Hid (Below w.heap.size w w3) := Ew2.out.trans (hb.mono Ew2.out.size)
  have Ktw3 : Hid (Bk w3 w.heap.size bx) := Ktw2.out.below hb
  clear Ew2 Ktw2
  have Ddw3 : Hid (DSes 92 w w3 gd gsd (.slice none 0 0) (UpD S0)) := hd
  clear hb hd hfe
  go_wp2_with fail
  have HSZn : Hid (w.heap.size ≤ w3.heap.size) := Ew3.out.size
  refine (ndOpen_calls w3 gd gsd (.slice none 0 0) (UpD S0) 0 Ddw3.out.at_ (ok_up _) (by decide)).mono ?_
  intro en w4 hp
  rw [open_new] at hp
  obtain ⟨hn, lvdw4, rfl, hd, hk, hge, hnf, hft, hch⟩ := DSes.opost Ddw3.out hp
  have Atn : Hid (w.heap.size < hn) := by show _ < _; have := Ktw3.out.lt; omega
  have Ddw4 : Hid (DSes 92 w w4 gd gsd lvdw4 (UpD S0)) := hd
  have Ew4 : Hid (Below w.heap.size w w4) := hd.bel
  have Ktw4 : Hid (Bk w4 w.heap.size bx) := Ktw3.out.chg hch Fdt.out
  have Fdt : Hid (¬ footD gd gsd lvdw4 w.heap.size) := fun hj => (hft _ hj).elim Fdt.out (fun h => by have := Ktw3.out.lt; omega)
  have Knw4 : Hid (Bk w4 hn (NdC gd zLab)) := hk
  have Fdn : Hid (¬ footD gd gsd lvdw4 hn) := hnf
  have NHn : Hid (w.heap.size ≤ hn) := by show _ ≤ _; have := HSZn.out; omega
  clear hp hd hk hge hnf hft hch Ktw3 Ddw3 Ew3
  have GEt : Hid (w.heap.size ≤ w.heap.size) := Nat.le_refl _
  have KTZ : Hid (Bk w4 w.heap.size (pktC p.k p.e p.q p.A p.n p.c)) := by show Bk _ _ _; rw [HBX.out]; exact Ktw4.out
  clear Ktw4
  go_wp2_with (first
    
    | (refine wpList_st rfl 3 (.tmp 31) (.const (.int .i64 1)) rfl w.heap.size 0 1 (pktC p.k p.e p.q p.A p.n p.c) [.int .i64 1] rfl rfl KTZ.out (by kernel_rfl) rfl (Nat.le_of_ble_eq_true rfl) (fun u hu => by obtain rfl := List.mem_singleton.1 hu; rfl) ?_))
  intro w5 hbk hc
  have hbk2 : Bk w5 w.heap.size (pktC 1 p.e p.q p.A p.n p.c) := hbk
  have Ew5 : Hid (Below w.heap.size w w5) := Ew4.out.trans (hc.below Ew4.out.size (fun q hq he => by have := GEt.out; omega))
  have Knw5 : Hid (Bk w5 hn (NdC gd zLab)) := Knw4.out.chg hc (fun he => by have := Atn.out; omega)
  have Ddw5 : Hid (DSes 92 w w5 gd gsd lvdw4 (UpD S0)) := ⟨DiskAt.chg Ddw4.out.at_ hc (fun j hj he => Fdt.out (he ▸ hj)), Ddw4.out.fr, Ew5.out⟩
  have Ktw5 := Lib.hid hbk2
  clear hbk hbk2 hc Ew4 KTZ Knw4 Ddw4
  go_wp2_with (first
    
    | (refine wpList_st rfl 22 (.tmp 32) (.const (.int .u32 2)) rfl w.heap.size 1 1 (pktC 1 p.e p.q p.A p.n p.c) [vu32 2] rfl rfl Ktw5.out (by kernel_rfl) rfl (Nat.le_of_ble_eq_true rfl) (fun u hu => by obtain rfl := List.mem_singleton.1 hu; rfl) ?_))
  intro w6 hbk hc
  have hbk2 : Bk w6 w.heap.size (pktC 1 2 p.q p.A p.n p.c) := hbk
  have Ew6 : Hid (Below w.heap.size w w6) := Ew5.out.trans (hc.below Ew5.out.size (fun q hq he => by have := GEt.out; omega))
  have Knw6 : Hid (Bk w6 hn (NdC gd zLab)) := Knw5.out.chg hc (fun he => by have := Atn.out; omega)
  have Ddw6 : Hid (DSes 92 w w6 gd gsd lvdw4 (UpD S0)) := ⟨DiskAt.chg Ddw5.out.at_ hc (fun j hj he => Fdt.out (he ▸ hj)), Ddw5.out.fr, Ew6.out⟩
  have Ktw6 := Lib.hid hbk2
  clear hbk hbk2 hc Ew5 Ktw5 Knw5 Ddw5
  go_wp2_with (first
    
    | (refine wpList_st rfl 22 (.tmp 33) (.const (.int .u32 9)) rfl w.heap.size 2 1 (pktC 1 2 p.q p.A p.n p.c) [vu32 9] rfl rfl Ktw6.out (by kernel_rfl) rfl (Nat.le_of_ble_eq_true rfl) (fun u hu => by obtain rfl := List.mem_singleton.1 hu; rfl) ?_))
  intro w7 hbk hc
  have hbk2 : Bk w7 w.heap.size (pktC 1 2 9 p.A p.n p.c) := hbk
  have Ew7 : Hid (Below w.heap.size w w7) := Ew6.out.trans (hc.below Ew6.out.size (fun q hq he => by have := GEt.out; omega))
  have Knw7 : Hid (Bk w7 hn (NdC gd zLab)) := Knw6.out.chg hc (fun he => by have := Atn.out; omega)
  have Ddw7 : Hid (DSes 92 w w7 gd gsd lvdw4 (UpD S0)) := ⟨DiskAt.chg Ddw6.out.at_ hc (fun j hj he => Fdt.out (he ▸ hj)), Ddw6.out.fr, Ew7.out⟩
  have Ktw7 := Lib.hid hbk2
  clear hbk hbk2 hc Ew6 Ktw6 Knw6 Ddw6
  go_wp2_with (refine wpList_ld rfl 67 (.tmp 2) rfl w.heap.size 0 4 (pktC 1 2 9 p.A p.n p.c) (pktC 1 2 9 p.A p.n p.c) rfl Ktw7.out (by kernel_rfl) (by kernel_rfl) (Nat.le_refl 4) rfl ?_)
  refine (pkt_yes 1 2 9 p.ps p.A p.n p.c w7 HOK.out.len (by have h2 := HOK.out.cap; have h3 := HOK.out.max; omega) (HOK.out.rd.below Ew7.out) HOK.out.ok HGP.out).mono ?_
  rintro en w8 ⟨ele, Ae, ce, rfl, hr, hnc, hcm, hle, hde, hb⟩
  have Ew8 : Hid (Below w.heap.size w w8) := Ew7.out.trans (hb.mono Ew7.out.size)
  have Ktw8 : Hid (Bk w8 w.heap.size (pktC 1 2 9 p.A p.n p.c)) := Ktw7.out.below hb
  have Knw8 : Hid (Bk w8 hn (NdC gd zLab)) := Knw7.out.below hb
  have Ddw8 : Hid (DSes 92 w w8 gd gsd lvdw4 (UpD S0)) := Ddw7.out.below hb
  clear Ew7 Ktw7 Knw7 Ddw7
  have Rew8 := Lib.hid hr
  have HCe : Hid (ele.length ≤ ce ∧ ce ≤ 9223372036854775807) := ⟨hnc, hcm⟩
  have HLEe : Hid (ele.length ≤ 33000) := hle
  have HDEe := Lib.hid hde
  clear hb hr hnc hcm hle hde
  go_wp2_with fail
  refine (take_yes ele Ae ele.length ce w8 rfl HCe.out.1 HCe.out.2 HLEe.out Rew8.out 1 2 9 p.ps HDEe.out (.inl rfl) gd gsd lvdw4 hn (UpD S0) zLab Ddw8.out.at_ Knw8.out 0 Fdn.out (ok_up _) (by decide) (fun hg _ => put_up_ok S0_len hg) _ _ (by decide) HAP.out HL1.out).mono ?_
  intro en w9 hp
  have hch := NPost.chg hp
  obtain ⟨rfl, lvdw9, hd, hk, hft⟩ := DSes.npost Ddw8.out hp NHn.out
  have Ddw9 : Hid (DSes 92 w w9 gd gsd lvdw9 (UpD S1)) := hd
  have Ew9 : Hid (Below w.heap.size w w9) := hd.bel
  have Ktw9 : Hid (Bk w9 w.heap.size (pktC 1 2 9 p.A p.n p.c)) := Ktw8.out.chg hch (fun hj => hj.elim Fdt.out (fun he => by have := Atn.out; omega))
  have Fdt : Hid (¬ footD gd gsd lvdw9 w.heap.size) := fun hj => (hft _ hj).elim Fdt.out (fun h => by have := Ktw8.out.lt; omega)
  have Knw9 : Hid (Bk w9 hn (NdC gd L1)) := hk
  have Fdn : Hid (¬ footD gd gsd lvdw9 hn) := fun hj => (hft _ hj).elim Fdn.out (fun h => by have := Knw8.out.lt; omega)
  clear hp hd hk hft hch Knw8 Ktw8 Ddw8 Ew8
  go_wp2_with (refine wpList_al rfl 67 rfl zPkD (by kernel_rfl) ?_)
  intro ga w10 hg hb hc hs
  have HQa : Hid (Below w9.heap.size w9 w10) := hc.below (Nat.le_refl _) (fun _ _ => id)
  have HGa : Hid (ga = w9.heap.size) := hg
  have KZa := Lib.hid hb
  clear hg hb hc hs
  go_wp2_with (refine wpList_st rfl 67 (.tmp 8) (.tmp 39) rfl ga 0 4 zPkD (pktC 3 2 9 none 0 0) rfl rfl KZa.out (by kernel_rfl) rfl (by decide) (one_pktD _ _ _ _ _ _) ?_)
  intro w11 hbk hc
  rw [splice_whole zPkD (pktC 3 2 9 none 0 0) rfl] at hbk
  have hb : Below w9.heap.size w9 w11 := HQa.out.trans (hc.below HQa.out.size (fun q hq he => by have := HGa.out; omega))
  have Fda : Hid (¬ footD gd gsd lvdw9 ga) := fun hj => by have := DiskAt.lt Ddw9.out.at_ _ hj; have := HGa.out; omega
  have Ata : Hid (w.heap.size < ga) := by show _ < _; have := Ktw9.out.lt; have := HGa.out; omega
  have Ana : Hid (hn < ga) := by show _ < _; have := Knw9.out.lt; have := HGa.out; omega
  have Ew11 : Hid (Below w.heap.size w w11) := Ew9.out.trans (hb.mono Ew9.out.size)
  have Ktw11 : Hid (Bk w11 w.heap.size (pktC 1 2 9 p.A p.n p.c)) := Ktw9.out.below hb
  have Knw11 : Hid (Bk w11 hn (NdC gd L1)) := Knw9.out.below hb
  have Ddw11 : Hid (DSes 92 w w11 gd gsd lvdw9 (UpD S1)) := Ddw9.out.below hb
  clear Ew9 Ktw9 Knw9 Ddw9
  have Kaw11 : Hid (Bk w11 ga (pktC 3 2 9 none 0 0)) := hbk
  have Kaw11 : Hid (Bk w11 ga (pktC 3 2 9 none 0 0)) := hbk
  clear hbk hb hc KZa HQa HGa
  have ca0 : w11.cell? ⟨ga, 0, none⟩ = some (.int .i64 3) := Kaw11.out.cell rfl
  go_wp2_with (at_builtin; refine wpList_append_rd rfl _ _ 56 rfl w11.heap.size 5 (.int .u8 0) 1 1 Try.underlying56 info_u8n rfl (by decide) (by decide) (.slice (some ⟨w11.heap.size, 0, none⟩) 0 0) 0 [] rfl ?own A2 ks.length c2 (bts ks) rfl ?len ?rd (one_bts _) ?bytes ?base ?_)
  case own => exact empty_own' _ _ rfl
  case rd => exact (HRK.out.below Ew11.out).alloc _
  case bytes => omega
  case len => rw [bts_length, Nat.mul_one]
  case base => simp
  intro v1 wz hown1 hg1 hat1
  obtain ⟨A4, c4, rfl, hb4, hr4⟩ := copied hown1 hg1
  have HR4 := Lib.hid (hr4 gd gsd (DiskAt.lt Ddw11.out.at_ _ (.inl rfl)) (DiskAt.lt Ddw11.out.at_ _ (.inr (.inl rfl))))
  have hb := hb4
  clear hown1 hg1 hat1 hb4 hr4 ca0
  have Ewz : Hid (Below w.heap.size w wz) := Ew11.out.trans (hb.mono Ew11.out.size)
  have Ktwz : Hid (Bk wz w.heap.size (pktC 1 2 9 p.A p.n p.c)) := Ktw11.out.below hb
  have Knwz : Hid (Bk wz hn (NdC gd L1)) := Knw11.out.below hb
  have Kawz : Hid (Bk wz ga (pktC 3 2 9 none 0 0)) := Kaw11.out.below hb
  have Ddwz : Hid (DSes 92 w wz gd gsd lvdw9 (UpD S1)) := Ddw11.out.below hb
  clear Ew11 Ktw11 Knw11 Kaw11 Ddw11
  clear hb
  go_wp2_with fail
  refine (diskUp_at wz gd gsd lvdw9 (UpD S1) A4 ks.length c4 ks Ddwz.out.at_ rfl HR4.out).mono ?_
  intro en w12 hp
  have hch := DPost.chgF hp
  obtain ⟨rfl, lvdw12, hd, hft⟩ := DSes.post2 Ddwz.out hp
  have Ddw12 : Hid (DSes 92 w w12 gd gsd lvdw12 (UpD S1)) := hd
  have Ew12 : Hid (Below w.heap.size w w12) := hd.bel
  have Ktw12 : Hid (Bk w12 w.heap.size (pktC 1 2 9 p.A p.n p.c)) := Ktwz.out.chg hch Fdt.out
  have Fdt : Hid (¬ footD gd gsd lvdw12 w.heap.size) := fun hj => (hft _ hj).elim Fdt.out (fun h => by have := Ktwz.out.lt; omega)
  have Knw12 : Hid (Bk w12 hn (NdC gd L1)) := Knwz.out.chg hch Fdn.out
  have Fdn : Hid (¬ footD gd gsd lvdw12 hn) := fun hj => (hft _ hj).elim Fdn.out (fun h => by have := Knwz.out.lt; omega)
  have Kaw12 : Hid (Bk w12 ga (pktC 3 2 9 none 0 0)) := Kawz.out.chg hch Fda.out
  have Fda : Hid (¬ footD gd gsd lvdw12 ga) := fun hj => (hft _ hj).elim Fda.out (fun h => by have := Kawz.out.lt; omega)
  clear hp hd hft hch Ktwz Knwz Kawz Ddwz Ewz
  go_wp2_with fail
  clear HR4 Kaw12
  have HSZm : Hid (w.heap.size ≤ w12.heap.size) := Ew12.out.size
  refine (ndOpen_calls w12 gd gsd lvdw12 (UpD S1) 0 Ddw12.out.at_ (ok_up _) (by decide)).mono ?_
  intro en w13 hp
  rw [HOP.out] at hp
  obtain ⟨hm, lvdw13, rfl, hd, hk, hge, hnf, hft, hch⟩ := DSes.opost Ddw12.out hp
  have Atm : Hid (w.heap.size < hm) := by show _ < _; have := Ktw12.out.lt; omega
  have Anm : Hid (hn < hm) := by show _ < _; have := Knw12.out.lt; omega
  have Ddw13 : Hid (DSes 92 w w13 gd gsd lvdw13 (UpD S1)) := hd
  have Ew13 : Hid (Below w.heap.size w w13) := hd.bel
  have Ktw13 : Hid (Bk w13 w.heap.size (pktC 1 2 9 p.A p.n p.c)) := Ktw12.out.chg hch Fdt.out
  have Fdt : Hid (¬ footD gd gsd lvdw13 w.heap.size) := fun hj => (hft _ hj).elim Fdt.out (fun h => by have := Ktw12.out.lt; omega)
  have Knw13 : Hid (Bk w13 hn (NdC gd L1)) := Knw12.out.chg hch Fdn.out
  have Fdn : Hid (¬ footD gd gsd lvdw13 hn) := fun hj => (hft _ hj).elim Fdn.out (fun h => by have := Knw12.out.lt; omega)
  have Kmw13 : Hid (Bk w13 hm (NdC gd L1)) := hk
  have Fdm : Hid (¬ footD gd gsd lvdw13 hm) := hnf
  have NHm : Hid (w.heap.size ≤ hm) := by show _ ≤ _; have := HSZm.out; omega
  clear hp hd hk hge hnf hft hch Ktw12 Knw12 Ddw12 Ew12
  go_wp2_with fail
  clear Knw13
  have H2 : Hid (LastRel w gd gsd hm lvdw13 S1 L1 p.ps.length (pktC 1 2 9 p.A p.n p.c) (.int .i64 0) w13) := ⟨0, Nat.zero_le _, rfl, Ddw13.out, Kmw13.out, Ktw13.out⟩
  clear Ddw13 Kmw13 Ktw13 Ew13
  go_loopw [12] (fun v12 wr => LastRel w gd gsd hm lvdw13 S1 L1 p.ps.length (pktC 1 2 9 p.A p.n p.c) v12 wr) (fun v12 _ => p.ps.length - (intOf v12).toNat)
  case atStart => exact H2.out
  case round =>
    obtain ⟨k, hk, rfl, hd, hkm, hkt⟩ := hrel
    have DBs := Lib.hid hd
    have Es := Lib.hid hd.bel
    have KMs := Lib.hid hkm
    have KTs := Lib.hid hkt
    clear hd hkm hkt H2
    by_cases hlt : k < p.ps.length
    case neg =>
      have hke : k = p.ps.length := by omega
      subst hke
      have hki : ¬ (((p.ps.length : Nat) : Int) < (p.n : Int)) := by have := HOK.out.len; omega
      have ct3 : wr.cell? ⟨w.heap.size, 3, none⟩ = some (.slice p.A p.n p.c) := KTs.out.cell rfl
      go_wp2_with fail
      clear ct3
      refine (ndLabel_calls wr gd hm L1 KMs.out).mono ?_
      rintro en w31 ⟨rfl, hb⟩
      have Ew31 : Hid (Below w.heap.size w w31) := Es.out.trans (hb.mono Es.out.size)
      have Kmw31 : Hid (Bk w31 hm (NdC gd L1)) := KMs.out.below hb
      have Ktw31 : Hid (Bk w31 w.heap.size (pktC 1 2 9 p.A p.n p.c)) := KTs.out.below hb
      have Ddw31 : Hid (DSes 92 w w31 gd gsd lvdw13 (UpD S1)) := DBs.out.below hb
      clear Es KMs KTs DBs
      clear hb
      go_wp2_with (refine wpList_fld rfl 40 (.tmp 103) 0 rfl 22 0 .u32 (labC L1) (vu32 2) rfl (by kernel_rfl) Try.underlying22 (by rw [HL1C.out]; rfl) ?_)
      refine (ndLabel_calls w31 gd hm L1 Kmw31.out).mono ?_
      rintro en w32 ⟨rfl, hb⟩
      have Ew32 : Hid (Below w.heap.size w w32) := Ew31.out.trans (hb.mono Ew31.out.size)
      have Kmw32 : Hid (Bk w32 hm (NdC gd L1)) := Kmw31.out.below hb
      have Ktw32 : Hid (Bk w32 w.heap.size (pktC 1 2 9 p.A p.n p.c)) := Ktw31.out.below hb
      have Ddw32 : Hid (DSes 92 w w32 gd gsd lvdw13 (UpD S1)) := Ddw31.out.below hb
      clear Ew31 Kmw31 Ktw31 Ddw31
      clear hb
      go_wp2_with (refine wpList_fld rfl 40 (.tmp 108) 1 rfl 22 1 .u32 (labC L1) (vu32 9) rfl (by kernel_rfl) Try.underlying22 (by rw [HL1C.out]; rfl) ?_)
      refine (wakes22_calls w32).mono ?_
      rintro en w33 ⟨rfl, hb⟩
      have Ew33 : Hid (Below w.heap.size w w33) := Ew32.out.trans (hb.mono Ew32.out.size)
      have Kmw33 : Hid (Bk w33 hm (NdC gd L1)) := Kmw32.out.below hb
      have Ktw33 : Hid (Bk w33 w.heap.size (pktC 1 2 9 p.A p.n p.c)) := Ktw32.out.below hb
      have Ddw33 : Hid (DSes 92 w w33 gd gsd lvdw13 (UpD S1)) := Ddw32.out.below hb
      clear Ew32 Kmw32 Ktw32 Ddw32
      clear hb
      go_wp2_with fail
      (try simp only [Exit.inBlock, Exit.then])
      go_ret
      exact ⟨rfl, Ew33.out⟩
    have hki : (k : Int) < (p.n : Int) := by have := HOK.out.len; omega
    have hk0 : (0 : Int) ≤ (k : Int) := by omega
    have hk64 : (k : Int) + 1 < 9223372036854775807 := by have := (goodB_at HGD.out).2.1; omega
    obtain ⟨ad, hA⟩ := pk_put_some HOK.out hlt
    have HAD := Lib.hid hA
    clear hA
    have HPAT := Lib.hid (pk_put_at HOK.out hlt)
    obtain ⟨bz, hbz⟩ : ∃ bz, p.ps[k].at_ = bz := ⟨_, rfl⟩
    have hbz0 : 0 ≤ bz ∧ bz < 12 := by rw [← hbz]; exact goodB_ats' HGD.out _ (List.getElem_mem hlt)
    have HB0 : Hid (0 ≤ bz) := hbz0.1
    have HB12 : Hid (bz < 12) := hbz0.2
    have HRB : Hid ((UpD S1).readB (7 + bz) = p.ps[k].data) := by
      have h := (up_block (S := S1) HSL.out (b := bz.toNat) (by omega)).1
      rw [show (((bz.toNat : Nat)) : Int) = bz by omega, ← hbz, HBLK.out k hlt] at h
      rw [← hbz]
      exact h
    have HRE : Hid ((UpD S1).readE (7 + bz) = 0) := by
      have h := (up_block (S := S1) HSL.out (b := bz.toNat) (by omega)).2
      rwa [show (((bz.toNat : Nat)) : Int) = bz by omega] at h
    have HDL := Lib.hid (HOK.out.ok _ (List.getElem_mem hlt)).1
    obtain ⟨pd, hpd⟩ : ∃ pd, p.ps[k] = pd := ⟨_, rfl⟩
    rw [hpd] at HRB HDL HPAT hbz
    have cp := HPAT.out.1 wr Es.out ad HAD.out
    rw [hbz] at cp
    clear hbz hbz0 hpd
    have ct3 : wr.cell? ⟨w.heap.size, 3, none⟩ = some (.slice (some ad) p.n p.c) := by have h : wr.cell? ⟨w.heap.size, 3, none⟩ = some (.slice p.A p.n p.c) := KTs.out.cell rfl; rwa [HAD.out] at h
    go_wp2_with fail
    clear cp ct3
    refine (ndBlock_calls wr gd gsd lvdw13 hm (UpD S1) L1 bz DBs.out.at_ KMs.out HB0.out HB12.out).mono ?_
    rintro en w31 ⟨rfl, hb⟩
    have Ew31 : Hid (Below w.heap.size w w31) := Es.out.trans (hb.mono Es.out.size)
    have Kmw31 : Hid (Bk w31 hm (NdC gd L1)) := KMs.out.below hb
    have Ktw31 : Hid (Bk w31 w.heap.size (pktC 1 2 9 p.A p.n p.c)) := KTs.out.below hb
    have Ddw31 : Hid (DSes 92 w w31 gd gsd lvdw13 (UpD S1)) := DBs.out.below hb
    clear Es KMs KTs DBs
    clear hb
    rw [HRB.out, HRE.out]
    obtain ⟨vb, hvb⟩ : ∃ vb, bts pd.data = vb := ⟨_, rfl⟩
    have HVB := Lib.hid hvb
    have HVL : Hid (vb.length = 32) := by show _ = _; rw [← hvb, bts_length]; exact HDL.out
    have HVO : Hid (∀ u ∈ vb, u.oneCell' = true) := by rw [← hvb]; exact one_bts _
    rw [hvb]
    clear hvb
    go_wp2_with (refine wpList_al rfl 35 rfl (bts (List.replicate 32 0)) (by kernel_rfl) ?_)
    intro gb w32 hg hb hc hs
    have HQb : Hid (Below w31.heap.size w31 w32) := hc.below (Nat.le_refl _) (fun _ _ => id)
    have HGb : Hid (gb = w31.heap.size) := hg
    have KZb := Lib.hid hb
    clear hg hb hc hs
    go_wp2_with (refine wpList_st rfl 35 (.tmp 13) (.tmp 88) rfl gb 0 32 (bts (List.replicate 32 0)) vb rfl rfl KZb.out (by kernel_rfl) HVL.out (by decide) HVO.out ?_)
    intro w33 hbk hc
    rw [splice_whole _ _ (by rw [HVL.out]; rfl)] at hbk
    have hb : Below w31.heap.size w31 w33 := HQb.out.trans (hc.below HQb.out.size (fun q hq he => by have := HGb.out; omega))
    have Amb : Hid (hm < gb) := by show _ < _; have := Kmw31.out.lt; have := HGb.out; omega
    have Atb : Hid (w.heap.size < gb) := by show _ < _; have := Ktw31.out.lt; have := HGb.out; omega
    have Ew33 : Hid (Below w.heap.size w w33) := Ew31.out.trans (hb.mono Ew31.out.size)
    have Kmw33 : Hid (Bk w33 hm (NdC gd L1)) := Kmw31.out.below hb
    have Ktw33 : Hid (Bk w33 w.heap.size (pktC 1 2 9 p.A p.n p.c)) := Ktw31.out.below hb
    have Ddw33 : Hid (DSes 92 w w33 gd gsd lvdw13 (UpD S1)) := Ddw31.out.below hb
    clear Ew31 Kmw31 Ktw31 Ddw31
    have Kbw33 : Hid (Bk w33 gb vb) := hbk
    have Kbw33 : Hid (Bk w33 gb vb) := hbk
    clear hbk hb hc KZb HQb HGb
    go_wp2_with fail
    apply wp_region_rel 11 (Chg NoS) [(Veq _), (Veq _), (Veq _), (Veq _), (Veq _), (Veq _), (Veq _), (Veq _), (Veq _), (Veq _), (Veq (.bool false))] [[], [0], [1], [2], [2], [2, 4], [2], [2, 5, 6], [2, 7], [2, 8], [2, 3, 9]] [90, 91, 92, 93, 94, 95, 96, 97, 98, 99, 100] (by kernel_rfl) (by kernel_rfl) rfl rfl rfl Chg.refl (fun _ _ _ => Chg.trans) ⟨Veq.lasts, Veq.lasts, Veq.lasts, Veq.lasts, Veq.lasts, Veq.lasts, Veq.lasts, Veq.lasts, Veq.lasts, Veq.lasts, Veq.lasts, trivial⟩ ?bops ?bfin
    case bops =>
      refine ⟨?bo0, ?bo1, ?bo2, ?bo3, ?bo4, ?bo5, ?bo6, ?bo7, ?bo8, ?bo9, ?bo10, trivial⟩
      case bo0 =>
        intro a wx hE hin
        have i14 : a.eval (.tmp 14) = .int .i64 0 := hin 14 rfl
        clear hin
        have hcst : ∀ v, a.eval (.const v) = v := fun _ => rfl
        have hfnc : ∀ f, a.eval (.func f) = .func (.func f) #[] #[] := fun _ => rfl
        refine want_none rfl ?_
        unfold Oper.wp
        generalize a.eval = ρ at *
        go_simp
        try go_bits
        first | exact rel_val (Chg.refl _) | (go_simp; exact rel_val (Chg.refl _))
      case bo1 =>
        rintro a wx hE hin (h0 : a.eval (.tmp 90) = _)
        clear hin
        have hcst : ∀ v, a.eval (.const v) = v := fun _ => rfl
        have hfnc : ∀ f, a.eval (.func f) = .func (.func f) #[] #[] := fun _ => rfl
        refine want_none rfl ?_
        unfold Oper.wp
        generalize a.eval = ρ at *
        go_simp
        try go_bits
        first | exact rel_val (Chg.refl _) | (go_simp; exact rel_val (Chg.refl _))
      case bo2 =>
        rintro a wx hE hin (h1 : a.eval (.tmp 91) = _)
        clear hin
        have hcst : ∀ v, a.eval (.const v) = v := fun _ => rfl
        have hfnc : ∀ f, a.eval (.func f) = .func (.func f) #[] #[] := fun _ => rfl
        refine want_none rfl ?_
        unfold Oper.wp
        generalize a.eval = ρ at *
        go_simp
        try go_bits
        first | exact rel_val (Chg.refl _) | (go_simp; exact rel_val (Chg.refl _))
      case bo3 =>
        rintro a wx hE hin (h2 : a.eval (.tmp 92) = _)
        have i13 : a.eval (.tmp 13) = .pointer (some ⟨gb, 0, none⟩) := hin 13 rfl
        clear hin
        have hcst : ∀ v, a.eval (.const v) = v := fun _ => rfl
        have hfnc : ∀ f, a.eval (.func f) = .func (.func f) #[] #[] := fun _ => rfl
        refine want_yes rfl rfl h2 ?_
        exact wp_ld 35 _ rfl gb 0 32 vb (bts pd.data) i13 (Kbw33.out.drew.chg hE id) (by kernel_rfl) (by kernel_rfl) (by rw [HVL.out]; decide) (by rw [List.drop_zero, List.take_of_length_le (by rw [HVL.out]; exact Nat.le_refl _), HVB.out]) (rel_val (Chg.refl _))
      case bo4 =>
        rintro a wx hE hin (h2 : a.eval (.tmp 92) = _)
        have i2 : a.eval (.tmp 2) = .pointer (some ⟨w.heap.size, 0, none⟩) := hin 2 rfl
        clear hin
        have hcst : ∀ v, a.eval (.const v) = v := fun _ => rfl
        have hfnc : ∀ f, a.eval (.func f) = .func (.func f) #[] #[] := fun _ => rfl
        refine want_yes rfl rfl h2 ?_
        unfold Oper.wp
        generalize a.eval = ρ at *
        go_simp
        try go_bits
        first | exact rel_val (Chg.refl _) | (go_simp; exact rel_val (Chg.refl _))
      case bo5 =>
        rintro a wx hE hin (h2 : a.eval (.tmp 92) = _) (h4 : a.eval (.tmp 94) = _)
        clear hin
        have hcst : ∀ v, a.eval (.const v) = v := fun _ => rfl
        have hfnc : ∀ f, a.eval (.func f) = .func (.func f) #[] #[] := fun _ => rfl
        refine want_yes rfl rfl h2 ?_
        unfold Oper.wp
        generalize a.eval = ρ at *
        have c : wx.cell? ⟨w.heap.size, 3, none⟩ = some (.slice (some ad) p.n p.c) := by have h : wx.cell? ⟨w.heap.size, 3, none⟩ = some (.slice p.A p.n p.c) := (Ktw33.out.drew.chg hE id).cell rfl; rwa [HAD.out] at h
        go_simp
        try go_bits
        first | exact rel_val (Chg.refl _) | (go_simp; exact rel_val (Chg.refl _))
      case bo6 =>
        rintro a wx hE hin (h2 : a.eval (.tmp 92) = _)
        have i12 : a.eval (.tmp 12) = .int .i64 k := hin 12 rfl
        clear hin
        have hcst : ∀ v, a.eval (.const v) = v := fun _ => rfl
        have hfnc : ∀ f, a.eval (.func f) = .func (.func f) #[] #[] := fun _ => rfl
        refine want_yes rfl rfl h2 ?_
        unfold Oper.wp
        generalize a.eval = ρ at *
        go_simp
        try go_bits
        first | exact rel_val (Chg.refl _) | (go_simp; exact rel_val (Chg.refl _))
      case bo7 =>
        rintro a wx hE hin (h2 : a.eval (.tmp 92) = _) (h5 : a.eval (.tmp 95) = _) (h6 : a.eval (.tmp 96) = _)
        clear hin
        have hcst : ∀ v, a.eval (.const v) = v := fun _ => rfl
        have hfnc : ∀ f, a.eval (.func f) = .func (.func f) #[] #[] := fun _ => rfl
        refine want_yes rfl rfl h2 ?_
        unfold Oper.wp
        generalize a.eval = ρ at *
        go_simp
        try go_bits
        first | exact rel_val (Chg.refl _) | (go_simp; exact rel_val (Chg.refl _))
      case bo8 =>
        rintro a wx hE hin (h2 : a.eval (.tmp 92) = _) (h7 : a.eval (.tmp 97) = _)
        clear hin
        have hcst : ∀ v, a.eval (.const v) = v := fun _ => rfl
        have hfnc : ∀ f, a.eval (.func f) = .func (.func f) #[] #[] := fun _ => rfl
        refine want_yes rfl rfl h2 ?_
        unfold Oper.wp
        generalize a.eval = ρ at *
        go_simp
        try go_bits
        first | exact rel_val (Chg.refl _) | (go_simp; exact rel_val (Chg.refl _))
      case bo9 =>
        rintro a wx hE hin (h2 : a.eval (.tmp 92) = _) (h8 : a.eval (.tmp 98) = _)
        clear hin
        have hcst : ∀ v, a.eval (.const v) = v := fun _ => rfl
        have hfnc : ∀ f, a.eval (.func f) = .func (.func f) #[] #[] := fun _ => rfl
        refine want_yes rfl rfl h2 ?_
        exact wp_ldr2 35 _ rfl _ 32 (bts pd.data) h8 (by have h := (HPAT.out.2 wx (Ew33.out.trans (hE.undrew.below Ew33.out.size (fun _ _ => id))) ad HAD.out).drop 1; exact h) (by kernel_rfl) (by kernel_rfl) (by rw [bts_length]; exact HDL.out) (rel_val (Chg.refl _))
      case bo10 =>
        rintro a wx hE hin (h2 : a.eval (.tmp 92) = _) (h3 : a.eval (.tmp 93) = _) (h9 : a.eval (.tmp 99) = _)
        clear hin
        have hcst : ∀ v, a.eval (.const v) = v := fun _ => rfl
        have hfnc : ∀ f, a.eval (.func f) = .func (.func f) #[] #[] := fun _ => rfl
        refine want_yes rfl rfl h2 ?_
        exact wp_eq_bytes true 35 _ _ _ rfl 5 32 Try.underlying35 Try.underlying5 (by kernel_rfl) (by kernel_rfl) pd.data pd.data h3 h9 HDL.out HDL.out (by rw [decide_eq_true rfl]; exact rel_val (Chg.refl _))
    case bfin =>
      intro wx hE
      rintro _ rfl _ rfl _ rfl _ rfl _ rfl _ rfl _ rfl _ rfl _ rfl _ rfl _ rfl
      simp only [FinOk, List.take_succ_cons, List.take_zero, List.take_nil, List.drop_succ_cons, List.drop_zero, List.drop_nil, Act.put, List.setIfInBounds_toArray, List.set_cons_succ, List.set_cons_zero]
      have DX : Hid (DSes 92 w wx gd gsd lvdw13 (UpD S1)) := Ddw33.out.chgN hE.undrew
      have KY : Hid (Bk wx hm (NdC gd L1)) := Kmw33.out.drew.chg hE id
      have KU : Hid (Bk wx w.heap.size (pktC 1 2 9 p.A p.n p.c)) := Ktw33.out.drew.chg hE id
      clear hE
      go_wp2_with fail
      go_roundw
      case rel => exact ⟨k + 1, by omega, by go_num, DX.out, KY.out, KU.out⟩
      case measure => simp [intOf]; omega
end Go.Proofs.Ytcmfkdfegfablaa
