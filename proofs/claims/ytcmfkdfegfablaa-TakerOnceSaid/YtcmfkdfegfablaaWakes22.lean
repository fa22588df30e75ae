
import Derived.Test.YtcmfkdfegfablaaTakeLaw

/- law22's own trial. -/
namespace Go.Proofs.Ytcmfkdfegfablaa
open Go.RowKit
set_option linter.unusedVariables false
set_option linter.unusedSimpArgs false

theorem pk_infoU8' : (Try.prog.info? 5).map (fun i => (i.zero, i.size)) = some (some (.int .u8 0), 1) := by kernel_rfl
theorem tkGood : goodP 1 nps = true := by decide +kernel
def tkL : Lab := carryL zLab 2 5 nps 0
def tkS : List (List UInt8) := appS S0 2 5 nps tkL
theorem tkLen : tkS.length = 19 := by rw [tkS, appS_length]; rfl
theorem tkLat : laterB 2 5 zLab.e zLab.s = true := by decide +kernel
theorem tkAp : (UpD S0).nApply zLab 2 5 nps zLab.d = (UpD tkS, 0) := up_apply S0_len nwGood tkLat
theorem tkLe : tkL.e = 2 := rfl
theorem tkLat5 : laterB 2 5 tkL.e tkL.s = false := by decide +kernel
theorem tkLat4 : laterB 2 4 tkL.e tkL.s = false := by decide +kernel
theorem tkK5 : (if (2 : UInt32) = tkL.e ∧ (5 : UInt32) = tkL.s then (3 : Int) else 4) = 3 := by decide +kernel
theorem tkK4 : (if (2 : UInt32) = tkL.e ∧ (4 : UInt32) = tkL.s then (3 : Int) else 4) = 4 := by decide +kernel
theorem tkBad : (decP [120]).2 ≠ 0 := by rw [decP_len (fun h => absurd h.1 (by decide))]; decide
theorem tkB0 : tkS.getD (7 + 3) [] = List.replicate 32 7 := by rw [tkS, appS_blk S0_len nwGood (by decide)]; rfl
theorem tkB1 : (UpD tkS).readB (7 + 3) = List.replicate 32 7 := (up_block tkLen (b := 3) (by decide)).1.trans tkB0
theorem tkB2 : (UpD tkS).readE (7 + 3) = 0 := (up_block tkLen (b := 3) (by decide)).2
set_option maxRecDepth 100000 in
set_option maxHeartbeats 16000000 in
theorem wakes22_calls (w : World) : Calls Try.prog 25 #[] w fun e w' => e = .returned (.bool true) ∧ Below w.heap.size w w' := by
  go_enter Try.func25, Try.ntmps25
  go_wp2_with fail
  refine (ndNew_calls w w (Below.refl _ _)).mono ?_
  rintro en w1 ⟨gd, gsd, rfl, hd, hfe, hb⟩
  have Ew1 : Hid (Below w.heap.size w w1) := hb
  have Ddw1 : Hid (DSes 92 w w1 gd gsd (.slice none 0 0) (UpD S0)) := hd
  clear hb hd hfe
  go_wp2_with fail
  have HSZn : Hid (w.heap.size ≤ w1.heap.size) := Ew1.out.size
  refine (ndOpen_calls w1 gd gsd (.slice none 0 0) (UpD S0) 0 Ddw1.out.at_ (ok_up _) (by decide)).mono ?_
  intro en w2 hp
  rw [open_new] at hp
  obtain ⟨hn, lvdw2, rfl, hd, hk, hge, hnf, hft, hch⟩ := DSes.opost Ddw1.out hp
  have Ddw2 : Hid (DSes 92 w w2 gd gsd lvdw2 (UpD S0)) := hd
  have Ew2 : Hid (Below w.heap.size w w2) := hd.bel
  have Knw2 : Hid (Bk w2 hn (NdC gd zLab)) := hk
  have Fdn : Hid (¬ footD gd gsd lvdw2 hn) := hnf
  have NHn : Hid (w.heap.size ≤ hn) := by show _ ≤ _; have := HSZn.out; omega
  clear hp hd hk hge hnf hft hch Ddw1 Ew1
  go_wp2_with fail
  refine (fill_calls 7 w2).mono ?_
  rintro en w3 ⟨rfl, hb⟩
  have Ew3 : Hid (Below w.heap.size w w3) := Ew2.out.trans (hb.mono Ew2.out.size)
  have Knw3 : Hid (Bk w3 hn (NdC gd zLab)) := Knw2.out.below hb
  have Ddw3 : Hid (DSes 92 w w3 gd gsd lvdw2 (UpD S0)) := Ddw2.out.below hb
  clear Ew2 Knw2 Ddw2
  clear hb
  go_wp2_with (first
    | (refine wpList_bld rfl 54 [(0, .const (.int .i64 3)), (1, .tmp 19)] rfl (.int .i64 0 :: bts (List.replicate 32 0)) [(0, [.int .i64 3]), (1, bts (List.replicate 32 7))] (putC np3) (by kernel_rfl) (by kernel_rfl) ⟨rfl, ⟨1, rfl, by kernel_rfl, by decide⟩, rfl, ⟨32, by rw [bts_length, List.length_replicate], by kernel_rfl, by decide⟩, trivial⟩ rfl ?_)
    | (refine wpList_bs1 rfl 23 54 (.tmp 20) rfl zPut 33 (putC np3) Try.underlying23 infoPut rfl (by decide) (by decide) rfl rfl ?_))
  intro gr w4 hg hbk hc
  have hb : Below w3.heap.size w3 w4 := hc.below (Nat.le_refl _) (fun _ _ => id)
  have Fdr : Hid (¬ footD gd gsd lvdw2 gr) := fun hj => by have := DiskAt.lt Ddw3.out.at_ _ hj; omega
  have Anr : Hid (hn < gr) := by show _ < _; have := Knw3.out.lt; omega
  have Ew4 : Hid (Below w.heap.size w w4) := Ew3.out.trans (hb.mono Ew3.out.size)
  have Knw4 : Hid (Bk w4 hn (NdC gd zLab)) := Knw3.out.below hb
  have Ddw4 : Hid (DSes 92 w w4 gd gsd lvdw2 (UpD S0)) := Ddw3.out.below hb
  clear Ew3 Knw3 Ddw3
  have Krw4 : Hid (Bk w4 gr (putC np3)) := hbk
  clear hbk hb hc hg
  go_wp2_with (first
    | (refine wpList_bld rfl 67 [(0, .const (.int .i64 1)), (1, .const (.int .u32 2)), (2, .const (.int .u32 5)), (3, .tmp 21)] rfl zPkD [(0, [.int .i64 1]), (1, [vu32 2]), (2, [vu32 5]), (3, [.slice (some ⟨gr, 0, none⟩) 1 1])] (pktC 1 2 5 (some ⟨gr, 0, none⟩) 1 1) (by kernel_rfl) (by kernel_rfl) ⟨rfl, ⟨1, rfl, by kernel_rfl, by decide⟩, rfl, ⟨1, rfl, by kernel_rfl, by decide⟩, rfl, ⟨1, rfl, by kernel_rfl, by decide⟩, rfl, ⟨1, rfl, by kernel_rfl, by decide⟩, trivial⟩ rfl ?_)
    | (refine wpList_al rfl 67 rfl zPkD (by kernel_rfl) ?_))
  intro gp w5 hg hb hc hs
  have HQp : Hid (Below w4.heap.size w4 w5) := hc.below (Nat.le_refl _) (fun _ _ => id)
  have HGp : Hid (gp = w4.heap.size) := hg
  have KZp := Lib.hid hb
  clear hg hb hc hs
  go_wp2_with (refine wpList_st rfl 67 (.tmp 3) (.tmp 22) rfl gp 0 4 zPkD (pktC 1 2 5 (some ⟨gr, 0, none⟩) 1 1) rfl rfl KZp.out (by kernel_rfl) rfl (by decide) (one_pktD _ _ _ _ _ _) ?_)
  intro w6 hbk hc
  rw [splice_whole zPkD (pktC 1 2 5 (some ⟨gr, 0, none⟩) 1 1) rfl] at hbk
  have hb : Below w4.heap.size w4 w6 := HQp.out.trans (hc.below HQp.out.size (fun q hq he => by have := HGp.out; omega))
  have Fdp : Hid (¬ footD gd gsd lvdw2 gp) := fun hj => by have := DiskAt.lt Ddw4.out.at_ _ hj; have := HGp.out; omega
  have Anp : Hid (hn < gp) := by show _ < _; have := Knw4.out.lt; have := HGp.out; omega
  have Arp : Hid (gr < gp) := by show _ < _; have := Krw4.out.lt; have := HGp.out; omega
  have Ew6 : Hid (Below w.heap.size w w6) := Ew4.out.trans (hb.mono Ew4.out.size)
  have Knw6 : Hid (Bk w6 hn (NdC gd zLab)) := Knw4.out.below hb
  have Krw6 : Hid (Bk w6 gr (putC np3)) := Krw4.out.below hb
  have Ddw6 : Hid (DSes 92 w w6 gd gsd lvdw2 (UpD S0)) := Ddw4.out.below hb
  clear Ew4 Knw4 Krw4 Ddw4
  have Kpw6 : Hid (Bk w6 gp (pktC 1 2 5 (some ⟨gr, 0, none⟩) 1 1)) := hbk
  have Kpw6 : Hid (Bk w6 gp (pktC 1 2 5 (some ⟨gr, 0, none⟩) 1 1)) := hbk
  clear hbk hb hc KZp HQp HGp
  have GEp : Hid (w.heap.size ≤ gp) := by show _ ≤ _; have := Anp.out; have := NHn.out; omega
  go_wp2_with (refine wpList_ld rfl 67 (.tmp 3) rfl gp 0 4 (pktC 1 2 5 (some ⟨gr, 0, none⟩) 1 1) (pktC 1 2 5 (some ⟨gr, 0, none⟩) 1 1) rfl Kpw6.out (by kernel_rfl) (by kernel_rfl) (Nat.le_refl 4) rfl ?_)
  refine (pkt_yes 1 2 5 nps (some ⟨gr, 0, none⟩) 1 1 w6 rfl (by decide) (by have h := Krw6.out.rd; rwa [← nwFlat] at h) nwPuts tkGood).mono ?_
  rintro en w7 ⟨ele, Ae, ce, rfl, hr, hnc, hcm, hle, hde, hb⟩
  have Ew7 : Hid (Below w.heap.size w w7) := Ew6.out.trans (hb.mono Ew6.out.size)
  have Knw7 : Hid (Bk w7 hn (NdC gd zLab)) := Knw6.out.below hb
  have Krw7 : Hid (Bk w7 gr (putC np3)) := Krw6.out.below hb
  have Kpw7 : Hid (Bk w7 gp (pktC 1 2 5 (some ⟨gr, 0, none⟩) 1 1)) := Kpw6.out.below hb
  have Ddw7 : Hid (DSes 92 w w7 gd gsd lvdw2 (UpD S0)) := Ddw6.out.below hb
  clear Ew6 Knw6 Krw6 Kpw6 Ddw6
  have Rew7 := Lib.hid hr
  have HCe : Hid (ele.length ≤ ce ∧ ce ≤ 9223372036854775807) := ⟨hnc, hcm⟩
  have HLEe : Hid (ele.length ≤ 33000) := hle
  have HDEe := Lib.hid hde
  clear hb hr hnc hcm hle hde
  go_wp2_with fail
  refine (take_yes ele Ae ele.length ce w7 rfl HCe.out.1 HCe.out.2 HLEe.out Rew7.out 1 2 5 nps HDEe.out (.inl rfl) gd gsd lvdw2 hn (UpD S0) zLab Ddw7.out.at_ Knw7.out 0 Fdn.out (ok_up _) (by decide) (fun hg _ => put_up_ok S0_len hg) _ _ tkLat tkAp rfl).mono ?_
  intro en w8 hp
  have hch := NPost.chg hp
  obtain ⟨rfl, lvdw8, hd, hk, hft⟩ := DSes.npost Ddw7.out hp NHn.out
  have Ddw8 : Hid (DSes 92 w w8 gd gsd lvdw8 (UpD tkS)) := hd
  have Ew8 : Hid (Below w.heap.size w w8) := hd.bel
  have Krw8 : Hid (Bk w8 gr (putC np3)) := Krw7.out.chg hch (fun hj => hj.elim Fdr.out (fun he => by have := Anr.out; omega))
  have Fdr : Hid (¬ footD gd gsd lvdw8 gr) := fun hj => (hft _ hj).elim Fdr.out (fun h => by have := Krw7.out.lt; omega)
  have Kpw8 : Hid (Bk w8 gp (pktC 1 2 5 (some ⟨gr, 0, none⟩) 1 1)) := Kpw7.out.chg hch (fun hj => hj.elim Fdp.out (fun he => by have := Anp.out; omega))
  have Fdp : Hid (¬ footD gd gsd lvdw8 gp) := fun hj => (hft _ hj).elim Fdp.out (fun h => by have := Kpw7.out.lt; omega)
  have Knw8 : Hid (Bk w8 hn (NdC gd tkL)) := hk
  have Fdn : Hid (¬ footD gd gsd lvdw8 hn) := fun hj => (hft _ hj).elim Fdn.out (fun h => by have := Knw7.out.lt; omega)
  clear hp hd hk hft hch Knw7 Krw7 Kpw7 Ddw7 Ew7
  go_wp2_with (refine wpList_al rfl 67 rfl zPkD (by kernel_rfl) ?_)
  intro ga w9 hg hb hc hs
  have HQa : Hid (Below w8.heap.size w8 w9) := hc.below (Nat.le_refl _) (fun _ _ => id)
  have HGa : Hid (ga = w8.heap.size) := hg
  have KZa := Lib.hid hb
  clear hg hb hc hs
  go_wp2_with (refine wpList_st rfl 67 (.tmp 4) (.tmp 28) rfl ga 0 4 zPkD (pktC 3 2 5 none 0 0) rfl rfl KZa.out (by kernel_rfl) rfl (by decide) (one_pktD _ _ _ _ _ _) ?_)
  intro w10 hbk hc
  rw [splice_whole zPkD (pktC 3 2 5 none 0 0) rfl] at hbk
  have hb : Below w8.heap.size w8 w10 := HQa.out.trans (hc.below HQa.out.size (fun q hq he => by have := HGa.out; omega))
  have Fda : Hid (¬ footD gd gsd lvdw8 ga) := fun hj => by have := DiskAt.lt Ddw8.out.at_ _ hj; have := HGa.out; omega
  have Ana : Hid (hn < ga) := by show _ < _; have := Knw8.out.lt; have := HGa.out; omega
  have Ara : Hid (gr < ga) := by show _ < _; have := Krw8.out.lt; have := HGa.out; omega
  have Apa : Hid (gp < ga) := by show _ < _; have := Kpw8.out.lt; have := HGa.out; omega
  have Ew10 : Hid (Below w.heap.size w w10) := Ew8.out.trans (hb.mono Ew8.out.size)
  have Knw10 : Hid (Bk w10 hn (NdC gd tkL)) := Knw8.out.below hb
  have Krw10 : Hid (Bk w10 gr (putC np3)) := Krw8.out.below hb
  have Kpw10 : Hid (Bk w10 gp (pktC 1 2 5 (some ⟨gr, 0, none⟩) 1 1)) := Kpw8.out.below hb
  have Ddw10 : Hid (DSes 92 w w10 gd gsd lvdw8 (UpD tkS)) := Ddw8.out.below hb
  clear Ew8 Knw8 Krw8 Kpw8 Ddw8
  have Kaw10 : Hid (Bk w10 ga (pktC 3 2 5 none 0 0)) := hbk
  have Kaw10 : Hid (Bk w10 ga (pktC 3 2 5 none 0 0)) := hbk
  clear hbk hb hc KZa HQa HGa
  go_wp2_with (refine wpList_ld rfl 67 (.tmp 3) rfl gp 0 4 (pktC 1 2 5 (some ⟨gr, 0, none⟩) 1 1) (pktC 1 2 5 (some ⟨gr, 0, none⟩) 1 1) rfl Kpw10.out (by kernel_rfl) (by kernel_rfl) (Nat.le_refl 4) rfl ?_)
  refine (pkt_yes 1 2 5 nps (some ⟨gr, 0, none⟩) 1 1 w10 rfl (by decide) (by have h := Krw10.out.rd; rwa [← nwFlat] at h) nwPuts tkGood).mono ?_
  rintro en w11 ⟨elf, Af, cf, rfl, hr, hnc, hcm, hle, hde, hb⟩
  have Ew11 : Hid (Below w.heap.size w w11) := Ew10.out.trans (hb.mono Ew10.out.size)
  have Knw11 : Hid (Bk w11 hn (NdC gd tkL)) := Knw10.out.below hb
  have Krw11 : Hid (Bk w11 gr (putC np3)) := Krw10.out.below hb
  have Kpw11 : Hid (Bk w11 gp (pktC 1 2 5 (some ⟨gr, 0, none⟩) 1 1)) := Kpw10.out.below hb
  have Kaw11 : Hid (Bk w11 ga (pktC 3 2 5 none 0 0)) := Kaw10.out.below hb
  have Ddw11 : Hid (DSes 92 w w11 gd gsd lvdw8 (UpD tkS)) := Ddw10.out.below hb
  clear Ew10 Knw10 Krw10 Kpw10 Kaw10 Ddw10
  have Rfw11 := Lib.hid hr
  have HCf : Hid (elf.length ≤ cf ∧ cf ≤ 9223372036854775807) := ⟨hnc, hcm⟩
  have HLEf : Hid (elf.length ≤ 33000) := hle
  have HDEf := Lib.hid hde
  clear hb hr hnc hcm hle hde
  go_wp2_with fail
  refine (take_no elf Af elf.length cf w11 rfl HCf.out.1 HCf.out.2 HLEf.out Rfw11.out 1 2 5 nps HDEf.out (.inl rfl) gd gsd lvdw8 hn (UpD tkS) tkL Ddw11.out.at_ Knw11.out tkLat5 3 tkK5).mono ?_
  rintro en w12 ⟨rfl, hb⟩
  have Ew12 : Hid (Below w.heap.size w w12) := Ew11.out.trans (hb.mono Ew11.out.size)
  have Knw12 : Hid (Bk w12 hn (NdC gd tkL)) := Knw11.out.below hb
  have Krw12 : Hid (Bk w12 gr (putC np3)) := Krw11.out.below hb
  have Kpw12 : Hid (Bk w12 gp (pktC 1 2 5 (some ⟨gr, 0, none⟩) 1 1)) := Kpw11.out.below hb
  have Kaw12 : Hid (Bk w12 ga (pktC 3 2 5 none 0 0)) := Kaw11.out.below hb
  have Rfw12 : Hid (Rd w12 Af (bts elf)) := Rfw11.out.below hb
  have Ddw12 : Hid (DSes 92 w w12 gd gsd lvdw8 (UpD tkS)) := Ddw11.out.below hb
  clear Ew11 Knw11 Krw11 Kpw11 Kaw11 Rfw11 Ddw11
  clear hb
  rw [tkLe]
  clear Rfw12 HCf HLEf HDEf
  go_wp2_with (refine wpList_al rfl 67 rfl zPkD (by kernel_rfl) ?_)
  intro gb w13 hg hb hc hs
  have HQb : Hid (Below w12.heap.size w12 w13) := hc.below (Nat.le_refl _) (fun _ _ => id)
  have HGb : Hid (gb = w12.heap.size) := hg
  have KZb := Lib.hid hb
  clear hg hb hc hs
  go_wp2_with (refine wpList_st rfl 67 (.tmp 6) (.tmp 35) rfl gb 0 4 zPkD (pktC 3 2 5 none 0 0) rfl rfl KZb.out (by kernel_rfl) rfl (by decide) (one_pktD _ _ _ _ _ _) ?_)
  intro w14 hbk hc
  rw [splice_whole zPkD (pktC 3 2 5 none 0 0) rfl] at hbk
  have hb : Below w12.heap.size w12 w14 := HQb.out.trans (hc.below HQb.out.size (fun q hq he => by have := HGb.out; omega))
  have Fdb : Hid (¬ footD gd gsd lvdw8 gb) := fun hj => by have := DiskAt.lt Ddw12.out.at_ _ hj; have := HGb.out; omega
  have Anb : Hid (hn < gb) := by show _ < _; have := Knw12.out.lt; have := HGb.out; omega
  have Arb : Hid (gr < gb) := by show _ < _; have := Krw12.out.lt; have := HGb.out; omega
  have Apb : Hid (gp < gb) := by show _ < _; have := Kpw12.out.lt; have := HGb.out; omega
  have Aab : Hid (ga < gb) := by show _ < _; have := Kaw12.out.lt; have := HGb.out; omega
  have Ew14 : Hid (Below w.heap.size w w14) := Ew12.out.trans (hb.mono Ew12.out.size)
  have Knw14 : Hid (Bk w14 hn (NdC gd tkL)) := Knw12.out.below hb
  have Krw14 : Hid (Bk w14 gr (putC np3)) := Krw12.out.below hb
  have Kpw14 : Hid (Bk w14 gp (pktC 1 2 5 (some ⟨gr, 0, none⟩) 1 1)) := Kpw12.out.below hb
  have Kaw14 : Hid (Bk w14 ga (pktC 3 2 5 none 0 0)) := Kaw12.out.below hb
  have Ddw14 : Hid (DSes 92 w w14 gd gsd lvdw8 (UpD tkS)) := Ddw12.out.below hb
  clear Ew12 Knw12 Krw12 Kpw12 Kaw12 Ddw12
  have Kbw14 : Hid (Bk w14 gb (pktC 3 2 5 none 0 0)) := hbk
  have Kbw14 : Hid (Bk w14 gb (pktC 3 2 5 none 0 0)) := hbk
  clear hbk hb hc KZb HQb HGb
  go_wp2_with (first
    
    | (refine wpList_st rfl 22 (.tmp 37) (.const (.int .u32 4)) rfl gp 2 1 (pktC 1 2 5 (some ⟨gr, 0, none⟩) 1 1) [vu32 4] rfl rfl Kpw14.out (by kernel_rfl) rfl (Nat.le_of_ble_eq_true rfl) (fun u hu => by obtain rfl := List.mem_singleton.1 hu; rfl) ?_))
  intro w15 hbk hc
  have hbk2 : Bk w15 gp (pktC 1 2 4 (some ⟨gr, 0, none⟩) 1 1) := hbk
  have Ew15 : Hid (Below w.heap.size w w15) := Ew14.out.trans (hc.below Ew14.out.size (fun q hq he => by have := GEp.out; omega))
  have Knw15 : Hid (Bk w15 hn (NdC gd tkL)) := Knw14.out.chg hc (fun he => by have := Anp.out; omega)
  have Krw15 : Hid (Bk w15 gr (putC np3)) := Krw14.out.chg hc (fun he => by have := Arp.out; omega)
  have Kaw15 : Hid (Bk w15 ga (pktC 3 2 5 none 0 0)) := Kaw14.out.chg hc (fun he => by have := Apa.out; omega)
  have Kbw15 : Hid (Bk w15 gb (pktC 3 2 5 none 0 0)) := Kbw14.out.chg hc (fun he => by have := Apb.out; omega)
  have Ddw15 : Hid (DSes 92 w w15 gd gsd lvdw8 (UpD tkS)) := ⟨DiskAt.chg Ddw14.out.at_ hc (fun j hj he => Fdp.out (he ▸ hj)), Ddw14.out.fr, Ew15.out⟩
  have Kpw15 := Lib.hid hbk2
  clear hbk hbk2 hc Ew14 Kpw14 Knw14 Krw14 Kaw14 Kbw14 Ddw14
  go_wp2_with (refine wpList_ld rfl 67 (.tmp 3) rfl gp 0 4 (pktC 1 2 4 (some ⟨gr, 0, none⟩) 1 1) (pktC 1 2 4 (some ⟨gr, 0, none⟩) 1 1) rfl Kpw15.out (by kernel_rfl) (by kernel_rfl) (Nat.le_refl 4) rfl ?_)
  refine (pkt_yes 1 2 4 nps (some ⟨gr, 0, none⟩) 1 1 w15 rfl (by decide) (by have h := Krw15.out.rd; rwa [← nwFlat] at h) nwPuts tkGood).mono ?_
  rintro en w16 ⟨elh, Ah, ch, rfl, hr, hnc, hcm, hle, hde, hb⟩
  have Ew16 : Hid (Below w.heap.size w w16) := Ew15.out.trans (hb.mono Ew15.out.size)
  have Knw16 : Hid (Bk w16 hn (NdC gd tkL)) := Knw15.out.below hb
  have Krw16 : Hid (Bk w16 gr (putC np3)) := Krw15.out.below hb
  have Kpw16 : Hid (Bk w16 gp (pktC 1 2 4 (some ⟨gr, 0, none⟩) 1 1)) := Kpw15.out.below hb
  have Kaw16 : Hid (Bk w16 ga (pktC 3 2 5 none 0 0)) := Kaw15.out.below hb
  have Kbw16 : Hid (Bk w16 gb (pktC 3 2 5 none 0 0)) := Kbw15.out.below hb
  have Ddw16 : Hid (DSes 92 w w16 gd gsd lvdw8 (UpD tkS)) := Ddw15.out.below hb
  clear Ew15 Knw15 Krw15 Kpw15 Kaw15 Kbw15 Ddw15
  have Rhw16 := Lib.hid hr
  have HCh : Hid (elh.length ≤ ch ∧ ch ≤ 9223372036854775807) := ⟨hnc, hcm⟩
  have HLEh : Hid (elh.length ≤ 33000) := hle
  have HDEh := Lib.hid hde
  clear hb hr hnc hcm hle hde
  go_wp2_with fail
  refine (take_no elh Ah elh.length ch w16 rfl HCh.out.1 HCh.out.2 HLEh.out Rhw16.out 1 2 4 nps HDEh.out (.inl rfl) gd gsd lvdw8 hn (UpD tkS) tkL Ddw16.out.at_ Knw16.out tkLat4 4 tkK4).mono ?_
  rintro en w17 ⟨rfl, hb⟩
  have Ew17 : Hid (Below w.heap.size w w17) := Ew16.out.trans (hb.mono Ew16.out.size)
  have Knw17 : Hid (Bk w17 hn (NdC gd tkL)) := Knw16.out.below hb
  have Krw17 : Hid (Bk w17 gr (putC np3)) := Krw16.out.below hb
  have Kpw17 : Hid (Bk w17 gp (pktC 1 2 4 (some ⟨gr, 0, none⟩) 1 1)) := Kpw16.out.below hb
  have Kaw17 : Hid (Bk w17 ga (pktC 3 2 5 none 0 0)) := Kaw16.out.below hb
  have Kbw17 : Hid (Bk w17 gb (pktC 3 2 5 none 0 0)) := Kbw16.out.below hb
  have Rhw17 : Hid (Rd w17 Ah (bts elh)) := Rhw16.out.below hb
  have Ddw17 : Hid (DSes 92 w w17 gd gsd lvdw8 (UpD tkS)) := Ddw16.out.below hb
  clear Ew16 Knw16 Krw16 Kpw16 Kaw16 Kbw16 Rhw16 Ddw16
  clear hb
  rw [tkLe]
  clear Rhw17 HCh HLEh HDEh
  go_wp2_with (refine wpList_al rfl 67 rfl zPkD (by kernel_rfl) ?_)
  intro gc w18 hg hb hc hs
  have HQc : Hid (Below w17.heap.size w17 w18) := hc.below (Nat.le_refl _) (fun _ _ => id)
  have HGc : Hid (gc = w17.heap.size) := hg
  have KZc := Lib.hid hb
  clear hg hb hc hs
  go_wp2_with (refine wpList_st rfl 67 (.tmp 8) (.tmp 43) rfl gc 0 4 zPkD (pktC 4 2 4 none 0 0) rfl rfl KZc.out (by kernel_rfl) rfl (by decide) (one_pktD _ _ _ _ _ _) ?_)
  intro w19 hbk hc
  rw [splice_whole zPkD (pktC 4 2 4 none 0 0) rfl] at hbk
  have hb : Below w17.heap.size w17 w19 := HQc.out.trans (hc.below HQc.out.size (fun q hq he => by have := HGc.out; omega))
  have Fdc : Hid (¬ footD gd gsd lvdw8 gc) := fun hj => by have := DiskAt.lt Ddw17.out.at_ _ hj; have := HGc.out; omega
  have Anc : Hid (hn < gc) := by show _ < _; have := Knw17.out.lt; have := HGc.out; omega
  have Arc : Hid (gr < gc) := by show _ < _; have := Krw17.out.lt; have := HGc.out; omega
  have Apc : Hid (gp < gc) := by show _ < _; have := Kpw17.out.lt; have := HGc.out; omega
  have Aac : Hid (ga < gc) := by show _ < _; have := Kaw17.out.lt; have := HGc.out; omega
  have Abc : Hid (gb < gc) := by show _ < _; have := Kbw17.out.lt; have := HGc.out; omega
  have Ew19 : Hid (Below w.heap.size w w19) := Ew17.out.trans (hb.mono Ew17.out.size)
  have Knw19 : Hid (Bk w19 hn (NdC gd tkL)) := Knw17.out.below hb
  have Krw19 : Hid (Bk w19 gr (putC np3)) := Krw17.out.below hb
  have Kpw19 : Hid (Bk w19 gp (pktC 1 2 4 (some ⟨gr, 0, none⟩) 1 1)) := Kpw17.out.below hb
  have Kaw19 : Hid (Bk w19 ga (pktC 3 2 5 none 0 0)) := Kaw17.out.below hb
  have Kbw19 : Hid (Bk w19 gb (pktC 3 2 5 none 0 0)) := Kbw17.out.below hb
  have Ddw19 : Hid (DSes 92 w w19 gd gsd lvdw8 (UpD tkS)) := Ddw17.out.below hb
  clear Ew17 Knw17 Krw17 Kpw17 Kaw17 Kbw17 Ddw17
  have Kcw19 : Hid (Bk w19 gc (pktC 4 2 4 none 0 0)) := hbk
  have Kcw19 : Hid (Bk w19 gc (pktC 4 2 4 none 0 0)) := hbk
  clear hbk hb hc KZc HQc HGc
  have kc := conv_bytes (P := Try.prog) 56 5 Try.underlying56 Try.underlying5
  go_wp2_with fail
  refine calls_at fun w20 hw => ?_
  have hb : Below w19.heap.size w19 w20 := by rw [← hw]; exact (Below.refl _ _).alloc (Nat.le_refl _) _
  have hrs : Rd w20 (some ⟨w19.heap.size, 0, none⟩) (bts [120]) := by rw [← hw]; exact Rd.row (S := NoS) (heap_alloc_new _ _)
  have hgs : ∃ gs, gs = w19.heap.size := ⟨_, rfl⟩
  obtain ⟨gs, hgs⟩ := hgs
  rw [← hgs] at hrs ⊢
  clear hw kc hgs
  have Ew20 : Hid (Below w.heap.size w w20) := Ew19.out.trans (hb.mono Ew19.out.size)
  have Knw20 : Hid (Bk w20 hn (NdC gd tkL)) := Knw19.out.below hb
  have Krw20 : Hid (Bk w20 gr (putC np3)) := Krw19.out.below hb
  have Kpw20 : Hid (Bk w20 gp (pktC 1 2 4 (some ⟨gr, 0, none⟩) 1 1)) := Kpw19.out.below hb
  have Kaw20 : Hid (Bk w20 ga (pktC 3 2 5 none 0 0)) := Kaw19.out.below hb
  have Kbw20 : Hid (Bk w20 gb (pktC 3 2 5 none 0 0)) := Kbw19.out.below hb
  have Kcw20 : Hid (Bk w20 gc (pktC 4 2 4 none 0 0)) := Kcw19.out.below hb
  have Ddw20 : Hid (DSes 92 w w20 gd gsd lvdw8 (UpD tkS)) := Ddw19.out.below hb
  clear Ew19 Knw19 Krw19 Kpw19 Kaw19 Kbw19 Kcw19 Ddw19
  have RS := Lib.hid hrs
  clear hb hrs
  refine (take_bad [120] (some ⟨gs, 0, none⟩) 1 1 w20 rfl (by decide) (by decide) (by decide) RS.out hn tkBad).mono ?_
  rintro en w21 ⟨rfl, hb⟩
  have Ew21 : Hid (Below w.heap.size w w21) := Ew20.out.trans (hb.mono Ew20.out.size)
  have Knw21 : Hid (Bk w21 hn (NdC gd tkL)) := Knw20.out.below hb
  have Krw21 : Hid (Bk w21 gr (putC np3)) := Krw20.out.below hb
  have Kpw21 : Hid (Bk w21 gp (pktC 1 2 4 (some ⟨gr, 0, none⟩) 1 1)) := Kpw20.out.below hb
  have Kaw21 : Hid (Bk w21 ga (pktC 3 2 5 none 0 0)) := Kaw20.out.below hb
  have Kbw21 : Hid (Bk w21 gb (pktC 3 2 5 none 0 0)) := Kbw20.out.below hb
  have Kcw21 : Hid (Bk w21 gc (pktC 4 2 4 none 0 0)) := Kcw20.out.below hb
  have Ddw21 : Hid (DSes 92 w w21 gd gsd lvdw8 (UpD tkS)) := Ddw20.out.below hb
  clear Ew20 Knw20 Krw20 Kpw20 Kaw20 Kbw20 Kcw20 Ddw20
  clear hb
  clear RS
  go_wp2_with (refine wpList_al rfl 67 rfl zPkD (by kernel_rfl) ?_)
  intro gz w22 hg hb hc hs
  have HQz : Hid (Below w21.heap.size w21 w22) := hc.below (Nat.le_refl _) (fun _ _ => id)
  have HGz : Hid (gz = w21.heap.size) := hg
  have KZz := Lib.hid hb
  clear hg hb hc hs
  go_wp2_with (refine wpList_st rfl 67 (.tmp 10) (.tmp 50) rfl gz 0 4 zPkD (pktC 0 0 0 none 0 0) rfl rfl KZz.out (by kernel_rfl) rfl (by decide) (one_pktD _ _ _ _ _ _) ?_)
  intro w23 hbk hc
  rw [splice_whole zPkD (pktC 0 0 0 none 0 0) rfl] at hbk
  have hb : Below w21.heap.size w21 w23 := HQz.out.trans (hc.below HQz.out.size (fun q hq he => by have := HGz.out; omega))
  have Fdz : Hid (¬ footD gd gsd lvdw8 gz) := fun hj => by have := DiskAt.lt Ddw21.out.at_ _ hj; have := HGz.out; omega
  have Anz : Hid (hn < gz) := by show _ < _; have := Knw21.out.lt; have := HGz.out; omega
  have Arz : Hid (gr < gz) := by show _ < _; have := Krw21.out.lt; have := HGz.out; omega
  have Apz : Hid (gp < gz) := by show _ < _; have := Kpw21.out.lt; have := HGz.out; omega
  have Aaz : Hid (ga < gz) := by show _ < _; have := Kaw21.out.lt; have := HGz.out; omega
  have Abz : Hid (gb < gz) := by show _ < _; have := Kbw21.out.lt; have := HGz.out; omega
  have Acz : Hid (gc < gz) := by show _ < _; have := Kcw21.out.lt; have := HGz.out; omega
  have Ew23 : Hid (Below w.heap.size w w23) := Ew21.out.trans (hb.mono Ew21.out.size)
  have Knw23 : Hid (Bk w23 hn (NdC gd tkL)) := Knw21.out.below hb
  have Krw23 : Hid (Bk w23 gr (putC np3)) := Krw21.out.below hb
  have Kpw23 : Hid (Bk w23 gp (pktC 1 2 4 (some ⟨gr, 0, none⟩) 1 1)) := Kpw21.out.below hb
  have Kaw23 : Hid (Bk w23 ga (pktC 3 2 5 none 0 0)) := Kaw21.out.below hb
  have Kbw23 : Hid (Bk w23 gb (pktC 3 2 5 none 0 0)) := Kbw21.out.below hb
  have Kcw23 : Hid (Bk w23 gc (pktC 4 2 4 none 0 0)) := Kcw21.out.below hb
  have Ddw23 : Hid (DSes 92 w w23 gd gsd lvdw8 (UpD tkS)) := Ddw21.out.below hb
  clear Ew21 Knw21 Krw21 Kpw21 Kaw21 Kbw21 Kcw21 Ddw21
  have Kzw23 : Hid (Bk w23 gz (pktC 0 0 0 none 0 0)) := hbk
  have Kzw23 : Hid (Bk w23 gz (pktC 0 0 0 none 0 0)) := hbk
  clear hbk hb hc KZz HQz HGz
  go_wp2_with fail
  refine (ndBlock_calls w23 gd gsd lvdw8 hn (UpD tkS) tkL 3 Ddw23.out.at_ Knw23.out (by decide) (by decide)).mono ?_
  rintro en w24 ⟨rfl, hb⟩
  have Ew24 : Hid (Below w.heap.size w w24) := Ew23.out.trans (hb.mono Ew23.out.size)
  have Knw24 : Hid (Bk w24 hn (NdC gd tkL)) := Knw23.out.below hb
  have Krw24 : Hid (Bk w24 gr (putC np3)) := Krw23.out.below hb
  have Kpw24 : Hid (Bk w24 gp (pktC 1 2 4 (some ⟨gr, 0, none⟩) 1 1)) := Kpw23.out.below hb
  have Kaw24 : Hid (Bk w24 ga (pktC 3 2 5 none 0 0)) := Kaw23.out.below hb
  have Kbw24 : Hid (Bk w24 gb (pktC 3 2 5 none 0 0)) := Kbw23.out.below hb
  have Kcw24 : Hid (Bk w24 gc (pktC 4 2 4 none 0 0)) := Kcw23.out.below hb
  have Kzw24 : Hid (Bk w24 gz (pktC 0 0 0 none 0 0)) := Kzw23.out.below hb
  have Ddw24 : Hid (DSes 92 w w24 gd gsd lvdw8 (UpD tkS)) := Ddw23.out.below hb
  clear Ew23 Knw23 Krw23 Kpw23 Kaw23 Kbw23 Kcw23 Kzw23 Ddw23
  clear hb
  rw [tkB1, tkB2]
  go_wp2_with (refine wpList_al rfl 35 rfl (bts (List.replicate 32 0)) (by kernel_rfl) ?_)
  intro gx w25 hg hb hc hs
  have HQx : Hid (Below w24.heap.size w24 w25) := hc.below (Nat.le_refl _) (fun _ _ => id)
  have HGx : Hid (gx = w24.heap.size) := hg
  have KZx := Lib.hid hb
  clear hg hb hc hs
  go_wp2_with (refine wpList_st rfl 35 (.tmp 12) (.tmp 61) rfl gx 0 32 (bts (List.replicate 32 0)) (bts (List.replicate 32 7)) rfl rfl KZx.out (by kernel_rfl) nw32 (by decide) (one_bts _) ?_)
  intro w26 hbk hc
  rw [splice_whole _ _ (by rfl)] at hbk
  have hb : Below w24.heap.size w24 w26 := HQx.out.trans (hc.below HQx.out.size (fun q hq he => by have := HGx.out; omega))
  have Anx : Hid (hn < gx) := by show _ < _; have := Knw24.out.lt; have := HGx.out; omega
  have Arx : Hid (gr < gx) := by show _ < _; have := Krw24.out.lt; have := HGx.out; omega
  have Apx : Hid (gp < gx) := by show _ < _; have := Kpw24.out.lt; have := HGx.out; omega
  have Aax : Hid (ga < gx) := by show _ < _; have := Kaw24.out.lt; have := HGx.out; omega
  have Abx : Hid (gb < gx) := by show _ < _; have := Kbw24.out.lt; have := HGx.out; omega
  have Acx : Hid (gc < gx) := by show _ < _; have := Kcw24.out.lt; have := HGx.out; omega
  have Azx : Hid (gz < gx) := by show _ < _; have := Kzw24.out.lt; have := HGx.out; omega
  have Ew26 : Hid (Below w.heap.size w w26) := Ew24.out.trans (hb.mono Ew24.out.size)
  have Knw26 : Hid (Bk w26 hn (NdC gd tkL)) := Knw24.out.below hb
  have Krw26 : Hid (Bk w26 gr (putC np3)) := Krw24.out.below hb
  have Kpw26 : Hid (Bk w26 gp (pktC 1 2 4 (some ⟨gr, 0, none⟩) 1 1)) := Kpw24.out.below hb
  have Kaw26 : Hid (Bk w26 ga (pktC 3 2 5 none 0 0)) := Kaw24.out.below hb
  have Kbw26 : Hid (Bk w26 gb (pktC 3 2 5 none 0 0)) := Kbw24.out.below hb
  have Kcw26 : Hid (Bk w26 gc (pktC 4 2 4 none 0 0)) := Kcw24.out.below hb
  have Kzw26 : Hid (Bk w26 gz (pktC 0 0 0 none 0 0)) := Kzw24.out.below hb
  have Ddw26 : Hid (DSes 92 w w26 gd gsd lvdw8 (UpD tkS)) := Ddw24.out.below hb
  clear Ew24 Knw24 Krw24 Kpw24 Kaw24 Kbw24 Kcw24 Kzw24 Ddw24
  have Kxw26 : Hid (Bk w26 gx (bts (List.replicate 32 7))) := hbk
  have Kxw26 : Hid (Bk w26 gx (bts (List.replicate 32 7))) := hbk
  clear hbk hb hc KZx HQx HGx
  go_wp2_with fail
  apply wp_region_rel 53 (Chg NoS) [(Veq _), (Veq _), (Veq _), (Veq _), (Veq _), (Veq _), (Veq _), (Veq _), (Veq _), (Veq _), (Veq _), (Veq _), (Veq _), (Veq _), (Veq _), (Veq _), (Veq _), (Veq _), (Veq _), (Veq _), (Veq _), (Veq _), (Veq _), (Veq _), (Veq _), (Veq _), (Veq _), (Veq _), (Veq _), (Veq _), (Veq _), (Veq _), (Veq _), (Veq _), (Veq _), (Veq _), (Veq _), (Veq _), (Veq _), (Veq _), (Veq _), (Veq _), (Veq _), (Veq _), (Veq _), (Veq _), (Veq _), (Veq _), (Veq _), (Veq _), (Veq _), (Veq (.bool true)), (Veq _)] [[], [0], [1], [2], [2, 3], [2, 4], [5], [6], [6, 7], [6, 8], [9], [10], [10, 11], [10, 12], [13], [14], [14, 15], [14, 16], [17], [18], [18, 19], [18, 20], [18, 21], [22], [23], [23, 24], [23, 25], [23, 26], [27], [28], [28, 29], [28, 30], [28, 31], [32], [33], [33, 34], [33, 35], [33, 36], [37], [38], [38, 39], [38, 40], [38, 41], [42], [43], [43, 44], [43, 45], [43, 46], [47], [48], [48], [48, 49, 50], [48, 51]] [63, 64, 65, 66, 67, 68, 69, 70, 71, 72, 73, 74, 75, 76, 77, 78, 79, 80, 81, 82, 83, 84, 85, 86, 87, 88, 89, 90, 91, 92, 93, 94, 95, 96, 97, 98, 99, 100, 101, 102, 103, 104, 105, 106, 107, 108, 109, 110, 111, 112, 113, 114, 115] (by kernel_rfl) (by kernel_rfl) rfl rfl rfl Chg.refl (fun _ _ _ => Chg.trans) ⟨Veq.lasts, Veq.lasts, Veq.lasts, Veq.lasts, Veq.lasts, Veq.lasts, Veq.lasts, Veq.lasts, Veq.lasts, Veq.lasts, Veq.lasts, Veq.lasts, Veq.lasts, Veq.lasts, Veq.lasts, Veq.lasts, Veq.lasts, Veq.lasts, Veq.lasts, Veq.lasts, Veq.lasts, Veq.lasts, Veq.lasts, Veq.lasts, Veq.lasts, Veq.lasts, Veq.lasts, Veq.lasts, Veq.lasts, Veq.lasts, Veq.lasts, Veq.lasts, Veq.lasts, Veq.lasts, Veq.lasts, Veq.lasts, Veq.lasts, Veq.lasts, Veq.lasts, Veq.lasts, Veq.lasts, Veq.lasts, Veq.lasts, Veq.lasts, Veq.lasts, Veq.lasts, Veq.lasts, Veq.lasts, Veq.lasts, Veq.lasts, Veq.lasts, Veq.lasts, Veq.lasts, trivial⟩ ?qops ?qfin
  case qops =>
    refine ⟨?qo0, ?qo1, ?qo2, ?qo3, ?qo4, ?qo5, ?qo6, ?qo7, ?qo8, ?qo9, ?qo10, ?qo11, ?qo12, ?qo13, ?qo14, ?qo15, ?qo16, ?qo17, ?qo18, ?qo19, ?qo20, ?qo21, ?qo22, ?qo23, ?qo24, ?qo25, ?qo26, ?qo27, ?qo28, ?qo29, ?qo30, ?qo31, ?qo32, ?qo33, ?qo34, ?qo35, ?qo36, ?qo37, ?qo38, ?qo39, ?qo40, ?qo41, ?qo42, ?qo43, ?qo44, ?qo45, ?qo46, ?qo47, ?qo48, ?qo49, ?qo50, ?qo51, ?qo52, trivial⟩
    case qo0 =>
      intro a wx hE hin
      have i5 : a.eval (.tmp 5) = .int .i64 0 := hin 5 rfl
      clear hin
      have hcst : ∀ v, a.eval (.const v) = v := fun _ => rfl
      have hfnc : ∀ f, a.eval (.func f) = .func (.func f) #[] #[] := fun _ => rfl
      refine want_none rfl ?_
      unfold Oper.wp
      generalize a.eval = ρ at *
      go_simp
      try go_bits
      first | exact rel_val (Chg.refl _) | (go_simp; exact rel_val (Chg.refl _))
    case qo1 =>
      rintro a wx hE hin (h0 : a.eval (.tmp 63) = _)
      clear hin
      have hcst : ∀ v, a.eval (.const v) = v := fun _ => rfl
      have hfnc : ∀ f, a.eval (.func f) = .func (.func f) #[] #[] := fun _ => rfl
      refine want_none rfl ?_
      unfold Oper.wp
      generalize a.eval = ρ at *
      go_simp
      try go_bits
      first | exact rel_val (Chg.refl _) | (go_simp; exact rel_val (Chg.refl _))
    case qo2 =>
      rintro a wx hE hin (h1 : a.eval (.tmp 64) = _)
      clear hin
      have hcst : ∀ v, a.eval (.const v) = v := fun _ => rfl
      have hfnc : ∀ f, a.eval (.func f) = .func (.func f) #[] #[] := fun _ => rfl
      refine want_none rfl ?_
      unfold Oper.wp
      generalize a.eval = ρ at *
      go_simp
      try go_bits
      first | exact rel_val (Chg.refl _) | (go_simp; exact rel_val (Chg.refl _))
    case qo3 =>
      rintro a wx hE hin (h2 : a.eval (.tmp 65) = _)
      have i7 : a.eval (.tmp 7) = .int .i64 0 := hin 7 rfl
      clear hin
      have hcst : ∀ v, a.eval (.const v) = v := fun _ => rfl
      have hfnc : ∀ f, a.eval (.func f) = .func (.func f) #[] #[] := fun _ => rfl
      refine want_yes rfl rfl h2 ?_
      unfold Oper.wp
      generalize a.eval = ρ at *
      go_simp
      try go_bits
      first | exact rel_val (Chg.refl _) | (go_simp; exact rel_val (Chg.refl _))
    case qo4 =>
      rintro a wx hE hin (h2 : a.eval (.tmp 65) = _) (h3 : a.eval (.tmp 66) = _)
      clear hin
      have hcst : ∀ v, a.eval (.const v) = v := fun _ => rfl
      have hfnc : ∀ f, a.eval (.func f) = .func (.func f) #[] #[] := fun _ => rfl
      refine want_yes rfl rfl h2 ?_
      unfold Oper.wp
      generalize a.eval = ρ at *
      go_simp
      try go_bits
      first | exact rel_val (Chg.refl _) | (go_simp; exact rel_val (Chg.refl _))
    case qo5 =>
      rintro a wx hE hin (h2 : a.eval (.tmp 65) = _) (h4 : a.eval (.tmp 67) = _)
      clear hin
      have hcst : ∀ v, a.eval (.const v) = v := fun _ => rfl
      have hfnc : ∀ f, a.eval (.func f) = .func (.func f) #[] #[] := fun _ => rfl
      refine want_none rfl ?_
      unfold Oper.wp
      generalize a.eval = ρ at *
      go_simp
      try go_bits
      first | exact rel_val (Chg.refl _) | (go_simp; exact rel_val (Chg.refl _))
    case qo6 =>
      rintro a wx hE hin (h5 : a.eval (.tmp 68) = _)
      clear hin
      have hcst : ∀ v, a.eval (.const v) = v := fun _ => rfl
      have hfnc : ∀ f, a.eval (.func f) = .func (.func f) #[] #[] := fun _ => rfl
      refine want_none rfl ?_
      unfold Oper.wp
      generalize a.eval = ρ at *
      go_simp
      try go_bits
      first | exact rel_val (Chg.refl _) | (go_simp; exact rel_val (Chg.refl _))
    case qo7 =>
      rintro a wx hE hin (h6 : a.eval (.tmp 69) = _)
      have i9 : a.eval (.tmp 9) = .int .i64 0 := hin 9 rfl
      clear hin
      have hcst : ∀ v, a.eval (.const v) = v := fun _ => rfl
      have hfnc : ∀ f, a.eval (.func f) = .func (.func f) #[] #[] := fun _ => rfl
      refine want_yes rfl rfl h6 ?_
      unfold Oper.wp
      generalize a.eval = ρ at *
      go_simp
      try go_bits
      first | exact rel_val (Chg.refl _) | (go_simp; exact rel_val (Chg.refl _))
    case qo8 =>
      rintro a wx hE hin (h6 : a.eval (.tmp 69) = _) (h7 : a.eval (.tmp 70) = _)
      clear hin
      have hcst : ∀ v, a.eval (.const v) = v := fun _ => rfl
      have hfnc : ∀ f, a.eval (.func f) = .func (.func f) #[] #[] := fun _ => rfl
      refine want_yes rfl rfl h6 ?_
      unfold Oper.wp
      generalize a.eval = ρ at *
      go_simp
      try go_bits
      first | exact rel_val (Chg.refl _) | (go_simp; exact rel_val (Chg.refl _))
    case qo9 =>
      rintro a wx hE hin (h6 : a.eval (.tmp 69) = _) (h8 : a.eval (.tmp 71) = _)
      clear hin
      have hcst : ∀ v, a.eval (.const v) = v := fun _ => rfl
      have hfnc : ∀ f, a.eval (.func f) = .func (.func f) #[] #[] := fun _ => rfl
      refine want_none rfl ?_
      unfold Oper.wp
      generalize a.eval = ρ at *
      go_simp
      try go_bits
      first | exact rel_val (Chg.refl _) | (go_simp; exact rel_val (Chg.refl _))
    case qo10 =>
      rintro a wx hE hin (h9 : a.eval (.tmp 72) = _)
      clear hin
      have hcst : ∀ v, a.eval (.const v) = v := fun _ => rfl
      have hfnc : ∀ f, a.eval (.func f) = .func (.func f) #[] #[] := fun _ => rfl
      refine want_none rfl ?_
      unfold Oper.wp
      generalize a.eval = ρ at *
      go_simp
      try go_bits
      first | exact rel_val (Chg.refl _) | (go_simp; exact rel_val (Chg.refl _))
    case qo11 =>
      rintro a wx hE hin (h10 : a.eval (.tmp 73) = _)
      have i11 : a.eval (.tmp 11) = .int .i64 11 := hin 11 rfl
      clear hin
      have hcst : ∀ v, a.eval (.const v) = v := fun _ => rfl
      have hfnc : ∀ f, a.eval (.func f) = .func (.func f) #[] #[] := fun _ => rfl
      refine want_yes rfl rfl h10 ?_
      unfold Oper.wp
      generalize a.eval = ρ at *
      go_simp
      try go_bits
      first | exact rel_val (Chg.refl _) | (go_simp; exact rel_val (Chg.refl _))
    case qo12 =>
      rintro a wx hE hin (h10 : a.eval (.tmp 73) = _) (h11 : a.eval (.tmp 74) = _)
      clear hin
      have hcst : ∀ v, a.eval (.const v) = v := fun _ => rfl
      have hfnc : ∀ f, a.eval (.func f) = .func (.func f) #[] #[] := fun _ => rfl
      refine want_yes rfl rfl h10 ?_
      unfold Oper.wp
      generalize a.eval = ρ at *
      go_simp
      try go_bits
      first | exact rel_val (Chg.refl _) | (go_simp; exact rel_val (Chg.refl _))
    case qo13 =>
      rintro a wx hE hin (h10 : a.eval (.tmp 73) = _) (h12 : a.eval (.tmp 75) = _)
      clear hin
      have hcst : ∀ v, a.eval (.const v) = v := fun _ => rfl
      have hfnc : ∀ f, a.eval (.func f) = .func (.func f) #[] #[] := fun _ => rfl
      refine want_none rfl ?_
      unfold Oper.wp
      generalize a.eval = ρ at *
      go_simp
      try go_bits
      first | exact rel_val (Chg.refl _) | (go_simp; exact rel_val (Chg.refl _))
    case qo14 =>
      rintro a wx hE hin (h13 : a.eval (.tmp 76) = _)
      clear hin
      have hcst : ∀ v, a.eval (.const v) = v := fun _ => rfl
      have hfnc : ∀ f, a.eval (.func f) = .func (.func f) #[] #[] := fun _ => rfl
      refine want_none rfl ?_
      unfold Oper.wp
      generalize a.eval = ρ at *
      go_simp
      try go_bits
      first | exact rel_val (Chg.refl _) | (go_simp; exact rel_val (Chg.refl _))
    case qo15 =>
      rintro a wx hE hin (h14 : a.eval (.tmp 77) = _)
      have i13 : a.eval (.tmp 13) = .int .i64 0 := hin 13 rfl
      clear hin
      have hcst : ∀ v, a.eval (.const v) = v := fun _ => rfl
      have hfnc : ∀ f, a.eval (.func f) = .func (.func f) #[] #[] := fun _ => rfl
      refine want_yes rfl rfl h14 ?_
      unfold Oper.wp
      generalize a.eval = ρ at *
      go_simp
      try go_bits
      first | exact rel_val (Chg.refl _) | (go_simp; exact rel_val (Chg.refl _))
    case qo16 =>
      rintro a wx hE hin (h14 : a.eval (.tmp 77) = _) (h15 : a.eval (.tmp 78) = _)
      clear hin
      have hcst : ∀ v, a.eval (.const v) = v := fun _ => rfl
      have hfnc : ∀ f, a.eval (.func f) = .func (.func f) #[] #[] := fun _ => rfl
      refine want_yes rfl rfl h14 ?_
      unfold Oper.wp
      generalize a.eval = ρ at *
      go_simp
      try go_bits
      first | exact rel_val (Chg.refl _) | (go_simp; exact rel_val (Chg.refl _))
    case qo17 =>
      rintro a wx hE hin (h14 : a.eval (.tmp 77) = _) (h16 : a.eval (.tmp 79) = _)
      clear hin
      have hcst : ∀ v, a.eval (.const v) = v := fun _ => rfl
      have hfnc : ∀ f, a.eval (.func f) = .func (.func f) #[] #[] := fun _ => rfl
      refine want_none rfl ?_
      unfold Oper.wp
      generalize a.eval = ρ at *
      go_simp
      try go_bits
      first | exact rel_val (Chg.refl _) | (go_simp; exact rel_val (Chg.refl _))
    case qo18 =>
      rintro a wx hE hin (h17 : a.eval (.tmp 80) = _)
      clear hin
      have hcst : ∀ v, a.eval (.const v) = v := fun _ => rfl
      have hfnc : ∀ f, a.eval (.func f) = .func (.func f) #[] #[] := fun _ => rfl
      refine want_none rfl ?_
      unfold Oper.wp
      generalize a.eval = ρ at *
      go_simp
      try go_bits
      first | exact rel_val (Chg.refl _) | (go_simp; exact rel_val (Chg.refl _))
    case qo19 =>
      rintro a wx hE hin (h18 : a.eval (.tmp 81) = _)
      have i4 : a.eval (.tmp 4) = .pointer (some ⟨ga, 0, none⟩) := hin 4 rfl
      clear hin
      have hcst : ∀ v, a.eval (.const v) = v := fun _ => rfl
      have hfnc : ∀ f, a.eval (.func f) = .func (.func f) #[] #[] := fun _ => rfl
      refine want_yes rfl rfl h18 ?_
      unfold Oper.wp
      generalize a.eval = ρ at *
      go_simp
      try go_bits
      first | exact rel_val (Chg.refl _) | (go_simp; exact rel_val (Chg.refl _))
    case qo20 =>
      rintro a wx hE hin (h18 : a.eval (.tmp 81) = _) (h19 : a.eval (.tmp 82) = _)
      clear hin
      have hcst : ∀ v, a.eval (.const v) = v := fun _ => rfl
      have hfnc : ∀ f, a.eval (.func f) = .func (.func f) #[] #[] := fun _ => rfl
      refine want_yes rfl rfl h18 ?_
      unfold Oper.wp
      generalize a.eval = ρ at *
      have c : wx.cell? ⟨ga, 0, none⟩ = some (.int .i64 3) := (Kaw26.out.drew.chg hE id).cell rfl
      go_simp
      try go_bits
      first | exact rel_val (Chg.refl _) | (go_simp; exact rel_val (Chg.refl _))
    case qo21 =>
      rintro a wx hE hin (h18 : a.eval (.tmp 81) = _) (h20 : a.eval (.tmp 83) = _)
      clear hin
      have hcst : ∀ v, a.eval (.const v) = v := fun _ => rfl
      have hfnc : ∀ f, a.eval (.func f) = .func (.func f) #[] #[] := fun _ => rfl
      refine want_yes rfl rfl h18 ?_
      unfold Oper.wp
      generalize a.eval = ρ at *
      go_simp
      try go_bits
      first | exact rel_val (Chg.refl _) | (go_simp; exact rel_val (Chg.refl _))
    case qo22 =>
      rintro a wx hE hin (h18 : a.eval (.tmp 81) = _) (h21 : a.eval (.tmp 84) = _)
      clear hin
      have hcst : ∀ v, a.eval (.const v) = v := fun _ => rfl
      have hfnc : ∀ f, a.eval (.func f) = .func (.func f) #[] #[] := fun _ => rfl
      refine want_none rfl ?_
      unfold Oper.wp
      generalize a.eval = ρ at *
      go_simp
      try go_bits
      first | exact rel_val (Chg.refl _) | (go_simp; exact rel_val (Chg.refl _))
    case qo23 =>
      rintro a wx hE hin (h22 : a.eval (.tmp 85) = _)
      clear hin
      have hcst : ∀ v, a.eval (.const v) = v := fun _ => rfl
      have hfnc : ∀ f, a.eval (.func f) = .func (.func f) #[] #[] := fun _ => rfl
      refine want_none rfl ?_
      unfold Oper.wp
      generalize a.eval = ρ at *
      go_simp
      try go_bits
      first | exact rel_val (Chg.refl _) | (go_simp; exact rel_val (Chg.refl _))
    case qo24 =>
      rintro a wx hE hin (h23 : a.eval (.tmp 86) = _)
      have i4 : a.eval (.tmp 4) = .pointer (some ⟨ga, 0, none⟩) := hin 4 rfl
      clear hin
      have hcst : ∀ v, a.eval (.const v) = v := fun _ => rfl
      have hfnc : ∀ f, a.eval (.func f) = .func (.func f) #[] #[] := fun _ => rfl
      refine want_yes rfl rfl h23 ?_
      unfold Oper.wp
      generalize a.eval = ρ at *
      go_simp
      try go_bits
      first | exact rel_val (Chg.refl _) | (go_simp; exact rel_val (Chg.refl _))
    case qo25 =>
      rintro a wx hE hin (h23 : a.eval (.tmp 86) = _) (h24 : a.eval (.tmp 87) = _)
      clear hin
      have hcst : ∀ v, a.eval (.const v) = v := fun _ => rfl
      have hfnc : ∀ f, a.eval (.func f) = .func (.func f) #[] #[] := fun _ => rfl
      refine want_yes rfl rfl h23 ?_
      unfold Oper.wp
      generalize a.eval = ρ at *
      have c : wx.cell? ⟨ga, 2, none⟩ = some (.int .u32 5) := (Kaw26.out.drew.chg hE id).cell rfl
      go_simp
      try go_bits
      first | exact rel_val (Chg.refl _) | (go_simp; exact rel_val (Chg.refl _))
    case qo26 =>
      rintro a wx hE hin (h23 : a.eval (.tmp 86) = _) (h25 : a.eval (.tmp 88) = _)
      clear hin
      have hcst : ∀ v, a.eval (.const v) = v := fun _ => rfl
      have hfnc : ∀ f, a.eval (.func f) = .func (.func f) #[] #[] := fun _ => rfl
      refine want_yes rfl rfl h23 ?_
      unfold Oper.wp
      generalize a.eval = ρ at *
      go_simp
      try go_bits
      first | exact rel_val (Chg.refl _) | (go_simp; exact rel_val (Chg.refl _))
    case qo27 =>
      rintro a wx hE hin (h23 : a.eval (.tmp 86) = _) (h26 : a.eval (.tmp 89) = _)
      clear hin
      have hcst : ∀ v, a.eval (.const v) = v := fun _ => rfl
      have hfnc : ∀ f, a.eval (.func f) = .func (.func f) #[] #[] := fun _ => rfl
      refine want_none rfl ?_
      unfold Oper.wp
      generalize a.eval = ρ at *
      go_simp
      try go_bits
      first | exact rel_val (Chg.refl _) | (go_simp; exact rel_val (Chg.refl _))
    case qo28 =>
      rintro a wx hE hin (h27 : a.eval (.tmp 90) = _)
      clear hin
      have hcst : ∀ v, a.eval (.const v) = v := fun _ => rfl
      have hfnc : ∀ f, a.eval (.func f) = .func (.func f) #[] #[] := fun _ => rfl
      refine want_none rfl ?_
      unfold Oper.wp
      generalize a.eval = ρ at *
      go_simp
      try go_bits
      first | exact rel_val (Chg.refl _) | (go_simp; exact rel_val (Chg.refl _))
    case qo29 =>
      rintro a wx hE hin (h28 : a.eval (.tmp 91) = _)
      have i6 : a.eval (.tmp 6) = .pointer (some ⟨gb, 0, none⟩) := hin 6 rfl
      clear hin
      have hcst : ∀ v, a.eval (.const v) = v := fun _ => rfl
      have hfnc : ∀ f, a.eval (.func f) = .func (.func f) #[] #[] := fun _ => rfl
      refine want_yes rfl rfl h28 ?_
      unfold Oper.wp
      generalize a.eval = ρ at *
      go_simp
      try go_bits
      first | exact rel_val (Chg.refl _) | (go_simp; exact rel_val (Chg.refl _))
    case qo30 =>
      rintro a wx hE hin (h28 : a.eval (.tmp 91) = _) (h29 : a.eval (.tmp 92) = _)
      clear hin
      have hcst : ∀ v, a.eval (.const v) = v := fun _ => rfl
      have hfnc : ∀ f, a.eval (.func f) = .func (.func f) #[] #[] := fun _ => rfl
      refine want_yes rfl rfl h28 ?_
      unfold Oper.wp
      generalize a.eval = ρ at *
      have c : wx.cell? ⟨gb, 0, none⟩ = some (.int .i64 3) := (Kbw26.out.drew.chg hE id).cell rfl
      go_simp
      try go_bits
      first | exact rel_val (Chg.refl _) | (go_simp; exact rel_val (Chg.refl _))
    case qo31 =>
      rintro a wx hE hin (h28 : a.eval (.tmp 91) = _) (h30 : a.eval (.tmp 93) = _)
      clear hin
      have hcst : ∀ v, a.eval (.const v) = v := fun _ => rfl
      have hfnc : ∀ f, a.eval (.func f) = .func (.func f) #[] #[] := fun _ => rfl
      refine want_yes rfl rfl h28 ?_
      unfold Oper.wp
      generalize a.eval = ρ at *
      go_simp
      try go_bits
      first | exact rel_val (Chg.refl _) | (go_simp; exact rel_val (Chg.refl _))
    case qo32 =>
      rintro a wx hE hin (h28 : a.eval (.tmp 91) = _) (h31 : a.eval (.tmp 94) = _)
      clear hin
      have hcst : ∀ v, a.eval (.const v) = v := fun _ => rfl
      have hfnc : ∀ f, a.eval (.func f) = .func (.func f) #[] #[] := fun _ => rfl
      refine want_none rfl ?_
      unfold Oper.wp
      generalize a.eval = ρ at *
      go_simp
      try go_bits
      first | exact rel_val (Chg.refl _) | (go_simp; exact rel_val (Chg.refl _))
    case qo33 =>
      rintro a wx hE hin (h32 : a.eval (.tmp 95) = _)
      clear hin
      have hcst : ∀ v, a.eval (.const v) = v := fun _ => rfl
      have hfnc : ∀ f, a.eval (.func f) = .func (.func f) #[] #[] := fun _ => rfl
      refine want_none rfl ?_
      unfold Oper.wp
      generalize a.eval = ρ at *
      go_simp
      try go_bits
      first | exact rel_val (Chg.refl _) | (go_simp; exact rel_val (Chg.refl _))
    case qo34 =>
      rintro a wx hE hin (h33 : a.eval (.tmp 96) = _)
      have i8 : a.eval (.tmp 8) = .pointer (some ⟨gc, 0, none⟩) := hin 8 rfl
      clear hin
      have hcst : ∀ v, a.eval (.const v) = v := fun _ => rfl
      have hfnc : ∀ f, a.eval (.func f) = .func (.func f) #[] #[] := fun _ => rfl
      refine want_yes rfl rfl h33 ?_
      unfold Oper.wp
      generalize a.eval = ρ at *
      go_simp
      try go_bits
      first | exact rel_val (Chg.refl _) | (go_simp; exact rel_val (Chg.refl _))
    case qo35 =>
      rintro a wx hE hin (h33 : a.eval (.tmp 96) = _) (h34 : a.eval (.tmp 97) = _)
      clear hin
      have hcst : ∀ v, a.eval (.const v) = v := fun _ => rfl
      have hfnc : ∀ f, a.eval (.func f) = .func (.func f) #[] #[] := fun _ => rfl
      refine want_yes rfl rfl h33 ?_
      unfold Oper.wp
      generalize a.eval = ρ at *
      have c : wx.cell? ⟨gc, 0, none⟩ = some (.int .i64 4) := (Kcw26.out.drew.chg hE id).cell rfl
      go_simp
      try go_bits
      first | exact rel_val (Chg.refl _) | (go_simp; exact rel_val (Chg.refl _))
    case qo36 =>
      rintro a wx hE hin (h33 : a.eval (.tmp 96) = _) (h35 : a.eval (.tmp 98) = _)
      clear hin
      have hcst : ∀ v, a.eval (.const v) = v := fun _ => rfl
      have hfnc : ∀ f, a.eval (.func f) = .func (.func f) #[] #[] := fun _ => rfl
      refine want_yes rfl rfl h33 ?_
      unfold Oper.wp
      generalize a.eval = ρ at *
      go_simp
      try go_bits
      first | exact rel_val (Chg.refl _) | (go_simp; exact rel_val (Chg.refl _))
    case qo37 =>
      rintro a wx hE hin (h33 : a.eval (.tmp 96) = _) (h36 : a.eval (.tmp 99) = _)
      clear hin
      have hcst : ∀ v, a.eval (.const v) = v := fun _ => rfl
      have hfnc : ∀ f, a.eval (.func f) = .func (.func f) #[] #[] := fun _ => rfl
      refine want_none rfl ?_
      unfold Oper.wp
      generalize a.eval = ρ at *
      go_simp
      try go_bits
      first | exact rel_val (Chg.refl _) | (go_simp; exact rel_val (Chg.refl _))
    case qo38 =>
      rintro a wx hE hin (h37 : a.eval (.tmp 100) = _)
      clear hin
      have hcst : ∀ v, a.eval (.const v) = v := fun _ => rfl
      have hfnc : ∀ f, a.eval (.func f) = .func (.func f) #[] #[] := fun _ => rfl
      refine want_none rfl ?_
      unfold Oper.wp
      generalize a.eval = ρ at *
      go_simp
      try go_bits
      first | exact rel_val (Chg.refl _) | (go_simp; exact rel_val (Chg.refl _))
    case qo39 =>
      rintro a wx hE hin (h38 : a.eval (.tmp 101) = _)
      have i8 : a.eval (.tmp 8) = .pointer (some ⟨gc, 0, none⟩) := hin 8 rfl
      clear hin
      have hcst : ∀ v, a.eval (.const v) = v := fun _ => rfl
      have hfnc : ∀ f, a.eval (.func f) = .func (.func f) #[] #[] := fun _ => rfl
      refine want_yes rfl rfl h38 ?_
      unfold Oper.wp
      generalize a.eval = ρ at *
      go_simp
      try go_bits
      first | exact rel_val (Chg.refl _) | (go_simp; exact rel_val (Chg.refl _))
    case qo40 =>
      rintro a wx hE hin (h38 : a.eval (.tmp 101) = _) (h39 : a.eval (.tmp 102) = _)
      clear hin
      have hcst : ∀ v, a.eval (.const v) = v := fun _ => rfl
      have hfnc : ∀ f, a.eval (.func f) = .func (.func f) #[] #[] := fun _ => rfl
      refine want_yes rfl rfl h38 ?_
      unfold Oper.wp
      generalize a.eval = ρ at *
      have c : wx.cell? ⟨gc, 2, none⟩ = some (.int .u32 4) := (Kcw26.out.drew.chg hE id).cell rfl
      go_simp
      try go_bits
      first | exact rel_val (Chg.refl _) | (go_simp; exact rel_val (Chg.refl _))
    case qo41 =>
      rintro a wx hE hin (h38 : a.eval (.tmp 101) = _) (h40 : a.eval (.tmp 103) = _)
      clear hin
      have hcst : ∀ v, a.eval (.const v) = v := fun _ => rfl
      have hfnc : ∀ f, a.eval (.func f) = .func (.func f) #[] #[] := fun _ => rfl
      refine want_yes rfl rfl h38 ?_
      unfold Oper.wp
      generalize a.eval = ρ at *
      go_simp
      try go_bits
      first | exact rel_val (Chg.refl _) | (go_simp; exact rel_val (Chg.refl _))
    case qo42 =>
      rintro a wx hE hin (h38 : a.eval (.tmp 101) = _) (h41 : a.eval (.tmp 104) = _)
      clear hin
      have hcst : ∀ v, a.eval (.const v) = v := fun _ => rfl
      have hfnc : ∀ f, a.eval (.func f) = .func (.func f) #[] #[] := fun _ => rfl
      refine want_none rfl ?_
      unfold Oper.wp
      generalize a.eval = ρ at *
      go_simp
      try go_bits
      first | exact rel_val (Chg.refl _) | (go_simp; exact rel_val (Chg.refl _))
    case qo43 =>
      rintro a wx hE hin (h42 : a.eval (.tmp 105) = _)
      clear hin
      have hcst : ∀ v, a.eval (.const v) = v := fun _ => rfl
      have hfnc : ∀ f, a.eval (.func f) = .func (.func f) #[] #[] := fun _ => rfl
      refine want_none rfl ?_
      unfold Oper.wp
      generalize a.eval = ρ at *
      go_simp
      try go_bits
      first | exact rel_val (Chg.refl _) | (go_simp; exact rel_val (Chg.refl _))
    case qo44 =>
      rintro a wx hE hin (h43 : a.eval (.tmp 106) = _)
      have i8 : a.eval (.tmp 8) = .pointer (some ⟨gc, 0, none⟩) := hin 8 rfl
      clear hin
      have hcst : ∀ v, a.eval (.const v) = v := fun _ => rfl
      have hfnc : ∀ f, a.eval (.func f) = .func (.func f) #[] #[] := fun _ => rfl
      refine want_yes rfl rfl h43 ?_
      unfold Oper.wp
      generalize a.eval = ρ at *
      go_simp
      try go_bits
      first | exact rel_val (Chg.refl _) | (go_simp; exact rel_val (Chg.refl _))
    case qo45 =>
      rintro a wx hE hin (h43 : a.eval (.tmp 106) = _) (h44 : a.eval (.tmp 107) = _)
      clear hin
      have hcst : ∀ v, a.eval (.const v) = v := fun _ => rfl
      have hfnc : ∀ f, a.eval (.func f) = .func (.func f) #[] #[] := fun _ => rfl
      refine want_yes rfl rfl h43 ?_
      unfold Oper.wp
      generalize a.eval = ρ at *
      have c : wx.cell? ⟨gc, 1, none⟩ = some (.int .u32 2) := (Kcw26.out.drew.chg hE id).cell rfl
      go_simp
      try go_bits
      first | exact rel_val (Chg.refl _) | (go_simp; exact rel_val (Chg.refl _))
    case qo46 =>
      rintro a wx hE hin (h43 : a.eval (.tmp 106) = _) (h45 : a.eval (.tmp 108) = _)
      clear hin
      have hcst : ∀ v, a.eval (.const v) = v := fun _ => rfl
      have hfnc : ∀ f, a.eval (.func f) = .func (.func f) #[] #[] := fun _ => rfl
      refine want_yes rfl rfl h43 ?_
      unfold Oper.wp
      generalize a.eval = ρ at *
      go_simp
      try go_bits
      first | exact rel_val (Chg.refl _) | (go_simp; exact rel_val (Chg.refl _))
    case qo47 =>
      rintro a wx hE hin (h43 : a.eval (.tmp 106) = _) (h46 : a.eval (.tmp 109) = _)
      clear hin
      have hcst : ∀ v, a.eval (.const v) = v := fun _ => rfl
      have hfnc : ∀ f, a.eval (.func f) = .func (.func f) #[] #[] := fun _ => rfl
      refine want_none rfl ?_
      unfold Oper.wp
      generalize a.eval = ρ at *
      go_simp
      try go_bits
      first | exact rel_val (Chg.refl _) | (go_simp; exact rel_val (Chg.refl _))
    case qo48 =>
      rintro a wx hE hin (h47 : a.eval (.tmp 110) = _)
      clear hin
      have hcst : ∀ v, a.eval (.const v) = v := fun _ => rfl
      have hfnc : ∀ f, a.eval (.func f) = .func (.func f) #[] #[] := fun _ => rfl
      refine want_none rfl ?_
      unfold Oper.wp
      generalize a.eval = ρ at *
      go_simp
      try go_bits
      first | exact rel_val (Chg.refl _) | (go_simp; exact rel_val (Chg.refl _))
    case qo49 =>
      rintro a wx hE hin (h48 : a.eval (.tmp 111) = _)
      have i12 : a.eval (.tmp 12) = .pointer (some ⟨gx, 0, none⟩) := hin 12 rfl
      clear hin
      have hcst : ∀ v, a.eval (.const v) = v := fun _ => rfl
      have hfnc : ∀ f, a.eval (.func f) = .func (.func f) #[] #[] := fun _ => rfl
      refine want_yes rfl rfl h48 ?_
      exact wp_ld 35 _ rfl gx 0 32 (bts (List.replicate 32 7)) (bts (List.replicate 32 7)) i12 (Kxw26.out.drew.chg hE id) (by kernel_rfl) (by kernel_rfl) (by decide) rfl (rel_val (Chg.refl _))
    case qo50 =>
      rintro a wx hE hin (h48 : a.eval (.tmp 111) = _)
      clear hin
      have hcst : ∀ v, a.eval (.const v) = v := fun _ => rfl
      have hfnc : ∀ f, a.eval (.func f) = .func (.func f) #[] #[] := fun _ => rfl
      refine want_yes rfl rfl h48 ?_
      unfold Oper.wp
      generalize a.eval = ρ at *
      go_simp
      go_simp
      refine (fill_calls 7 wx).mono ?_
      rintro e w' ⟨rfl, hb⟩
      exact rel_val (.of_below hb)
    case qo51 =>
      rintro a wx hE hin (h48 : a.eval (.tmp 111) = _) (h49 : a.eval (.tmp 112) = _) (h50 : a.eval (.tmp 113) = _)
      clear hin
      have hcst : ∀ v, a.eval (.const v) = v := fun _ => rfl
      have hfnc : ∀ f, a.eval (.func f) = .func (.func f) #[] #[] := fun _ => rfl
      refine want_yes rfl rfl h48 ?_
      exact wp_eq_bytes false 35 35 _ _ rfl 5 32 Try.underlying35 Try.underlying5 (by kernel_rfl) (by kernel_rfl) (List.replicate 32 7) (List.replicate 32 7) h49 h50 (by decide) (by decide) (by rw [show (false ^^ decide ((List.replicate 32 (7 : UInt8)) = List.replicate 32 7)) = true by decide]; exact rel_val (Chg.refl _))
    case qo52 =>
      rintro a wx hE hin (h48 : a.eval (.tmp 111) = _) (h51 : a.eval (.tmp 114) = _)
      clear hin
      have hcst : ∀ v, a.eval (.const v) = v := fun _ => rfl
      have hfnc : ∀ f, a.eval (.func f) = .func (.func f) #[] #[] := fun _ => rfl
      refine want_none rfl ?_
      unfold Oper.wp
      generalize a.eval = ρ at *
      go_simp
      try go_bits
      first | exact rel_val (Chg.refl _) | (go_simp; exact rel_val (Chg.refl _))
  case qfin =>
    intro wx hE
    rintro _ rfl _ rfl _ rfl _ rfl _ rfl _ rfl _ rfl _ rfl _ rfl _ rfl _ rfl _ rfl _ rfl _ rfl _ rfl _ rfl _ rfl _ rfl _ rfl _ rfl _ rfl _ rfl _ rfl _ rfl _ rfl _ rfl _ rfl _ rfl _ rfl _ rfl _ rfl _ rfl _ rfl _ rfl _ rfl _ rfl _ rfl _ rfl _ rfl _ rfl _ rfl _ rfl _ rfl _ rfl _ rfl _ rfl _ rfl _ rfl _ rfl _ rfl _ rfl _ rfl _ rfl
    simp only [FinOk, List.take_succ_cons, List.take_zero, List.take_nil, List.drop_succ_cons, List.drop_zero, List.drop_nil, Act.put, List.setIfInBounds_toArray, List.set_cons_succ, List.set_cons_zero]
    have HE : Hid (Below w.heap.size w wx) := Ew26.out.trans ((hE.undrew).below (B := w.heap.size) Ew26.out.size (fun _ _ => id))
    clear hE
    go_wp2_with fail
    (try simp only [Exit.inBlock, Exit.then])
    go_ret
    exact ⟨rfl, HE.out⟩
end Go.Proofs.Ytcmfkdfegfablaa
