
import Derived.BigGuard
import Derived.Test.YtcmfkdfegfablaaPkPlain
import Derived.Test.YtcmfkdfegfablaaNodeLaw

/- taker.Take. -/
namespace Go.Proofs.Ytcmfkdfegfablaa
open Go.RowKit
set_option linter.unusedVariables false
set_option linter.unusedSimpArgs false

set_option maxRecDepth 100000 in
set_option maxHeartbeats 4000000 in
theorem take_nil (A0 : Option Addr) (n c : Nat) (w : World) :
    Calls Try.prog 26 #[.pointer none, .slice A0 n c] w fun en w' => en = .returned (.tuple #[.agg (pktC 0 0 0 none 0 0).toArray, .int .i64 1]) ∧ Below w.heap.size w w' := by
  go_enter Try.func26, Try.ntmps26
  go_wp2_with (refine wpList_al rfl 67 rfl zPkD (by kernel_rfl) ?_)
  intro gr w1 hg hbk hc hs
  subst hg
  have K1 := Lib.hid hbk
  have E1 : Hid (Below w.heap.size w w1) := hc.below (Nat.le_refl _) (fun _ _ => id)
  clear hbk hc hs
  go_wp2_with (first
    | (refine wpList_bld rfl 67 [] rfl zPkD [] zPkD (by kernel_rfl) (by kernel_rfl) trivial rfl ?_)
    | (refine wpList_st rfl 67 (.tmp 4) (.tmp 13) rfl w.heap.size 0 4 zPkD zPkD rfl rfl K1.out (by kernel_rfl) rfl (by decide) (one_pktD _ _ _ _ _ _) ?_))
  intro w2 hbk hc
  rw [splice_whole zPkD zPkD rfl] at hbk
  have KR := Lib.hid hbk
  have CR := Lib.hid hc
  clear hbk hc
  go_wp2_with fail
  (try simp only [Exit.inBlock, Exit.then])
  refine bodyPost_ret (res_cell_tmp rfl _ _ w.heap.size 4 _ rfl KR.out (by kernel_rfl) (by kernel_rfl) rfl) rfl ?_
  exact ⟨rfl, E1.out.trans (CR.out.below E1.out.size (fun q hq he => by omega))⟩
set_option maxRecDepth 100000 in
set_option maxHeartbeats 16000000 in
theorem take_yes (b : List UInt8) (A0 : Option Addr) (n c : Nat) (w : World) (hl : b.length = n) (hnc : n ≤ c) (hcm : c ≤ 9223372036854775807) (hm : n ≤ 33000) (hr : Rd w A0 (bts b)) (k : Int) (e q : UInt32) (ps : List PutV) (hd : decP b = ((k, e, q, ps), 0)) (hk : k = 1 ∨ k = 2) (g gs : Nat) (lv : Value) (h : Nat) (s : Dst) (L : Lab) (hda : DAt 92 w g gs lv s) (hb : Bk w h (NdC g L)) (m : Nat) (hf : ¬ footD g gs lv h) (hok : DOk (-1) m s) (hm9 : m ≤ 900) (hok9 : goodB ps = true → (s.walPut 1 e q ps).2 = 0 → DOk (-1) m (s.walPut 1 e q ps).1) (t : Dst) (L2 : Lab) (hlat : laterB e q L.e L.s = true) (hap : s.nApply L e q ps L.d = (t, 0)) (hl2 : labAfter L (carryL L e q ps L.d) 0 = L2) :
    Calls Try.prog 26 #[.pointer (some ⟨h, 0, none⟩), .slice A0 n c] w (NPost w g gs lv h t L2 (.tuple #[.agg (pktC 3 e q none 0 0).toArray, .int .i64 0])) := by
  have HD := Lib.hid hda
  have HB := Lib.hid hb
  have HLH : Hid (h < w.heap.size) := HB.out.lt
  clear hda hb
  have HRB := Lib.hid hr
  have HLB := Lib.hid hl
  clear hr hl
  go_enter Try.func26, Try.ntmps26
  go_wp2_with (refine wpList_al rfl 67 rfl zPkD (by kernel_rfl) ?_)
  intro gr w1 hg hbk hc hs
  subst hg
  have K1 := Lib.hid hbk
  have E1 : Hid (Below w.heap.size w w1) := hc.below (Nat.le_refl _) (fun _ _ => id)
  clear hbk hc hs
  go_wp2_with fail
  refine (packDecode_callsN b A0 n c w1 HLB.out hnc hcm hm (HRB.out.below E1.out)).mono ?_
  intro en w2 hp
  rw [hd] at hp
  obtain ⟨Ap, cp, he, hr2, hnc2, hcm2, hok2, hb, hrn⟩ := hp
  have he' : en = .returned (.tuple #[.agg (pktC k e q Ap ps.length cp).toArray, .int .i64 0]) := he
  subst he'
  have E2 : Hid (Below w.heap.size w w2) := E1.out.trans (hb.mono E1.out.size)
  have Kr2 : Hid (Bk w2 w.heap.size zPkD) := K1.out.below hb
  have HRN : Hid (∀ (T : Nat → Prop) (w' : World), Chg T w2 w' → (∀ j, T j → j < w.heap.size) → Rd w' Ap (ps.flatMap putC)) := fun T w' h1 h2 => hrn T w' h1 (fun j hj => Nat.lt_of_lt_of_le (h2 j hj) E1.out.size)
  have HPO : Hid (PutsOk ps) := hok2
  clear he hb hr2 hnc2 hcm2 hok2 hrn hd
  rcases hk with rfl | rfl
  · have Z2 : Hid (Below w2.heap.size w2 w2) := Below.refl _ _
    have Kn2 : Hid (Bk w2 h (NdC g L)) := HB.out.below E2.out
    go_wp2_with (refine wpList_al rfl 67 rfl zPkD (by kernel_rfl) ?_)
    intro gp x1 hg hb hc hs
    have HQp : Hid (Below w2.heap.size w2 x1) := hc.below (Nat.le_refl _) (fun _ _ => id)
    have HGp : Hid (gp = w2.heap.size) := hg
    have KZp := Lib.hid hb
    clear hg hb hc hs
    go_wp2_with (refine wpList_st rfl 67 (.tmp 6) (.tmp 17) rfl gp 0 4 zPkD (pktC 1 e q Ap ps.length cp) rfl rfl KZp.out (by kernel_rfl) rfl (by decide) (one_pktD _ _ _ _ _ _) ?_)
    intro x2 hbk hc
    rw [splice_whole zPkD (pktC 1 e q Ap ps.length cp) rfl] at hbk
    have hb : Below w2.heap.size w2 x2 := HQp.out.trans (hc.below HQp.out.size (fun q hq he => by have := HGp.out; omega))
    have Arp : Hid (w.heap.size < gp) := by show _ < _; have := Kr2.out.lt; have := HGp.out; omega
    have Anp : Hid (h < gp) := by show _ < _; have := Kn2.out.lt; have := HGp.out; omega
    have Ex2 : Hid (Below w2.heap.size w2 x2) := Z2.out.trans (hb.mono Z2.out.size)
    have Krx2 : Hid (Bk x2 w.heap.size zPkD) := Kr2.out.below hb
    have Knx2 : Hid (Bk x2 h (NdC g L)) := Kn2.out.below hb
    clear Z2 Kr2 Kn2
    have Kpx2 : Hid (Bk x2 gp (pktC 1 e q Ap ps.length cp)) := hbk
    have Kpx2 : Hid (Bk x2 gp (pktC 1 e q Ap ps.length cp)) := hbk
    clear hbk hb hc KZp HQp HGp
    have cp0 : x2.cell? ⟨gp, 0, none⟩ = some (.int .i64 1) := Kpx2.out.cell rfl
    go_wp2_with fail
    clear cp0
    refine (ndLabel_calls x2 g h L Knx2.out).mono ?_
    rintro en x3 ⟨rfl, hb⟩
    have Ex3 : Hid (Below w2.heap.size w2 x3) := Ex2.out.trans (hb.mono Ex2.out.size)
    have Krx3 : Hid (Bk x3 w.heap.size zPkD) := Krx2.out.below hb
    have Knx3 : Hid (Bk x3 h (NdC g L)) := Knx2.out.below hb
    have Kpx3 : Hid (Bk x3 gp (pktC 1 e q Ap ps.length cp)) := Kpx2.out.below hb
    clear Ex2 Krx2 Knx2 Kpx2
    clear hb
    go_wp2_with (refine wpList_al rfl 40 rfl (labC zLab) (by kernel_rfl) ?_)
    intro gl x4 hg hb hc hs
    have HQl : Hid (Below x3.heap.size x3 x4) := hc.below (Nat.le_refl _) (fun _ _ => id)
    have HGl : Hid (gl = x3.heap.size) := hg
    have KZl := Lib.hid hb
    clear hg hb hc hs
    go_wp2_with (refine wpList_st rfl 40 (.tmp 8) (.tmp 33) rfl gl 0 5 (labC zLab) (labC L) rfl rfl KZl.out (by kernel_rfl) rfl (by decide) (one_lab L) ?_)
    intro x5 hbk hc
    rw [splice_whole (labC zLab) (labC L) rfl] at hbk
    have hb : Below x3.heap.size x3 x5 := HQl.out.trans (hc.below HQl.out.size (fun q hq he => by have := HGl.out; omega))
    have Arl : Hid (w.heap.size < gl) := by show _ < _; have := Krx3.out.lt; have := HGl.out; omega
    have Anl : Hid (h < gl) := by show _ < _; have := Knx3.out.lt; have := HGl.out; omega
    have Apl : Hid (gp < gl) := by show _ < _; have := Kpx3.out.lt; have := HGl.out; omega
    have Ex5 : Hid (Below w2.heap.size w2 x5) := Ex3.out.trans (hb.mono Ex3.out.size)
    have Krx5 : Hid (Bk x5 w.heap.size zPkD) := Krx3.out.below hb
    have Knx5 : Hid (Bk x5 h (NdC g L)) := Knx3.out.below hb
    have Kpx5 : Hid (Bk x5 gp (pktC 1 e q Ap ps.length cp)) := Kpx3.out.below hb
    clear Ex3 Krx3 Knx3 Kpx3
    have Klx5 : Hid (Bk x5 gl (labC L)) := hbk
    have Klx5 : Hid (Bk x5 gl (labC L)) := hbk
    clear hbk hb hc KZl HQl HGl
    have cp1 : x5.cell? ⟨gp, 1, none⟩ = some (vu32 e) := Kpx5.out.cell rfl
    have cp2 : x5.cell? ⟨gp, 2, none⟩ = some (vu32 q) := Kpx5.out.cell rfl
    go_wp2_with (first
      | (refine wpList_bld rfl 67 [(0, .const (.int .i64 3)), (1, .tmp 35), (2, .tmp 37)] rfl zPkD [(0, [.int .i64 3]), (1, [vu32 e]), (2, [vu32 q])] (pktC 3 e q none 0 0) (by kernel_rfl) (by kernel_rfl) ⟨rfl, ⟨1, rfl, by kernel_rfl, by decide⟩, rfl, ⟨1, rfl, by kernel_rfl, by decide⟩, rfl, ⟨1, rfl, by kernel_rfl, by decide⟩, trivial⟩ rfl ?_)
      | (refine wpList_al rfl 67 rfl zPkD (by kernel_rfl) ?_))
    intro ga x6 hg hb hc hs
    have HQa : Hid (Below x5.heap.size x5 x6) := hc.below (Nat.le_refl _) (fun _ _ => id)
    have HGa : Hid (ga = x5.heap.size) := hg
    have KZa := Lib.hid hb
    clear hg hb hc hs
    go_wp2_with (refine wpList_st rfl 67 (.tmp 9) (.tmp 38) rfl ga 0 4 zPkD (pktC 3 e q none 0 0) rfl rfl KZa.out (by kernel_rfl) rfl (by decide) (one_pktD _ _ _ _ _ _) ?_)
    intro x7 hbk hc
    rw [splice_whole zPkD (pktC 3 e q none 0 0) rfl] at hbk
    have hb : Below x5.heap.size x5 x7 := HQa.out.trans (hc.below HQa.out.size (fun q hq he => by have := HGa.out; omega))
    have Ara : Hid (w.heap.size < ga) := by show _ < _; have := Krx5.out.lt; have := HGa.out; omega
    have Ana : Hid (h < ga) := by show _ < _; have := Knx5.out.lt; have := HGa.out; omega
    have Apa : Hid (gp < ga) := by show _ < _; have := Kpx5.out.lt; have := HGa.out; omega
    have Ala : Hid (gl < ga) := by show _ < _; have := Klx5.out.lt; have := HGa.out; omega
    have Ex7 : Hid (Below w2.heap.size w2 x7) := Ex5.out.trans (hb.mono Ex5.out.size)
    have Krx7 : Hid (Bk x7 w.heap.size zPkD) := Krx5.out.below hb
    have Knx7 : Hid (Bk x7 h (NdC g L)) := Knx5.out.below hb
    have Kpx7 : Hid (Bk x7 gp (pktC 1 e q Ap ps.length cp)) := Kpx5.out.below hb
    have Klx7 : Hid (Bk x7 gl (labC L)) := Klx5.out.below hb
    clear Ex5 Krx5 Knx5 Kpx5 Klx5
    have Kax7 : Hid (Bk x7 ga (pktC 3 e q none 0 0)) := hbk
    have Kax7 : Hid (Bk x7 ga (pktC 3 e q none 0 0)) := hbk
    clear hbk hb hc KZa HQa HGa
    clear cp1 cp2
    have cp1 : x7.cell? ⟨gp, 1, none⟩ = some (vu32 e) := Kpx7.out.cell rfl
    have cp2 : x7.cell? ⟨gp, 2, none⟩ = some (vu32 q) := Kpx7.out.cell rfl
    have cp3 : x7.cell? ⟨gp, 3, none⟩ = some (.slice Ap ps.length cp) := Kpx7.out.cell rfl
    have cl0 : x7.cell? ⟨gl, 0, none⟩ = some (vu32 L.e) := Klx7.out.cell rfl
    have cl1 : x7.cell? ⟨gl, 1, none⟩ = some (vu32 L.s) := Klx7.out.cell rfl
    have cl3 : x7.cell? ⟨gl, 3, none⟩ = some (vu16 L.d) := Klx7.out.cell rfl
    go_wp2_with fail
    refine (later_calls e q L.e L.s x7).mono ?_
    rintro en w' ⟨rfl, rfl⟩
    rw [hlat]
    go_wp2_with (refine wpList_bld rfl 25 [(0, .tmp 51), (1, .tmp 53), (2, .tmp 55)] rfl zR [(0, [vu32 e]), (1, [vu32 q]), (2, [.slice Ap ps.length cp])] [vu32 e, vu32 q, .slice Ap ps.length cp] (by kernel_rfl) (by kernel_rfl) ⟨rfl, ⟨1, rfl, by kernel_rfl, by decide⟩, rfl, ⟨1, rfl, by kernel_rfl, by decide⟩, rfl, ⟨1, rfl, by kernel_rfl, by decide⟩, trivial⟩ rfl ?_)
    clear cp1 cp2 cp3 cl0 cl1 cl3
    have EA : Hid (Below w.heap.size w x7) := E2.out.trans (Ex7.out.mono E2.out.size)
    have DA : Hid (DAt 92 x7 g gs lv s) := DiskAt.chg HD.out (Chg.of_below (S := NoS) EA.out) (fun _ _ hk => hk.elim)
    have HFL : Hid (∀ j, footD g gs lv j → j < w.heap.size) := fun j hj => DiskAt.lt HD.out j hj
    refine (ndApply_calls x7 g gs lv h s L m e q ps Ap ps.length cp L.d DA.out Knx7.out hf hok hm9 rfl (fun w' hc => HRN.out _ w' (then2 (S := footD g gs lv) (Chg.of_below Ex7.out) hc (fun _ hj _ => hj)) HFL.out) HPO.out hok9).mono ?_
    intro en wb hp
    rw [hap] at hp
    obtain ⟨rfl, lv2, hd2, hb2, hft, hch⟩ := hp
    have Kab : Hid (Bk wb ga (pktC 3 e q none 0 0)) := Kax7.out.chg hch (fun hj => hj.elim (fun hj => by have := HFL.out _ hj; have := Ara.out; omega) (fun hj => by have := HLH.out; have := Ara.out; omega))
    have Krb : Hid (Bk wb w.heap.size zPkD) := Krx7.out.chg hch (fun hj => hj.elim (fun hj => by have := HFL.out _ hj; omega) (fun hj => by have := HLH.out; omega))
    have DB := Lib.hid hd2
    have NB : Hid (Bk wb h (NdC g L2)) := by rw [← hl2]; exact hb2
    have FT := Lib.hid hft
    have CH := Lib.hid hch
    have LRA : Hid (w.heap.size < x7.heap.size) := Krx7.out.lt
    clear hd2 hb2 hft hch
    go_wp2_with (first
      | (refine wpList_ld rfl 67 (.tmp 9) rfl ga 0 4 (pktC 3 e q none 0 0) (pktC 3 e q none 0 0) rfl Kab.out (by kernel_rfl) (by kernel_rfl) (Nat.le_refl 4) rfl ?_)
      | (refine wpList_st rfl 67 (.tmp 4) (.tmp 64) rfl w.heap.size 0 4 zPkD (pktC 3 e q none 0 0) rfl rfl Krb.out (by kernel_rfl) rfl (by decide) (one_pktD _ _ _ _ _ _) ?_))
    intro x8 hbk hc
    rw [splice_whole zPkD (pktC 3 e q none 0 0) rfl] at hbk
    have KR := Lib.hid hbk
    have CR := Lib.hid hc
    clear hbk hc
    go_wp2_with fail
    (try simp only [Exit.inBlock, Exit.then])
    refine bodyPost_ret (res_cell_tmp rfl _ _ w.heap.size 4 _ rfl KR.out (by kernel_rfl) (by kernel_rfl) rfl) rfl ?_
    refine ⟨rfl, lv2, DiskAt.chg DB.out CR.out (fun j hj he => (FT.out j hj).elim (fun h1 => by have := HFL.out j h1; omega) (fun h1 => by have := LRA.out; omega)), NB.out.chg CR.out (fun he => by have := HLH.out; omega), fun j hj => (FT.out j hj).imp id (fun h1 => by have := EA.out.size; omega), ?_⟩
    exact then2 (then2 (S := fun j => footD g gs lv j ∨ j = h) (Chg.of_below EA.out) CH.out (fun _ hj _ => hj)) CR.out (fun j hj hlt => by omega)
  · have Z2 : Hid (Below w2.heap.size w2 w2) := Below.refl _ _
    have Kn2 : Hid (Bk w2 h (NdC g L)) := HB.out.below E2.out
    go_wp2_with (refine wpList_al rfl 67 rfl zPkD (by kernel_rfl) ?_)
    intro gp x1 hg hb hc hs
    have HQp : Hid (Below w2.heap.size w2 x1) := hc.below (Nat.le_refl _) (fun _ _ => id)
    have HGp : Hid (gp = w2.heap.size) := hg
    have KZp := Lib.hid hb
    clear hg hb hc hs
    go_wp2_with (refine wpList_st rfl 67 (.tmp 6) (.tmp 17) rfl gp 0 4 zPkD (pktC 2 e q Ap ps.length cp) rfl rfl KZp.out (by kernel_rfl) rfl (by decide) (one_pktD _ _ _ _ _ _) ?_)
    intro x2 hbk hc
    rw [splice_whole zPkD (pktC 2 e q Ap ps.length cp) rfl] at hbk
    have hb : Below w2.heap.size w2 x2 := HQp.out.trans (hc.below HQp.out.size (fun q hq he => by have := HGp.out; omega))
    have Arp : Hid (w.heap.size < gp) := by show _ < _; have := Kr2.out.lt; have := HGp.out; omega
    have Anp : Hid (h < gp) := by show _ < _; have := Kn2.out.lt; have := HGp.out; omega
    have Ex2 : Hid (Below w2.heap.size w2 x2) := Z2.out.trans (hb.mono Z2.out.size)
    have Krx2 : Hid (Bk x2 w.heap.size zPkD) := Kr2.out.below hb
    have Knx2 : Hid (Bk x2 h (NdC g L)) := Kn2.out.below hb
    clear Z2 Kr2 Kn2
    have Kpx2 : Hid (Bk x2 gp (pktC 2 e q Ap ps.length cp)) := hbk
    have Kpx2 : Hid (Bk x2 gp (pktC 2 e q Ap ps.length cp)) := hbk
    clear hbk hb hc KZp HQp HGp
    have cp0 : x2.cell? ⟨gp, 0, none⟩ = some (.int .i64 2) := Kpx2.out.cell rfl
    go_wp2_with fail
    clear cp0
    refine (ndLabel_calls x2 g h L Knx2.out).mono ?_
    rintro en x3 ⟨rfl, hb⟩
    have Ex3 : Hid (Below w2.heap.size w2 x3) := Ex2.out.trans (hb.mono Ex2.out.size)
    have Krx3 : Hid (Bk x3 w.heap.size zPkD) := Krx2.out.below hb
    have Knx3 : Hid (Bk x3 h (NdC g L)) := Knx2.out.below hb
    have Kpx3 : Hid (Bk x3 gp (pktC 2 e q Ap ps.length cp)) := Kpx2.out.below hb
    clear Ex2 Krx2 Knx2 Kpx2
    clear hb
    go_wp2_with (refine wpList_al rfl 40 rfl (labC zLab) (by kernel_rfl) ?_)
    intro gl x4 hg hb hc hs
    have HQl : Hid (Below x3.heap.size x3 x4) := hc.below (Nat.le_refl _) (fun _ _ => id)
    have HGl : Hid (gl = x3.heap.size) := hg
    have KZl := Lib.hid hb
    clear hg hb hc hs
    go_wp2_with (refine wpList_st rfl 40 (.tmp 8) (.tmp 33) rfl gl 0 5 (labC zLab) (labC L) rfl rfl KZl.out (by kernel_rfl) rfl (by decide) (one_lab L) ?_)
    intro x5 hbk hc
    rw [splice_whole (labC zLab) (labC L) rfl] at hbk
    have hb : Below x3.heap.size x3 x5 := HQl.out.trans (hc.below HQl.out.size (fun q hq he => by have := HGl.out; omega))
    have Arl : Hid (w.heap.size < gl) := by show _ < _; have := Krx3.out.lt; have := HGl.out; omega
    have Anl : Hid (h < gl) := by show _ < _; have := Knx3.out.lt; have := HGl.out; omega
    have Apl : Hid (gp < gl) := by show _ < _; have := Kpx3.out.lt; have := HGl.out; omega
    have Ex5 : Hid (Below w2.heap.size w2 x5) := Ex3.out.trans (hb.mono Ex3.out.size)
    have Krx5 : Hid (Bk x5 w.heap.size zPkD) := Krx3.out.below hb
    have Knx5 : Hid (Bk x5 h (NdC g L)) := Knx3.out.below hb
    have Kpx5 : Hid (Bk x5 gp (pktC 2 e q Ap ps.length cp)) := Kpx3.out.below hb
    clear Ex3 Krx3 Knx3 Kpx3
    have Klx5 : Hid (Bk x5 gl (labC L)) := hbk
    have Klx5 : Hid (Bk x5 gl (labC L)) := hbk
    clear hbk hb hc KZl HQl HGl
    have cp1 : x5.cell? ⟨gp, 1, none⟩ = some (vu32 e) := Kpx5.out.cell rfl
    have cp2 : x5.cell? ⟨gp, 2, none⟩ = some (vu32 q) := Kpx5.out.cell rfl
    go_wp2_with (first
      | (refine wpList_bld rfl 67 [(0, .const (.int .i64 3)), (1, .tmp 35), (2, .tmp 37)] rfl zPkD [(0, [.int .i64 3]), (1, [vu32 e]), (2, [vu32 q])] (pktC 3 e q none 0 0) (by kernel_rfl) (by kernel_rfl) ⟨rfl, ⟨1, rfl, by kernel_rfl, by decide⟩, rfl, ⟨1, rfl, by kernel_rfl, by decide⟩, rfl, ⟨1, rfl, by kernel_rfl, by decide⟩, trivial⟩ rfl ?_)
      | (refine wpList_al rfl 67 rfl zPkD (by kernel_rfl) ?_))
    intro ga x6 hg hb hc hs
    have HQa : Hid (Below x5.heap.size x5 x6) := hc.below (Nat.le_refl _) (fun _ _ => id)
    have HGa : Hid (ga = x5.heap.size) := hg
    have KZa := Lib.hid hb
    clear hg hb hc hs
    go_wp2_with (refine wpList_st rfl 67 (.tmp 9) (.tmp 38) rfl ga 0 4 zPkD (pktC 3 e q none 0 0) rfl rfl KZa.out (by kernel_rfl) rfl (by decide) (one_pktD _ _ _ _ _ _) ?_)
    intro x7 hbk hc
    rw [splice_whole zPkD (pktC 3 e q none 0 0) rfl] at hbk
    have hb : Below x5.heap.size x5 x7 := HQa.out.trans (hc.below HQa.out.size (fun q hq he => by have := HGa.out; omega))
    have Ara : Hid (w.heap.size < ga) := by show _ < _; have := Krx5.out.lt; have := HGa.out; omega
    have Ana : Hid (h < ga) := by show _ < _; have := Knx5.out.lt; have := HGa.out; omega
    have Apa : Hid (gp < ga) := by show _ < _; have := Kpx5.out.lt; have := HGa.out; omega
    have Ala : Hid (gl < ga) := by show _ < _; have := Klx5.out.lt; have := HGa.out; omega
    have Ex7 : Hid (Below w2.heap.size w2 x7) := Ex5.out.trans (hb.mono Ex5.out.size)
    have Krx7 : Hid (Bk x7 w.heap.size zPkD) := Krx5.out.below hb
    have Knx7 : Hid (Bk x7 h (NdC g L)) := Knx5.out.below hb
    have Kpx7 : Hid (Bk x7 gp (pktC 2 e q Ap ps.length cp)) := Kpx5.out.below hb
    have Klx7 : Hid (Bk x7 gl (labC L)) := Klx5.out.below hb
    clear Ex5 Krx5 Knx5 Kpx5 Klx5
    have Kax7 : Hid (Bk x7 ga (pktC 3 e q none 0 0)) := hbk
    have Kax7 : Hid (Bk x7 ga (pktC 3 e q none 0 0)) := hbk
    clear hbk hb hc KZa HQa HGa
    clear cp1 cp2
    have cp1 : x7.cell? ⟨gp, 1, none⟩ = some (vu32 e) := Kpx7.out.cell rfl
    have cp2 : x7.cell? ⟨gp, 2, none⟩ = some (vu32 q) := Kpx7.out.cell rfl
    have cp3 : x7.cell? ⟨gp, 3, none⟩ = some (.slice Ap ps.length cp) := Kpx7.out.cell rfl
    have cl0 : x7.cell? ⟨gl, 0, none⟩ = some (vu32 L.e) := Klx7.out.cell rfl
    have cl1 : x7.cell? ⟨gl, 1, none⟩ = some (vu32 L.s) := Klx7.out.cell rfl
    have cl3 : x7.cell? ⟨gl, 3, none⟩ = some (vu16 L.d) := Klx7.out.cell rfl
    go_wp2_with fail
    refine (later_calls e q L.e L.s x7).mono ?_
    rintro en w' ⟨rfl, rfl⟩
    rw [hlat]
    go_wp2_with (refine wpList_bld rfl 25 [(0, .tmp 51), (1, .tmp 53), (2, .tmp 55)] rfl zR [(0, [vu32 e]), (1, [vu32 q]), (2, [.slice Ap ps.length cp])] [vu32 e, vu32 q, .slice Ap ps.length cp] (by kernel_rfl) (by kernel_rfl) ⟨rfl, ⟨1, rfl, by kernel_rfl, by decide⟩, rfl, ⟨1, rfl, by kernel_rfl, by decide⟩, rfl, ⟨1, rfl, by kernel_rfl, by decide⟩, trivial⟩ rfl ?_)
    clear cp1 cp2 cp3 cl0 cl1 cl3
    have EA : Hid (Below w.heap.size w x7) := E2.out.trans (Ex7.out.mono E2.out.size)
    have DA : Hid (DAt 92 x7 g gs lv s) := DiskAt.chg HD.out (Chg.of_below (S := NoS) EA.out) (fun _ _ hk => hk.elim)
    have HFL : Hid (∀ j, footD g gs lv j → j < w.heap.size) := fun j hj => DiskAt.lt HD.out j hj
    refine (ndApply_calls x7 g gs lv h s L m e q ps Ap ps.length cp L.d DA.out Knx7.out hf hok hm9 rfl (fun w' hc => HRN.out _ w' (then2 (S := footD g gs lv) (Chg.of_below Ex7.out) hc (fun _ hj _ => hj)) HFL.out) HPO.out hok9).mono ?_
    intro en wb hp
    rw [hap] at hp
    obtain ⟨rfl, lv2, hd2, hb2, hft, hch⟩ := hp
    have Kab : Hid (Bk wb ga (pktC 3 e q none 0 0)) := Kax7.out.chg hch (fun hj => hj.elim (fun hj => by have := HFL.out _ hj; have := Ara.out; omega) (fun hj => by have := HLH.out; have := Ara.out; omega))
    have Krb : Hid (Bk wb w.heap.size zPkD) := Krx7.out.chg hch (fun hj => hj.elim (fun hj => by have := HFL.out _ hj; omega) (fun hj => by have := HLH.out; omega))
    have DB := Lib.hid hd2
    have NB : Hid (Bk wb h (NdC g L2)) := by rw [← hl2]; exact hb2
    have FT := Lib.hid hft
    have CH := Lib.hid hch
    have LRA : Hid (w.heap.size < x7.heap.size) := Krx7.out.lt
    clear hd2 hb2 hft hch
    go_wp2_with (first
      | (refine wpList_ld rfl 67 (.tmp 9) rfl ga 0 4 (pktC 3 e q none 0 0) (pktC 3 e q none 0 0) rfl Kab.out (by kernel_rfl) (by kernel_rfl) (Nat.le_refl 4) rfl ?_)
      | (refine wpList_st rfl 67 (.tmp 4) (.tmp 64) rfl w.heap.size 0 4 zPkD (pktC 3 e q none 0 0) rfl rfl Krb.out (by kernel_rfl) rfl (by decide) (one_pktD _ _ _ _ _ _) ?_))
    intro x8 hbk hc
    rw [splice_whole zPkD (pktC 3 e q none 0 0) rfl] at hbk
    have KR := Lib.hid hbk
    have CR := Lib.hid hc
    clear hbk hc
    go_wp2_with fail
    (try simp only [Exit.inBlock, Exit.then])
    refine bodyPost_ret (res_cell_tmp rfl _ _ w.heap.size 4 _ rfl KR.out (by kernel_rfl) (by kernel_rfl) rfl) rfl ?_
    refine ⟨rfl, lv2, DiskAt.chg DB.out CR.out (fun j hj he => (FT.out j hj).elim (fun h1 => by have := HFL.out j h1; omega) (fun h1 => by have := LRA.out; omega)), NB.out.chg CR.out (fun he => by have := HLH.out; omega), fun j hj => (FT.out j hj).imp id (fun h1 => by have := EA.out.size; omega), ?_⟩
    exact then2 (then2 (S := fun j => footD g gs lv j ∨ j = h) (Chg.of_below EA.out) CH.out (fun _ hj _ => hj)) CR.out (fun j hj hlt => by omega)
set_option maxRecDepth 100000 in
set_option maxHeartbeats 16000000 in
theorem take_no (b : List UInt8) (A0 : Option Addr) (n c : Nat) (w : World) (hl : b.length = n) (hnc : n ≤ c) (hcm : c ≤ 9223372036854775807) (hm : n ≤ 33000) (hr : Rd w A0 (bts b)) (k : Int) (e q : UInt32) (ps : List PutV) (hd : decP b = ((k, e, q, ps), 0)) (hk : k = 1 ∨ k = 2) (g gs : Nat) (lv : Value) (h : Nat) (s : Dst) (L : Lab) (hda : DAt 92 w g gs lv s) (hb : Bk w h (NdC g L)) (hlat : laterB e q L.e L.s = false) (kk : Int) (hkk : (if e = L.e ∧ q = L.s then (3 : Int) else 4) = kk) :
    Calls Try.prog 26 #[.pointer (some ⟨h, 0, none⟩), .slice A0 n c] w fun en w' => en = .returned (.tuple #[.agg (pktC kk L.e q none 0 0).toArray, .int .i64 0]) ∧ Below w.heap.size w w' := by
  have HD := Lib.hid hda
  have HB := Lib.hid hb
  have HKK := Lib.hid hkk
  clear hda hb hkk
  have HRB := Lib.hid hr
  have HLB := Lib.hid hl
  clear hr hl
  go_enter Try.func26, Try.ntmps26
  go_wp2_with (refine wpList_al rfl 67 rfl zPkD (by kernel_rfl) ?_)
  intro gr w1 hg hbk hc hs
  subst hg
  have K1 := Lib.hid hbk
  have E1 : Hid (Below w.heap.size w w1) := hc.below (Nat.le_refl _) (fun _ _ => id)
  clear hbk hc hs
  go_wp2_with fail
  refine (packDecode_callsN b A0 n c w1 HLB.out hnc hcm hm (HRB.out.below E1.out)).mono ?_
  intro en w2 hp
  rw [hd] at hp
  obtain ⟨Ap, cp, he, hr2, hnc2, hcm2, hok2, hb, hrn⟩ := hp
  have he' : en = .returned (.tuple #[.agg (pktC k e q Ap ps.length cp).toArray, .int .i64 0]) := he
  subst he'
  have E2 : Hid (Below w.heap.size w w2) := E1.out.trans (hb.mono E1.out.size)
  have Kr2 : Hid (Bk w2 w.heap.size zPkD) := K1.out.below hb
  have HRN : Hid (∀ (T : Nat → Prop) (w' : World), Chg T w2 w' → (∀ j, T j → j < w.heap.size) → Rd w' Ap (ps.flatMap putC)) := fun T w' h1 h2 => hrn T w' h1 (fun j hj => Nat.lt_of_lt_of_le (h2 j hj) E1.out.size)
  have HPO : Hid (PutsOk ps) := hok2
  clear he hb hr2 hnc2 hcm2 hok2 hrn hd
  rcases hk with rfl | rfl
  · have Z2 : Hid (Below w2.heap.size w2 w2) := Below.refl _ _
    have Kn2 : Hid (Bk w2 h (NdC g L)) := HB.out.below E2.out
    go_wp2_with (refine wpList_al rfl 67 rfl zPkD (by kernel_rfl) ?_)
    intro gp x1 hg hb hc hs
    have HQp : Hid (Below w2.heap.size w2 x1) := hc.below (Nat.le_refl _) (fun _ _ => id)
    have HGp : Hid (gp = w2.heap.size) := hg
    have KZp := Lib.hid hb
    clear hg hb hc hs
    go_wp2_with (refine wpList_st rfl 67 (.tmp 6) (.tmp 17) rfl gp 0 4 zPkD (pktC 1 e q Ap ps.length cp) rfl rfl KZp.out (by kernel_rfl) rfl (by decide) (one_pktD _ _ _ _ _ _) ?_)
    intro x2 hbk hc
    rw [splice_whole zPkD (pktC 1 e q Ap ps.length cp) rfl] at hbk
    have hb : Below w2.heap.size w2 x2 := HQp.out.trans (hc.below HQp.out.size (fun q hq he => by have := HGp.out; omega))
    have Arp : Hid (w.heap.size < gp) := by show _ < _; have := Kr2.out.lt; have := HGp.out; omega
    have Anp : Hid (h < gp) := by show _ < _; have := Kn2.out.lt; have := HGp.out; omega
    have Ex2 : Hid (Below w2.heap.size w2 x2) := Z2.out.trans (hb.mono Z2.out.size)
    have Krx2 : Hid (Bk x2 w.heap.size zPkD) := Kr2.out.below hb
    have Knx2 : Hid (Bk x2 h (NdC g L)) := Kn2.out.below hb
    clear Z2 Kr2 Kn2
    have Kpx2 : Hid (Bk x2 gp (pktC 1 e q Ap ps.length cp)) := hbk
    have Kpx2 : Hid (Bk x2 gp (pktC 1 e q Ap ps.length cp)) := hbk
    clear hbk hb hc KZp HQp HGp
    have cp0 : x2.cell? ⟨gp, 0, none⟩ = some (.int .i64 1) := Kpx2.out.cell rfl
    go_wp2_with fail
    clear cp0
    refine (ndLabel_calls x2 g h L Knx2.out).mono ?_
    rintro en x3 ⟨rfl, hb⟩
    have Ex3 : Hid (Below w2.heap.size w2 x3) := Ex2.out.trans (hb.mono Ex2.out.size)
    have Krx3 : Hid (Bk x3 w.heap.size zPkD) := Krx2.out.below hb
    have Knx3 : Hid (Bk x3 h (NdC g L)) := Knx2.out.below hb
    have Kpx3 : Hid (Bk x3 gp (pktC 1 e q Ap ps.length cp)) := Kpx2.out.below hb
    clear Ex2 Krx2 Knx2 Kpx2
    clear hb
    go_wp2_with (refine wpList_al rfl 40 rfl (labC zLab) (by kernel_rfl) ?_)
    intro gl x4 hg hb hc hs
    have HQl : Hid (Below x3.heap.size x3 x4) := hc.below (Nat.le_refl _) (fun _ _ => id)
    have HGl : Hid (gl = x3.heap.size) := hg
    have KZl := Lib.hid hb
    clear hg hb hc hs
    go_wp2_with (refine wpList_st rfl 40 (.tmp 8) (.tmp 33) rfl gl 0 5 (labC zLab) (labC L) rfl rfl KZl.out (by kernel_rfl) rfl (by decide) (one_lab L) ?_)
    intro x5 hbk hc
    rw [splice_whole (labC zLab) (labC L) rfl] at hbk
    have hb : Below x3.heap.size x3 x5 := HQl.out.trans (hc.below HQl.out.size (fun q hq he => by have := HGl.out; omega))
    have Arl : Hid (w.heap.size < gl) := by show _ < _; have := Krx3.out.lt; have := HGl.out; omega
    have Anl : Hid (h < gl) := by show _ < _; have := Knx3.out.lt; have := HGl.out; omega
    have Apl : Hid (gp < gl) := by show _ < _; have := Kpx3.out.lt; have := HGl.out; omega
    have Ex5 : Hid (Below w2.heap.size w2 x5) := Ex3.out.trans (hb.mono Ex3.out.size)
    have Krx5 : Hid (Bk x5 w.heap.size zPkD) := Krx3.out.below hb
    have Knx5 : Hid (Bk x5 h (NdC g L)) := Knx3.out.below hb
    have Kpx5 : Hid (Bk x5 gp (pktC 1 e q Ap ps.length cp)) := Kpx3.out.below hb
    clear Ex3 Krx3 Knx3 Kpx3
    have Klx5 : Hid (Bk x5 gl (labC L)) := hbk
    have Klx5 : Hid (Bk x5 gl (labC L)) := hbk
    clear hbk hb hc KZl HQl HGl
    have cp1 : x5.cell? ⟨gp, 1, none⟩ = some (vu32 e) := Kpx5.out.cell rfl
    have cp2 : x5.cell? ⟨gp, 2, none⟩ = some (vu32 q) := Kpx5.out.cell rfl
    go_wp2_with (first
      | (refine wpList_bld rfl 67 [(0, .const (.int .i64 3)), (1, .tmp 35), (2, .tmp 37)] rfl zPkD [(0, [.int .i64 3]), (1, [vu32 e]), (2, [vu32 q])] (pktC 3 e q none 0 0) (by kernel_rfl) (by kernel_rfl) ⟨rfl, ⟨1, rfl, by kernel_rfl, by decide⟩, rfl, ⟨1, rfl, by kernel_rfl, by decide⟩, rfl, ⟨1, rfl, by kernel_rfl, by decide⟩, trivial⟩ rfl ?_)
      | (refine wpList_al rfl 67 rfl zPkD (by kernel_rfl) ?_))
    intro ga x6 hg hb hc hs
    have HQa : Hid (Below x5.heap.size x5 x6) := hc.below (Nat.le_refl _) (fun _ _ => id)
    have HGa : Hid (ga = x5.heap.size) := hg
    have KZa := Lib.hid hb
    clear hg hb hc hs
    go_wp2_with (refine wpList_st rfl 67 (.tmp 9) (.tmp 38) rfl ga 0 4 zPkD (pktC 3 e q none 0 0) rfl rfl KZa.out (by kernel_rfl) rfl (by decide) (one_pktD _ _ _ _ _ _) ?_)
    intro x7 hbk hc
    rw [splice_whole zPkD (pktC 3 e q none 0 0) rfl] at hbk
    have hb : Below x5.heap.size x5 x7 := HQa.out.trans (hc.below HQa.out.size (fun q hq he => by have := HGa.out; omega))
    have Ara : Hid (w.heap.size < ga) := by show _ < _; have := Krx5.out.lt; have := HGa.out; omega
    have Ana : Hid (h < ga) := by show _ < _; have := Knx5.out.lt; have := HGa.out; omega
    have Apa : Hid (gp < ga) := by show _ < _; have := Kpx5.out.lt; have := HGa.out; omega
    have Ala : Hid (gl < ga) := by show _ < _; have := Klx5.out.lt; have := HGa.out; omega
    have Ex7 : Hid (Below w2.heap.size w2 x7) := Ex5.out.trans (hb.mono Ex5.out.size)
    have Krx7 : Hid (Bk x7 w.heap.size zPkD) := Krx5.out.below hb
    have Knx7 : Hid (Bk x7 h (NdC g L)) := Knx5.out.below hb
    have Kpx7 : Hid (Bk x7 gp (pktC 1 e q Ap ps.length cp)) := Kpx5.out.below hb
    have Klx7 : Hid (Bk x7 gl (labC L)) := Klx5.out.below hb
    clear Ex5 Krx5 Knx5 Kpx5 Klx5
    have Kax7 : Hid (Bk x7 ga (pktC 3 e q none 0 0)) := hbk
    have Kax7 : Hid (Bk x7 ga (pktC 3 e q none 0 0)) := hbk
    clear hbk hb hc KZa HQa HGa
    clear cp1 cp2
    have cp1 : x7.cell? ⟨gp, 1, none⟩ = some (vu32 e) := Kpx7.out.cell rfl
    have cp2 : x7.cell? ⟨gp, 2, none⟩ = some (vu32 q) := Kpx7.out.cell rfl
    have cp3 : x7.cell? ⟨gp, 3, none⟩ = some (.slice Ap ps.length cp) := Kpx7.out.cell rfl
    have cl0 : x7.cell? ⟨gl, 0, none⟩ = some (vu32 L.e) := Klx7.out.cell rfl
    have cl1 : x7.cell? ⟨gl, 1, none⟩ = some (vu32 L.s) := Klx7.out.cell rfl
    have cl3 : x7.cell? ⟨gl, 3, none⟩ = some (vu16 L.d) := Klx7.out.cell rfl
    go_wp2_with fail
    refine (later_calls e q L.e L.s x7).mono ?_
    rintro en w' ⟨rfl, rfl⟩
    rw [hlat]
    by_cases hee : e = L.e
    case pos =>
      by_cases hqq : q = L.s
      case pos =>
        have hei : decide (((e.toNat : Nat) : Int) = (L.e.toNat : Nat)) = true := decide_eq_true (by rw [hee])
        have heib : (((e.toNat : Nat) : Int) == (L.e.toNat : Nat)) = true := beq_iff_eq.2 (by rw [hee])
        have hqi : decide (((q.toNat : Nat) : Int) = (L.s.toNat : Nat)) = true := decide_eq_true (by rw [hqq])
        have hqib : (((q.toNat : Nat) : Int) == (L.s.toNat : Nat)) = true := beq_iff_eq.2 (by rw [hqq])
        have HEE := Lib.hid hee
        have HQQ := Lib.hid hqq
        clear hee hqq
        go_wp2_with (first
          | (refine wpList_ld rfl 67 (.tmp 9) rfl ga 0 4 (pktC 3 e q none 0 0) (pktC 3 e q none 0 0) rfl Kax7.out (by kernel_rfl) (by kernel_rfl) (Nat.le_refl 4) rfl ?_)
          | (refine wpList_st rfl 67 (.tmp 4) (.tmp 78) rfl w.heap.size 0 4 zPkD (pktC 3 e q none 0 0) rfl rfl Krx7.out (by kernel_rfl) rfl (by decide) (one_pktD _ _ _ _ _ _) ?_))
        intro x8 hbk hc
        rw [splice_whole zPkD (pktC 3 e q none 0 0) rfl] at hbk
        have KR := Lib.hid hbk
        have CR := Lib.hid hc
        clear hbk hc
        go_wp2_with fail
        (try simp only [Exit.inBlock, Exit.then])
        refine bodyPost_ret (res_cell_tmp rfl _ _ w.heap.size 4 _ rfl KR.out (by kernel_rfl) (by kernel_rfl) rfl) rfl ?_
        exact ⟨by rw [← HKK.out, if_pos ⟨HEE.out, HQQ.out⟩, ← HEE.out]; rfl, (E2.out.trans (Ex7.out.mono E2.out.size)).trans (CR.out.below (Nat.le_trans E2.out.size Ex7.out.size) (fun q hq he => by omega))⟩
      case neg =>
        have hei : decide (((e.toNat : Nat) : Int) = (L.e.toNat : Nat)) = true := decide_eq_true (by rw [hee])
        have heib : (((e.toNat : Nat) : Int) == (L.e.toNat : Nat)) = true := beq_iff_eq.2 (by rw [hee])
        have hqi : ¬ ((q.toNat : Nat) : Int) = (L.s.toNat : Nat) := fun h => hqq (UInt32.toNat_inj.1 (by omega))
        have HNB : Hid (¬ (e = L.e ∧ q = L.s)) := fun h => hqq h.2
        clear hee hqq
        go_wp2_with (first
          | (refine wpList_bld rfl 67 [(0, .const (.int .i64 4)), (1, .tmp 80), (2, .tmp 82)] rfl zPkD [(0, [.int .i64 4]), (1, [vu32 L.e]), (2, [vu32 q])] (pktC 4 L.e q none 0 0) (by kernel_rfl) (by kernel_rfl) ⟨rfl, ⟨1, rfl, by kernel_rfl, by decide⟩, rfl, ⟨1, rfl, by kernel_rfl, by decide⟩, rfl, ⟨1, rfl, by kernel_rfl, by decide⟩, trivial⟩ rfl ?_)
          | (refine wpList_st rfl 67 (.tmp 4) (.tmp 83) rfl w.heap.size 0 4 zPkD (pktC 4 L.e q none 0 0) rfl rfl Krx7.out (by kernel_rfl) rfl (by decide) (one_pktD _ _ _ _ _ _) ?_))
        intro x8 hbk hc
        rw [splice_whole zPkD (pktC 4 L.e q none 0 0) rfl] at hbk
        have KR := Lib.hid hbk
        have CR := Lib.hid hc
        clear hbk hc
        go_wp2_with fail
        (try simp only [Exit.inBlock, Exit.then])
        refine bodyPost_ret (res_cell_tmp rfl _ _ w.heap.size 4 _ rfl KR.out (by kernel_rfl) (by kernel_rfl) rfl) rfl ?_
        exact ⟨by rw [← HKK.out, if_neg HNB.out]; rfl, (E2.out.trans (Ex7.out.mono E2.out.size)).trans (CR.out.below (Nat.le_trans E2.out.size Ex7.out.size) (fun q hq he => by omega))⟩
    case neg =>
      have hei : ¬ ((e.toNat : Nat) : Int) = (L.e.toNat : Nat) := fun h => hee (UInt32.toNat_inj.1 (by omega))
      have HNB : Hid (¬ (e = L.e ∧ q = L.s)) := fun h => hee h.1
      clear hee
      go_wp2_with (first
        | (refine wpList_bld rfl 67 [(0, .const (.int .i64 4)), (1, .tmp 80), (2, .tmp 82)] rfl zPkD [(0, [.int .i64 4]), (1, [vu32 L.e]), (2, [vu32 q])] (pktC 4 L.e q none 0 0) (by kernel_rfl) (by kernel_rfl) ⟨rfl, ⟨1, rfl, by kernel_rfl, by decide⟩, rfl, ⟨1, rfl, by kernel_rfl, by decide⟩, rfl, ⟨1, rfl, by kernel_rfl, by decide⟩, trivial⟩ rfl ?_)
        | (refine wpList_st rfl 67 (.tmp 4) (.tmp 83) rfl w.heap.size 0 4 zPkD (pktC 4 L.e q none 0 0) rfl rfl Krx7.out (by kernel_rfl) rfl (by decide) (one_pktD _ _ _ _ _ _) ?_))
      intro x8 hbk hc
      rw [splice_whole zPkD (pktC 4 L.e q none 0 0) rfl] at hbk
      have KR := Lib.hid hbk
      have CR := Lib.hid hc
      clear hbk hc
      go_wp2_with fail
      (try simp only [Exit.inBlock, Exit.then])
      refine bodyPost_ret (res_cell_tmp rfl _ _ w.heap.size 4 _ rfl KR.out (by kernel_rfl) (by kernel_rfl) rfl) rfl ?_
      exact ⟨by rw [← HKK.out, if_neg HNB.out]; rfl, (E2.out.trans (Ex7.out.mono E2.out.size)).trans (CR.out.below (Nat.le_trans E2.out.size Ex7.out.size) (fun q hq he => by omega))⟩
  · have Z2 : Hid (Below w2.heap.size w2 w2) := Below.refl _ _
    have Kn2 : Hid (Bk w2 h (NdC g L)) := HB.out.below E2.out
    go_wp2_with (refine wpList_al rfl 67 rfl zPkD (by kernel_rfl) ?_)
    intro gp x1 hg hb hc hs
    have HQp : Hid (Below w2.heap.size w2 x1) := hc.below (Nat.le_refl _) (fun _ _ => id)
    have HGp : Hid (gp = w2.heap.size) := hg
    have KZp := Lib.hid hb
    clear hg hb hc hs
    go_wp2_with (refine wpList_st rfl 67 (.tmp 6) (.tmp 17) rfl gp 0 4 zPkD (pktC 2 e q Ap ps.length cp) rfl rfl KZp.out (by kernel_rfl) rfl (by decide) (one_pktD _ _ _ _ _ _) ?_)
    intro x2 hbk hc
    rw [splice_whole zPkD (pktC 2 e q Ap ps.length cp) rfl] at hbk
    have hb : Below w2.heap.size w2 x2 := HQp.out.trans (hc.below HQp.out.size (fun q hq he => by have := HGp.out; omega))
    have Arp : Hid (w.heap.size < gp) := by show _ < _; have := Kr2.out.lt; have := HGp.out; omega
    have Anp : Hid (h < gp) := by show _ < _; have := Kn2.out.lt; have := HGp.out; omega
    have Ex2 : Hid (Below w2.heap.size w2 x2) := Z2.out.trans (hb.mono Z2.out.size)
    have Krx2 : Hid (Bk x2 w.heap.size zPkD) := Kr2.out.below hb
    have Knx2 : Hid (Bk x2 h (NdC g L)) := Kn2.out.below hb
    clear Z2 Kr2 Kn2
    have Kpx2 : Hid (Bk x2 gp (pktC 2 e q Ap ps.length cp)) := hbk
    have Kpx2 : Hid (Bk x2 gp (pktC 2 e q Ap ps.length cp)) := hbk
    clear hbk hb hc KZp HQp HGp
    have cp0 : x2.cell? ⟨gp, 0, none⟩ = some (.int .i64 2) := Kpx2.out.cell rfl
    go_wp2_with fail
    clear cp0
    refine (ndLabel_calls x2 g h L Knx2.out).mono ?_
    rintro en x3 ⟨rfl, hb⟩
    have Ex3 : Hid (Below w2.heap.size w2 x3) := Ex2.out.trans (hb.mono Ex2.out.size)
    have Krx3 : Hid (Bk x3 w.heap.size zPkD) := Krx2.out.below hb
    have Knx3 : Hid (Bk x3 h (NdC g L)) := Knx2.out.below hb
    have Kpx3 : Hid (Bk x3 gp (pktC 2 e q Ap ps.length cp)) := Kpx2.out.below hb
    clear Ex2 Krx2 Knx2 Kpx2
    clear hb
    go_wp2_with (refine wpList_al rfl 40 rfl (labC zLab) (by kernel_rfl) ?_)
    intro gl x4 hg hb hc hs
    have HQl : Hid (Below x3.heap.size x3 x4) := hc.below (Nat.le_refl _) (fun _ _ => id)
    have HGl : Hid (gl = x3.heap.size) := hg
    have KZl := Lib.hid hb
    clear hg hb hc hs
    go_wp2_with (refine wpList_st rfl 40 (.tmp 8) (.tmp 33) rfl gl 0 5 (labC zLab) (labC L) rfl rfl KZl.out (by kernel_rfl) rfl (by decide) (one_lab L) ?_)
    intro x5 hbk hc
    rw [splice_whole (labC zLab) (labC L) rfl] at hbk
    have hb : Below x3.heap.size x3 x5 := HQl.out.trans (hc.below HQl.out.size (fun q hq he => by have := HGl.out; omega))
    have Arl : Hid (w.heap.size < gl) := by show _ < _; have := Krx3.out.lt; have := HGl.out; omega
    have Anl : Hid (h < gl) := by show _ < _; have := Knx3.out.lt; have := HGl.out; omega
    have Apl : Hid (gp < gl) := by show _ < _; have := Kpx3.out.lt; have := HGl.out; omega
    have Ex5 : Hid (Below w2.heap.size w2 x5) := Ex3.out.trans (hb.mono Ex3.out.size)
    have Krx5 : Hid (Bk x5 w.heap.size zPkD) := Krx3.out.below hb
    have Knx5 : Hid (Bk x5 h (NdC g L)) := Knx3.out.below hb
    have Kpx5 : Hid (Bk x5 gp (pktC 2 e q Ap ps.length cp)) := Kpx3.out.below hb
    clear Ex3 Krx3 Knx3 Kpx3
    have Klx5 : Hid (Bk x5 gl (labC L)) := hbk
    have Klx5 : Hid (Bk x5 gl (labC L)) := hbk
    clear hbk hb hc KZl HQl HGl
    have cp1 : x5.cell? ⟨gp, 1, none⟩ = some (vu32 e) := Kpx5.out.cell rfl
    have cp2 : x5.cell? ⟨gp, 2, none⟩ = some (vu32 q) := Kpx5.out.cell rfl
    go_wp2_with (first
      | (refine wpList_bld rfl 67 [(0, .const (.int .i64 3)), (1, .tmp 35), (2, .tmp 37)] rfl zPkD [(0, [.int .i64 3]), (1, [vu32 e]), (2, [vu32 q])] (pktC 3 e q none 0 0) (by kernel_rfl) (by kernel_rfl) ⟨rfl, ⟨1, rfl, by kernel_rfl, by decide⟩, rfl, ⟨1, rfl, by kernel_rfl, by decide⟩, rfl, ⟨1, rfl, by kernel_rfl, by decide⟩, trivial⟩ rfl ?_)
      | (refine wpList_al rfl 67 rfl zPkD (by kernel_rfl) ?_))
    intro ga x6 hg hb hc hs
    have HQa : Hid (Below x5.heap.size x5 x6) := hc.below (Nat.le_refl _) (fun _ _ => id)
    have HGa : Hid (ga = x5.heap.size) := hg
    have KZa := Lib.hid hb
    clear hg hb hc hs
    go_wp2_with (refine wpList_st rfl 67 (.tmp 9) (.tmp 38) rfl ga 0 4 zPkD (pktC 3 e q none 0 0) rfl rfl KZa.out (by kernel_rfl) rfl (by decide) (one_pktD _ _ _ _ _ _) ?_)
    intro x7 hbk hc
    rw [splice_whole zPkD (pktC 3 e q none 0 0) rfl] at hbk
    have hb : Below x5.heap.size x5 x7 := HQa.out.trans (hc.below HQa.out.size (fun q hq he => by have := HGa.out; omega))
    have Ara : Hid (w.heap.size < ga) := by show _ < _; have := Krx5.out.lt; have := HGa.out; omega
    have Ana : Hid (h < ga) := by show _ < _; have := Knx5.out.lt; have := HGa.out; omega
    have Apa : Hid (gp < ga) := by show _ < _; have := Kpx5.out.lt; have := HGa.out; omega
    have Ala : Hid (gl < ga) := by show _ < _; have := Klx5.out.lt; have := HGa.out; omega
    have Ex7 : Hid (Below w2.heap.size w2 x7) := Ex5.out.trans (hb.mono Ex5.out.size)
    have Krx7 : Hid (Bk x7 w.heap.size zPkD) := Krx5.out.below hb
    have Knx7 : Hid (Bk x7 h (NdC g L)) := Knx5.out.below hb
    have Kpx7 : Hid (Bk x7 gp (pktC 2 e q Ap ps.length cp)) := Kpx5.out.below hb
    have Klx7 : Hid (Bk x7 gl (labC L)) := Klx5.out.below hb
    clear Ex5 Krx5 Knx5 Kpx5 Klx5
    have Kax7 : Hid (Bk x7 ga (pktC 3 e q none 0 0)) := hbk
    have Kax7 : Hid (Bk x7 ga (pktC 3 e q none 0 0)) := hbk
    clear hbk hb hc KZa HQa HGa
    clear cp1 cp2
    have cp1 : x7.cell? ⟨gp, 1, none⟩ = some (vu32 e) := Kpx7.out.cell rfl
    have cp2 : x7.cell? ⟨gp, 2, none⟩ = some (vu32 q) := Kpx7.out.cell rfl
    have cp3 : x7.cell? ⟨gp, 3, none⟩ = some (.slice Ap ps.length cp) := Kpx7.out.cell rfl
    have cl0 : x7.cell? ⟨gl, 0, none⟩ = some (vu32 L.e) := Klx7.out.cell rfl
    have cl1 : x7.cell? ⟨gl, 1, none⟩ = some (vu32 L.s) := Klx7.out.cell rfl
    have cl3 : x7.cell? ⟨gl, 3, none⟩ = some (vu16 L.d) := Klx7.out.cell rfl
    go_wp2_with fail
    refine (later_calls e q L.e L.s x7).mono ?_
    rintro en w' ⟨rfl, rfl⟩
    rw [hlat]
    by_cases hee : e = L.e
    case pos =>
      by_cases hqq : q = L.s
      case pos =>
        have hei : decide (((e.toNat : Nat) : Int) = (L.e.toNat : Nat)) = true := decide_eq_true (by rw [hee])
        have heib : (((e.toNat : Nat) : Int) == (L.e.toNat : Nat)) = true := beq_iff_eq.2 (by rw [hee])
        have hqi : decide (((q.toNat : Nat) : Int) = (L.s.toNat : Nat)) = true := decide_eq_true (by rw [hqq])
        have hqib : (((q.toNat : Nat) : Int) == (L.s.toNat : Nat)) = true := beq_iff_eq.2 (by rw [hqq])
        have HEE := Lib.hid hee
        have HQQ := Lib.hid hqq
        clear hee hqq
        go_wp2_with (first
          | (refine wpList_ld rfl 67 (.tmp 9) rfl ga 0 4 (pktC 3 e q none 0 0) (pktC 3 e q none 0 0) rfl Kax7.out (by kernel_rfl) (by kernel_rfl) (Nat.le_refl 4) rfl ?_)
          | (refine wpList_st rfl 67 (.tmp 4) (.tmp 78) rfl w.heap.size 0 4 zPkD (pktC 3 e q none 0 0) rfl rfl Krx7.out (by kernel_rfl) rfl (by decide) (one_pktD _ _ _ _ _ _) ?_))
        intro x8 hbk hc
        rw [splice_whole zPkD (pktC 3 e q none 0 0) rfl] at hbk
        have KR := Lib.hid hbk
        have CR := Lib.hid hc
        clear hbk hc
        go_wp2_with fail
        (try simp only [Exit.inBlock, Exit.then])
        refine bodyPost_ret (res_cell_tmp rfl _ _ w.heap.size 4 _ rfl KR.out (by kernel_rfl) (by kernel_rfl) rfl) rfl ?_
        exact ⟨by rw [← HKK.out, if_pos ⟨HEE.out, HQQ.out⟩, ← HEE.out]; rfl, (E2.out.trans (Ex7.out.mono E2.out.size)).trans (CR.out.below (Nat.le_trans E2.out.size Ex7.out.size) (fun q hq he => by omega))⟩
      case neg =>
        have hei : decide (((e.toNat : Nat) : Int) = (L.e.toNat : Nat)) = true := decide_eq_true (by rw [hee])
        have heib : (((e.toNat : Nat) : Int) == (L.e.toNat : Nat)) = true := beq_iff_eq.2 (by rw [hee])
        have hqi : ¬ ((q.toNat : Nat) : Int) = (L.s.toNat : Nat) := fun h => hqq (UInt32.toNat_inj.1 (by omega))
        have HNB : Hid (¬ (e = L.e ∧ q = L.s)) := fun h => hqq h.2
        clear hee hqq
        go_wp2_with (first
          | (refine wpList_bld rfl 67 [(0, .const (.int .i64 4)), (1, .tmp 80), (2, .tmp 82)] rfl zPkD [(0, [.int .i64 4]), (1, [vu32 L.e]), (2, [vu32 q])] (pktC 4 L.e q none 0 0) (by kernel_rfl) (by kernel_rfl) ⟨rfl, ⟨1, rfl, by kernel_rfl, by decide⟩, rfl, ⟨1, rfl, by kernel_rfl, by decide⟩, rfl, ⟨1, rfl, by kernel_rfl, by decide⟩, trivial⟩ rfl ?_)
          | (refine wpList_st rfl 67 (.tmp 4) (.tmp 83) rfl w.heap.size 0 4 zPkD (pktC 4 L.e q none 0 0) rfl rfl Krx7.out (by kernel_rfl) rfl (by decide) (one_pktD _ _ _ _ _ _) ?_))
        intro x8 hbk hc
        rw [splice_whole zPkD (pktC 4 L.e q none 0 0) rfl] at hbk
        have KR := Lib.hid hbk
        have CR := Lib.hid hc
        clear hbk hc
        go_wp2_with fail
        (try simp only [Exit.inBlock, Exit.then])
        refine bodyPost_ret (res_cell_tmp rfl _ _ w.heap.size 4 _ rfl KR.out (by kernel_rfl) (by kernel_rfl) rfl) rfl ?_
        exact ⟨by rw [← HKK.out, if_neg HNB.out]; rfl, (E2.out.trans (Ex7.out.mono E2.out.size)).trans (CR.out.below (Nat.le_trans E2.out.size Ex7.out.size) (fun q hq he => by omega))⟩
    case neg =>
      have hei : ¬ ((e.toNat : Nat) : Int) = (L.e.toNat : Nat) := fun h => hee (UInt32.toNat_inj.1 (by omega))
      have HNB : Hid (¬ (e = L.e ∧ q = L.s)) := fun h => hee h.1
      clear hee
      go_wp2_with (first
        | (refine wpList_bld rfl 67 [(0, .const (.int .i64 4)), (1, .tmp 80), (2, .tmp 82)] rfl zPkD [(0, [.int .i64 4]), (1, [vu32 L.e]), (2, [vu32 q])] (pktC 4 L.e q none 0 0) (by kernel_rfl) (by kernel_rfl) ⟨rfl, ⟨1, rfl, by kernel_rfl, by decide⟩, rfl, ⟨1, rfl, by kernel_rfl, by decide⟩, rfl, ⟨1, rfl, by kernel_rfl, by decide⟩, trivial⟩ rfl ?_)
        | (refine wpList_st rfl 67 (.tmp 4) (.tmp 83) rfl w.heap.size 0 4 zPkD (pktC 4 L.e q none 0 0) rfl rfl Krx7.out (by kernel_rfl) rfl (by decide) (one_pktD _ _ _ _ _ _) ?_))
      intro x8 hbk hc
      rw [splice_whole zPkD (pktC 4 L.e q none 0 0) rfl] at hbk
      have KR := Lib.hid hbk
      have CR := Lib.hid hc
      clear hbk hc
      go_wp2_with fail
      (try simp only [Exit.inBlock, Exit.then])
      refine bodyPost_ret (res_cell_tmp rfl _ _ w.heap.size 4 _ rfl KR.out (by kernel_rfl) (by kernel_rfl) rfl) rfl ?_
      exact ⟨by rw [← HKK.out, if_neg HNB.out]; rfl, (E2.out.trans (Ex7.out.mono E2.out.size)).trans (CR.out.below (Nat.le_trans E2.out.size Ex7.out.size) (fun q hq he => by omega))⟩
set_option maxRecDepth 100000 in
set_option maxHeartbeats 16000000 in
theorem take_bad (b : List UInt8) (A0 : Option Addr) (n c : Nat) (w : World) (hl : b.length = n) (hnc : n ≤ c) (hcm : c ≤ 9223372036854775807) (hm : n ≤ 33000) (hr : Rd w A0 (bts b)) (h : Nat) (hd : (decP b).2 ≠ 0) :
    Calls Try.prog 26 #[.pointer (some ⟨h, 0, none⟩), .slice A0 n c] w fun en w' => en = .returned (.tuple #[.agg (pktC 0 0 0 none 0 0).toArray, .int .i64 11]) ∧ Below w.heap.size w w' := by
  have HRB := Lib.hid hr
  have HLB := Lib.hid hl
  clear hr hl
  go_enter Try.func26, Try.ntmps26
  go_wp2_with (refine wpList_al rfl 67 rfl zPkD (by kernel_rfl) ?_)
  intro gr w1 hg hbk hc hs
  subst hg
  have K1 := Lib.hid hbk
  have E1 : Hid (Below w.heap.size w w1) := hc.below (Nat.le_refl _) (fun _ _ => id)
  clear hbk hc hs
  go_wp2_with fail
  refine (packDecode_callsN b A0 n c w1 HLB.out hnc hcm hm (HRB.out.below E1.out)).mono ?_
  intro en w2 hp
  have hd2 : decP b = ((0, 0, 0, []), 11) := (decP_zero_or b).resolve_left hd
  rw [hd2] at hp
  obtain ⟨Ap, cp, he, hr2, hnc2, hcm2, hok2, hb, hrn⟩ := hp
  have he' : en = .returned (.tuple #[.agg (pktC 0 0 0 Ap 0 cp).toArray, .int .i64 11]) := he
  subst he'
  have E2 : Hid (Below w.heap.size w w2) := E1.out.trans (hb.mono E1.out.size)
  have Kr2 : Hid (Bk w2 w.heap.size zPkD) := K1.out.below hb
  clear he hb
  have Z2 : Hid (Below w2.heap.size w2 w2) := Below.refl _ _
  clear hr2 hnc2 hcm2 hok2 hrn hd hd2
  go_wp2_with (refine wpList_al rfl 67 rfl zPkD (by kernel_rfl) ?_)
  intro gp x1 hg hb hc hs
  have HQp : Hid (Below w2.heap.size w2 x1) := hc.below (Nat.le_refl _) (fun _ _ => id)
  have HGp : Hid (gp = w2.heap.size) := hg
  have KZp := Lib.hid hb
  clear hg hb hc hs
  go_wp2_with (refine wpList_st rfl 67 (.tmp 6) (.tmp 17) rfl gp 0 4 zPkD (pktC 0 0 0 Ap 0 cp) rfl rfl KZp.out (by kernel_rfl) rfl (by decide) (one_pktD _ _ _ _ _ _) ?_)
  intro x2 hbk hc
  rw [splice_whole zPkD (pktC 0 0 0 Ap 0 cp) rfl] at hbk
  have hb : Below w2.heap.size w2 x2 := HQp.out.trans (hc.below HQp.out.size (fun q hq he => by have := HGp.out; omega))
  have Arp : Hid (w.heap.size < gp) := by show _ < _; have := Kr2.out.lt; have := HGp.out; omega
  have Ex2 : Hid (Below w2.heap.size w2 x2) := Z2.out.trans (hb.mono Z2.out.size)
  have Krx2 : Hid (Bk x2 w.heap.size zPkD) := Kr2.out.below hb
  clear Z2 Kr2
  have Kpx2 : Hid (Bk x2 gp (pktC 0 0 0 Ap 0 cp)) := hbk
  have Kpx2 : Hid (Bk x2 gp (pktC 0 0 0 Ap 0 cp)) := hbk
  clear hbk hb hc KZp HQp HGp
  go_wp2_with (first
    | (refine wpList_bld rfl 67 [] rfl zPkD [] zPkD (by kernel_rfl) (by kernel_rfl) trivial rfl ?_)
    | (refine wpList_st rfl 67 (.tmp 4) (.tmp 31) rfl w.heap.size 0 4 zPkD zPkD rfl rfl Krx2.out (by kernel_rfl) rfl (by decide) (one_pktD _ _ _ _ _ _) ?_))
  intro x3 hbk hc
  rw [splice_whole zPkD zPkD rfl] at hbk
  have KR := Lib.hid hbk
  have CR := Lib.hid hc
  clear hbk hc
  go_wp2_with fail
  (try simp only [Exit.inBlock, Exit.then])
  refine bodyPost_ret (res_cell_tmp rfl _ _ w.heap.size 4 _ rfl KR.out (by kernel_rfl) (by kernel_rfl) rfl) rfl ?_
  exact ⟨rfl, (E2.out.trans (Ex2.out.mono E2.out.size)).trans (CR.out.below (Nat.le_trans E2.out.size Ex2.out.size) (fun q hq he => by omega))⟩
end Go.Proofs.Ytcmfkdfegfablaa
