
import Derived.Test.YtcmfkdfegfablaaWakes22
import Derived.Test.YtcmfkdfegfablaaPkArg
import Derived.Test.YtcmfkdfegfablaaNodeWant

/- The walk of TakerOnce. -/
namespace Go.Proofs.Ytcmfkdfegfablaa
open Go.RowKit
set_option linter.unusedVariables false
set_option linter.unusedSimpArgs false

theorem once_later {L : Lab} {top kk : Nat} {kq : UInt32} (h1 : L.s.toNat = top) (h0 : top = 0 → L.e = 0) (h3 : 0 < top → L.e = 3) (hk : kq.toNat = kk + 1) (ht : top < kk + 1) : laterB 3 kq L.e L.s = true := by
  simp only [laterB, Bool.or_eq_true, Bool.and_eq_true, decide_eq_true_eq]
  rcases Nat.eq_zero_or_pos top with hz | hz
  · exact .inl (by rw [h0 hz]; decide)
  · exact .inr ⟨by rw [h3 hz], by omega⟩
theorem once_old {L : Lab} {top kk : Nat} {kq : UInt32} (h1 : L.s.toNat = top) (h3 : L.e = 3) (hk : kq.toNat = kk + 1) (ht : ¬ top < kk + 1) : laterB 3 kq L.e L.s = false := by
  rw [h3]
  simp only [laterB, Bool.or_eq_false_iff, Bool.and_eq_false_iff, decide_eq_false_iff_not]
  exact ⟨by decide, .inr (by omega)⟩
def OnceGood (w : World) (ls : List PktV) (v : Value) (wr : World) : Prop := ∃ (k : Nat), k ≤ ls.length ∧ v = .int .i64 k ∧ (∀ j, j < k → ∀ h : j < ls.length, goodB ls[j].ps = true) ∧ Below w.heap.size w wr
def OnceRel (w : World) (gd gsd hn gk N m : Nat) (v9 v10 : Value) (wr : World) : Prop := ∃ (k top : Nat) (lv : Value) (S : List (List UInt8)) (L : Lab) (W : List (List UInt8)), k ≤ m ∧ v9 = .int .i64 top ∧ v10 = .int .i64 k ∧ DSes 92 w wr gd gsd lv (UpD S) ∧ Bk wr hn (NdC gd L) ∧ Bk wr gk (secs W) ∧ ¬ footD gd gsd lv hn ∧ ¬ footD gd gsd lv gk ∧ S.length = 19 ∧ W.length = 12 ∧ (∀ b, b < 12 → W.getD b [] = S.getD (7 + b) []) ∧ top ≤ N ∧ L.s.toNat = top ∧ (top = 0 → L.e = 0) ∧ (0 < top → L.e = 3)
def OnceRel2 (w : World) (gd gsd hn gk gp ga : Nat) (lv : Value) (S : List (List UInt8)) (L : Lab) (W : List (List UInt8)) (ps : List PutV) (pv av : List Value) (v : Value) (wr : World) : Prop := ∃ (j : Nat), j ≤ ps.length ∧ v = .int .i64 j ∧ DSes 92 w wr gd gsd lv (UpD S) ∧ Bk wr hn (NdC gd L) ∧ Bk wr gk (secs (wantS W (ps.take j))) ∧ Bk wr gp pv ∧ Bk wr ga av
set_option maxRecDepth 100000 in
set_option maxHeartbeats 64000000 in
theorem takerOnce_calls (w : World) (A : Option Addr) (n c : Nat) (ls : List PktV) (A2 : Option Addr) (n2 c2 : Nat) (ks : List UInt8) (hl : ls.length = n) (hnc : n ≤ c) (hm : c ≤ 9223372036854775807) (hr : Rd w A (ls.flatMap pvC)) (hok : ∀ r ∈ ls, PktOk w r) (hl2 : ks.length = n2) (hnc2 : n2 ≤ c2) (hm2 : c2 ≤ 9223372036854775807) (hr2 : Rd w A2 (bts ks)) :
    Calls Try.prog 8 #[.slice A n c, .slice A2 n2 c2] w fun e w' => e = .returned (.bool true) ∧ Below w.heap.size w w' := by
  subst hl
  subst hl2
  have HR := Lib.hid hr
  have HOKS := Lib.hid hok
  have HRK := Lib.hid hr2
  clear hr hok hr2
  go_enter Try.func8, Try.ntmps8
  by_cases h0 : ls.length = 0
  · have h0i : ((ls.length : Nat) : Int) = 0 := by omega
    go_wp2_with fail
    refine (wakes22_calls w).mono ?_
    rintro en wz ⟨rfl, hb⟩
    have EZ := Lib.hid hb
    clear hb
    go_wp2_with fail
    (try simp only [Exit.inBlock, Exit.then])
    go_ret
    exact ⟨rfl, EZ.out⟩
  have h0i : ¬ ((ls.length : Nat) : Int) = 0 := by omega
  have h0b : (((ls.length : Nat) : Int) == 0) = false := beq_eq_false_iff_ne.2 h0i
  by_cases h10 : 10 < ls.length
  · have h10i : (10 : Int) < (ls.length : Int) := by omega
    go_wp2_with fail
    refine (wakes22_calls w).mono ?_
    rintro en wz ⟨rfl, hb⟩
    have EZ := Lib.hid hb
    clear hb
    go_wp2_with fail
    (try simp only [Exit.inBlock, Exit.then])
    go_ret
    exact ⟨rfl, EZ.out⟩
  have h10i : ¬ (10 : Int) < (ls.length : Int) := by omega
  by_cases h60 : 60 < ks.length
  · have h60i : (60 : Int) < (ks.length : Int) := by omega
    go_wp2_with fail
    refine (wakes22_calls w).mono ?_
    rintro en wz ⟨rfl, hb⟩
    have EZ := Lib.hid hb
    clear hb
    go_wp2_with fail
    (try simp only [Exit.inBlock, Exit.then])
    go_ret
    exact ⟨rfl, EZ.out⟩
  have h60i : ¬ (60 : Int) < (ks.length : Int) := by omega
  have HN0 : Hid (0 < ls.length) := by show _ < _; omega
  have HN10 : Hid (ls.length ≤ 10) := by show _ ≤ _; omega
  have HK60 : Hid (ks.length ≤ 60) := by show _ ≤ _; omega
  go_wp2_with fail
  have HG0 : Hid (OnceGood w ls (.int .i64 0) w) := ⟨0, Nat.zero_le _, rfl, fun j hj => absurd hj (Nat.not_lt_zero _), Below.refl _ _⟩
  clear h10 h10i h60 h60i h0b h0 h0i
  go_loopw [5] (fun v5 wr => OnceGood w ls v5 wr) (fun v5 _ => ls.length - (intOf v5).toNat)
  case atStart => exact HG0.out
  case round =>
    obtain ⟨k, hk, rfl, hgs, hb⟩ := hrel
    have HGS := Lib.hid hgs
    have Er := Lib.hid hb
    clear hgs hb HG0
    by_cases hlt : k < ls.length
    case pos =>
      have hki : (k : Int) < (ls.length : Int) := by omega
      have hk0 : (0 : Int) ≤ (k : Int) := by omega
      have hk64 : (k : Int) + 1 < 9223372036854775807 := by have := HN10.out; omega
      obtain ⟨ad, hA⟩ := pk_some HR.out hlt
      subst hA
      have HOK := Lib.hid (HOKS.out _ (List.getElem_mem hlt))
      obtain ⟨r, hre⟩ : ∃ r, ls[k] = r := ⟨_, rfl⟩
      rw [hre] at HOK
      have cr := pk_at3 (HR.out.below Er.out) hlt
      rw [hre] at cr
      go_wp2_with fail
      clear cr
      refine (refGood_calls r.ps r.A r.n r.c wr HOK.out.len (by have h2 := HOK.out.cap; have h3 := HOK.out.max; omega) (HOK.out.rd.below Er.out) HOK.out.ok).mono ?_
      rintro en w11 ⟨rfl, hb⟩
      have Ew11 : Hid (Below w.heap.size w w11) := Er.out.trans (hb.mono Er.out.size)
      clear Er
      clear hb
      by_cases hgood : goodB r.ps = true
      case pos =>
        rw [hgood]
        go_wp2_with fail
        go_roundw
        case rel => exact ⟨k + 1, by omega, by go_num, fun j hj h => by
          rcases Nat.lt_or_ge j k with h1 | h1
          · exact HGS.out j h1 h
          · obtain rfl : j = k := by omega
            rw [hre]
            exact hgood, Ew11.out⟩
        case measure => simp [intOf]; omega
      case neg =>
        rw [Bool.eq_false_iff.2 hgood]
        go_wp2_with fail
        refine (wakes22_calls w11).mono ?_
        rintro en w12 ⟨rfl, hb⟩
        have Ew12 : Hid (Below w.heap.size w w12) := Ew11.out.trans (hb.mono Ew11.out.size)
        clear Ew11
        clear hb
        go_wp2_with fail
        (try simp only [Exit.inBlock, Exit.then])
        go_ret
        exact ⟨rfl, Ew12.out⟩
    case neg =>
      have hke : k = ls.length := by omega
      subst hke
      have hki : ¬ (((ls.length : Nat) : Int) < (ls.length : Int)) := by omega
      have HGA : Hid (∀ j (h : j < ls.length), goodB ls[j].ps = true) := fun j h => HGS.out j h h
      go_wp2_with fail
      refine (ndNew_calls w wr Er.out).mono ?_
      rintro en w11 ⟨gd, gsd, rfl, hd, hfe, hb⟩
      have Ew11 : Hid (Below w.heap.size w w11) := Er.out.trans (hb.mono Er.out.size)
      clear Er
      have Ddw11 : Hid (DSes 92 w w11 gd gsd (.slice none 0 0) (UpD S0)) := hd
      clear hb hd hfe
      go_wp2_with fail
      have HSZn : Hid (w.heap.size ≤ w11.heap.size) := Ew11.out.size
      refine (ndOpen_calls w11 gd gsd (.slice none 0 0) (UpD S0) 0 Ddw11.out.at_ (ok_up _) (by decide)).mono ?_
      intro en w12 hp
      rw [open_new] at hp
      obtain ⟨hn, lvdw12, rfl, hd, hk, hge, hnf, hft, hch⟩ := DSes.opost Ddw11.out hp
      have Ddw12 : Hid (DSes 92 w w12 gd gsd lvdw12 (UpD S0)) := hd
      have Ew12 : Hid (Below w.heap.size w w12) := hd.bel
      have Knw12 : Hid (Bk w12 hn (NdC gd zLab)) := hk
      have Fdn : Hid (¬ footD gd gsd lvdw12 hn) := hnf
      have NHn : Hid (w.heap.size ≤ hn) := by show _ ≤ _; have := HSZn.out; omega
      clear hp hd hk hge hnf hft hch Ddw11 Ew11
      go_wp2_with (refine wpList_al rfl 51 rfl (bts (List.replicate 384 0)) (by kernel_rfl) ?_)
      intro gk w13 hg hbk hc hs
      have hb : Below w12.heap.size w12 w13 := hc.below (Nat.le_refl _) (fun _ _ => id)
      have HGK : Hid (w12.heap.size ≤ gk) := by show _ ≤ _; omega
      have Fdk : Hid (¬ footD gd gsd lvdw12 gk) := fun hj => by have := DiskAt.lt Ddw12.out.at_ _ hj; have := HGK.out; omega
      have Ank : Hid (hn < gk) := by show _ < _; have := Knw12.out.lt; have := HGK.out; omega
      have Ew13 : Hid (Below w.heap.size w w13) := Ew12.out.trans (hb.mono Ew12.out.size)
      have Knw13 : Hid (Bk w13 hn (NdC gd zLab)) := Knw12.out.below hb
      have Ddw13 : Hid (DSes 92 w w13 gd gsd lvdw12 (UpD S0)) := Ddw12.out.below hb
      clear Ew12 Knw12 Ddw12
      have Kkw13 : Hid (Bk w13 gk (secs (List.replicate 12 (List.replicate 32 0)))) := by show Bk _ _ _; rw [secs_new 12]; exact hbk
      clear hbk hb hc hs hg HGK
      go_wp2_with fail
      have H0 : Hid (OnceRel w gd gsd hn gk ls.length ks.length (.int .i64 0) (.int .i64 0) w13) := ⟨0, 0, _, S0, zLab, (List.replicate 12 (List.replicate 32 0)), Nat.zero_le _, rfl, rfl, Ddw13.out, Knw13.out, Kkw13.out, Fdn.out, Fdk.out, S0_len, rfl, by decide +kernel, Nat.zero_le _, rfl, fun _ => rfl, fun h => absurd h (Nat.lt_irrefl _)⟩
      have GKW : Hid (w.heap.size ≤ gk) := by show _ ≤ _; have h1 := NHn.out; have h2 := Ank.out; omega
      have ANK : Hid (¬ hn = gk) := by have := Ank.out; show ¬ _; omega
      clear Ddw13 Ew13 Knw13 Kkw13 Fdn Fdk hki hk hlt
      go_loopw [9, 10] (fun v9 v10 wr => OnceRel w gd gsd hn gk ls.length ks.length v9 v10 wr) (fun _ v10 _ => ks.length - (intOf v10).toNat)
      case atStart => exact H0.out
      case round =>
        obtain ⟨k, top, lv, S, L, W, hk, rfl, rfl, hd, hkn, hkk, hfn, hfk, hsl, hw12, hws, htl, hls, hl0, hl3⟩ := hrel
        have DBr := Lib.hid hd
        have Er := Lib.hid hd.bel
        have KBr := Lib.hid hkn
        have KWr := Lib.hid hkk
        have FNN := Lib.hid hfn
        have Fdn := Lib.hid hfn
        have FKK := Lib.hid hfk
        have Fdk := Lib.hid hfk
        have HSL := Lib.hid hsl
        have HW12 := Lib.hid hw12
        have HWS := Lib.hid hws
        have HTL := Lib.hid htl
        have HLS := Lib.hid hls
        have HL0 := Lib.hid hl0
        have HL3 := Lib.hid hl3
        have HW32 : Hid (∀ b, b < 12 → (W.getD b []).length = 32) := fun b hb => by
          rw [hws b hb, List.getD_eq_getElem?_getD, List.getElem?_eq_getElem (by omega)]
          exact hd.at_.s32 _ (List.getElem_mem _)
        clear hd hkn hkk hfn hfk hsl hw12 hws htl hls hl0 hl3 H0
        by_cases hlt : k < ks.length
        · have hki : (k : Int) < (ks.length : Int) := by omega
          have hk0 : (0 : Int) ≤ (k : Int) := by omega
          have hk64 : (k : Int) + 1 < 9223372036854775807 := by have := HK60.out; omega
          have htop10 : (top : Int) < 4294967296 := by have := HTL.out; have := HN10.out; omega
          have htop0 : (0 : Int) ≤ (top : Int) := by omega
          obtain ⟨xb, hxb⟩ : ∃ xb, ks.getD k 0 = xb := ⟨_, rfl⟩
          obtain ⟨kk, hkk, hkm⟩ : ∃ kk : Nat, kk < ls.length ∧ (wrap64 (xb.toNat : Int)).tmod (ls.length : Int) = (kk : Int) := ⟨xb.toNat % ls.length, Nat.mod_lt _ HN0.out, by have := xb.toNat_lt; rw [show wrap64 (xb.toNat : Int) = xb.toNat by unfold wrap64; omega, Int.tmod_eq_emod_of_nonneg (by omega)]; rfl⟩
          obtain ⟨k2, hk2, hkm2⟩ : ∃ k2 : Nat, k2 < 2 ∧ ((kk : Nat) : Int).tmod 2 = (k2 : Int) := ⟨kk % 2, Nat.mod_lt _ (by decide), by rw [Int.tmod_eq_emod_of_nonneg (by omega)]; rfl⟩
          have hk2i : (k2 : Int) < 2 := by omega
          have hkki : (kk : Int) < (ls.length : Int) := by omega
          have hkk0 : (0 : Int) ≤ (kk : Int) := by omega
          have hkk10 : (kk : Int) + 1 < 4294967296 := by have := HN10.out; omega
          have hnn0 : ¬ ((ls.length : Nat) : Int) = 0 := by have := HN0.out; omega
          obtain ⟨kq, hkq⟩ : ∃ kq, UInt32.ofNat (kk + 1) = kq := ⟨_, rfl⟩
          have HKQN : Hid (kq.toNat = kk + 1) := by show _ = _; rw [← hkq, UInt32.toNat_ofNat_of_lt' (by show kk + 1 < 4294967296; omega)]
          have HKQ : Hid (Value.int .u32 ((kk : Int) + 1) = vu32 kq) := by show _ = _; rw [vu32, HKQN.out]; rfl
          clear hkq
          have HK12 : Hid ((1 + (k2 : Int)) = 1 ∨ (1 + (k2 : Int)) = 2) := by show _ ∨ _; omega
          obtain ⟨ad, hA⟩ := pk_some HR.out hkk
          subst hA
          obtain ⟨r, hre, hok1, hgd1⟩ : ∃ r, ls[kk] = r ∧ PktOk w r ∧ goodB r.ps = true := ⟨_, rfl, HOKS.out _ (List.getElem_mem hkk), HGA.out kk hkk⟩
          have HOK := Lib.hid hok1
          have HGD := Lib.hid hgd1
          have HRE0 := Lib.hid hre
          clear hre hok1 hgd1
          have HKKL := Lib.hid hkk
          have HGP : Hid (goodP (1 + (k2 : Int)) r.ps = true) := by show _ = _; rw [goodP_put HK12.out]; exact HGD.out
          obtain ⟨ad2, hA2, cb⟩ := (HRK.out.below Er.out).bt k hlt
          have cr := pk_at3 (HR.out.below Er.out) hkk
          rw [HRE0.out] at cr
          rw [hA2]
          rw [hxb] at cb
          rw [vu8] at cb
          go_wp2_with (first
            | (refine wpList_bld rfl 67 [(0, .tmp 74), (1, .const (.int .u32 3)), (2, .tmp 77), (3, .tmp 82)] rfl zPkD [(0, [.int .i64 (1 + (k2 : Int))]), (1, [vu32 3]), (2, [vu32 kq]), (3, [.slice r.A r.n r.c])] (pktC (1 + (k2 : Int)) 3 kq r.A r.n r.c) (by kernel_rfl) (by kernel_rfl) ⟨rfl, ⟨1, rfl, by kernel_rfl, by decide⟩, rfl, ⟨1, rfl, by kernel_rfl, by decide⟩, by rw [HKQ.out]; rfl, ⟨1, rfl, by kernel_rfl, by decide⟩, rfl, ⟨1, rfl, by kernel_rfl, by decide⟩, trivial⟩ rfl ?_)
            | (refine wpList_al rfl 67 rfl zPkD (by kernel_rfl) ?_))
          intro gp w41 hg hb hc hs
          have HQp : Hid (Below wr.heap.size wr w41) := hc.below (Nat.le_refl _) (fun _ _ => id)
          have HGp : Hid (gp = wr.heap.size) := hg
          have KZp := Lib.hid hb
          clear hg hb hc hs
          go_wp2_with (refine wpList_st rfl 67 (.tmp 12) (.tmp 83) rfl gp 0 4 zPkD (pktC (1 + (k2 : Int)) 3 kq r.A r.n r.c) rfl rfl KZp.out (by kernel_rfl) rfl (by decide) (one_pktD _ _ _ _ _ _) ?_)
          intro w42 hbk hc
          rw [splice_whole zPkD (pktC (1 + (k2 : Int)) 3 kq r.A r.n r.c) rfl] at hbk
          have hb : Below wr.heap.size wr w42 := HQp.out.trans (hc.below HQp.out.size (fun q hq he => by have := HGp.out; omega))
          have Fdp : Hid (¬ footD gd gsd lv gp) := fun hj => by have := DiskAt.lt DBr.out.at_ _ hj; have := HGp.out; omega
          have Anp : Hid (hn < gp) := by show _ < _; have := KBr.out.lt; have := HGp.out; omega
          have Akp : Hid (gk < gp) := by show _ < _; have := KWr.out.lt; have := HGp.out; omega
          have Ew42 : Hid (Below w.heap.size w w42) := Er.out.trans (hb.mono Er.out.size)
          have Knw42 : Hid (Bk w42 hn (NdC gd L)) := KBr.out.below hb
          have Kkw42 : Hid (Bk w42 gk (secs W)) := KWr.out.below hb
          have Ddw42 : Hid (DSes 92 w w42 gd gsd lv (UpD S)) := DBr.out.below hb
          clear Er KBr KWr DBr
          have Kpw42 : Hid (Bk w42 gp (pktC (1 + (k2 : Int)) 3 kq r.A r.n r.c)) := hbk
          have Kpw42 : Hid (Bk w42 gp (pktC (1 + (k2 : Int)) 3 kq r.A r.n r.c)) := hbk
          clear hbk hb hc KZp HQp HGp
          clear cr cb
          go_wp2_with (refine wpList_ld rfl 67 (.tmp 12) rfl gp 0 4 (pktC (1 + (k2 : Int)) 3 kq r.A r.n r.c) (pktC (1 + (k2 : Int)) 3 kq r.A r.n r.c) rfl Kpw42.out (by kernel_rfl) (by kernel_rfl) (Nat.le_refl 4) rfl ?_)
          refine (pkt_yes (1 + (k2 : Int)) 3 kq r.ps r.A r.n r.c w42 HOK.out.len (by have h2 := HOK.out.cap; have h3 := HOK.out.max; omega) (HOK.out.rd.below Ew42.out) HOK.out.ok HGP.out).mono ?_
          rintro en w43 ⟨ele, Ae, ce, rfl, hr, hnc, hcm, hle, hde, hb⟩
          have Ew43 : Hid (Below w.heap.size w w43) := Ew42.out.trans (hb.mono Ew42.out.size)
          have Knw43 : Hid (Bk w43 hn (NdC gd L)) := Knw42.out.below hb
          have Kkw43 : Hid (Bk w43 gk (secs W)) := Kkw42.out.below hb
          have Kpw43 : Hid (Bk w43 gp (pktC (1 + (k2 : Int)) 3 kq r.A r.n r.c)) := Kpw42.out.below hb
          have Ddw43 : Hid (DSes 92 w w43 gd gsd lv (UpD S)) := Ddw42.out.below hb
          clear Ew42 Knw42 Kkw42 Kpw42 Ddw42
          have Rew43 := Lib.hid hr
          have HCe : Hid (ele.length ≤ ce ∧ ce ≤ 9223372036854775807) := ⟨hnc, hcm⟩
          have HLEe : Hid (ele.length ≤ 33000) := hle
          have HDEe := Lib.hid hde
          clear hb hr hnc hcm hle hde
          go_wp2_with fail
          by_cases htop : top < kk + 1
          case pos =>
            have htopi : (top : Int) < (kk : Int) + 1 := by omega
            have HLAT : Hid (laterB 3 kq L.e L.s = true) := once_later HLS.out HL0.out HL3.out HKQN.out htop
            have HTOP := Lib.hid htop
            clear htop
            refine (take_yes ele Ae ele.length ce w43 rfl HCe.out.1 HCe.out.2 HLEe.out Rew43.out (1 + (k2 : Int)) 3 kq r.ps HDEe.out HK12.out gd gsd lv hn (UpD S) L Ddw43.out.at_ Knw43.out 0 Fdn.out (ok_up _) (by decide) (fun hg _ => put_up_ok HSL.out hg) _ _ HLAT.out (up_apply HSL.out HGD.out HLAT.out) rfl).mono ?_
            intro en w44 hp
            have hch := NPost.chg hp
            obtain ⟨rfl, lvdw44, hd, hk, hft⟩ := DSes.npost Ddw43.out hp NHn.out
            have Ddw44 : Hid (DSes 92 w w44 gd gsd lvdw44 (UpD (appS S 3 kq r.ps (carryL L 3 kq r.ps L.d)))) := hd
            have Ew44 : Hid (Below w.heap.size w w44) := hd.bel
            have Kkw44 : Hid (Bk w44 gk (secs W)) := Kkw43.out.chg hch (fun hj => hj.elim Fdk.out (fun he => by have := Ank.out; omega))
            have Fdk : Hid (¬ footD gd gsd lvdw44 gk) := fun hj => (hft _ hj).elim Fdk.out (fun h => by have := Kkw43.out.lt; omega)
            have Kpw44 : Hid (Bk w44 gp (pktC (1 + (k2 : Int)) 3 kq r.A r.n r.c)) := Kpw43.out.chg hch (fun hj => hj.elim Fdp.out (fun he => by have := Anp.out; omega))
            have Fdp : Hid (¬ footD gd gsd lvdw44 gp) := fun hj => (hft _ hj).elim Fdp.out (fun h => by have := Kpw43.out.lt; omega)
            have Knw44 : Hid (Bk w44 hn (NdC gd (carryL L 3 kq r.ps L.d))) := hk
            have Fdn : Hid (¬ footD gd gsd lvdw44 hn) := fun hj => (hft _ hj).elim Fdn.out (fun h => by have := Knw43.out.lt; omega)
            clear hp hd hk hft hch Knw43 Kkw43 Kpw43 Ddw43 Ew43
            go_wp2_with (refine wpList_al rfl 67 rfl zPkD (by kernel_rfl) ?_)
            intro ga w45 hg hb hc hs
            have HQa : Hid (Below w44.heap.size w44 w45) := hc.below (Nat.le_refl _) (fun _ _ => id)
            have HGa : Hid (ga = w44.heap.size) := hg
            have KZa := Lib.hid hb
            clear hg hb hc hs
            go_wp2_with (refine wpList_st rfl 67 (.tmp 13) (.tmp 89) rfl ga 0 4 zPkD (pktC 3 3 kq none 0 0) rfl rfl KZa.out (by kernel_rfl) rfl (by decide) (one_pktD _ _ _ _ _ _) ?_)
            intro w46 hbk hc
            rw [splice_whole zPkD (pktC 3 3 kq none 0 0) rfl] at hbk
            have hb : Below w44.heap.size w44 w46 := HQa.out.trans (hc.below HQa.out.size (fun q hq he => by have := HGa.out; omega))
            have Fda : Hid (¬ footD gd gsd lvdw44 ga) := fun hj => by have := DiskAt.lt Ddw44.out.at_ _ hj; have := HGa.out; omega
            have Ana : Hid (hn < ga) := by show _ < _; have := Knw44.out.lt; have := HGa.out; omega
            have Aka : Hid (gk < ga) := by show _ < _; have := Kkw44.out.lt; have := HGa.out; omega
            have Apa : Hid (gp < ga) := by show _ < _; have := Kpw44.out.lt; have := HGa.out; omega
            have Ew46 : Hid (Below w.heap.size w w46) := Ew44.out.trans (hb.mono Ew44.out.size)
            have Knw46 : Hid (Bk w46 hn (NdC gd (carryL L 3 kq r.ps L.d))) := Knw44.out.below hb
            have Kkw46 : Hid (Bk w46 gk (secs W)) := Kkw44.out.below hb
            have Kpw46 : Hid (Bk w46 gp (pktC (1 + (k2 : Int)) 3 kq r.A r.n r.c)) := Kpw44.out.below hb
            have Ddw46 : Hid (DSes 92 w w46 gd gsd lvdw44 (UpD (appS S 3 kq r.ps (carryL L 3 kq r.ps L.d)))) := Ddw44.out.below hb
            clear Ew44 Knw44 Kkw44 Kpw44 Ddw44
            have Kaw46 : Hid (Bk w46 ga (pktC 3 3 kq none 0 0)) := hbk
            have Kaw46 : Hid (Bk w46 ga (pktC 3 3 kq none 0 0)) := hbk
            clear hbk hb hc KZa HQa HGa
            have ca2 : w46.cell? ⟨ga, 2, none⟩ = some (vu32 kq) := Kaw46.out.cell rfl
            have cp2 : w46.cell? ⟨gp, 2, none⟩ = some (vu32 kq) := Kpw46.out.cell rfl
            go_wp2_with fail
            clear ca2 cp2 HLEe HDEe HCe
            have H2 : Hid (OnceRel2 w gd gsd hn gk gp ga lvdw44 (appS S 3 kq r.ps (carryL L 3 kq r.ps L.d)) (carryL L 3 kq r.ps L.d) W r.ps (pktC (1 + (k2 : Int)) 3 kq r.A r.n r.c) (pktC 3 3 kq none 0 0) (.int .i64 0) w46) := ⟨0, Nat.zero_le _, rfl, Ddw46.out, Knw46.out, Kkw46.out, Kpw46.out, Kaw46.out⟩
            have HX1 : Hid (¬ footD gd gsd lvdw44 hn) := Fdn
            have HX2 : Hid (¬ footD gd gsd lvdw44 gk) := Fdk
            have HX3 : Hid (¬ footD gd gsd lvdw44 gp) := Fdp
            have HX4 : Hid (¬ footD gd gsd lvdw44 ga) := Fda
            have HSL2 : Hid ((appS S 3 kq r.ps (carryL L 3 kq r.ps L.d)).length = 19) := by show _ = _; rw [appS_length]; exact HSL.out
            have HWS2 : Hid (∀ b, b < 12 → (wantS W r.ps).getD b [] = (appS S 3 kq r.ps (carryL L 3 kq r.ps L.d)).getD (7 + b) []) := fun b hb => by rw [appS_blk HSL.out HGD.out hb, wantS_at r.ps W b HW12.out (goodB_ats' HGD.out) hb]; exact wupd_congr _ _ _ _ (HWS.out b hb)
            clear Ddw46 Knw46 Kkw46 Kpw46 Kaw46 Ew46
            go_loopw [15] (fun v15 wr => OnceRel2 w gd gsd hn gk gp ga lvdw44 (appS S 3 kq r.ps (carryL L 3 kq r.ps L.d)) (carryL L 3 kq r.ps L.d) W r.ps (pktC (1 + (k2 : Int)) 3 kq r.A r.n r.c) (pktC 3 3 kq none 0 0) v15 wr) (fun v15 _ => r.ps.length - (intOf v15).toNat)
            case atStart => exact H2.out
            case round =>
              obtain ⟨j, hj, rfl, hd2, hkn2, hkk2, hkp2, hka2⟩ := hrel
              have DBt := Lib.hid hd2
              have Et := Lib.hid hd2.bel
              have KNt := Lib.hid hkn2
              have KKt := Lib.hid hkk2
              have KPt := Lib.hid hkp2
              have KAt := Lib.hid hka2
              clear hd2 hkn2 hkk2 hkp2 hka2 H2
              have cp3 : wr.cell? ⟨gp, 3, none⟩ = some (.slice r.A r.n r.c) := KPt.out.cell rfl
              by_cases hjl : j < r.ps.length
              case neg =>
                have hje : j = r.ps.length := by omega
                subst hje
                have hji : ¬ (((r.ps.length : Nat) : Int) < (r.n : Int)) := by have := HOK.out.len; omega
                have ca0 : wr.cell? ⟨ga, 0, none⟩ = some (.int .i64 3) := KAt.out.cell rfl
                go_wp2_with fail
                clear ca0 cp3
                clear KPt KAt
                obtain ⟨z3, z4, z5, hz⟩ : ∃ (a : UInt32) (b c : UInt16), labC (carryL L 3 kq r.ps L.d) = [vu32 3, .int .u32 ((kk : Int) + 1), vu32 a, vu16 b, vu16 c] := by rw [HKQ.out]; exact ⟨_, _, _, rfl⟩
                have HZ := Lib.hid hz
                clear hz
                refine (ndLabel_calls wr gd hn (carryL L 3 kq r.ps L.d) KNt.out).mono ?_
                rintro en w71 ⟨rfl, hb⟩
                have Ew71 : Hid (Below w.heap.size w w71) := Et.out.trans (hb.mono Et.out.size)
                have Knw71 : Hid (Bk w71 hn (NdC gd (carryL L 3 kq r.ps L.d))) := KNt.out.below hb
                have Kkw71 : Hid (Bk w71 gk (secs (wantS W (r.ps.take r.ps.length)))) := KKt.out.below hb
                have Ddw71 : Hid (DSes 92 w w71 gd gsd lvdw44 (UpD (appS S 3 kq r.ps (carryL L 3 kq r.ps L.d)))) := DBt.out.below hb
                clear Et KNt KKt DBt
                clear hb
                go_wp2_with (refine wpList_fld rfl 40 (.tmp 136) 1 rfl 22 1 .u32 (labC (carryL L 3 kq r.ps L.d)) (.int .u32 ((kk : Int) + 1)) rfl (by kernel_rfl) Try.underlying22 (by rw [HZ.out]; rfl) ?_)
                refine (ndLabel_calls w71 gd hn (carryL L 3 kq r.ps L.d) Knw71.out).mono ?_
                rintro en w72 ⟨rfl, hb⟩
                have Ew72 : Hid (Below w.heap.size w w72) := Ew71.out.trans (hb.mono Ew71.out.size)
                have Knw72 : Hid (Bk w72 hn (NdC gd (carryL L 3 kq r.ps L.d))) := Knw71.out.below hb
                have Kkw72 : Hid (Bk w72 gk (secs (wantS W (r.ps.take r.ps.length)))) := Kkw71.out.below hb
                have Ddw72 : Hid (DSes 92 w w72 gd gsd lvdw44 (UpD (appS S 3 kq r.ps (carryL L 3 kq r.ps L.d)))) := Ddw71.out.below hb
                clear Ew71 Knw71 Kkw71 Ddw71
                clear hb
                go_wp2_with (refine wpList_fld rfl 40 (.tmp 144) 0 rfl 22 0 .u32 (labC (carryL L 3 kq r.ps L.d)) (vu32 3) rfl (by kernel_rfl) Try.underlying22 (by rw [HZ.out]; rfl) ?_)
                go_roundw
                case rel => exact ⟨k + 1, kk + 1, lvdw44, (appS S 3 kq r.ps (carryL L 3 kq r.ps L.d)), (carryL L 3 kq r.ps L.d), wantS W r.ps, by omega, by go_num, by go_num, Ddw72.out, Knw72.out, by have h := Kkw72.out; rwa [List.take_length] at h, HX1.out, HX2.out, HSL2.out, by rw [wantS_len]; exact HW12.out, HWS2.out, by have := HKKL.out; omega, HKQN.out, fun h => by omega, fun _ => rfl⟩
                case measure => simp [intOf]; omega
              have hji : (j : Int) < (r.n : Int) := by have := HOK.out.len; omega
              have hj0 : (0 : Int) ≤ (j : Int) := by omega
              have hj64 : (j : Int) + 1 < 9223372036854775807 := by have := HOK.out.len; have := (goodB_at HGD.out).2.1; omega
              have HPAT := Lib.hid (pk_put_at HOK.out hjl)
              have HDL := Lib.hid (HOK.out.ok _ (List.getElem_mem hjl)).1
              have HPS := Lib.hid (goodB_ats' HGD.out _ (List.getElem_mem hjl))
              have HTK : Hid (wantS W (r.ps.take (j + 1)) = (wantS W (r.ps.take j)).set r.ps[j].at_.toNat r.ps[j].data) := wantS_take W r.ps j hjl
              obtain ⟨pd, hpd⟩ : ∃ pd, r.ps[j] = pd := ⟨_, rfl⟩
              rw [hpd] at HPAT HDL HPS HTK
              clear hpd
              obtain ⟨bz, hbz⟩ : ∃ bz : Nat, pd.at_ = (bz : Int) := ⟨pd.at_.toNat, by have := HPS.out; omega⟩
              have hbz12 : bz < 12 := by have := HPS.out; omega
              have hbzi : (bz : Int) < 12 := by omega
              have hbz0 : (0 : Int) ≤ (bz : Int) := by omega
              have HBZ := Lib.hid hbz
              have HBZL := Lib.hid hbz12
              obtain ⟨ad2, hA2⟩ := pk_put_some HOK.out hjl
              have HAD2 := Lib.hid hA2
              rw [hA2] at cp3
              clear hbz hA2 hbz12
              obtain ⟨W1, hW1⟩ : ∃ W1, wantS W (r.ps.take j) = W1 := ⟨_, rfl⟩
              rw [hW1] at KKt HTK
              have HW1 : Hid (W1.length = 12) := by show _ = _; rw [← hW1, wantS_len]; exact HW12.out
              have HW132 : Hid (∀ b, b < 12 → (W1.getD b []).length = 32) := by rw [← hW1]; exact wantS_32 W _ HW12.out HW32.out (fun p hp => (HOK.out.ok p (List.mem_of_mem_take hp)).1)
              clear hW1
              go_wp2_with fail
              clear cp3
              apply wp_region_rel 12 (Chg NoS) [(Veq _), (Veq _), (Veq _), (Veq _), (Veq _), (Veq _), (Veq _), (Veq _), (Veq _), (Veq _), (Veq _), (Veq _)] [[], [0], [], [1, 2], [3], [4], [], [6], [], [7, 8], [9], [10]] [113, 114, 115, 116, 117, 118, 119, 120, 121, 122, 123, 124] (by kernel_rfl) (by kernel_rfl) rfl rfl rfl Chg.refl (fun _ _ _ => Chg.trans) ⟨Veq.lasts, Veq.lasts, Veq.lasts, Veq.lasts, Veq.lasts, Veq.lasts, Veq.lasts, Veq.lasts, Veq.lasts, Veq.lasts, Veq.lasts, Veq.lasts, trivial⟩ ?aops ?afin
              case aops =>
                refine ⟨?ao0, ?ao1, ?ao2, ?ao3, ?ao4, ?ao5, ?ao6, ?ao7, ?ao8, ?ao9, ?ao10, ?ao11, trivial⟩
                case ao0 =>
                  intro a wx hE hin
                  have i12 : a.eval (.tmp 12) = .pointer (some ⟨gp, 0, none⟩) := hin 12 rfl
                  clear hin
                  have hcst : ∀ v, a.eval (.const v) = v := fun _ => rfl
                  have hfnc : ∀ f, a.eval (.func f) = .func (.func f) #[] #[] := fun _ => rfl
                  refine want_none rfl ?_
                  unfold Oper.wp
                  generalize a.eval = ρ at *
                  go_simp
                  try go_bits
                  first | exact rel_val (Chg.refl _) | (go_simp; exact rel_val (Chg.refl _))
                case ao1 =>
                  rintro a wx hE hin (h0 : a.eval (.tmp 113) = _)
                  clear hin
                  have hcst : ∀ v, a.eval (.const v) = v := fun _ => rfl
                  have hfnc : ∀ f, a.eval (.func f) = .func (.func f) #[] #[] := fun _ => rfl
                  refine want_none rfl ?_
                  unfold Oper.wp
                  generalize a.eval = ρ at *
                  have c : wx.cell? ⟨gp, 3, none⟩ = some (.slice (some ad2) r.n r.c) := by have h : wx.cell? ⟨gp, 3, none⟩ = some (.slice r.A r.n r.c) := (KPt.out.drew.chg hE id).cell rfl; rwa [HAD2.out] at h
                  go_simp
                  try go_bits
                  first | exact rel_val (Chg.refl _) | (go_simp; exact rel_val (Chg.refl _))
                case ao2 =>
                  intro a wx hE hin
                  have i15 : a.eval (.tmp 15) = .int .i64 j := hin 15 rfl
                  clear hin
                  have hcst : ∀ v, a.eval (.const v) = v := fun _ => rfl
                  have hfnc : ∀ f, a.eval (.func f) = .func (.func f) #[] #[] := fun _ => rfl
                  refine want_none rfl ?_
                  unfold Oper.wp
                  generalize a.eval = ρ at *
                  go_simp
                  try go_bits
                  first | exact rel_val (Chg.refl _) | (go_simp; exact rel_val (Chg.refl _))
                case ao3 =>
                  rintro a wx hE hin (h1 : a.eval (.tmp 114) = _) (h2 : a.eval (.tmp 115) = _)
                  clear hin
                  have hcst : ∀ v, a.eval (.const v) = v := fun _ => rfl
                  have hfnc : ∀ f, a.eval (.func f) = .func (.func f) #[] #[] := fun _ => rfl
                  refine want_none rfl ?_
                  unfold Oper.wp
                  generalize a.eval = ρ at *
                  go_simp
                  try go_bits
                  first | exact rel_val (Chg.refl _) | (go_simp; exact rel_val (Chg.refl _))
                case ao4 =>
                  rintro a wx hE hin (h3 : a.eval (.tmp 116) = _)
                  clear hin
                  have hcst : ∀ v, a.eval (.const v) = v := fun _ => rfl
                  have hfnc : ∀ f, a.eval (.func f) = .func (.func f) #[] #[] := fun _ => rfl
                  refine want_none rfl ?_
                  unfold Oper.wp
                  generalize a.eval = ρ at *
                  go_simp
                  try go_bits
                  first | exact rel_val (Chg.refl _) | (go_simp; exact rel_val (Chg.refl _))
                case ao5 =>
                  rintro a wx hE hin (h4 : a.eval (.tmp 117) = _)
                  clear hin
                  have hcst : ∀ v, a.eval (.const v) = v := fun _ => rfl
                  have hfnc : ∀ f, a.eval (.func f) = .func (.func f) #[] #[] := fun _ => rfl
                  refine want_none rfl ?_
                  unfold Oper.wp
                  generalize a.eval = ρ at *
                  have c := HPAT.out.1 wx (Et.out.trans (hE.undrew.below Et.out.size (fun _ _ => id))) ad2 HAD2.out
                  rw [HBZ.out] at c
                  go_simp
                  try go_bits
                  first | exact rel_val (Chg.refl _) | (go_simp; exact rel_val (Chg.refl _))
                case ao6 =>
                  intro a wx hE hin
                  have i12 : a.eval (.tmp 12) = .pointer (some ⟨gp, 0, none⟩) := hin 12 rfl
                  clear hin
                  have hcst : ∀ v, a.eval (.const v) = v := fun _ => rfl
                  have hfnc : ∀ f, a.eval (.func f) = .func (.func f) #[] #[] := fun _ => rfl
                  refine want_none rfl ?_
                  unfold Oper.wp
                  generalize a.eval = ρ at *
                  go_simp
                  try go_bits
                  first | exact rel_val (Chg.refl _) | (go_simp; exact rel_val (Chg.refl _))
                case ao7 =>
                  rintro a wx hE hin (h6 : a.eval (.tmp 119) = _)
                  clear hin
                  have hcst : ∀ v, a.eval (.const v) = v := fun _ => rfl
                  have hfnc : ∀ f, a.eval (.func f) = .func (.func f) #[] #[] := fun _ => rfl
                  refine want_none rfl ?_
                  unfold Oper.wp
                  generalize a.eval = ρ at *
                  have c : wx.cell? ⟨gp, 3, none⟩ = some (.slice (some ad2) r.n r.c) := by have h : wx.cell? ⟨gp, 3, none⟩ = some (.slice r.A r.n r.c) := (KPt.out.drew.chg hE id).cell rfl; rwa [HAD2.out] at h
                  go_simp
                  try go_bits
                  first | exact rel_val (Chg.refl _) | (go_simp; exact rel_val (Chg.refl _))
                case ao8 =>
                  intro a wx hE hin
                  have i15 : a.eval (.tmp 15) = .int .i64 j := hin 15 rfl
                  clear hin
                  have hcst : ∀ v, a.eval (.const v) = v := fun _ => rfl
                  have hfnc : ∀ f, a.eval (.func f) = .func (.func f) #[] #[] := fun _ => rfl
                  refine want_none rfl ?_
                  unfold Oper.wp
                  generalize a.eval = ρ at *
                  go_simp
                  try go_bits
                  first | exact rel_val (Chg.refl _) | (go_simp; exact rel_val (Chg.refl _))
                case ao9 =>
                  rintro a wx hE hin (h7 : a.eval (.tmp 120) = _) (h8 : a.eval (.tmp 121) = _)
                  clear hin
                  have hcst : ∀ v, a.eval (.const v) = v := fun _ => rfl
                  have hfnc : ∀ f, a.eval (.func f) = .func (.func f) #[] #[] := fun _ => rfl
                  refine want_none rfl ?_
                  unfold Oper.wp
                  generalize a.eval = ρ at *
                  go_simp
                  try go_bits
                  first | exact rel_val (Chg.refl _) | (go_simp; exact rel_val (Chg.refl _))
                case ao10 =>
                  rintro a wx hE hin (h9 : a.eval (.tmp 122) = _)
                  clear hin
                  have hcst : ∀ v, a.eval (.const v) = v := fun _ => rfl
                  have hfnc : ∀ f, a.eval (.func f) = .func (.func f) #[] #[] := fun _ => rfl
                  refine want_none rfl ?_
                  unfold Oper.wp
                  generalize a.eval = ρ at *
                  go_simp
                  try go_bits
                  first | exact rel_val (Chg.refl _) | (go_simp; exact rel_val (Chg.refl _))
                case ao11 =>
                  rintro a wx hE hin (h10 : a.eval (.tmp 123) = _)
                  clear hin
                  have hcst : ∀ v, a.eval (.const v) = v := fun _ => rfl
                  have hfnc : ∀ f, a.eval (.func f) = .func (.func f) #[] #[] := fun _ => rfl
                  refine want_none rfl ?_
                  exact wp_ldr2 35 _ rfl _ 32 (bts pd.data) h10 (by have h := (HPAT.out.2 wx (Et.out.trans (hE.undrew.below Et.out.size (fun _ _ => id))) ad2 HAD2.out).drop 1; exact h) (by kernel_rfl) (by kernel_rfl) (by rw [bts_length]; exact HDL.out) (rel_val (Chg.refl _))
              case afin =>
                intro wx hE
                rintro _ rfl _ rfl _ rfl _ rfl _ rfl _ rfl _ rfl _ rfl _ rfl _ rfl _ rfl _ rfl
                simp only [FinOk, List.take_succ_cons, List.take_zero, List.take_nil, List.drop_succ_cons, List.drop_zero, List.drop_nil, Act.put, List.setIfInBounds_toArray, List.set_cons_succ, List.set_cons_zero]
                have DX : Hid (DSes 92 w wx gd gsd lvdw44 (UpD (appS S 3 kq r.ps (carryL L 3 kq r.ps L.d)))) := DBt.out.chgN hE.undrew
                have NX : Hid (Bk wx hn (NdC gd (carryL L 3 kq r.ps L.d))) := KNt.out.drew.chg hE id
                have KX : Hid (Bk wx gk (secs W1)) := KKt.out.drew.chg hE id
                have PX : Hid (Bk wx gp (pktC (1 + (k2 : Int)) 3 kq r.A r.n r.c)) := KPt.out.drew.chg hE id
                have AX : Hid (Bk wx ga (pktC 3 3 kq none 0 0)) := KAt.out.drew.chg hE id
                have HTS : Hid (splice (secs W1) (bz * 32) (bts pd.data) = secs (W1.set bz pd.data)) := secs_set HW1.out HW132.out HDL.out HBZL.out
                clear hE KKt KNt DBt KPt KAt
                go_wp2_with (refine wpList_st rfl 35 (.tmp 125) (.tmp 124) rfl gk (bz * 32) 32 (secs W1) (bts pd.data) rfl rfl KX.out (by kernel_rfl) (by rw [bts_length]; exact HDL.out) (by rw [secs_len12 HW1.out HW132.out]; have := HBZL.out; omega) (one_bts _) ?_)
                intro w4 hbk hc
                rw [HTS.out] at hbk
                have KY := Lib.hid hbk
                have DY : Hid (DSes 92 w w4 gd gsd lvdw44 (UpD (appS S 3 kq r.ps (carryL L 3 kq r.ps L.d)))) := ⟨DiskAt.chg DX.out.at_ hc (fun q hq hk => HX2.out (by rw [← (show q = gk from hk)]; exact hq)), DX.out.fr, DX.out.bel.trans (hc.below DX.out.bel.size (fun q hq he => by have := GKW.out; omega))⟩
                have NY : Hid (Bk w4 hn (NdC gd (carryL L 3 kq r.ps L.d))) := NX.out.chg hc (fun h => ANK.out h)
                have PY : Hid (Bk w4 gp (pktC (1 + (k2 : Int)) 3 kq r.A r.n r.c)) := PX.out.chg hc (fun h => by have := Akp.out; omega)
                have AY : Hid (Bk w4 ga (pktC 3 3 kq none 0 0)) := AX.out.chg hc (fun h => by have := Aka.out; omega)
                clear hbk hc DX NX KX PX AX
                go_wp2_with fail
                go_roundw
                case rel => exact ⟨j + 1, by omega, by go_num, DY.out, NY.out, by rw [HTK.out, show pd.at_.toNat = bz by have := HBZ.out; omega]; exact KY.out, PY.out, AY.out⟩
                case measure => simp [intOf]; omega
          case neg =>
            have htopi : decide ((top : Int) < (kk : Int) + 1) = false := decide_eq_false (by omega)
            have HLE : Hid (L.e = 3) := HL3.out (by omega)
            have HLAT : Hid (laterB 3 kq L.e L.s = false) := once_old HLS.out HLE.out HKQN.out htop
            have HTOP := Lib.hid htop
            clear htop
            by_cases heq : kk + 1 = top
            case pos =>
              have heqd : decide (((kk : Nat) : Int) + 1 = (top : Int)) = true := decide_eq_true (by omega)
              have heqb : (((kk : Nat) : Int) + 1 == (top : Int)) = true := beq_iff_eq.2 (by omega)
              have HKI : Hid ((if (3 : UInt32) = L.e ∧ kq = L.s then (3 : Int) else 4) = 3) := if_pos ⟨HLE.out.symm, UInt32.toNat_inj.1 (by have h1 := HKQN.out; have h2 := HLS.out; omega)⟩
              clear heq
              refine (take_no ele Ae ele.length ce w43 rfl HCe.out.1 HCe.out.2 HLEe.out Rew43.out (1 + (k2 : Int)) 3 kq r.ps HDEe.out HK12.out gd gsd lv hn (UpD S) L Ddw43.out.at_ Knw43.out HLAT.out 3 HKI.out).mono ?_
              rintro en w44 ⟨rfl, hb⟩
              have Ew44 : Hid (Below w.heap.size w w44) := Ew43.out.trans (hb.mono Ew43.out.size)
              have Knw44 : Hid (Bk w44 hn (NdC gd L)) := Knw43.out.below hb
              have Kkw44 : Hid (Bk w44 gk (secs W)) := Kkw43.out.below hb
              have Kpw44 : Hid (Bk w44 gp (pktC (1 + (k2 : Int)) 3 kq r.A r.n r.c)) := Kpw43.out.below hb
              have Rew44 : Hid (Rd w44 Ae (bts ele)) := Rew43.out.below hb
              have Ddw44 : Hid (DSes 92 w w44 gd gsd lv (UpD S)) := Ddw43.out.below hb
              clear Ew43 Knw43 Kkw43 Kpw43 Rew43 Ddw43
              clear hb
              rw [HLE.out]
              go_wp2_with (refine wpList_al rfl 67 rfl zPkD (by kernel_rfl) ?_)
              intro ga w45 hg hb hc hs
              have HQa : Hid (Below w44.heap.size w44 w45) := hc.below (Nat.le_refl _) (fun _ _ => id)
              have HGa : Hid (ga = w44.heap.size) := hg
              have KZa := Lib.hid hb
              clear hg hb hc hs
              go_wp2_with (refine wpList_st rfl 67 (.tmp 13) (.tmp 89) rfl ga 0 4 zPkD (pktC 3 3 kq none 0 0) rfl rfl KZa.out (by kernel_rfl) rfl (by decide) (one_pktD _ _ _ _ _ _) ?_)
              intro w46 hbk hc
              rw [splice_whole zPkD (pktC 3 3 kq none 0 0) rfl] at hbk
              have hb : Below w44.heap.size w44 w46 := HQa.out.trans (hc.below HQa.out.size (fun q hq he => by have := HGa.out; omega))
              have Fda : Hid (¬ footD gd gsd lv ga) := fun hj => by have := DiskAt.lt Ddw44.out.at_ _ hj; have := HGa.out; omega
              have Ana : Hid (hn < ga) := by show _ < _; have := Knw44.out.lt; have := HGa.out; omega
              have Aka : Hid (gk < ga) := by show _ < _; have := Kkw44.out.lt; have := HGa.out; omega
              have Apa : Hid (gp < ga) := by show _ < _; have := Kpw44.out.lt; have := HGa.out; omega
              have Ew46 : Hid (Below w.heap.size w w46) := Ew44.out.trans (hb.mono Ew44.out.size)
              have Knw46 : Hid (Bk w46 hn (NdC gd L)) := Knw44.out.below hb
              have Kkw46 : Hid (Bk w46 gk (secs W)) := Kkw44.out.below hb
              have Kpw46 : Hid (Bk w46 gp (pktC (1 + (k2 : Int)) 3 kq r.A r.n r.c)) := Kpw44.out.below hb
              have Rew46 : Hid (Rd w46 Ae (bts ele)) := Rew44.out.below hb
              have Ddw46 : Hid (DSes 92 w w46 gd gsd lv (UpD S)) := Ddw44.out.below hb
              clear Ew44 Knw44 Kkw44 Kpw44 Rew44 Ddw44
              have Kaw46 : Hid (Bk w46 ga (pktC 3 3 kq none 0 0)) := hbk
              have Kaw46 : Hid (Bk w46 ga (pktC 3 3 kq none 0 0)) := hbk
              clear hbk hb hc KZa HQa HGa
              have ca2 : w46.cell? ⟨ga, 2, none⟩ = some (vu32 kq) := Kaw46.out.cell rfl
              have cp2 : w46.cell? ⟨gp, 2, none⟩ = some (vu32 kq) := Kpw46.out.cell rfl
              have ca0 : w46.cell? ⟨ga, 0, none⟩ = some (.int .i64 3) := Kaw46.out.cell rfl
              go_wp2_with fail
              clear ca0 ca2 cp2
              obtain ⟨z3, z4, z5, hz⟩ : ∃ (a : UInt32) (b c : UInt16), labC L = [vu32 3, .int .u32 (top : Int), vu32 a, vu16 b, vu16 c] := by rw [← HLS.out, ← HLE.out]; exact ⟨_, _, _, rfl⟩
              have HZ := Lib.hid hz
              clear hz
              refine (ndLabel_calls w46 gd hn L Knw46.out).mono ?_
              rintro en w47 ⟨rfl, hb⟩
              have Ew47 : Hid (Below w.heap.size w w47) := Ew46.out.trans (hb.mono Ew46.out.size)
              have Knw47 : Hid (Bk w47 hn (NdC gd L)) := Knw46.out.below hb
              have Kkw47 : Hid (Bk w47 gk (secs W)) := Kkw46.out.below hb
              have Kpw47 : Hid (Bk w47 gp (pktC (1 + (k2 : Int)) 3 kq r.A r.n r.c)) := Kpw46.out.below hb
              have Kaw47 : Hid (Bk w47 ga (pktC 3 3 kq none 0 0)) := Kaw46.out.below hb
              have Rew47 : Hid (Rd w47 Ae (bts ele)) := Rew46.out.below hb
              have Ddw47 : Hid (DSes 92 w w47 gd gsd lv (UpD S)) := Ddw46.out.below hb
              clear Ew46 Knw46 Kkw46 Kpw46 Kaw46 Rew46 Ddw46
              clear hb
              go_wp2_with (refine wpList_fld rfl 40 (.tmp 136) 1 rfl 22 1 .u32 (labC L) (.int .u32 (top : Int)) rfl (by kernel_rfl) Try.underlying22 (by rw [HZ.out]; rfl) ?_)
              refine (ndLabel_calls w47 gd hn L Knw47.out).mono ?_
              rintro en w48 ⟨rfl, hb⟩
              have Ew48 : Hid (Below w.heap.size w w48) := Ew47.out.trans (hb.mono Ew47.out.size)
              have Knw48 : Hid (Bk w48 hn (NdC gd L)) := Knw47.out.below hb
              have Kkw48 : Hid (Bk w48 gk (secs W)) := Kkw47.out.below hb
              have Kpw48 : Hid (Bk w48 gp (pktC (1 + (k2 : Int)) 3 kq r.A r.n r.c)) := Kpw47.out.below hb
              have Kaw48 : Hid (Bk w48 ga (pktC 3 3 kq none 0 0)) := Kaw47.out.below hb
              have Rew48 : Hid (Rd w48 Ae (bts ele)) := Rew47.out.below hb
              have Ddw48 : Hid (DSes 92 w w48 gd gsd lv (UpD S)) := Ddw47.out.below hb
              clear Ew47 Knw47 Kkw47 Kpw47 Kaw47 Rew47 Ddw47
              clear hb
              go_wp2_with (refine wpList_fld rfl 40 (.tmp 144) 0 rfl 22 0 .u32 (labC L) (vu32 3) rfl (by kernel_rfl) Try.underlying22 (by rw [HZ.out]; rfl) ?_)
              go_roundw
              case rel => exact ⟨k + 1, top, lv, S, L, W, by omega, rfl, by go_num, Ddw48.out, Knw48.out, Kkw48.out, FNN.out, FKK.out, HSL.out, HW12.out, HWS.out, HTL.out, HLS.out, HL0.out, HL3.out⟩
              case measure => simp [intOf]; omega
            case neg =>
              have heqd : decide (((kk : Nat) : Int) + 1 = (top : Int)) = false := decide_eq_false (by omega)
              have heqb : (((kk : Nat) : Int) + 1 == (top : Int)) = false := beq_eq_false_iff_ne.2 (by omega)
              have HKI : Hid ((if (3 : UInt32) = L.e ∧ kq = L.s then (3 : Int) else 4) = 4) := if_neg (fun h => heq (by have h1 := HKQN.out; have h2 := HLS.out; rw [h.2] at h1; omega))
              clear heq
              refine (take_no ele Ae ele.length ce w43 rfl HCe.out.1 HCe.out.2 HLEe.out Rew43.out (1 + (k2 : Int)) 3 kq r.ps HDEe.out HK12.out gd gsd lv hn (UpD S) L Ddw43.out.at_ Knw43.out HLAT.out 4 HKI.out).mono ?_
              rintro en w44 ⟨rfl, hb⟩
              have Ew44 : Hid (Below w.heap.size w w44) := Ew43.out.trans (hb.mono Ew43.out.size)
              have Knw44 : Hid (Bk w44 hn (NdC gd L)) := Knw43.out.below hb
              have Kkw44 : Hid (Bk w44 gk (secs W)) := Kkw43.out.below hb
              have Kpw44 : Hid (Bk w44 gp (pktC (1 + (k2 : Int)) 3 kq r.A r.n r.c)) := Kpw43.out.below hb
              have Rew44 : Hid (Rd w44 Ae (bts ele)) := Rew43.out.below hb
              have Ddw44 : Hid (DSes 92 w w44 gd gsd lv (UpD S)) := Ddw43.out.below hb
              clear Ew43 Knw43 Kkw43 Kpw43 Rew43 Ddw43
              clear hb
              rw [HLE.out]
              go_wp2_with (refine wpList_al rfl 67 rfl zPkD (by kernel_rfl) ?_)
              intro ga w45 hg hb hc hs
              have HQa : Hid (Below w44.heap.size w44 w45) := hc.below (Nat.le_refl _) (fun _ _ => id)
              have HGa : Hid (ga = w44.heap.size) := hg
              have KZa := Lib.hid hb
              clear hg hb hc hs
              go_wp2_with (refine wpList_st rfl 67 (.tmp 13) (.tmp 89) rfl ga 0 4 zPkD (pktC 4 3 kq none 0 0) rfl rfl KZa.out (by kernel_rfl) rfl (by decide) (one_pktD _ _ _ _ _ _) ?_)
              intro w46 hbk hc
              rw [splice_whole zPkD (pktC 4 3 kq none 0 0) rfl] at hbk
              have hb : Below w44.heap.size w44 w46 := HQa.out.trans (hc.below HQa.out.size (fun q hq he => by have := HGa.out; omega))
              have Fda : Hid (¬ footD gd gsd lv ga) := fun hj => by have := DiskAt.lt Ddw44.out.at_ _ hj; have := HGa.out; omega
              have Ana : Hid (hn < ga) := by show _ < _; have := Knw44.out.lt; have := HGa.out; omega
              have Aka : Hid (gk < ga) := by show _ < _; have := Kkw44.out.lt; have := HGa.out; omega
              have Apa : Hid (gp < ga) := by show _ < _; have := Kpw44.out.lt; have := HGa.out; omega
              have Ew46 : Hid (Below w.heap.size w w46) := Ew44.out.trans (hb.mono Ew44.out.size)
              have Knw46 : Hid (Bk w46 hn (NdC gd L)) := Knw44.out.below hb
              have Kkw46 : Hid (Bk w46 gk (secs W)) := Kkw44.out.below hb
              have Kpw46 : Hid (Bk w46 gp (pktC (1 + (k2 : Int)) 3 kq r.A r.n r.c)) := Kpw44.out.below hb
              have Rew46 : Hid (Rd w46 Ae (bts ele)) := Rew44.out.below hb
              have Ddw46 : Hid (DSes 92 w w46 gd gsd lv (UpD S)) := Ddw44.out.below hb
              clear Ew44 Knw44 Kkw44 Kpw44 Rew44 Ddw44
              have Kaw46 : Hid (Bk w46 ga (pktC 4 3 kq none 0 0)) := hbk
              have Kaw46 : Hid (Bk w46 ga (pktC 4 3 kq none 0 0)) := hbk
              clear hbk hb hc KZa HQa HGa
              have ca2 : w46.cell? ⟨ga, 2, none⟩ = some (vu32 kq) := Kaw46.out.cell rfl
              have cp2 : w46.cell? ⟨gp, 2, none⟩ = some (vu32 kq) := Kpw46.out.cell rfl
              have ca0 : w46.cell? ⟨ga, 0, none⟩ = some (.int .i64 4) := Kaw46.out.cell rfl
              go_wp2_with fail
              clear ca0 ca2 cp2
              obtain ⟨z3, z4, z5, hz⟩ : ∃ (a : UInt32) (b c : UInt16), labC L = [vu32 3, .int .u32 (top : Int), vu32 a, vu16 b, vu16 c] := by rw [← HLS.out, ← HLE.out]; exact ⟨_, _, _, rfl⟩
              have HZ := Lib.hid hz
              clear hz
              refine (ndLabel_calls w46 gd hn L Knw46.out).mono ?_
              rintro en w47 ⟨rfl, hb⟩
              have Ew47 : Hid (Below w.heap.size w w47) := Ew46.out.trans (hb.mono Ew46.out.size)
              have Knw47 : Hid (Bk w47 hn (NdC gd L)) := Knw46.out.below hb
              have Kkw47 : Hid (Bk w47 gk (secs W)) := Kkw46.out.below hb
              have Kpw47 : Hid (Bk w47 gp (pktC (1 + (k2 : Int)) 3 kq r.A r.n r.c)) := Kpw46.out.below hb
              have Kaw47 : Hid (Bk w47 ga (pktC 4 3 kq none 0 0)) := Kaw46.out.below hb
              have Rew47 : Hid (Rd w47 Ae (bts ele)) := Rew46.out.below hb
              have Ddw47 : Hid (DSes 92 w w47 gd gsd lv (UpD S)) := Ddw46.out.below hb
              clear Ew46 Knw46 Kkw46 Kpw46 Kaw46 Rew46 Ddw46
              clear hb
              go_wp2_with (refine wpList_fld rfl 40 (.tmp 136) 1 rfl 22 1 .u32 (labC L) (.int .u32 (top : Int)) rfl (by kernel_rfl) Try.underlying22 (by rw [HZ.out]; rfl) ?_)
              refine (ndLabel_calls w47 gd hn L Knw47.out).mono ?_
              rintro en w48 ⟨rfl, hb⟩
              have Ew48 : Hid (Below w.heap.size w w48) := Ew47.out.trans (hb.mono Ew47.out.size)
              have Knw48 : Hid (Bk w48 hn (NdC gd L)) := Knw47.out.below hb
              have Kkw48 : Hid (Bk w48 gk (secs W)) := Kkw47.out.below hb
              have Kpw48 : Hid (Bk w48 gp (pktC (1 + (k2 : Int)) 3 kq r.A r.n r.c)) := Kpw47.out.below hb
              have Kaw48 : Hid (Bk w48 ga (pktC 4 3 kq none 0 0)) := Kaw47.out.below hb
              have Rew48 : Hid (Rd w48 Ae (bts ele)) := Rew47.out.below hb
              have Ddw48 : Hid (DSes 92 w w48 gd gsd lv (UpD S)) := Ddw47.out.below hb
              clear Ew47 Knw47 Kkw47 Kpw47 Kaw47 Rew47 Ddw47
              clear hb
              go_wp2_with (refine wpList_fld rfl 40 (.tmp 144) 0 rfl 22 0 .u32 (labC L) (vu32 3) rfl (by kernel_rfl) Try.underlying22 (by rw [HZ.out]; rfl) ?_)
              go_roundw
              case rel => exact ⟨k + 1, top, lv, S, L, W, by omega, rfl, by go_num, Ddw48.out, Knw48.out, Kkw48.out, FNN.out, FKK.out, HSL.out, HW12.out, HWS.out, HTL.out, HLS.out, HL0.out, HL3.out⟩
              case measure => simp [intOf]; omega
        · have hke : k = ks.length := by omega
          subst hke
          have hki : ¬ (((ks.length : Nat) : Int) < (ks.length : Int)) := by omega
          go_wp2_with fail
          have Fdn := FNN
          have Fdk := FKK
          have Hu : Hid (CmpRel w gd gsd lv (UpD S) (fun u => Bk u hn (NdC gd L) ∧ Bk u gk (secs W)) (.int .i64 0) wr) := ⟨0, by decide, rfl, DBr.out, ⟨KBr.out, KWr.out⟩⟩
          clear DBr Er KBr KWr
          go_loopw [16] (fun v wr => CmpRel w gd gsd lv (UpD S) (fun u => Bk u hn (NdC gd L) ∧ Bk u gk (secs W)) v wr) (fun v _ => 12 - (intOf v).toNat)
          case atStart => exact Hu.out
          case round =>
            obtain ⟨k, hk, rfl, hd3, hks3⟩ := hrel
            obtain ⟨hqn, hqk⟩ := hks3
            have Du := Lib.hid hd3
            have Eu := Lib.hid hd3.bel
            have Qnu := Lib.hid hqn
            have Qku := Lib.hid hqk
            clear hd3 Hu hqn hqk
            by_cases hk12 : k < 12
            case pos =>
              have hki : (k : Int) < 12 := by omega
              have hk0 : (0 : Int) ≤ (k : Int) := by omega
              have HK12 := Lib.hid hk12
              have HKI : Hid ((k : Int) < 12) := by show _ < _; omega
              have HK0 : Hid ((0 : Int) ≤ (k : Int)) := by show _ ≤ _; omega
              have HB32 : Hid ((W.getD k []).length = 32) := HW32.out k hk12
              have HRB : Hid ((UpD S).readB (7 + (k : Int)) = W.getD k []) := by
                have h := (up_block (S := S) HSL.out (b := k) hk12).1
                rw [← HWS.out k hk12] at h
                exact h
              have HRE : Hid ((UpD S).readE (7 + (k : Int)) = 0) := (up_block (S := S) HSL.out (b := k) hk12).2
              go_wp2_with fail
              refine (ndBlock_calls wr gd gsd lv hn (UpD S) L (k : Int) Du.out.at_ Qnu.out HK0.out HKI.out).mono ?_
              rintro en w141 ⟨rfl, hb⟩
              have Ew141 : Hid (Below w.heap.size w w141) := Eu.out.trans (hb.mono Eu.out.size)
              have Knw141 : Hid (Bk w141 hn (NdC gd L)) := Qnu.out.below hb
              have Kkw141 : Hid (Bk w141 gk (secs W)) := Qku.out.below hb
              have Ddw141 : Hid (DSes 92 w w141 gd gsd lv (UpD S)) := Du.out.below hb
              clear Eu Qnu Qku Du
              clear hb
              rw [HRB.out, HRE.out]
              obtain ⟨vb, hvb⟩ : ∃ vb, bts (W.getD k []) = vb := ⟨_, rfl⟩
              have HVB := Lib.hid hvb
              have HVL : Hid (vb.length = 32) := by show _ = _; rw [← hvb, bts_length]; exact HB32.out
              have HVO : Hid (∀ u ∈ vb, u.oneCell' = true) := by rw [← hvb]; exact one_bts _
              rw [hvb]
              clear hvb
              go_wp2_with (refine wpList_al rfl 35 rfl (bts (List.replicate 32 0)) (by kernel_rfl) ?_)
              intro gb w142 hg hb hc hs
              have HQb : Hid (Below w141.heap.size w141 w142) := hc.below (Nat.le_refl _) (fun _ _ => id)
              have HGb : Hid (gb = w141.heap.size) := hg
              have KZb := Lib.hid hb
              clear hg hb hc hs
              go_wp2_with (refine wpList_st rfl 35 (.tmp 17) (.tmp 156) rfl gb 0 32 (bts (List.replicate 32 0)) vb rfl rfl KZb.out (by kernel_rfl) HVL.out (by decide) HVO.out ?_)
              intro w143 hbk hc
              rw [splice_whole _ _ (by rw [HVL.out]; rfl)] at hbk
              have hb : Below w141.heap.size w141 w143 := HQb.out.trans (hc.below HQb.out.size (fun q hq he => by have := HGb.out; omega))
              have Anb : Hid (hn < gb) := by show _ < _; have := Knw141.out.lt; have := HGb.out; omega
              have Akb : Hid (gk < gb) := by show _ < _; have := Kkw141.out.lt; have := HGb.out; omega
              have Ew143 : Hid (Below w.heap.size w w143) := Ew141.out.trans (hb.mono Ew141.out.size)
              have Knw143 : Hid (Bk w143 hn (NdC gd L)) := Knw141.out.below hb
              have Kkw143 : Hid (Bk w143 gk (secs W)) := Kkw141.out.below hb
              have Ddw143 : Hid (DSes 92 w w143 gd gsd lv (UpD S)) := Ddw141.out.below hb
              clear Ew141 Knw141 Kkw141 Ddw141
              have Kbw143 : Hid (Bk w143 gb vb) := hbk
              have Kbw143 : Hid (Bk w143 gb vb) := hbk
              clear hbk hb hc KZb HQb HGb
              go_wp2_with fail
              apply wp_region_rel 9 (Chg NoS) [(Veq _), (Veq _), (Veq _), (Veq _), (Veq _), (Veq _), (Veq _), (Veq (.bool false)), (Veq _)] [[], [0], [1], [2], [2], [2, 4], [2, 5], [2, 3, 6], [2, 7]] [158, 159, 160, 161, 162, 163, 164, 165, 166] (by kernel_rfl) (by kernel_rfl) rfl rfl rfl Chg.refl (fun _ _ _ => Chg.trans) ⟨Veq.lasts, Veq.lasts, Veq.lasts, Veq.lasts, Veq.lasts, Veq.lasts, Veq.lasts, Veq.lasts, Veq.lasts, trivial⟩ ?eops ?efin
              case eops =>
                refine ⟨?eo0, ?eo1, ?eo2, ?eo3, ?eo4, ?eo5, ?eo6, ?eo7, ?eo8, trivial⟩
                case eo0 =>
                  intro a wx hE hin
                  have i18 : a.eval (.tmp 18) = .int .i64 0 := hin 18 rfl
                  clear hin
                  have hcst : ∀ v, a.eval (.const v) = v := fun _ => rfl
                  have hfnc : ∀ f, a.eval (.func f) = .func (.func f) #[] #[] := fun _ => rfl
                  refine want_none rfl ?_
                  unfold Oper.wp
                  generalize a.eval = ρ at *
                  go_simp
                  try go_bits
                  first | exact rel_val (Chg.refl _) | (go_simp; exact rel_val (Chg.refl _))
                case eo1 =>
                  rintro a wx hE hin (h0 : a.eval (.tmp 158) = _)
                  clear hin
                  have hcst : ∀ v, a.eval (.const v) = v := fun _ => rfl
                  have hfnc : ∀ f, a.eval (.func f) = .func (.func f) #[] #[] := fun _ => rfl
                  refine want_none rfl ?_
                  unfold Oper.wp
                  generalize a.eval = ρ at *
                  go_simp
                  try go_bits
                  first | exact rel_val (Chg.refl _) | (go_simp; exact rel_val (Chg.refl _))
                case eo2 =>
                  rintro a wx hE hin (h1 : a.eval (.tmp 159) = _)
                  clear hin
                  have hcst : ∀ v, a.eval (.const v) = v := fun _ => rfl
                  have hfnc : ∀ f, a.eval (.func f) = .func (.func f) #[] #[] := fun _ => rfl
                  refine want_none rfl ?_
                  unfold Oper.wp
                  generalize a.eval = ρ at *
                  go_simp
                  try go_bits
                  first | exact rel_val (Chg.refl _) | (go_simp; exact rel_val (Chg.refl _))
                case eo3 =>
                  rintro a wx hE hin (h2 : a.eval (.tmp 160) = _)
                  have i17 : a.eval (.tmp 17) = .pointer (some ⟨gb, 0, none⟩) := hin 17 rfl
                  clear hin
                  have hcst : ∀ v, a.eval (.const v) = v := fun _ => rfl
                  have hfnc : ∀ f, a.eval (.func f) = .func (.func f) #[] #[] := fun _ => rfl
                  refine want_yes rfl rfl h2 ?_
                  exact wp_ld 35 _ rfl gb 0 32 vb (bts (W.getD k [])) i17 (Kbw143.out.drew.chg hE id) (by kernel_rfl) (by kernel_rfl) (by rw [HVL.out]; decide) (by rw [List.drop_zero, List.take_of_length_le (by rw [HVL.out]; exact Nat.le_refl _), HVB.out]) (rel_val (Chg.refl _))
                case eo4 =>
                  rintro a wx hE hin (h2 : a.eval (.tmp 160) = _)
                  have i16 : a.eval (.tmp 16) = .int .i64 k := hin 16 rfl
                  clear hin
                  have hcst : ∀ v, a.eval (.const v) = v := fun _ => rfl
                  have hfnc : ∀ f, a.eval (.func f) = .func (.func f) #[] #[] := fun _ => rfl
                  refine want_yes rfl rfl h2 ?_
                  unfold Oper.wp
                  generalize a.eval = ρ at *
                  go_simp
                  try go_bits
                  first | exact rel_val (Chg.refl _) | (go_simp; exact rel_val (Chg.refl _))
                case eo5 =>
                  rintro a wx hE hin (h2 : a.eval (.tmp 160) = _) (h4 : a.eval (.tmp 162) = _)
                  have i8 : a.eval (.tmp 8) = .pointer (some ⟨gk, 0, none⟩) := hin 8 rfl
                  clear hin
                  have hcst : ∀ v, a.eval (.const v) = v := fun _ => rfl
                  have hfnc : ∀ f, a.eval (.func f) = .func (.func f) #[] #[] := fun _ => rfl
                  refine want_yes rfl rfl h2 ?_
                  unfold Oper.wp
                  generalize a.eval = ρ at *
                  go_simp
                  try go_bits
                  first | exact rel_val (Chg.refl _) | (go_simp; exact rel_val (Chg.refl _))
                case eo6 =>
                  rintro a wx hE hin (h2 : a.eval (.tmp 160) = _) (h5 : a.eval (.tmp 163) = _)
                  clear hin
                  have hcst : ∀ v, a.eval (.const v) = v := fun _ => rfl
                  have hfnc : ∀ f, a.eval (.func f) = .func (.func f) #[] #[] := fun _ => rfl
                  refine want_yes rfl rfl h2 ?_
                  exact wp_ld 35 _ rfl gk (k * 32) 32 (secs W) (bts (W.getD k [])) h5 (Kkw143.out.drew.chg hE id) (by kernel_rfl) (by kernel_rfl) (by rw [secs_len12 HW12.out HW32.out]; have := HK12.out; omega) (secs_at HW12.out HW32.out HK12.out) (rel_val (Chg.refl _))
                case eo7 =>
                  rintro a wx hE hin (h2 : a.eval (.tmp 160) = _) (h3 : a.eval (.tmp 161) = _) (h6 : a.eval (.tmp 164) = _)
                  clear hin
                  have hcst : ∀ v, a.eval (.const v) = v := fun _ => rfl
                  have hfnc : ∀ f, a.eval (.func f) = .func (.func f) #[] #[] := fun _ => rfl
                  refine want_yes rfl rfl h2 ?_
                  exact wp_eq_bytes true 35 _ _ _ rfl 5 32 Try.underlying35 Try.underlying5 (by kernel_rfl) (by kernel_rfl) (W.getD k []) (W.getD k []) h3 h6 HB32.out HB32.out (by rw [decide_eq_true rfl]; exact rel_val (Chg.refl _))
                case eo8 =>
                  rintro a wx hE hin (h2 : a.eval (.tmp 160) = _) (h7 : a.eval (.tmp 165) = _)
                  clear hin
                  have hcst : ∀ v, a.eval (.const v) = v := fun _ => rfl
                  have hfnc : ∀ f, a.eval (.func f) = .func (.func f) #[] #[] := fun _ => rfl
                  refine want_none rfl ?_
                  unfold Oper.wp
                  generalize a.eval = ρ at *
                  go_simp
                  try go_bits
                  first | exact rel_val (Chg.refl _) | (go_simp; exact rel_val (Chg.refl _))
              case efin =>
                intro wx hE
                rintro _ rfl _ rfl _ rfl _ rfl _ rfl _ rfl _ rfl _ rfl _ rfl
                simp only [FinOk, List.take_succ_cons, List.take_zero, List.take_nil, List.drop_succ_cons, List.drop_zero, List.drop_nil, Act.put, List.setIfInBounds_toArray, List.set_cons_succ, List.set_cons_zero]
                have DX : Hid (DSes 92 w wx gd gsd lv (UpD S)) := Ddw143.out.chgN hE.undrew
                have Xn : Hid (Bk wx hn (NdC gd L)) := Knw143.out.drew.chg hE id
                have Xk : Hid (Bk wx gk (secs W)) := Kkw143.out.drew.chg hE id
                clear hE
                go_wp2_with fail
                go_roundw
                case rel => exact ⟨k + 1, by omega, by go_num, DX.out, ⟨Xn.out, Xk.out⟩⟩
                case measure => simp [intOf]; omega
            case neg =>
              have hke : k = 12 := by omega
              subst hke
              have hki : ¬ (((12 : Nat) : Int) < 12) := by omega
              go_wp2_with fail
              refine (wakes22_calls wr).mono ?_
              rintro en w141 ⟨rfl, hb⟩
              have Ew141 : Hid (Below w.heap.size w w141) := Eu.out.trans (hb.mono Eu.out.size)
              have Knw141 : Hid (Bk w141 hn (NdC gd L)) := Qnu.out.below hb
              have Kkw141 : Hid (Bk w141 gk (secs W)) := Qku.out.below hb
              have Ddw141 : Hid (DSes 92 w w141 gd gsd lv (UpD S)) := Du.out.below hb
              clear Eu Qnu Qku Du
              clear hb
              go_wp2_with fail
              (try simp only [Exit.inBlock, Exit.then])
              go_ret
              exact ⟨rfl, Ew141.out⟩
end Go.Proofs.Ytcmfkdfegfablaa
