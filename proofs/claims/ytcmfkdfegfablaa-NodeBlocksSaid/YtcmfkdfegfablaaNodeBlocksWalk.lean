import Derived.Test.YtcmfkdfegfablaaNodeWant

/- The walk of NodeBlocks. -/
namespace Go.Proofs.Ytcmfkdfegfablaa
open Go.RowKit
set_option linter.unusedVariables false
set_option linter.unusedSimpArgs false

def BlkRel (w : World) (gd gsd hn gk n : Nat) (v : Value) (wr : World) : Prop := ∃ (k : Nat) (lv : Value) (S : List (List UInt8)) (L : Lab) (W : List (List UInt8)), k ≤ n ∧ v = .int .i64 k ∧ DSes 92 w wr gd gsd lv (UpD S) ∧ Bk wr hn (NdC gd L) ∧ Bk wr gk (secs W) ∧ ¬ footD gd gsd lv hn ∧ ¬ footD gd gsd lv gk ∧ S.length = 19 ∧ (UpD S).nOpen = (UpD S, 0, L) ∧ L.e.toNat ≤ 1 ∧ L.s.toNat ≤ k ∧ W.length = 12 ∧ ∀ b, b < 12 → W.getD b [] = S.getD (7 + b) []
def BlkRel2 (w : World) (gd gsd hn gk : Nat) (lv : Value) (S : List (List UInt8)) (L : Lab) (W : List (List UInt8)) (ps : List PutV) (v : Value) (wr : World) : Prop := ∃ (j : Nat), j ≤ ps.length ∧ v = .int .i64 j ∧ DSes 92 w wr gd gsd lv (UpD S) ∧ Bk wr hn (NdC gd L) ∧ Bk wr gk (secs (wantS W (ps.take j)))
set_option maxRecDepth 100000 in
set_option maxHeartbeats 32000000 in
theorem nodeBlocks_calls (w : World) (A : Option Addr) (n c : Nat) (ls : List RowV) (hl : ls.length = n) (hnc : n ≤ c) (hm : c ≤ 9223372036854775807) (hr : Rd w A (ls.map rowC)) (hok : ∀ r ∈ ls, RowOk w r) :
    Calls Try.prog 6 #[.slice A n c] w fun e w' => e = .returned (.bool true) ∧ Below w.heap.size w w' := by
  subst hl
  have HR := Lib.hid hr
  have HOKS := Lib.hid hok
  clear hr hok
  go_enter Try.func6, Try.ntmps6
  by_cases h20 : 20 < ls.length
  · have h20i : (20 : Int) < (ls.length : Int) := by omega
    go_wp2_with fail
    refine (wakes9_calls w).mono ?_
    rintro en wz ⟨rfl, hb⟩
    have EZ := Lib.hid hb
    clear hb
    go_wp2_with fail
    (try simp only [Exit.inBlock, Exit.then])
    go_ret
    exact ⟨rfl, EZ.out⟩
  have h20i : ¬ (20 : Int) < (ls.length : Int) := by omega
  have H20 := Lib.hid h20
  go_wp2_with fail
  refine (ndNew_calls w w (Below.refl _ _)).mono ?_
  rintro en w1 ⟨gd, gsd, rfl, hd, hfe, hb⟩
  have Ew1 : Hid (Below w.heap.size w w1) := hb
  have Ddw1 : Hid (DSes 92 w w1 gd gsd (.slice none 0 0) (UpD S0)) := hd
  clear hb hd hfe
  go_wp2_with fail
  have HSZn : Hid (w.heap.size ≤ w1.heap.size) := Ew1.out.size
  refine (ndOpen_calls w1 gd gsd (.slice none 0 0) (UpD S0) 0 Ddw1.out.at_ (ok_up _) (by decide)).mono ?_
  intro en w2 hp
  rw [open_new] at hp
  obtain ⟨hn, lvdw2, rfl, hd, hk, hge, hnf, hft, hch⟩ := DSes.opost Ddw1.out hp
  have Ddw2 : Hid (DSes 92 w w2 gd gsd lvdw2 (UpD S0)) := hd
  have Ew2 : Hid (Below w.heap.size w w2) := hd.bel
  have Knw2 : Hid (Bk w2 hn (NdC gd zLab)) := hk
  have Fdn : Hid (¬ footD gd gsd lvdw2 hn) := hnf
  have NHn : Hid (w.heap.size ≤ hn) := by show _ ≤ _; have := HSZn.out; omega
  clear hp hd hk hge hnf hft hch Ddw1 Ew1
  go_wp2_with (refine wpList_al rfl 51 rfl (bts (List.replicate 384 0)) (by kernel_rfl) ?_)
  intro gk w3 hg hbk hc hs
  have hb : Below w2.heap.size w2 w3 := hc.below (Nat.le_refl _) (fun _ _ => id)
  have HGK : Hid (w2.heap.size ≤ gk) := by show _ ≤ _; omega
  have Fdk : Hid (¬ footD gd gsd lvdw2 gk) := fun hj => by have := DiskAt.lt Ddw2.out.at_ _ hj; have := HGK.out; omega
  have Ank : Hid (hn < gk) := by show _ < _; have := Knw2.out.lt; have := HGK.out; omega
  have Ew3 : Hid (Below w.heap.size w w3) := Ew2.out.trans (hb.mono Ew2.out.size)
  have Knw3 : Hid (Bk w3 hn (NdC gd zLab)) := Knw2.out.below hb
  have Ddw3 : Hid (DSes 92 w w3 gd gsd lvdw2 (UpD S0)) := Ddw2.out.below hb
  clear Ew2 Knw2 Ddw2
  have Kkw3 : Hid (Bk w3 gk (secs (List.replicate 12 (List.replicate 32 0)))) := by show Bk _ _ _; rw [secs_new 12]; exact hbk
  clear hbk hb hc hs hg HGK
  go_wp2_with fail
  have H0 : Hid (BlkRel w gd gsd hn gk ls.length (.int .i64 0) w3) := ⟨0, _, S0, zLab, (List.replicate 12 (List.replicate 32 0)), Nat.zero_le _, rfl, Ddw3.out, Knw3.out, Kkw3.out, Fdn.out, Fdk.out, S0_len, open_new, by decide, by decide, rfl, by decide +kernel⟩
  have GKW : Hid (w.heap.size ≤ gk) := by show _ ≤ _; have h1 := NHn.out; have h2 := Ank.out; omega
  have ANK : Hid (¬ hn = gk) := by have := Ank.out; show ¬ _; omega
  clear Ddw3 Ew3 Knw3 Kkw3 Fdn Fdk h20 h20i
  go_loopw [7] (fun v7 wr => BlkRel w gd gsd hn gk ls.length v7 wr) (fun v7 _ => ls.length - (intOf v7).toNat)
  case atStart => exact H0.out
  case round =>
    obtain ⟨k, lv, S, L, W, hk, rfl, hd, hkn, hkk, hfn, hfk, hsl, hop, hle, hls, hw12, hws⟩ := hrel
    have DBr := Lib.hid hd
    have Er := Lib.hid hd.bel
    have KBr := Lib.hid hkn
    have KWr := Lib.hid hkk
    have FNN := Lib.hid hfn
    have Fdn := Lib.hid hfn
    have FKK := Lib.hid hfk
    have Fdk := Lib.hid hfk
    have HSL := Lib.hid hsl
    have HOP := Lib.hid hop
    have HLE := Lib.hid hle
    have HLS := Lib.hid hls
    have HW12 := Lib.hid hw12
    have HWS := Lib.hid hws
    have HW32 : Hid (∀ b, b < 12 → (W.getD b []).length = 32) := fun b hb => by
      rw [hws b hb, List.getD_eq_getElem?_getD, List.getElem?_eq_getElem (by omega)]
      exact hd.at_.s32 _ (List.getElem_mem _)
    clear hd hkn hkk hfn hfk hsl hop hle hls hw12 hws H0
    by_cases hlt : k < ls.length
    · have hki : (k : Int) < (ls.length : Int) := by omega
      have hk0 : (0 : Int) ≤ (k : Int) := by omega
      obtain ⟨kq, hkq⟩ : ∃ kq, UInt32.ofNat (k + 1) = kq := ⟨_, rfl⟩
      have HKQN : Hid (kq.toNat = k + 1) := by show _ = _; rw [← hkq, UInt32.toNat_ofNat_of_lt' (by show k + 1 < 4294967296; have := H20.out; omega)]
      have HKQ : Hid (Value.int .u32 ((k : Int) + 1) = vu32 kq) := by show _ = _; rw [vu32, HKQN.out]; rfl
      clear hkq
      have hk32 : (k : Int) + 1 < 4294967296 := by have := H20.out; omega
      obtain ⟨ad, hA⟩ := row_some HR.out hlt
      subst hA
      have HOK := Lib.hid (HOKS.out _ (List.getElem_mem hlt))
      obtain ⟨r, hre⟩ : ∃ r, ls[k] = r := ⟨_, rfl⟩
      have HRE0 := Lib.hid hre
      rw [hre] at HOK
      clear hre
      have cr := row_at (HR.out.below Er.out) hlt
      rw [HRE0.out] at cr
      go_wp2_with fail
      clear cr
      refine (refGood_calls r.ps r.A r.n r.c wr HOK.out.len (by have h2 := HOK.out.cap; have h3 := HOK.out.max; omega) (HOK.out.rd.below Er.out) HOK.out.ok).mono ?_
      rintro en w11 ⟨rfl, hb⟩
      have Ew11 : Hid (Below w.heap.size w w11) := Er.out.trans (hb.mono Er.out.size)
      have Knw11 : Hid (Bk w11 hn (NdC gd L)) := KBr.out.below hb
      have Kkw11 : Hid (Bk w11 gk (secs W)) := KWr.out.below hb
      have Ddw11 : Hid (DSes 92 w w11 gd gsd lv (UpD S)) := DBr.out.below hb
      clear Er KBr KWr DBr
      clear hb
      by_cases hgood : goodB r.ps = true
      case neg =>
        rw [Bool.eq_false_iff.2 hgood]
        go_wp2_with fail
        go_roundw
        case rel => exact ⟨k + 1, lv, S, L, W, by omega, by go_num, Ddw11.out, Knw11.out, Kkw11.out, FNN.out, FKK.out, HSL.out, HOP.out, HLE.out, Nat.le_succ_of_le HLS.out, HW12.out, HWS.out⟩
        case measure => simp [intOf]; omega
      case pos =>
        rw [hgood]
        have HGD := Lib.hid hgood
        have cr := row_at (HR.out.below Ew11.out) hlt
        rw [HRE0.out] at cr
        have HLAT : Hid (laterB 1 kq L.e L.s = true) := later_next HLE.out HLS.out HKQN.out
        go_wp2_with (refine wpList_bld rfl 25 [(0, .const (.int .u32 1)), (1, .tmp 53), (2, .tmp 57)] rfl zR [(0, [vu32 1]), (1, [vu32 kq]), (2, [.slice r.A r.n r.c])] [vu32 1, vu32 kq, .slice r.A r.n r.c] (by kernel_rfl) (by kernel_rfl) ⟨rfl, ⟨1, rfl, by kernel_rfl, by decide⟩, by rw [HKQ.out]; rfl, ⟨1, rfl, by kernel_rfl, by decide⟩, rfl, ⟨1, rfl, by kernel_rfl, by decide⟩, trivial⟩ rfl ?_)
        clear cr
        refine (ndApply_calls w11 gd gsd lv hn (UpD S) L 0 1 kq r.ps r.A r.n r.c 0 Ddw11.out.at_ Knw11.out Fdn.out (ok_up _) (by decide) HOK.out.len (fun w' hc => HOK.out.rd.below (Ew11.out.trans (hc.below Ew11.out.size (fun j hj hf => by have := Ddw11.out.fr j hf; omega)))) HOK.out.ok (fun hg _ => put_up_ok HSL.out hg)).mono ?_
        intro en w12 hp
        rw [up_apply HSL.out HGD.out HLAT.out, labAfter_pair] at hp
        have hch := NPost.chg hp
        obtain ⟨rfl, lvdw12, hd, hk, hft⟩ := DSes.npost Ddw11.out hp NHn.out
        have Ddw12 : Hid (DSes 92 w w12 gd gsd lvdw12 (UpD (appS S 1 kq r.ps (carryL L 1 kq r.ps 0)))) := hd
        have Ew12 : Hid (Below w.heap.size w w12) := hd.bel
        have Kkw12 : Hid (Bk w12 gk (secs W)) := Kkw11.out.chg hch (fun hj => hj.elim Fdk.out (fun he => by have := Ank.out; omega))
        have Fdk : Hid (¬ footD gd gsd lvdw12 gk) := fun hj => (hft _ hj).elim Fdk.out (fun h => by have := Kkw11.out.lt; omega)
        have Knw12 : Hid (Bk w12 hn (NdC gd (carryL L 1 kq r.ps 0))) := hk
        have Fdn : Hid (¬ footD gd gsd lvdw12 hn) := fun hj => (hft _ hj).elim Fdn.out (fun h => by have := Knw11.out.lt; omega)
        clear hp hd hk hft hch Knw11 Kkw11 Ddw11 Ew11
        go_wp2_with fail
        refine (upLoose_at w12 gd gsd lvdw12 _ Ddw12.out.at_).mono ?_
        rintro en w' ⟨rfl, rfl⟩
        go_wp2_with fail
        have H2 : Hid (BlkRel2 w gd gsd hn gk lvdw12 (appS S 1 kq r.ps (carryL L 1 kq r.ps 0)) (carryL L 1 kq r.ps 0) W r.ps (.int .i64 0) w12) := ⟨0, Nat.zero_le _, rfl, Ddw12.out, Knw12.out, Kkw12.out⟩
        have HX1 : Hid (¬ footD gd gsd lvdw12 hn) := Fdn
        have HX2 : Hid (¬ footD gd gsd lvdw12 gk) := Fdk
        have HSL2 : Hid ((appS S 1 kq r.ps (carryL L 1 kq r.ps 0)).length = 19) := by show _ = _; rw [appS_length]; exact HSL.out
        have HOP2 : Hid ((UpD (appS S 1 kq r.ps (carryL L 1 kq r.ps 0))).nOpen = (UpD (appS S 1 kq r.ps (carryL L 1 kq r.ps 0)), 0, (carryL L 1 kq r.ps 0))) := up_open (r := ⟨1, kq, r.ps⟩) HSL2.out (appS_lab HSL.out) (appS_get HSL.out HGD.out) (by show ¬ laterB 1 kq 1 kq = true; rw [later_self]; decide)
        have HWS2 : Hid (∀ b, b < 12 → (wantS W r.ps).getD b [] = (appS S 1 kq r.ps (carryL L 1 kq r.ps 0)).getD (7 + b) []) := fun b hb => by rw [appS_blk HSL.out HGD.out hb, wantS_at r.ps W b HW12.out (goodB_ats' HGD.out) hb]; exact wupd_congr _ _ _ _ (HWS.out b hb)
        clear Ddw12 Knw12 Kkw12 Ew12
        go_loopw [8] (fun v8 wr => BlkRel2 w gd gsd hn gk lvdw12 (appS S 1 kq r.ps (carryL L 1 kq r.ps 0)) (carryL L 1 kq r.ps 0) W r.ps v8 wr) (fun v8 _ => r.ps.length - (intOf v8).toNat)
        case atStart => exact H2.out
        case round =>
          obtain ⟨j, hj, rfl, hd2, hkn2, hkk2⟩ := hrel
          have DBt := Lib.hid hd2
          have Et := Lib.hid hd2.bel
          have KNt := Lib.hid hkn2
          have KKt := Lib.hid hkk2
          clear hd2 hkn2 hkk2 H2
          have cr := row_at (HR.out.below Et.out) hlt
          rw [HRE0.out] at cr
          by_cases hjl : j < r.ps.length
          case neg =>
            have hje : j = r.ps.length := by omega
            subst hje
            have hji : ¬ (((r.ps.length : Nat) : Int) < (r.n : Int)) := by have := HOK.out.len; omega
            go_wp2_with fail
            go_roundw
            case rel => exact ⟨k + 1, lvdw12, (appS S 1 kq r.ps (carryL L 1 kq r.ps 0)), (carryL L 1 kq r.ps 0), wantS W r.ps, by omega, by go_num, DBt.out, KNt.out, by have h := KKt.out; rwa [List.take_length] at h, HX1.out, HX2.out, HSL2.out, HOP2.out, by show (1 : UInt32).toNat ≤ 1; decide, by show kq.toNat ≤ k + 1; rw [HKQN.out]; exact Nat.le_refl _, by rw [wantS_len]; exact HW12.out, HWS2.out⟩
            case measure => simp [intOf]; omega
          have hji : (j : Int) < (r.n : Int) := by have := HOK.out.len; omega
          have hj0 : (0 : Int) ≤ (j : Int) := by omega
          have hj64 : (j : Int) + 1 < 9223372036854775807 := by have := HOK.out.len; have := (goodB_at HGD.out).2.1; omega
          have HPAT := Lib.hid (put_at_ps HOK.out hjl)
          have HDL := Lib.hid (HOK.out.ok _ (List.getElem_mem hjl)).1
          have HPS := Lib.hid (goodB_ats' HGD.out _ (List.getElem_mem hjl))
          have HTK : Hid (wantS W (r.ps.take (j + 1)) = (wantS W (r.ps.take j)).set r.ps[j].at_.toNat r.ps[j].data) := wantS_take W r.ps j hjl
          obtain ⟨pd, hpd⟩ : ∃ pd, r.ps[j] = pd := ⟨_, rfl⟩
          rw [hpd] at HPAT HDL HPS HTK
          clear hpd
          obtain ⟨bz, hbz⟩ : ∃ bz : Nat, pd.at_ = (bz : Int) := ⟨pd.at_.toNat, by have := HPS.out; omega⟩
          have hbz12 : bz < 12 := by have := HPS.out; omega
          have hbzi : (bz : Int) < 12 := by omega
          have hbz0 : (0 : Int) ≤ (bz : Int) := by omega
          have HBZ := Lib.hid hbz
          have HBZL := Lib.hid hbz12
          obtain ⟨ad2, hA2⟩ := put_some_ps HOK.out hjl
          have HAD2 := Lib.hid hA2
          rw [hA2] at cr
          clear hbz hA2 hbz12
          obtain ⟨W1, hW1⟩ : ∃ W1, wantS W (r.ps.take j) = W1 := ⟨_, rfl⟩
          rw [hW1] at KKt HTK
          have HW1 : Hid (W1.length = 12) := by show _ = _; rw [← hW1, wantS_len]; exact HW12.out
          have HW132 : Hid (∀ b, b < 12 → (W1.getD b []).length = 32) := by rw [← hW1]; exact wantS_32 W _ HW12.out HW32.out (fun p hp => (HOK.out.ok p (List.mem_of_mem_take hp)).1)
          clear hW1
          go_wp2_with fail
          clear cr
          apply wp_region_rel 16 (Chg NoS) [(Veq _), (Veq _), (Veq _), (Veq _), (Veq _), (Veq _), (Veq _), (Veq _), (Veq _), (Veq _), (Veq _), (Veq _), (Veq _), (Veq _), (Veq _), (Veq _)] [[], [], [0, 1], [2], [], [3, 4], [5], [6], [], [], [8, 9], [10], [], [11, 12], [13], [14]] [75, 76, 77, 78, 79, 80, 81, 82, 83, 84, 85, 86, 87, 88, 89, 90] (by kernel_rfl) (by kernel_rfl) rfl rfl rfl Chg.refl (fun _ _ _ => Chg.trans) ⟨Veq.lasts, Veq.lasts, Veq.lasts, Veq.lasts, Veq.lasts, Veq.lasts, Veq.lasts, Veq.lasts, Veq.lasts, Veq.lasts, Veq.lasts, Veq.lasts, Veq.lasts, Veq.lasts, Veq.lasts, Veq.lasts, trivial⟩ ?aops ?afin
          case aops =>
            refine ⟨?ao0, ?ao1, ?ao2, ?ao3, ?ao4, ?ao5, ?ao6, ?ao7, ?ao8, ?ao9, ?ao10, ?ao11, ?ao12, ?ao13, ?ao14, ?ao15, trivial⟩
            case ao0 =>
              intro a wx hE hin
              have i0 : a.eval (.tmp 0) = .slice (some ad) ls.length c := hin 0 rfl
              clear hin
              have hcst : ∀ v, a.eval (.const v) = v := fun _ => rfl
              have hfnc : ∀ f, a.eval (.func f) = .func (.func f) #[] #[] := fun _ => rfl
              refine want_none rfl ?_
              unfold Oper.wp
              generalize a.eval = ρ at *
              go_simp
              try go_bits
              first | exact rel_val (Chg.refl _) | (go_simp; exact rel_val (Chg.refl _))
            case ao1 =>
              intro a wx hE hin
              have i7 : a.eval (.tmp 7) = .int .i64 k := hin 7 rfl
              clear hin
              have hcst : ∀ v, a.eval (.const v) = v := fun _ => rfl
              have hfnc : ∀ f, a.eval (.func f) = .func (.func f) #[] #[] := fun _ => rfl
              refine want_none rfl ?_
              unfold Oper.wp
              generalize a.eval = ρ at *
              go_simp
              try go_bits
              first | exact rel_val (Chg.refl _) | (go_simp; exact rel_val (Chg.refl _))
            case ao2 =>
              rintro a wx hE hin (h0 : a.eval (.tmp 75) = _) (h1 : a.eval (.tmp 76) = _)
              clear hin
              have hcst : ∀ v, a.eval (.const v) = v := fun _ => rfl
              have hfnc : ∀ f, a.eval (.func f) = .func (.func f) #[] #[] := fun _ => rfl
              refine want_none rfl ?_
              unfold Oper.wp
              generalize a.eval = ρ at *
              go_simp
              try go_bits
              first | exact rel_val (Chg.refl _) | (go_simp; exact rel_val (Chg.refl _))
            case ao3 =>
              rintro a wx hE hin (h2 : a.eval (.tmp 77) = _)
              clear hin
              have hcst : ∀ v, a.eval (.const v) = v := fun _ => rfl
              have hfnc : ∀ f, a.eval (.func f) = .func (.func f) #[] #[] := fun _ => rfl
              refine want_none rfl ?_
              unfold Oper.wp
              generalize a.eval = ρ at *
              have c := row_at (HR.out.below (Et.out.trans (hE.undrew.below Et.out.size (fun _ _ => id)))) hlt
              rw [HRE0.out, HAD2.out] at c
              go_simp
              try go_bits
              first | exact rel_val (Chg.refl _) | (go_simp; exact rel_val (Chg.refl _))
            case ao4 =>
              intro a wx hE hin
              have i8 : a.eval (.tmp 8) = .int .i64 j := hin 8 rfl
              clear hin
              have hcst : ∀ v, a.eval (.const v) = v := fun _ => rfl
              have hfnc : ∀ f, a.eval (.func f) = .func (.func f) #[] #[] := fun _ => rfl
              refine want_none rfl ?_
              unfold Oper.wp
              generalize a.eval = ρ at *
              go_simp
              try go_bits
              first | exact rel_val (Chg.refl _) | (go_simp; exact rel_val (Chg.refl _))
            case ao5 =>
              rintro a wx hE hin (h3 : a.eval (.tmp 78) = _) (h4 : a.eval (.tmp 79) = _)
              clear hin
              have hcst : ∀ v, a.eval (.const v) = v := fun _ => rfl
              have hfnc : ∀ f, a.eval (.func f) = .func (.func f) #[] #[] := fun _ => rfl
              refine want_none rfl ?_
              unfold Oper.wp
              generalize a.eval = ρ at *
              go_simp
              try go_bits
              first | exact rel_val (Chg.refl _) | (go_simp; exact rel_val (Chg.refl _))
            case ao6 =>
              rintro a wx hE hin (h5 : a.eval (.tmp 80) = _)
              clear hin
              have hcst : ∀ v, a.eval (.const v) = v := fun _ => rfl
              have hfnc : ∀ f, a.eval (.func f) = .func (.func f) #[] #[] := fun _ => rfl
              refine want_none rfl ?_
              unfold Oper.wp
              generalize a.eval = ρ at *
              go_simp
              try go_bits
              first | exact rel_val (Chg.refl _) | (go_simp; exact rel_val (Chg.refl _))
            case ao7 =>
              rintro a wx hE hin (h6 : a.eval (.tmp 81) = _)
              clear hin
              have hcst : ∀ v, a.eval (.const v) = v := fun _ => rfl
              have hfnc : ∀ f, a.eval (.func f) = .func (.func f) #[] #[] := fun _ => rfl
              refine want_none rfl ?_
              unfold Oper.wp
              generalize a.eval = ρ at *
              have c := HPAT.out.1 wx (Et.out.trans (hE.undrew.below Et.out.size (fun _ _ => id))) ad2 HAD2.out
              rw [HBZ.out] at c
              go_simp
              try go_bits
              first | exact rel_val (Chg.refl _) | (go_simp; exact rel_val (Chg.refl _))
            case ao8 =>
              intro a wx hE hin
              have i0 : a.eval (.tmp 0) = .slice (some ad) ls.length c := hin 0 rfl
              clear hin
              have hcst : ∀ v, a.eval (.const v) = v := fun _ => rfl
              have hfnc : ∀ f, a.eval (.func f) = .func (.func f) #[] #[] := fun _ => rfl
              refine want_none rfl ?_
              unfold Oper.wp
              generalize a.eval = ρ at *
              go_simp
              try go_bits
              first | exact rel_val (Chg.refl _) | (go_simp; exact rel_val (Chg.refl _))
            case ao9 =>
              intro a wx hE hin
              have i7 : a.eval (.tmp 7) = .int .i64 k := hin 7 rfl
              clear hin
              have hcst : ∀ v, a.eval (.const v) = v := fun _ => rfl
              have hfnc : ∀ f, a.eval (.func f) = .func (.func f) #[] #[] := fun _ => rfl
              refine want_none rfl ?_
              unfold Oper.wp
              generalize a.eval = ρ at *
              go_simp
              try go_bits
              first | exact rel_val (Chg.refl _) | (go_simp; exact rel_val (Chg.refl _))
            case ao10 =>
              rintro a wx hE hin (h8 : a.eval (.tmp 83) = _) (h9 : a.eval (.tmp 84) = _)
              clear hin
              have hcst : ∀ v, a.eval (.const v) = v := fun _ => rfl
              have hfnc : ∀ f, a.eval (.func f) = .func (.func f) #[] #[] := fun _ => rfl
              refine want_none rfl ?_
              unfold Oper.wp
              generalize a.eval = ρ at *
              go_simp
              try go_bits
              first | exact rel_val (Chg.refl _) | (go_simp; exact rel_val (Chg.refl _))
            case ao11 =>
              rintro a wx hE hin (h10 : a.eval (.tmp 85) = _)
              clear hin
              have hcst : ∀ v, a.eval (.const v) = v := fun _ => rfl
              have hfnc : ∀ f, a.eval (.func f) = .func (.func f) #[] #[] := fun _ => rfl
              refine want_none rfl ?_
              unfold Oper.wp
              generalize a.eval = ρ at *
              have c := row_at (HR.out.below (Et.out.trans (hE.undrew.below Et.out.size (fun _ _ => id)))) hlt
              rw [HRE0.out, HAD2.out] at c
              go_simp
              try go_bits
              first | exact rel_val (Chg.refl _) | (go_simp; exact rel_val (Chg.refl _))
            case ao12 =>
              intro a wx hE hin
              have i8 : a.eval (.tmp 8) = .int .i64 j := hin 8 rfl
              clear hin
              have hcst : ∀ v, a.eval (.const v) = v := fun _ => rfl
              have hfnc : ∀ f, a.eval (.func f) = .func (.func f) #[] #[] := fun _ => rfl
              refine want_none rfl ?_
              unfold Oper.wp
              generalize a.eval = ρ at *
              go_simp
              try go_bits
              first | exact rel_val (Chg.refl _) | (go_simp; exact rel_val (Chg.refl _))
            case ao13 =>
              rintro a wx hE hin (h11 : a.eval (.tmp 86) = _) (h12 : a.eval (.tmp 87) = _)
              clear hin
              have hcst : ∀ v, a.eval (.const v) = v := fun _ => rfl
              have hfnc : ∀ f, a.eval (.func f) = .func (.func f) #[] #[] := fun _ => rfl
              refine want_none rfl ?_
              unfold Oper.wp
              generalize a.eval = ρ at *
              go_simp
              try go_bits
              first | exact rel_val (Chg.refl _) | (go_simp; exact rel_val (Chg.refl _))
            case ao14 =>
              rintro a wx hE hin (h13 : a.eval (.tmp 88) = _)
              clear hin
              have hcst : ∀ v, a.eval (.const v) = v := fun _ => rfl
              have hfnc : ∀ f, a.eval (.func f) = .func (.func f) #[] #[] := fun _ => rfl
              refine want_none rfl ?_
              unfold Oper.wp
              generalize a.eval = ρ at *
              go_simp
              try go_bits
              first | exact rel_val (Chg.refl _) | (go_simp; exact rel_val (Chg.refl _))
            case ao15 =>
              rintro a wx hE hin (h14 : a.eval (.tmp 89) = _)
              clear hin
              have hcst : ∀ v, a.eval (.const v) = v := fun _ => rfl
              have hfnc : ∀ f, a.eval (.func f) = .func (.func f) #[] #[] := fun _ => rfl
              refine want_none rfl ?_
              exact wp_ldr2 35 _ rfl _ 32 (bts pd.data) h14 (by have h := (HPAT.out.2 wx (Et.out.trans (hE.undrew.below Et.out.size (fun _ _ => id))) ad2 HAD2.out).drop 1; exact h) (by kernel_rfl) (by kernel_rfl) (by rw [bts_length]; exact HDL.out) (rel_val (Chg.refl _))
          case afin =>
            intro wx hE
            rintro _ rfl _ rfl _ rfl _ rfl _ rfl _ rfl _ rfl _ rfl _ rfl _ rfl _ rfl _ rfl _ rfl _ rfl _ rfl _ rfl
            simp only [FinOk, List.take_succ_cons, List.take_zero, List.take_nil, List.drop_succ_cons, List.drop_zero, List.drop_nil, Act.put, List.setIfInBounds_toArray, List.set_cons_succ, List.set_cons_zero]
            have DX : Hid (DSes 92 w wx gd gsd lvdw12 (UpD (appS S 1 kq r.ps (carryL L 1 kq r.ps 0)))) := DBt.out.chgN hE.undrew
            have NX : Hid (Bk wx hn (NdC gd (carryL L 1 kq r.ps 0))) := KNt.out.drew.chg hE id
            have KX : Hid (Bk wx gk (secs W1)) := KKt.out.drew.chg hE id
            have HTS : Hid (splice (secs W1) (bz * 32) (bts pd.data) = secs (W1.set bz pd.data)) := secs_set HW1.out HW132.out HDL.out HBZL.out
            clear hE KKt KNt DBt
            go_wp2_with (refine wpList_st rfl 35 (.tmp 91) (.tmp 90) rfl gk (bz * 32) 32 (secs W1) (bts pd.data) rfl rfl KX.out (by kernel_rfl) (by rw [bts_length]; exact HDL.out) (by rw [secs_len12 HW1.out HW132.out]; have := HBZL.out; omega) (one_bts _) ?_)
            intro w4 hbk hc
            rw [HTS.out] at hbk
            have KY := Lib.hid hbk
            have DY : Hid (DSes 92 w w4 gd gsd lvdw12 (UpD (appS S 1 kq r.ps (carryL L 1 kq r.ps 0)))) := ⟨DiskAt.chg DX.out.at_ hc (fun q hq hk => HX2.out (by rw [← (show q = gk from hk)]; exact hq)), DX.out.fr, DX.out.bel.trans (hc.below DX.out.bel.size (fun q hq he => by have := GKW.out; omega))⟩
            have NY : Hid (Bk w4 hn (NdC gd (carryL L 1 kq r.ps 0))) := NX.out.chg hc (fun h => ANK.out h)
            clear hbk hc DX NX KX
            go_wp2_with fail
            go_roundw
            case rel => exact ⟨j + 1, by omega, by go_num, DY.out, NY.out, by rw [HTK.out, show pd.at_.toNat = bz by have := HBZ.out; omega]; exact KY.out⟩
            case measure => simp [intOf]; omega
    · have hke : k = ls.length := by omega
      subst hke
      have hki : ¬ (((ls.length : Nat) : Int) < (ls.length : Int)) := by omega
      go_wp2_with fail
      refine (ndLabel_calls wr gd hn L KBr.out).mono ?_
      rintro en w11 ⟨rfl, hb⟩
      have Ew11 : Hid (Below w.heap.size w w11) := Er.out.trans (hb.mono Er.out.size)
      have Knw11 : Hid (Bk w11 hn (NdC gd L)) := KBr.out.below hb
      have Kkw11 : Hid (Bk w11 gk (secs W)) := KWr.out.below hb
      have Ddw11 : Hid (DSes 92 w w11 gd gsd lv (UpD S)) := DBr.out.below hb
      clear Er KBr KWr DBr
      clear hb
      go_wp2_with (refine wpList_al rfl 40 rfl (labC zLab) (by kernel_rfl) ?_)
      intro gla w12 hg hb hc hs
      have HQla : Hid (Below w11.heap.size w11 w12) := hc.below (Nat.le_refl _) (fun _ _ => id)
      have HGla : Hid (gla = w11.heap.size) := hg
      have KZla := Lib.hid hb
      clear hg hb hc hs
      go_wp2_with (refine wpList_st rfl 40 (.tmp 9) (.tmp 93) rfl gla 0 5 (labC zLab) (labC L) rfl rfl KZla.out (by kernel_rfl) rfl (by decide) (one_lab _) ?_)
      intro w13 hbk hc
      rw [splice_whole (labC zLab) (labC L) rfl] at hbk
      have hb : Below w11.heap.size w11 w13 := HQla.out.trans (hc.below HQla.out.size (fun q hq he => by have := HGla.out; omega))
      have Fdla : Hid (¬ footD gd gsd lv gla) := fun hj => by have := DiskAt.lt Ddw11.out.at_ _ hj; have := HGla.out; omega
      have Anla : Hid (hn < gla) := by show _ < _; have := Knw11.out.lt; have := HGla.out; omega
      have Akla : Hid (gk < gla) := by show _ < _; have := Kkw11.out.lt; have := HGla.out; omega
      have Ew13 : Hid (Below w.heap.size w w13) := Ew11.out.trans (hb.mono Ew11.out.size)
      have Knw13 : Hid (Bk w13 hn (NdC gd L)) := Knw11.out.below hb
      have Kkw13 : Hid (Bk w13 gk (secs W)) := Kkw11.out.below hb
      have Ddw13 : Hid (DSes 92 w w13 gd gsd lv (UpD S)) := Ddw11.out.below hb
      clear Ew11 Knw11 Kkw11 Ddw11
      have Klaw13 : Hid (Bk w13 gla (labC L)) := hbk
      have Klaw13 : Hid (Bk w13 gla (labC L)) := hbk
      clear hbk hb hc KZla HQla HGla
      go_wp2_with fail
      have FLA := Fdla
      have Hu : Hid (CmpRel w gd gsd lv (UpD S) (fun u => Bk u hn (NdC gd L) ∧ Bk u gk (secs W) ∧ Bk u gla (labC L)) (.int .i64 0) w13) := ⟨0, by decide, rfl, Ddw13.out, ⟨Knw13.out, Kkw13.out, Klaw13.out⟩⟩
      clear Ddw13 Ew13 Knw13 Kkw13 Klaw13
      go_loopw [10] (fun v wr => CmpRel w gd gsd lv (UpD S) (fun u => Bk u hn (NdC gd L) ∧ Bk u gk (secs W) ∧ Bk u gla (labC L)) v wr) (fun v _ => 12 - (intOf v).toNat)
      case atStart => exact Hu.out
      case round =>
        obtain ⟨k, hk, rfl, hd3, hks3⟩ := hrel
        obtain ⟨hqn, hqk, hqla⟩ := hks3
        have Du := Lib.hid hd3
        have Eu := Lib.hid hd3.bel
        have Qnu := Lib.hid hqn
        have Qku := Lib.hid hqk
        have Qlau := Lib.hid hqla
        clear hd3 Hu hqn hqk hqla
        by_cases hk12 : k < 12
        case pos =>
          have hki : (k : Int) < 12 := by omega
          have hk0 : (0 : Int) ≤ (k : Int) := by omega
          have HK12 := Lib.hid hk12
          have HKI : Hid ((k : Int) < 12) := by show _ < _; omega
          have HK0 : Hid ((0 : Int) ≤ (k : Int)) := by show _ ≤ _; omega
          have HB32 : Hid ((W.getD k []).length = 32) := HW32.out k hk12
          have HRB : Hid ((UpD S).readB (7 + (k : Int)) = W.getD k []) := by
            have h := (up_block (S := S) HSL.out (b := k) hk12).1
            rw [← HWS.out k hk12] at h
            exact h
          have HRE : Hid ((UpD S).readE (7 + (k : Int)) = 0) := (up_block (S := S) HSL.out (b := k) hk12).2
          go_wp2_with fail
          refine (ndBlock_calls wr gd gsd lv hn (UpD S) L (k : Int) Du.out.at_ Qnu.out HK0.out HKI.out).mono ?_
          rintro en w41 ⟨rfl, hb⟩
          have Ew41 : Hid (Below w.heap.size w w41) := Eu.out.trans (hb.mono Eu.out.size)
          have Knw41 : Hid (Bk w41 hn (NdC gd L)) := Qnu.out.below hb
          have Kkw41 : Hid (Bk w41 gk (secs W)) := Qku.out.below hb
          have Klaw41 : Hid (Bk w41 gla (labC L)) := Qlau.out.below hb
          have Ddw41 : Hid (DSes 92 w w41 gd gsd lv (UpD S)) := Du.out.below hb
          clear Eu Qnu Qku Qlau Du
          clear hb
          rw [HRB.out, HRE.out]
          obtain ⟨vb, hvb⟩ : ∃ vb, bts (W.getD k []) = vb := ⟨_, rfl⟩
          have HVB := Lib.hid hvb
          have HVL : Hid (vb.length = 32) := by show _ = _; rw [← hvb, bts_length]; exact HB32.out
          have HVO : Hid (∀ u ∈ vb, u.oneCell' = true) := by rw [← hvb]; exact one_bts _
          rw [hvb]
          clear hvb
          go_wp2_with (refine wpList_al rfl 35 rfl (bts (List.replicate 32 0)) (by kernel_rfl) ?_)
          intro gb w42 hg hb hc hs
          have HQb : Hid (Below w41.heap.size w41 w42) := hc.below (Nat.le_refl _) (fun _ _ => id)
          have HGb : Hid (gb = w41.heap.size) := hg
          have KZb := Lib.hid hb
          clear hg hb hc hs
          go_wp2_with (refine wpList_st rfl 35 (.tmp 11) (.tmp 102) rfl gb 0 32 (bts (List.replicate 32 0)) vb rfl rfl KZb.out (by kernel_rfl) HVL.out (by decide) HVO.out ?_)
          intro w43 hbk hc
          rw [splice_whole _ _ (by rw [HVL.out]; rfl)] at hbk
          have hb : Below w41.heap.size w41 w43 := HQb.out.trans (hc.below HQb.out.size (fun q hq he => by have := HGb.out; omega))
          have Anb : Hid (hn < gb) := by show _ < _; have := Knw41.out.lt; have := HGb.out; omega
          have Akb : Hid (gk < gb) := by show _ < _; have := Kkw41.out.lt; have := HGb.out; omega
          have Alab : Hid (gla < gb) := by show _ < _; have := Klaw41.out.lt; have := HGb.out; omega
          have Ew43 : Hid (Below w.heap.size w w43) := Ew41.out.trans (hb.mono Ew41.out.size)
          have Knw43 : Hid (Bk w43 hn (NdC gd L)) := Knw41.out.below hb
          have Kkw43 : Hid (Bk w43 gk (secs W)) := Kkw41.out.below hb
          have Klaw43 : Hid (Bk w43 gla (labC L)) := Klaw41.out.below hb
          have Ddw43 : Hid (DSes 92 w w43 gd gsd lv (UpD S)) := Ddw41.out.below hb
          clear Ew41 Knw41 Kkw41 Klaw41 Ddw41
          have Kbw43 : Hid (Bk w43 gb vb) := hbk
          have Kbw43 : Hid (Bk w43 gb vb) := hbk
          clear hbk hb hc KZb HQb HGb
          go_wp2_with fail
          apply wp_region_rel 9 (Chg NoS) [(Veq _), (Veq _), (Veq _), (Veq _), (Veq _), (Veq _), (Veq _), (Veq (.bool false)), (Veq _)] [[], [0], [1], [2], [2], [2, 4], [2, 5], [2, 3, 6], [2, 7]] [104, 105, 106, 107, 108, 109, 110, 111, 112] (by kernel_rfl) (by kernel_rfl) rfl rfl rfl Chg.refl (fun _ _ _ => Chg.trans) ⟨Veq.lasts, Veq.lasts, Veq.lasts, Veq.lasts, Veq.lasts, Veq.lasts, Veq.lasts, Veq.lasts, Veq.lasts, trivial⟩ ?eops ?efin
          case eops =>
            refine ⟨?eo0, ?eo1, ?eo2, ?eo3, ?eo4, ?eo5, ?eo6, ?eo7, ?eo8, trivial⟩
            case eo0 =>
              intro a wx hE hin
              have i12 : a.eval (.tmp 12) = .int .i64 0 := hin 12 rfl
              clear hin
              have hcst : ∀ v, a.eval (.const v) = v := fun _ => rfl
              have hfnc : ∀ f, a.eval (.func f) = .func (.func f) #[] #[] := fun _ => rfl
              refine want_none rfl ?_
              unfold Oper.wp
              generalize a.eval = ρ at *
              go_simp
              try go_bits
              first | exact rel_val (Chg.refl _) | (go_simp; exact rel_val (Chg.refl _))
            case eo1 =>
              rintro a wx hE hin (h0 : a.eval (.tmp 104) = _)
              clear hin
              have hcst : ∀ v, a.eval (.const v) = v := fun _ => rfl
              have hfnc : ∀ f, a.eval (.func f) = .func (.func f) #[] #[] := fun _ => rfl
              refine want_none rfl ?_
              unfold Oper.wp
              generalize a.eval = ρ at *
              go_simp
              try go_bits
              first | exact rel_val (Chg.refl _) | (go_simp; exact rel_val (Chg.refl _))
            case eo2 =>
              rintro a wx hE hin (h1 : a.eval (.tmp 105) = _)
              clear hin
              have hcst : ∀ v, a.eval (.const v) = v := fun _ => rfl
              have hfnc : ∀ f, a.eval (.func f) = .func (.func f) #[] #[] := fun _ => rfl
              refine want_none rfl ?_
              unfold Oper.wp
              generalize a.eval = ρ at *
              go_simp
              try go_bits
              first | exact rel_val (Chg.refl _) | (go_simp; exact rel_val (Chg.refl _))
            case eo3 =>
              rintro a wx hE hin (h2 : a.eval (.tmp 106) = _)
              have i11 : a.eval (.tmp 11) = .pointer (some ⟨gb, 0, none⟩) := hin 11 rfl
              clear hin
              have hcst : ∀ v, a.eval (.const v) = v := fun _ => rfl
              have hfnc : ∀ f, a.eval (.func f) = .func (.func f) #[] #[] := fun _ => rfl
              refine want_yes rfl rfl h2 ?_
              exact wp_ld 35 _ rfl gb 0 32 vb (bts (W.getD k [])) i11 (Kbw43.out.drew.chg hE id) (by kernel_rfl) (by kernel_rfl) (by rw [HVL.out]; decide) (by rw [List.drop_zero, List.take_of_length_le (by rw [HVL.out]; exact Nat.le_refl _), HVB.out]) (rel_val (Chg.refl _))
            case eo4 =>
              rintro a wx hE hin (h2 : a.eval (.tmp 106) = _)
              have i10 : a.eval (.tmp 10) = .int .i64 k := hin 10 rfl
              clear hin
              have hcst : ∀ v, a.eval (.const v) = v := fun _ => rfl
              have hfnc : ∀ f, a.eval (.func f) = .func (.func f) #[] #[] := fun _ => rfl
              refine want_yes rfl rfl h2 ?_
              unfold Oper.wp
              generalize a.eval = ρ at *
              go_simp
              try go_bits
              first | exact rel_val (Chg.refl _) | (go_simp; exact rel_val (Chg.refl _))
            case eo5 =>
              rintro a wx hE hin (h2 : a.eval (.tmp 106) = _) (h4 : a.eval (.tmp 108) = _)
              have i6 : a.eval (.tmp 6) = .pointer (some ⟨gk, 0, none⟩) := hin 6 rfl
              clear hin
              have hcst : ∀ v, a.eval (.const v) = v := fun _ => rfl
              have hfnc : ∀ f, a.eval (.func f) = .func (.func f) #[] #[] := fun _ => rfl
              refine want_yes rfl rfl h2 ?_
              unfold Oper.wp
              generalize a.eval = ρ at *
              go_simp
              try go_bits
              first | exact rel_val (Chg.refl _) | (go_simp; exact rel_val (Chg.refl _))
            case eo6 =>
              rintro a wx hE hin (h2 : a.eval (.tmp 106) = _) (h5 : a.eval (.tmp 109) = _)
              clear hin
              have hcst : ∀ v, a.eval (.const v) = v := fun _ => rfl
              have hfnc : ∀ f, a.eval (.func f) = .func (.func f) #[] #[] := fun _ => rfl
              refine want_yes rfl rfl h2 ?_
              exact wp_ld 35 _ rfl gk (k * 32) 32 (secs W) (bts (W.getD k [])) h5 (Kkw43.out.drew.chg hE id) (by kernel_rfl) (by kernel_rfl) (by rw [secs_len12 HW12.out HW32.out]; have := HK12.out; omega) (secs_at HW12.out HW32.out HK12.out) (rel_val (Chg.refl _))
            case eo7 =>
              rintro a wx hE hin (h2 : a.eval (.tmp 106) = _) (h3 : a.eval (.tmp 107) = _) (h6 : a.eval (.tmp 110) = _)
              clear hin
              have hcst : ∀ v, a.eval (.const v) = v := fun _ => rfl
              have hfnc : ∀ f, a.eval (.func f) = .func (.func f) #[] #[] := fun _ => rfl
              refine want_yes rfl rfl h2 ?_
              exact wp_eq_bytes true 35 _ _ _ rfl 5 32 Try.underlying35 Try.underlying5 (by kernel_rfl) (by kernel_rfl) (W.getD k []) (W.getD k []) h3 h6 HB32.out HB32.out (by rw [decide_eq_true rfl]; exact rel_val (Chg.refl _))
            case eo8 =>
              rintro a wx hE hin (h2 : a.eval (.tmp 106) = _) (h7 : a.eval (.tmp 111) = _)
              clear hin
              have hcst : ∀ v, a.eval (.const v) = v := fun _ => rfl
              have hfnc : ∀ f, a.eval (.func f) = .func (.func f) #[] #[] := fun _ => rfl
              refine want_none rfl ?_
              unfold Oper.wp
              generalize a.eval = ρ at *
              go_simp
              try go_bits
              first | exact rel_val (Chg.refl _) | (go_simp; exact rel_val (Chg.refl _))
          case efin =>
            intro wx hE
            rintro _ rfl _ rfl _ rfl _ rfl _ rfl _ rfl _ rfl _ rfl _ rfl
            simp only [FinOk, List.take_succ_cons, List.take_zero, List.take_nil, List.drop_succ_cons, List.drop_zero, List.drop_nil, Act.put, List.setIfInBounds_toArray, List.set_cons_succ, List.set_cons_zero]
            have DX : Hid (DSes 92 w wx gd gsd lv (UpD S)) := Ddw43.out.chgN hE.undrew
            have Xn : Hid (Bk wx hn (NdC gd L)) := Knw43.out.drew.chg hE id
            have Xk : Hid (Bk wx gk (secs W)) := Kkw43.out.drew.chg hE id
            have Xla : Hid (Bk wx gla (labC L)) := Klaw43.out.drew.chg hE id
            clear hE
            go_wp2_with fail
            go_roundw
            case rel => exact ⟨k + 1, by omega, by go_num, DX.out, ⟨Xn.out, Xk.out, Xla.out⟩⟩
            case measure => simp [intOf]; omega
        case neg =>
          have hke : k = 12 := by omega
          subst hke
          have hki : ¬ (((12 : Nat) : Int) < 12) := by omega
          have Fdn := FNN
          have Fdk := FKK
          have Fdla := FLA
          go_wp2_with fail
          refine (diskUp_at wr gd gsd lv (UpD S) none 0 0 [] Du.out.at_ rfl (fun w' _ => Rd.nil _ _)).mono ?_
          intro en w41 hp
          have hch := DPost.chgF hp
          obtain ⟨rfl, lvdw41, hd, hft⟩ := DSes.post2 Du.out hp
          have Ddw41 : Hid (DSes 92 w w41 gd gsd lvdw41 (UpD S)) := hd
          have Ew41 : Hid (Below w.heap.size w w41) := hd.bel
          have Knw41 : Hid (Bk w41 hn (NdC gd L)) := Qnu.out.chg hch Fdn.out
          have Fdn : Hid (¬ footD gd gsd lvdw41 hn) := fun hj => (hft _ hj).elim Fdn.out (fun h => by have := Qnu.out.lt; omega)
          have Kkw41 : Hid (Bk w41 gk (secs W)) := Qku.out.chg hch Fdk.out
          have Fdk : Hid (¬ footD gd gsd lvdw41 gk) := fun hj => (hft _ hj).elim Fdk.out (fun h => by have := Qku.out.lt; omega)
          have Klaw41 : Hid (Bk w41 gla (labC L)) := Qlau.out.chg hch Fdla.out
          have Fdla : Hid (¬ footD gd gsd lvdw41 gla) := fun hj => (hft _ hj).elim Fdla.out (fun h => by have := Qlau.out.lt; omega)
          clear hp hd hft hch Qnu Qku Qlau Du Eu
          go_wp2_with fail
          have HSZm : Hid (w.heap.size ≤ w41.heap.size) := Ew41.out.size
          refine (ndOpen_calls w41 gd gsd lvdw41 (UpD S) 0 Ddw41.out.at_ (ok_up _) (by decide)).mono ?_
          intro en w42 hp
          rw [HOP.out] at hp
          obtain ⟨hm, lvdw42, rfl, hd, hk, hge, hnf, hft, hch⟩ := DSes.opost Ddw41.out hp
          have Anm : Hid (hn < hm) := by show _ < _; have := Knw41.out.lt; omega
          have Akm : Hid (gk < hm) := by show _ < _; have := Kkw41.out.lt; omega
          have Alam : Hid (gla < hm) := by show _ < _; have := Klaw41.out.lt; omega
          have Ddw42 : Hid (DSes 92 w w42 gd gsd lvdw42 (UpD S)) := hd
          have Ew42 : Hid (Below w.heap.size w w42) := hd.bel
          have Knw42 : Hid (Bk w42 hn (NdC gd L)) := Knw41.out.chg hch Fdn.out
          have Fdn : Hid (¬ footD gd gsd lvdw42 hn) := fun hj => (hft _ hj).elim Fdn.out (fun h => by have := Knw41.out.lt; omega)
          have Kkw42 : Hid (Bk w42 gk (secs W)) := Kkw41.out.chg hch Fdk.out
          have Fdk : Hid (¬ footD gd gsd lvdw42 gk) := fun hj => (hft _ hj).elim Fdk.out (fun h => by have := Kkw41.out.lt; omega)
          have Klaw42 : Hid (Bk w42 gla (labC L)) := Klaw41.out.chg hch Fdla.out
          have Fdla : Hid (¬ footD gd gsd lvdw42 gla) := fun hj => (hft _ hj).elim Fdla.out (fun h => by have := Klaw41.out.lt; omega)
          have Kmw42 : Hid (Bk w42 hm (NdC gd L)) := hk
          have Fdm : Hid (¬ footD gd gsd lvdw42 hm) := hnf
          have NHm : Hid (w.heap.size ≤ hm) := by show _ ≤ _; have := HSZm.out; omega
          clear hp hd hk hge hnf hft hch Knw41 Kkw41 Klaw41 Ddw41 Ew41
          go_wp2_with fail
          clear Knw42
          apply wp_region_rel 12 (Chg NoS) [(Veq _), (Veq _), (Veq _), (Veq _), (Veq _), (Veq _), (Veq _), (Veq _), (Veq _), (Veq _), (Veq (.bool false)), (Veq _)] [[], [0], [1], [2], [2, 3], [2, 4], [5], [6], [6, 7], [6], [6, 8, 9], [6, 10]] [120, 121, 122, 123, 124, 125, 126, 127, 128, 129, 130, 131] (by kernel_rfl) (by kernel_rfl) rfl rfl rfl Chg.refl (fun _ _ _ => Chg.trans) ⟨Veq.lasts, Veq.lasts, Veq.lasts, Veq.lasts, Veq.lasts, Veq.lasts, Veq.lasts, Veq.lasts, Veq.lasts, Veq.lasts, Veq.lasts, Veq.lasts, trivial⟩ ?cops ?cfin
          case cops =>
            refine ⟨?co0, ?co1, ?co2, ?co3, ?co4, ?co5, ?co6, ?co7, ?co8, ?co9, ?co10, ?co11, trivial⟩
            case co0 =>
              intro a wx hE hin
              have i14 : a.eval (.tmp 14) = .int .i64 0 := hin 14 rfl
              clear hin
              have hcst : ∀ v, a.eval (.const v) = v := fun _ => rfl
              have hfnc : ∀ f, a.eval (.func f) = .func (.func f) #[] #[] := fun _ => rfl
              refine want_none rfl ?_
              unfold Oper.wp
              generalize a.eval = ρ at *
              go_simp
              try go_bits
              first | exact rel_val (Chg.refl _) | (go_simp; exact rel_val (Chg.refl _))
            case co1 =>
              rintro a wx hE hin (h0 : a.eval (.tmp 120) = _)
              clear hin
              have hcst : ∀ v, a.eval (.const v) = v := fun _ => rfl
              have hfnc : ∀ f, a.eval (.func f) = .func (.func f) #[] #[] := fun _ => rfl
              refine want_none rfl ?_
              unfold Oper.wp
              generalize a.eval = ρ at *
              go_simp
              try go_bits
              first | exact rel_val (Chg.refl _) | (go_simp; exact rel_val (Chg.refl _))
            case co2 =>
              rintro a wx hE hin (h1 : a.eval (.tmp 121) = _)
              clear hin
              have hcst : ∀ v, a.eval (.const v) = v := fun _ => rfl
              have hfnc : ∀ f, a.eval (.func f) = .func (.func f) #[] #[] := fun _ => rfl
              refine want_none rfl ?_
              unfold Oper.wp
              generalize a.eval = ρ at *
              go_simp
              try go_bits
              first | exact rel_val (Chg.refl _) | (go_simp; exact rel_val (Chg.refl _))
            case co3 =>
              rintro a wx hE hin (h2 : a.eval (.tmp 122) = _)
              have i13 : a.eval (.tmp 13) = .pointer (some ⟨hm, 0, none⟩) := hin 13 rfl
              clear hin
              have hcst : ∀ v, a.eval (.const v) = v := fun _ => rfl
              have hfnc : ∀ f, a.eval (.func f) = .func (.func f) #[] #[] := fun _ => rfl
              refine want_yes rfl rfl h2 ?_
              unfold Oper.wp
              generalize a.eval = ρ at *
              go_simp
              try go_bits
              first | exact rel_val (Chg.refl _) | (go_simp; exact rel_val (Chg.refl _))
            case co4 =>
              rintro a wx hE hin (h2 : a.eval (.tmp 122) = _) (h3 : a.eval (.tmp 123) = _)
              clear hin
              have hcst : ∀ v, a.eval (.const v) = v := fun _ => rfl
              have hfnc : ∀ f, a.eval (.func f) = .func (.func f) #[] #[] := fun _ => rfl
              refine want_yes rfl rfl h2 ?_
              unfold Oper.wp
              generalize a.eval = ρ at *
              go_simp
              try go_bits
              first | exact rel_val (Chg.refl _) | (go_simp; exact rel_val (Chg.refl _))
            case co5 =>
              rintro a wx hE hin (h2 : a.eval (.tmp 122) = _) (h4 : a.eval (.tmp 124) = _)
              clear hin
              have hcst : ∀ v, a.eval (.const v) = v := fun _ => rfl
              have hfnc : ∀ f, a.eval (.func f) = .func (.func f) #[] #[] := fun _ => rfl
              refine want_none rfl ?_
              unfold Oper.wp
              generalize a.eval = ρ at *
              go_simp
              try go_bits
              first | exact rel_val (Chg.refl _) | (go_simp; exact rel_val (Chg.refl _))
            case co6 =>
              rintro a wx hE hin (h5 : a.eval (.tmp 125) = _)
              clear hin
              have hcst : ∀ v, a.eval (.const v) = v := fun _ => rfl
              have hfnc : ∀ f, a.eval (.func f) = .func (.func f) #[] #[] := fun _ => rfl
              refine want_none rfl ?_
              unfold Oper.wp
              generalize a.eval = ρ at *
              go_simp
              try go_bits
              first | exact rel_val (Chg.refl _) | (go_simp; exact rel_val (Chg.refl _))
            case co7 =>
              rintro a wx hE hin (h6 : a.eval (.tmp 126) = _)
              have i13 : a.eval (.tmp 13) = .pointer (some ⟨hm, 0, none⟩) := hin 13 rfl
              clear hin
              have hcst : ∀ v, a.eval (.const v) = v := fun _ => rfl
              have hfnc : ∀ f, a.eval (.func f) = .func (.func f) #[] #[] := fun _ => rfl
              refine want_yes rfl rfl h6 ?_
              unfold Oper.wp
              generalize a.eval = ρ at *
              go_simp
              try go_bits
              first | exact rel_val (Chg.refl _) | (go_simp; exact rel_val (Chg.refl _))
            case co8 =>
              rintro a wx hE hin (h6 : a.eval (.tmp 126) = _) (h7 : a.eval (.tmp 127) = _)
              clear hin
              have hcst : ∀ v, a.eval (.const v) = v := fun _ => rfl
              have hfnc : ∀ f, a.eval (.func f) = .func (.func f) #[] #[] := fun _ => rfl
              refine want_yes rfl rfl h6 ?_
              unfold Oper.wp
              generalize a.eval = ρ at *
              go_simp
              go_simp
              refine (ndLabel_calls wx gd hm L (Kmw42.out.drew.chg hE id)).mono ?_
              rintro e w' ⟨rfl, hb⟩
              exact rel_val (.of_below hb)
            case co9 =>
              rintro a wx hE hin (h6 : a.eval (.tmp 126) = _)
              have i9 : a.eval (.tmp 9) = .pointer (some ⟨gla, 0, none⟩) := hin 9 rfl
              clear hin
              have hcst : ∀ v, a.eval (.const v) = v := fun _ => rfl
              have hfnc : ∀ f, a.eval (.func f) = .func (.func f) #[] #[] := fun _ => rfl
              refine want_yes rfl rfl h6 ?_
              exact wp_ld 40 _ rfl gla 0 5 (labC L) (labC L) i9 (Klaw42.out.drew.chg hE id) (by kernel_rfl) (by kernel_rfl) (Nat.le_refl 5) rfl (rel_val (Chg.refl _))
            case co10 =>
              rintro a wx hE hin (h6 : a.eval (.tmp 126) = _) (h8 : a.eval (.tmp 128) = _) (h9 : a.eval (.tmp 129) = _)
              clear hin
              have hcst : ∀ v, a.eval (.const v) = v := fun _ => rfl
              have hfnc : ∀ f, a.eval (.func f) = .func (.func f) #[] #[] := fun _ => rfl
              refine want_yes rfl rfl h6 ?_
              exact wp_eq_lab true 40 _ _ rfl L L h8 h9 (by rw [show (true ^^ decide (L = L)) = false by simp]; exact rel_val (Chg.refl _))
            case co11 =>
              rintro a wx hE hin (h6 : a.eval (.tmp 126) = _) (h10 : a.eval (.tmp 130) = _)
              clear hin
              have hcst : ∀ v, a.eval (.const v) = v := fun _ => rfl
              have hfnc : ∀ f, a.eval (.func f) = .func (.func f) #[] #[] := fun _ => rfl
              refine want_none rfl ?_
              unfold Oper.wp
              generalize a.eval = ρ at *
              go_simp
              try go_bits
              first | exact rel_val (Chg.refl _) | (go_simp; exact rel_val (Chg.refl _))
          case cfin =>
            intro wx hE
            rintro _ rfl _ rfl _ rfl _ rfl _ rfl _ rfl _ rfl _ rfl _ rfl _ rfl _ rfl _ rfl
            simp only [FinOk, List.take_succ_cons, List.take_zero, List.take_nil, List.drop_succ_cons, List.drop_zero, List.drop_nil, Act.put, List.setIfInBounds_toArray, List.set_cons_succ, List.set_cons_zero]
            have DX : Hid (DSes 92 w wx gd gsd lvdw42 (UpD S)) := Ddw42.out.chgN hE.undrew
            have Xm : Hid (Bk wx hm (NdC gd L)) := Kmw42.out.drew.chg hE id
            have Xk : Hid (Bk wx gk (secs W)) := Kkw42.out.drew.chg hE id
            clear hE
            have EX := Lib.hid DX.out.bel
            clear Ddw42 Ew42 Kmw42 Klaw42 Kkw42
            go_wp2_with fail
            have Hv : Hid (CmpRel w gd gsd lvdw42 (UpD S) (fun u => Bk u hm (NdC gd L) ∧ Bk u gk (secs W)) (.int .i64 0) wx) := ⟨0, by decide, rfl, DX.out, ⟨Xm.out, Xk.out⟩⟩
            clear DX EX Xm Xk
            go_loopw [15] (fun v wr => CmpRel w gd gsd lvdw42 (UpD S) (fun u => Bk u hm (NdC gd L) ∧ Bk u gk (secs W)) v wr) (fun v _ => 12 - (intOf v).toNat)
            case atStart => exact Hv.out
            case round =>
              obtain ⟨k, hk, rfl, hd3, hks3⟩ := hrel
              obtain ⟨hqm, hqk⟩ := hks3
              have Dv := Lib.hid hd3
              have Ev := Lib.hid hd3.bel
              have Qmv := Lib.hid hqm
              have Qkv := Lib.hid hqk
              clear hd3 Hv hqm hqk
              by_cases hk12 : k < 12
              case pos =>
                have hki : (k : Int) < 12 := by omega
                have hk0 : (0 : Int) ≤ (k : Int) := by omega
                have HK12 := Lib.hid hk12
                have HKI : Hid ((k : Int) < 12) := by show _ < _; omega
                have HK0 : Hid ((0 : Int) ≤ (k : Int)) := by show _ ≤ _; omega
                have HB32 : Hid ((W.getD k []).length = 32) := HW32.out k hk12
                have HRB : Hid ((UpD S).readB (7 + (k : Int)) = W.getD k []) := by
                  have h := (up_block (S := S) HSL.out (b := k) hk12).1
                  rw [← HWS.out k hk12] at h
                  exact h
                have HRE : Hid ((UpD S).readE (7 + (k : Int)) = 0) := (up_block (S := S) HSL.out (b := k) hk12).2
                go_wp2_with fail
                refine (ndBlock_calls wr gd gsd lvdw42 hm (UpD S) L (k : Int) Dv.out.at_ Qmv.out HK0.out HKI.out).mono ?_
                rintro en w41 ⟨rfl, hb⟩
                have Ew41 : Hid (Below w.heap.size w w41) := Ev.out.trans (hb.mono Ev.out.size)
                have Kmw41 : Hid (Bk w41 hm (NdC gd L)) := Qmv.out.below hb
                have Kkw41 : Hid (Bk w41 gk (secs W)) := Qkv.out.below hb
                have Ddw41 : Hid (DSes 92 w w41 gd gsd lvdw42 (UpD S)) := Dv.out.below hb
                clear Ev Qmv Qkv Dv
                clear hb
                rw [HRB.out, HRE.out]
                obtain ⟨vb, hvb⟩ : ∃ vb, bts (W.getD k []) = vb := ⟨_, rfl⟩
                have HVB := Lib.hid hvb
                have HVL : Hid (vb.length = 32) := by show _ = _; rw [← hvb, bts_length]; exact HB32.out
                have HVO : Hid (∀ u ∈ vb, u.oneCell' = true) := by rw [← hvb]; exact one_bts _
                rw [hvb]
                clear hvb
                go_wp2_with (refine wpList_al rfl 35 rfl (bts (List.replicate 32 0)) (by kernel_rfl) ?_)
                intro gb w42 hg hb hc hs
                have HQb : Hid (Below w41.heap.size w41 w42) := hc.below (Nat.le_refl _) (fun _ _ => id)
                have HGb : Hid (gb = w41.heap.size) := hg
                have KZb := Lib.hid hb
                clear hg hb hc hs
                go_wp2_with (refine wpList_st rfl 35 (.tmp 16) (.tmp 140) rfl gb 0 32 (bts (List.replicate 32 0)) vb rfl rfl KZb.out (by kernel_rfl) HVL.out (by decide) HVO.out ?_)
                intro w43 hbk hc
                rw [splice_whole _ _ (by rw [HVL.out]; rfl)] at hbk
                have hb : Below w41.heap.size w41 w43 := HQb.out.trans (hc.below HQb.out.size (fun q hq he => by have := HGb.out; omega))
                have Amb : Hid (hm < gb) := by show _ < _; have := Kmw41.out.lt; have := HGb.out; omega
                have Akb : Hid (gk < gb) := by show _ < _; have := Kkw41.out.lt; have := HGb.out; omega
                have Ew43 : Hid (Below w.heap.size w w43) := Ew41.out.trans (hb.mono Ew41.out.size)
                have Kmw43 : Hid (Bk w43 hm (NdC gd L)) := Kmw41.out.below hb
                have Kkw43 : Hid (Bk w43 gk (secs W)) := Kkw41.out.below hb
                have Ddw43 : Hid (DSes 92 w w43 gd gsd lvdw42 (UpD S)) := Ddw41.out.below hb
                clear Ew41 Kmw41 Kkw41 Ddw41
                have Kbw43 : Hid (Bk w43 gb vb) := hbk
                have Kbw43 : Hid (Bk w43 gb vb) := hbk
                clear hbk hb hc KZb HQb HGb
                go_wp2_with fail
                apply wp_region_rel 9 (Chg NoS) [(Veq _), (Veq _), (Veq _), (Veq _), (Veq _), (Veq _), (Veq _), (Veq (.bool false)), (Veq _)] [[], [0], [1], [2], [2], [2, 4], [2, 5], [2, 3, 6], [2, 7]] [142, 143, 144, 145, 146, 147, 148, 149, 150] (by kernel_rfl) (by kernel_rfl) rfl rfl rfl Chg.refl (fun _ _ _ => Chg.trans) ⟨Veq.lasts, Veq.lasts, Veq.lasts, Veq.lasts, Veq.lasts, Veq.lasts, Veq.lasts, Veq.lasts, Veq.lasts, trivial⟩ ?fops ?ffin
                case fops =>
                  refine ⟨?fo0, ?fo1, ?fo2, ?fo3, ?fo4, ?fo5, ?fo6, ?fo7, ?fo8, trivial⟩
                  case fo0 =>
                    intro a wx hE hin
                    have i17 : a.eval (.tmp 17) = .int .i64 0 := hin 17 rfl
                    clear hin
                    have hcst : ∀ v, a.eval (.const v) = v := fun _ => rfl
                    have hfnc : ∀ f, a.eval (.func f) = .func (.func f) #[] #[] := fun _ => rfl
                    refine want_none rfl ?_
                    unfold Oper.wp
                    generalize a.eval = ρ at *
                    go_simp
                    try go_bits
                    first | exact rel_val (Chg.refl _) | (go_simp; exact rel_val (Chg.refl _))
                  case fo1 =>
                    rintro a wx hE hin (h0 : a.eval (.tmp 142) = _)
                    clear hin
                    have hcst : ∀ v, a.eval (.const v) = v := fun _ => rfl
                    have hfnc : ∀ f, a.eval (.func f) = .func (.func f) #[] #[] := fun _ => rfl
                    refine want_none rfl ?_
                    unfold Oper.wp
                    generalize a.eval = ρ at *
                    go_simp
                    try go_bits
                    first | exact rel_val (Chg.refl _) | (go_simp; exact rel_val (Chg.refl _))
                  case fo2 =>
                    rintro a wx hE hin (h1 : a.eval (.tmp 143) = _)
                    clear hin
                    have hcst : ∀ v, a.eval (.const v) = v := fun _ => rfl
                    have hfnc : ∀ f, a.eval (.func f) = .func (.func f) #[] #[] := fun _ => rfl
                    refine want_none rfl ?_
                    unfold Oper.wp
                    generalize a.eval = ρ at *
                    go_simp
                    try go_bits
                    first | exact rel_val (Chg.refl _) | (go_simp; exact rel_val (Chg.refl _))
                  case fo3 =>
                    rintro a wx hE hin (h2 : a.eval (.tmp 144) = _)
                    have i16 : a.eval (.tmp 16) = .pointer (some ⟨gb, 0, none⟩) := hin 16 rfl
                    clear hin
                    have hcst : ∀ v, a.eval (.const v) = v := fun _ => rfl
                    have hfnc : ∀ f, a.eval (.func f) = .func (.func f) #[] #[] := fun _ => rfl
                    refine want_yes rfl rfl h2 ?_
                    exact wp_ld 35 _ rfl gb 0 32 vb (bts (W.getD k [])) i16 (Kbw43.out.drew.chg hE id) (by kernel_rfl) (by kernel_rfl) (by rw [HVL.out]; decide) (by rw [List.drop_zero, List.take_of_length_le (by rw [HVL.out]; exact Nat.le_refl _), HVB.out]) (rel_val (Chg.refl _))
                  case fo4 =>
                    rintro a wx hE hin (h2 : a.eval (.tmp 144) = _)
                    have i15 : a.eval (.tmp 15) = .int .i64 k := hin 15 rfl
                    clear hin
                    have hcst : ∀ v, a.eval (.const v) = v := fun _ => rfl
                    have hfnc : ∀ f, a.eval (.func f) = .func (.func f) #[] #[] := fun _ => rfl
                    refine want_yes rfl rfl h2 ?_
                    unfold Oper.wp
                    generalize a.eval = ρ at *
                    go_simp
                    try go_bits
                    first | exact rel_val (Chg.refl _) | (go_simp; exact rel_val (Chg.refl _))
                  case fo5 =>
                    rintro a wx hE hin (h2 : a.eval (.tmp 144) = _) (h4 : a.eval (.tmp 146) = _)
                    have i6 : a.eval (.tmp 6) = .pointer (some ⟨gk, 0, none⟩) := hin 6 rfl
                    clear hin
                    have hcst : ∀ v, a.eval (.const v) = v := fun _ => rfl
                    have hfnc : ∀ f, a.eval (.func f) = .func (.func f) #[] #[] := fun _ => rfl
                    refine want_yes rfl rfl h2 ?_
                    unfold Oper.wp
                    generalize a.eval = ρ at *
                    go_simp
                    try go_bits
                    first | exact rel_val (Chg.refl _) | (go_simp; exact rel_val (Chg.refl _))
                  case fo6 =>
                    rintro a wx hE hin (h2 : a.eval (.tmp 144) = _) (h5 : a.eval (.tmp 147) = _)
                    clear hin
                    have hcst : ∀ v, a.eval (.const v) = v := fun _ => rfl
                    have hfnc : ∀ f, a.eval (.func f) = .func (.func f) #[] #[] := fun _ => rfl
                    refine want_yes rfl rfl h2 ?_
                    exact wp_ld 35 _ rfl gk (k * 32) 32 (secs W) (bts (W.getD k [])) h5 (Kkw43.out.drew.chg hE id) (by kernel_rfl) (by kernel_rfl) (by rw [secs_len12 HW12.out HW32.out]; have := HK12.out; omega) (secs_at HW12.out HW32.out HK12.out) (rel_val (Chg.refl _))
                  case fo7 =>
                    rintro a wx hE hin (h2 : a.eval (.tmp 144) = _) (h3 : a.eval (.tmp 145) = _) (h6 : a.eval (.tmp 148) = _)
                    clear hin
                    have hcst : ∀ v, a.eval (.const v) = v := fun _ => rfl
                    have hfnc : ∀ f, a.eval (.func f) = .func (.func f) #[] #[] := fun _ => rfl
                    refine want_yes rfl rfl h2 ?_
                    exact wp_eq_bytes true 35 _ _ _ rfl 5 32 Try.underlying35 Try.underlying5 (by kernel_rfl) (by kernel_rfl) (W.getD k []) (W.getD k []) h3 h6 HB32.out HB32.out (by rw [decide_eq_true rfl]; exact rel_val (Chg.refl _))
                  case fo8 =>
                    rintro a wx hE hin (h2 : a.eval (.tmp 144) = _) (h7 : a.eval (.tmp 149) = _)
                    clear hin
                    have hcst : ∀ v, a.eval (.const v) = v := fun _ => rfl
                    have hfnc : ∀ f, a.eval (.func f) = .func (.func f) #[] #[] := fun _ => rfl
                    refine want_none rfl ?_
                    unfold Oper.wp
                    generalize a.eval = ρ at *
                    go_simp
                    try go_bits
                    first | exact rel_val (Chg.refl _) | (go_simp; exact rel_val (Chg.refl _))
                case ffin =>
                  intro wx hE
                  rintro _ rfl _ rfl _ rfl _ rfl _ rfl _ rfl _ rfl _ rfl _ rfl
                  simp only [FinOk, List.take_succ_cons, List.take_zero, List.take_nil, List.drop_succ_cons, List.drop_zero, List.drop_nil, Act.put, List.setIfInBounds_toArray, List.set_cons_succ, List.set_cons_zero]
                  have DX : Hid (DSes 92 w wx gd gsd lvdw42 (UpD S)) := Ddw43.out.chgN hE.undrew
                  have Xm : Hid (Bk wx hm (NdC gd L)) := Kmw43.out.drew.chg hE id
                  have Xk : Hid (Bk wx gk (secs W)) := Kkw43.out.drew.chg hE id
                  clear hE
                  go_wp2_with fail
                  go_roundw
                  case rel => exact ⟨k + 1, by omega, by go_num, DX.out, ⟨Xm.out, Xk.out⟩⟩
                  case measure => simp [intOf]; omega
              case neg =>
                have hke : k = 12 := by omega
                subst hke
                have hki : ¬ (((12 : Nat) : Int) < 12) := by omega
                go_wp2_with fail
                refine (wakes9_calls wr).mono ?_
                rintro en w41 ⟨rfl, hb⟩
                have Ew41 : Hid (Below w.heap.size w w41) := Ev.out.trans (hb.mono Ev.out.size)
                have Kmw41 : Hid (Bk w41 hm (NdC gd L)) := Qmv.out.below hb
                have Kkw41 : Hid (Bk w41 gk (secs W)) := Qkv.out.below hb
                have Ddw41 : Hid (DSes 92 w w41 gd gsd lvdw42 (UpD S)) := Dv.out.below hb
                clear Ev Qmv Qkv Dv
                clear hb
                go_wp2_with fail
                (try simp only [Exit.inBlock, Exit.then])
                go_ret
                exact ⟨rfl, Ew41.out⟩
end Go.Proofs.Ytcmfkdfegfablaa
