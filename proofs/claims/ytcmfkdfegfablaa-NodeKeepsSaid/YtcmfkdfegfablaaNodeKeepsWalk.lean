import Derived.Test.YtcmfkdfegfablaaNodeLaw

/- The walk of NodeKeeps. -/
namespace Go.Proofs.Ytcmfkdfegfablaa
open Go.RowKit
set_option linter.unusedVariables false
set_option linter.unusedSimpArgs false

theorem lab1_not (ps : List PutV) : ¬ laterB 1 1 (carryL zLab 1 1 ps 0).e (carryL zLab 1 1 ps 0).s = true := (by decide : ¬ laterB 1 1 1 1 = true)
def KeepRel (w : World) (gd gsd hn gla n : Nat) (ps : List PutV) (v : Value) (wr : World) : Prop := ∃ (k : Nat) (lv : Value) (S : List (List UInt8)) (L : Lab), k ≤ n ∧ v = .int .i64 k ∧ DSes 92 w wr gd gsd lv (UpD S) ∧ Bk wr hn (NdC gd L) ∧ Bk wr gla (labC L) ∧ ¬ footD gd gsd lv hn ∧ ¬ footD gd gsd lv gla ∧ S.length = 19 ∧ S.getD 0 [] = labEnc L ∧ (∀ j, 1 ≤ j → j < 19 → S.getD j [] = (appS S0 1 1 ps (carryL zLab 1 1 ps 0)).getD j []) ∧ ¬ laterB 1 1 L.e L.s = true
def KeepRel2 (w : World) (gd gsd hm : Nat) (lv : Value) (S : List (List UInt8)) (L : Lab) (n : Nat) (v : Value) (wr : World) : Prop := ∃ (k : Nat), k ≤ n ∧ v = .int .i64 k ∧ DSes 92 w wr gd gsd lv (UpD S) ∧ Bk wr hm (NdC gd L)
set_option maxRecDepth 100000 in
set_option maxHeartbeats 32000000 in
theorem nodeKeeps_calls (w : World) (A : Option Addr) (n c : Nat) (ps : List PutV) (A1 : Option Addr) (n1 c1 : Nat) (ls : List Lab) (A2 : Option Addr) (n2 c2 : Nat) (ks : List UInt8)
    (hl : ps.length = n) (hnc : n ≤ c) (hm : c ≤ 9223372036854775807) (hr : Rd w A (ps.flatMap putC)) (ho : PutsOk ps) (hl1 : ls.length = n1) (hnc1 : n1 ≤ c1) (hm1 : c1 ≤ 9223372036854775807) (hr1 : Rd w A1 (ls.flatMap labC)) (hl2 : ks.length = n2) (hnc2 : n2 ≤ c2) (hm2 : c2 ≤ 9223372036854775807) (hr2 : Rd w A2 (bts ks)) :
    Calls Try.prog 7 #[.slice A n c, .slice A1 n1 c1, .slice A2 n2 c2] w fun e w' => e = .returned (.bool true) ∧ Below w.heap.size w w' := by
  subst hl
  subst hl1
  subst hl2
  have HR := Lib.hid hr
  have HO := Lib.hid ho
  have HR1 := Lib.hid hr1
  have HRK := Lib.hid hr2
  clear hr ho hr1 hr2
  go_enter Try.func7, Try.ntmps7
  go_wp2_with fail
  refine (refGood_calls ps A ps.length c w rfl (by omega) HR.out HO.out).mono ?_
  rintro en w1 ⟨rfl, hb⟩
  have Ew1 := Lib.hid hb
  clear hb
  by_cases hgood : goodB ps = true
  case neg =>
    rw [Bool.eq_false_iff.2 hgood]
    go_wp2_with fail
    refine (wakes9_calls w1).mono ?_
    rintro en w2 ⟨rfl, hb⟩
    have Ew2 : Hid (Below w.heap.size w w2) := Ew1.out.trans (hb.mono Ew1.out.size)
    clear Ew1
    clear hb
    go_wp2_with fail
    (try simp only [Exit.inBlock, Exit.then])
    go_ret
    exact ⟨rfl, Ew2.out⟩
  rw [hgood]
  have HGD := Lib.hid hgood
  by_cases h20 : 20 < ls.length
  · have h20i : (20 : Int) < (ls.length : Int) := by omega
    go_wp2_with fail
    refine (wakes9_calls w1).mono ?_
    rintro en w2 ⟨rfl, hb⟩
    have Ew2 : Hid (Below w.heap.size w w2) := Ew1.out.trans (hb.mono Ew1.out.size)
    clear Ew1
    clear hb
    go_wp2_with fail
    (try simp only [Exit.inBlock, Exit.then])
    go_ret
    exact ⟨rfl, Ew2.out⟩
  have h20i : ¬ (20 : Int) < (ls.length : Int) := by omega
  by_cases h100 : 100 < ks.length
  · have h100i : (100 : Int) < (ks.length : Int) := by omega
    go_wp2_with fail
    refine (wakes9_calls w1).mono ?_
    rintro en w2 ⟨rfl, hb⟩
    have Ew2 : Hid (Below w.heap.size w w2) := Ew1.out.trans (hb.mono Ew1.out.size)
    clear Ew1
    clear hb
    go_wp2_with fail
    (try simp only [Exit.inBlock, Exit.then])
    go_ret
    exact ⟨rfl, Ew2.out⟩
  have h100i : ¬ (100 : Int) < (ks.length : Int) := by omega
  clear hgood
  go_wp2_with fail
  refine (ndNew_calls w w1 Ew1.out).mono ?_
  rintro en w2 ⟨gd, gsd, rfl, hd, hfe, hb⟩
  have Ew2 : Hid (Below w.heap.size w w2) := Ew1.out.trans (hb.mono Ew1.out.size)
  clear Ew1
  have Ddw2 : Hid (DSes 92 w w2 gd gsd (.slice none 0 0) (UpD S0)) := hd
  clear hb hd hfe
  go_wp2_with fail
  have HSZn : Hid (w.heap.size ≤ w2.heap.size) := Ew2.out.size
  refine (ndOpen_calls w2 gd gsd (.slice none 0 0) (UpD S0) 0 Ddw2.out.at_ (ok_up _) (by decide)).mono ?_
  intro en w3 hp
  rw [open_new] at hp
  obtain ⟨hn, lvdw3, rfl, hd, hk, hge, hnf, hft, hch⟩ := DSes.opost Ddw2.out hp
  have Ddw3 : Hid (DSes 92 w w3 gd gsd lvdw3 (UpD S0)) := hd
  have Ew3 : Hid (Below w.heap.size w w3) := hd.bel
  have Knw3 : Hid (Bk w3 hn (NdC gd zLab)) := hk
  have Fdn : Hid (¬ footD gd gsd lvdw3 hn) := hnf
  have NHn : Hid (w.heap.size ≤ hn) := by show _ ≤ _; have := HSZn.out; omega
  clear hp hd hk hge hnf hft hch Ddw2 Ew2
  go_wp2_with (refine wpList_bld rfl 25 [(0, .const (.int .u32 1)), (1, .const (.int .u32 1)), (2, .tmp 54)] rfl zR [(0, [vu32 1]), (1, [vu32 1]), (2, [.slice A ps.length c])] [vu32 1, vu32 1, .slice A ps.length c] (by kernel_rfl) (by kernel_rfl) ⟨rfl, ⟨1, rfl, by kernel_rfl, by decide⟩, rfl, ⟨1, rfl, by kernel_rfl, by decide⟩, rfl, ⟨1, rfl, by kernel_rfl, by decide⟩, trivial⟩ rfl ?_)
  refine (ndApply_calls w3 gd gsd lvdw3 hn (UpD S0) zLab 0 1 1 ps A ps.length c 0 Ddw3.out.at_ Knw3.out Fdn.out (ok_up _) (by decide) rfl (fun w' hc => HR.out.below (Ew3.out.trans (hc.below Ew3.out.size (fun j hj hf => by have := Ddw3.out.fr j hf; omega)))) HO.out (fun hg _ => put_up_ok S0_len hg)).mono ?_
  intro en w4 hp
  rw [up_apply S0_len HGD.out (by decide), labAfter_pair] at hp
  have hch := NPost.chg hp
  obtain ⟨rfl, lvdw4, hd, hk, hft⟩ := DSes.npost Ddw3.out hp NHn.out
  have Ddw4 : Hid (DSes 92 w w4 gd gsd lvdw4 (UpD (appS S0 1 1 ps (carryL zLab 1 1 ps 0)))) := hd
  have Ew4 : Hid (Below w.heap.size w w4) := hd.bel
  have Knw4 : Hid (Bk w4 hn (NdC gd (carryL zLab 1 1 ps 0))) := hk
  have Fdn : Hid (¬ footD gd gsd lvdw4 hn) := fun hj => (hft _ hj).elim Fdn.out (fun h => by have := Knw3.out.lt; omega)
  clear hp hd hk hft hch Knw3 Ddw3 Ew3
  go_wp2_with fail
  refine (ndLabel_calls w4 gd hn (carryL zLab 1 1 ps 0) Knw4.out).mono ?_
  rintro en w5 ⟨rfl, hb⟩
  have Ew5 : Hid (Below w.heap.size w w5) := Ew4.out.trans (hb.mono Ew4.out.size)
  have Knw5 : Hid (Bk w5 hn (NdC gd (carryL zLab 1 1 ps 0))) := Knw4.out.below hb
  have Ddw5 : Hid (DSes 92 w w5 gd gsd lvdw4 (UpD (appS S0 1 1 ps (carryL zLab 1 1 ps 0)))) := Ddw4.out.below hb
  clear Ew4 Knw4 Ddw4
  clear hb
  go_wp2_with (refine wpList_al rfl 40 rfl (labC zLab) (by kernel_rfl) ?_)
  intro gla w6 hg hb hc hs
  have HQla : Hid (Below w5.heap.size w5 w6) := hc.below (Nat.le_refl _) (fun _ _ => id)
  have HGla : Hid (gla = w5.heap.size) := hg
  have KZla := Lib.hid hb
  clear hg hb hc hs
  go_wp2_with (refine wpList_st rfl 40 (.tmp 10) (.tmp 60) rfl gla 0 5 (labC zLab) (labC (carryL zLab 1 1 ps 0)) rfl rfl KZla.out (by kernel_rfl) rfl (by decide) (one_lab _) ?_)
  intro w7 hbk hc
  rw [splice_whole (labC zLab) (labC (carryL zLab 1 1 ps 0)) rfl] at hbk
  have hb : Below w5.heap.size w5 w7 := HQla.out.trans (hc.below HQla.out.size (fun q hq he => by have := HGla.out; omega))
  have Fdla : Hid (¬ footD gd gsd lvdw4 gla) := fun hj => by have := DiskAt.lt Ddw5.out.at_ _ hj; have := HGla.out; omega
  have Anla : Hid (hn < gla) := by show _ < _; have := Knw5.out.lt; have := HGla.out; omega
  have Ew7 : Hid (Below w.heap.size w w7) := Ew5.out.trans (hb.mono Ew5.out.size)
  have Knw7 : Hid (Bk w7 hn (NdC gd (carryL zLab 1 1 ps 0))) := Knw5.out.below hb
  have Ddw7 : Hid (DSes 92 w w7 gd gsd lvdw4 (UpD (appS S0 1 1 ps (carryL zLab 1 1 ps 0)))) := Ddw5.out.below hb
  clear Ew5 Knw5 Ddw5
  have Klaw7 : Hid (Bk w7 gla (labC (carryL zLab 1 1 ps 0))) := hbk
  have Klaw7 : Hid (Bk w7 gla (labC (carryL zLab 1 1 ps 0))) := hbk
  clear hbk hb hc KZla HQla HGla
  go_wp2_with fail
  have H0 : Hid (KeepRel w gd gsd hn gla ls.length ps (.int .i64 0) w7) := ⟨0, _, _, (carryL zLab 1 1 ps 0), Nat.zero_le _, rfl, Ddw7.out, Knw7.out, Klaw7.out, Fdn.out, Fdla.out, by rw [appS_length]; exact S0_len, appS_lab S0_len, fun j _ _ => rfl, lab1_not ps⟩
  have GLW : Hid (w.heap.size ≤ gla) := by show _ ≤ _; have h1 := NHn.out; have h2 := Anla.out; omega
  have NHW := NHn
  have ANL : Hid (¬ hn = gla) := by have := Anla.out; show ¬ _; omega
  clear Ddw7 Ew7 Knw7 Klaw7 Fdn Fdla
  go_loopw [11] (fun v11 wr => KeepRel w gd gsd hn gla ls.length ps v11 wr) (fun v11 _ => ls.length - (intOf v11).toNat)
  case atStart => exact H0.out
  case round =>
    obtain ⟨k, lv, S, L, hk, rfl, hd, hkn, hkl, hfn, hfl, hsl, hs0, hso, hnl⟩ := hrel
    have DBr := Lib.hid hd
    have Er := Lib.hid hd.bel
    have KBr := Lib.hid hkn
    have KLr := Lib.hid hkl
    have Fdn := Lib.hid hfn
    have FNN := Lib.hid hfn
    have FLN := Lib.hid hfl
    have HSL := Lib.hid hsl
    have HS0 := Lib.hid hs0
    have HSO := Lib.hid hso
    have HNL := Lib.hid hnl
    clear hd hkn hkl hfn hfl hsl hs0 hso hnl H0
    by_cases hlt : k < ls.length
    · have hki : (k : Int) < (ls.length : Int) := by omega
      have hk0 : (0 : Int) ≤ (k : Int) := by omega
      obtain ⟨ad, hA⟩ := lab_some HR1.out hlt
      subst hA
      have HXR := Lib.hid (lab_rd HR1.out hlt)
      obtain ⟨x, hx⟩ : ∃ x, ls[k] = x := ⟨_, rfl⟩
      rw [hx] at HXR
      clear hx
      go_wp2_with (first
        | (refine wpList_ldr2 rfl 40 (.tmp 69) rfl (ad.add (k * 5)) 5 (labC x) rfl (HXR.out.below Er.out) (by kernel_rfl) (by kernel_rfl) rfl ?_)
        | (refine wpList_al rfl 40 rfl (labC zLab) (by kernel_rfl) ?_))
      intro gx w11 hg hb hc hs
      have HQx : Hid (Below wr.heap.size wr w11) := hc.below (Nat.le_refl _) (fun _ _ => id)
      have HGx : Hid (gx = wr.heap.size) := hg
      have KZx := Lib.hid hb
      clear hg hb hc hs
      go_wp2_with (refine wpList_st rfl 40 (.tmp 12) (.tmp 70) rfl gx 0 5 (labC zLab) (labC x) rfl rfl KZx.out (by kernel_rfl) rfl (by decide) (one_lab _) ?_)
      intro w12 hbk hc
      rw [splice_whole (labC zLab) (labC x) rfl] at hbk
      have hb : Below wr.heap.size wr w12 := HQx.out.trans (hc.below HQx.out.size (fun q hq he => by have := HGx.out; omega))
      have Fdx : Hid (¬ footD gd gsd lv gx) := fun hj => by have := DiskAt.lt DBr.out.at_ _ hj; have := HGx.out; omega
      have Anx : Hid (hn < gx) := by show _ < _; have := KBr.out.lt; have := HGx.out; omega
      have Alax : Hid (gla < gx) := by show _ < _; have := KLr.out.lt; have := HGx.out; omega
      have Ew12 : Hid (Below w.heap.size w w12) := Er.out.trans (hb.mono Er.out.size)
      have Knw12 : Hid (Bk w12 hn (NdC gd L)) := KBr.out.below hb
      have Klaw12 : Hid (Bk w12 gla (labC L)) := KLr.out.below hb
      have Ddw12 : Hid (DSes 92 w w12 gd gsd lv (UpD S)) := DBr.out.below hb
      clear Er KBr KLr DBr
      have Kxw12 : Hid (Bk w12 gx (labC x)) := hbk
      have Kxw12 : Hid (Bk w12 gx (labC x)) := hbk
      clear hbk hb hc KZx HQx HGx
      have cx0 : w12.cell? ⟨gx, 0, none⟩ = some (vu32 x.e) := Kxw12.out.cell rfl
      have cx1 : w12.cell? ⟨gx, 1, none⟩ = some (vu32 x.s) := Kxw12.out.cell rfl
      go_wp2_with fail
      clear cx0 cx1
      refine (refLater_calls x.e x.s 1 0 w12).mono ?_
      rintro en w' ⟨rfl, rfl⟩
      by_cases hlat : laterB x.e x.s 1 0 = true
      case pos =>
        rw [hlat]
        have HNL := Lib.hid (late1 hlat)
        clear hlat
        have NFX : ¬ (footD gd gsd lv gx ∨ gx = hn) := fun h => h.elim Fdx.out (fun h => by have := Anx.out; omega)
        have NFL : ¬ (footD gd gsd lv gla ∨ gla = hn) := fun h => h.elim FLN.out (fun h => ANL.out h.symm)
        go_wp2_with fail
        apply wp_region_relu 15 2 81 (NodeF w gd gsd hn lv w12.heap.size 0 (S.set 0 (labEnc x)) x) (Chg (fun j => footD gd gsd lv j ∨ j = hn)) (Chg NoS) (Chg (fun j => footD gd gsd lv j ∨ j = hn)) [(Veq _), (Veq _), (fun _ _ => True), (Veq _), (Veq _), (Veq _), (Veq _), (Veq _), (Veq (.bool false)), (Veq _), (Veq _), (Veq _), (Veq (.int .i64 0)), (Veq _), (Veq _)] [[], [], [0, 1], [2], [3], [4], [2, 4, 5], [4], [4, 6, 7], [4, 8], [9], [10], [2, 10, 11], [10, 12], [10, 13]] [79, 80, 81, 82, 83, 84, 85, 86, 87, 88, 89, 90, 91, 92, 93] (by kernel_rfl) (by kernel_rfl) rfl rfl rfl (by kernel_rfl) Chg.refl (fun _ _ _ => Chg.trans) (fun _ _ _ => Chg.trans) (fun _ _ h => h.mono (fun _ hk => hk.elim)) (fun _ _ h => h) ⟨Veq.lasts, Veq.lasts, (fun _ _ _ _ _ => trivial), Veq.lasts, Veq.lasts, Veq.lasts, Veq.lasts, Veq.lasts, Veq.lasts, Veq.lasts, Veq.lasts, Veq.lasts, Veq.lasts, Veq.lasts, Veq.lasts, trivial⟩ ⟨Veq.lasts, Veq.lasts, (fun _ _ _ _ _ => trivial), Veq.lasts, Veq.lasts, Veq.lasts, Veq.lasts, Veq.lasts, Veq.lasts, Veq.lasts, Veq.lasts, Veq.lasts, Veq.lasts, Veq.lasts, Veq.lasts, trivial⟩ NodeF.lasts (fun F h w v => by cases h; trivial) ?aops ?afin
        case aops =>
          refine ⟨?ao0, ?ao1, ?ao2, ?ao3, ?ao4, ?ao5, ?ao6, ?ao7, ?ao8, ?ao9, ?ao10, ?ao11, ?ao12, ?ao13, ?ao14, trivial⟩
          case ao0 =>
            rw [if_neg (by decide)]
            intro a wx hE hin hsu
            clear hsu
            have i8 : a.eval (.tmp 8) = .pointer (some ⟨hn, 0, none⟩) := hin 8 rfl
            clear hin
            have hcst : ∀ v, a.eval (.const v) = v := fun _ => rfl
            have hfnc : ∀ f, a.eval (.func f) = .func (.func f) #[] #[] := fun _ => rfl
            refine want_none rfl ?_
            unfold Oper.wp
            generalize a.eval = ρ at *
            go_simp
            try go_bits
            first | exact rel_val (Chg.refl _) | (go_simp; exact rel_val (Chg.refl _))
          case ao1 =>
            rw [if_neg (by decide)]
            intro a wx hE hin hsu
            clear hsu
            have i12 : a.eval (.tmp 12) = .pointer (some ⟨gx, 0, none⟩) := hin 12 rfl
            clear hin
            have hcst : ∀ v, a.eval (.const v) = v := fun _ => rfl
            have hfnc : ∀ f, a.eval (.func f) = .func (.func f) #[] #[] := fun _ => rfl
            refine want_none rfl ?_
            exact wp_ld 40 _ rfl gx 0 5 (labC x) (labC x) i12 (Kxw12.out.drew.chg hE NFX) (by kernel_rfl) (by kernel_rfl) (Nat.le_refl 5) rfl (rel_val (Chg.refl _))
          case ao2 =>
            rw [if_pos (by decide)]
            rintro a wx hE hin (h0 : a.eval (.tmp 79) = _) (h1 : a.eval (.tmp 80) = _)
            clear hin
            have hcst : ∀ v, a.eval (.const v) = v := fun _ => rfl
            have hfnc : ∀ f, a.eval (.func f) = .func (.func f) #[] #[] := fun _ => rfl
            unfold Oper.wp
            generalize a.eval = ρ at *
            go_simp
            go_simp
            refine (ndSetLabel_calls wx gd gsd lv hn (UpD S) L x 0 (Ddw12.out.drew.chgN hE).at_ (Knw12.out.drew.chg hE id) FNN.out (ok_up _) (by decide)).mono ?_
            intro e w' hp
            rw [up_setLab HSL.out, labAfter_pair] at hp
            have hch := NPost.chg hp
            obtain ⟨rfl, lv3, hd3, hk3, hf3⟩ := DSes.npost (Ddw12.out.drew.chgN hE) hp NHW.out
            refine ⟨_, rfl, ?_, hch⟩
            (try rw [if_pos rfl])
            exact ⟨rfl, lv3, hd3, hk3, fun j hj => (hf3 j hj).elim .inl (fun h => .inr (Nat.le_trans hE.size h))⟩
          case ao3 =>
            rw [if_neg (by decide)]
            rintro a wx hE hin hsu _
            have hfp := hsu (by decide)
            clear hin
            have hcst : ∀ v, a.eval (.const v) = v := fun _ => rfl
            have hfnc : ∀ f, a.eval (.func f) = .func (.func f) #[] #[] := fun _ => rfl
            refine want_none rfl ?_
            unfold Oper.wp
            generalize a.eval = ρ at *
            have h2 := hfp.1
            go_simp
            try go_bits
            first | exact rel_val (Chg.refl _) | (go_simp; exact rel_val (Chg.refl _))
          case ao4 =>
            rw [if_neg (by decide)]
            rintro a wx hE hin hsu (h3 : a.eval (.tmp 82) = _)
            clear hsu
            clear hin
            have hcst : ∀ v, a.eval (.const v) = v := fun _ => rfl
            have hfnc : ∀ f, a.eval (.func f) = .func (.func f) #[] #[] := fun _ => rfl
            refine want_none rfl ?_
            unfold Oper.wp
            generalize a.eval = ρ at *
            go_simp
            try go_bits
            first | exact rel_val (Chg.refl _) | (go_simp; exact rel_val (Chg.refl _))
          case ao5 =>
            rw [if_neg (by decide)]
            rintro a wx hE hin hsu (h4 : a.eval (.tmp 83) = _)
            clear hsu
            have i8 : a.eval (.tmp 8) = .pointer (some ⟨hn, 0, none⟩) := hin 8 rfl
            clear hin
            have hcst : ∀ v, a.eval (.const v) = v := fun _ => rfl
            have hfnc : ∀ f, a.eval (.func f) = .func (.func f) #[] #[] := fun _ => rfl
            refine want_yes rfl rfl h4 ?_
            unfold Oper.wp
            generalize a.eval = ρ at *
            go_simp
            try go_bits
            first | exact rel_val (Chg.refl _) | (go_simp; exact rel_val (Chg.refl _))
          case ao6 =>
            rw [if_neg (by decide)]
            rintro a wx hE hin hsu _ (h4 : a.eval (.tmp 83) = _) (h5 : a.eval (.tmp 84) = _)
            have hfp := hsu (by decide)
            clear hin
            have hcst : ∀ v, a.eval (.const v) = v := fun _ => rfl
            have hfnc : ∀ f, a.eval (.func f) = .func (.func f) #[] #[] := fun _ => rfl
            refine want_yes rfl rfl h4 ?_
            unfold Oper.wp
            generalize a.eval = ρ at *
            go_simp
            obtain ⟨_, lv3, hd3, hk3, _⟩ := hfp
            refine (ndLabel_calls wx gd hn x hk3).mono ?_
            rintro e w' ⟨rfl, hb⟩
            exact rel_val (.of_below hb)
          case ao7 =>
            rw [if_neg (by decide)]
            rintro a wx hE hin hsu (h4 : a.eval (.tmp 83) = _)
            clear hsu
            have i12 : a.eval (.tmp 12) = .pointer (some ⟨gx, 0, none⟩) := hin 12 rfl
            clear hin
            have hcst : ∀ v, a.eval (.const v) = v := fun _ => rfl
            have hfnc : ∀ f, a.eval (.func f) = .func (.func f) #[] #[] := fun _ => rfl
            refine want_yes rfl rfl h4 ?_
            exact wp_ld 40 _ rfl gx 0 5 (labC x) (labC x) i12 (Kxw12.out.drew.chg hE NFX) (by kernel_rfl) (by kernel_rfl) (Nat.le_refl 5) rfl (rel_val (Chg.refl _))
          case ao8 =>
            rw [if_neg (by decide)]
            rintro a wx hE hin hsu (h4 : a.eval (.tmp 83) = _) (h6 : a.eval (.tmp 85) = _) (h7 : a.eval (.tmp 86) = _)
            clear hsu
            clear hin
            have hcst : ∀ v, a.eval (.const v) = v := fun _ => rfl
            have hfnc : ∀ f, a.eval (.func f) = .func (.func f) #[] #[] := fun _ => rfl
            refine want_yes rfl rfl h4 ?_
            exact wp_eq_lab true 40 _ _ rfl x x h6 h7 (by rw [show (true ^^ decide (x = x)) = false by simp]; exact rel_val (Chg.refl _))
          case ao9 =>
            rw [if_neg (by decide)]
            rintro a wx hE hin hsu (h4 : a.eval (.tmp 83) = _) (h8 : a.eval (.tmp 87) = _)
            clear hsu
            clear hin
            have hcst : ∀ v, a.eval (.const v) = v := fun _ => rfl
            have hfnc : ∀ f, a.eval (.func f) = .func (.func f) #[] #[] := fun _ => rfl
            refine want_none rfl ?_
            unfold Oper.wp
            generalize a.eval = ρ at *
            go_simp
            try go_bits
            first | exact rel_val (Chg.refl _) | (go_simp; exact rel_val (Chg.refl _))
          case ao10 =>
            rw [if_neg (by decide)]
            rintro a wx hE hin hsu (h9 : a.eval (.tmp 88) = _)
            clear hsu
            clear hin
            have hcst : ∀ v, a.eval (.const v) = v := fun _ => rfl
            have hfnc : ∀ f, a.eval (.func f) = .func (.func f) #[] #[] := fun _ => rfl
            refine want_none rfl ?_
            unfold Oper.wp
            generalize a.eval = ρ at *
            go_simp
            try go_bits
            first | exact rel_val (Chg.refl _) | (go_simp; exact rel_val (Chg.refl _))
          case ao11 =>
            rw [if_neg (by decide)]
            rintro a wx hE hin hsu (h10 : a.eval (.tmp 89) = _)
            clear hsu
            have i7 : a.eval (.tmp 7) = .pointer (some ⟨gd, 0, none⟩) := hin 7 rfl
            clear hin
            have hcst : ∀ v, a.eval (.const v) = v := fun _ => rfl
            have hfnc : ∀ f, a.eval (.func f) = .func (.func f) #[] #[] := fun _ => rfl
            refine want_yes rfl rfl h10 ?_
            unfold Oper.wp
            generalize a.eval = ρ at *
            go_simp
            try go_bits
            first | exact rel_val (Chg.refl _) | (go_simp; exact rel_val (Chg.refl _))
          case ao12 =>
            rw [if_neg (by decide)]
            rintro a wx hE hin hsu _ (h10 : a.eval (.tmp 89) = _) (h11 : a.eval (.tmp 90) = _)
            have hfp := hsu (by decide)
            clear hin
            have hcst : ∀ v, a.eval (.const v) = v := fun _ => rfl
            have hfnc : ∀ f, a.eval (.func f) = .func (.func f) #[] #[] := fun _ => rfl
            refine want_yes rfl rfl h10 ?_
            unfold Oper.wp
            generalize a.eval = ρ at *
            go_simp
            obtain ⟨_, lv3, hd3, hk3, _⟩ := hfp
            refine (upLoose_at wx gd gsd lv3 _ hd3.at_).mono ?_
            rintro e w' ⟨rfl, rfl⟩
            exact rel_val (Chg.refl _)
          case ao13 =>
            rw [if_neg (by decide)]
            rintro a wx hE hin hsu (h10 : a.eval (.tmp 89) = _) (h12 : a.eval (.tmp 91) = _)
            clear hsu
            clear hin
            have hcst : ∀ v, a.eval (.const v) = v := fun _ => rfl
            have hfnc : ∀ f, a.eval (.func f) = .func (.func f) #[] #[] := fun _ => rfl
            refine want_yes rfl rfl h10 ?_
            unfold Oper.wp
            generalize a.eval = ρ at *
            go_simp
            try go_bits
            first | exact rel_val (Chg.refl _) | (go_simp; exact rel_val (Chg.refl _))
          case ao14 =>
            rw [if_neg (by decide)]
            rintro a wx hE hin hsu (h10 : a.eval (.tmp 89) = _) (h13 : a.eval (.tmp 92) = _)
            clear hsu
            clear hin
            have hcst : ∀ v, a.eval (.const v) = v := fun _ => rfl
            have hfnc : ∀ f, a.eval (.func f) = .func (.func f) #[] #[] := fun _ => rfl
            refine want_none rfl ?_
            unfold Oper.wp
            generalize a.eval = ρ at *
            go_simp
            try go_bits
            first | exact rel_val (Chg.refl _) | (go_simp; exact rel_val (Chg.refl _))
        case afin =>
          intro wx hE
          rintro _ rfl _ rfl vsp _ _ rfl _ rfl _ rfl _ rfl _ rfl _ rfl _ rfl _ rfl _ rfl _ rfl _ rfl _ rfl hsp
          simp only [FinOk, List.take_succ_cons, List.take_zero, List.take_nil, List.drop_succ_cons, List.drop_zero, List.drop_nil, Act.put, List.setIfInBounds_toArray, List.set_cons_succ, List.set_cons_zero]
          simp only [Act.put, List.setIfInBounds_toArray, List.set_cons_succ, List.set_cons_zero] at hsp
          have hsp' : NodeF w gd gsd hn lv w12.heap.size 0 (S.set 0 (labEnc x)) x wx vsp := hsp
          clear hsp
          obtain ⟨rfl, lv3, hd3, hk3, hf3⟩ := hsp'
          have KX3 : Hid (Bk wx gx (labC x)) := Kxw12.out.drew.chg hE NFX
          have KL3 : Hid (Bk wx gla (labC L)) := Klaw12.out.drew.chg hE NFL
          have D3 := Lib.hid hd3
          have K3 := Lib.hid hk3
          have F3 : Hid (¬ footD gd gsd lv3 hn) := fun hj => (hf3 _ hj).elim FNN.out (fun h => by have := Knw12.out.lt; omega)
          have G3 : Hid (¬ footD gd gsd lv3 gla) := fun hj => (hf3 _ hj).elim FLN.out (fun h => by have := Klaw12.out.lt; omega)
          clear hE hd3 hk3 hf3 NFX NFL
          go_wp2_with (first
            | (refine wpList_ld rfl 40 (.tmp 12) rfl gx 0 5 (labC x) (labC x) rfl KX3.out (by kernel_rfl) (by kernel_rfl) (Nat.le_refl 5) rfl ?_)
            | (refine wpList_st rfl 40 (.tmp 10) (.tmp 94) rfl gla 0 5 (labC L) (labC x) rfl rfl KL3.out (by kernel_rfl) rfl (by exact Nat.le_refl 5) (one_lab _) ?_))
          intro w4 hbk hc
          rw [splice_whole (labC L) (labC x) rfl] at hbk
          have K4 := Lib.hid hbk
          have D4 : Hid (DSes 92 w w4 gd gsd lv3 (UpD (S.set 0 (labEnc x)))) := ⟨DiskAt.chg D3.out.at_ hc (fun j hj hk => G3.out (by rw [← (show j = gla from hk)]; exact hj)), D3.out.fr, D3.out.bel.trans (hc.below D3.out.bel.size (fun q hq he => by have := GLW.out; omega))⟩
          have N4 : Hid (Bk w4 hn (NdC gd x)) := K3.out.chg hc (fun h => ANL.out h)
          clear hbk hc
          go_wp2_with fail
          go_roundw
          case rel => exact ⟨k + 1, lv3, (S.set 0 (labEnc x)), x, by omega, by go_num, D4.out, N4.out, K4.out, F3.out, G3.out, by rw [set_len]; exact HSL.out, set_lab HSL.out, fun j h1 h2 => by rw [set_other (by omega)]; exact HSO.out j h1 h2, HNL.out⟩
          case measure => simp [intOf]; omega
      case neg =>
        rw [Bool.eq_false_iff.2 hlat]
        clear hlat
        have GXW : Hid (w.heap.size ≤ gx) := by show _ ≤ _; have h1 := Anx.out; have h2 := NHW.out; omega
        go_wp2_with (refine wpList_st rfl 22 (.tmp 77) (.const (.int .u32 1)) rfl gx 0 1 (labC x) [vu32 1] rfl rfl Kxw12.out (by kernel_rfl) rfl (by exact (by decide : 0 + 1 ≤ 5)) (fun u hu => by obtain rfl := List.mem_singleton.1 hu; rfl) ?_)
        intro w13 hbk hc
        have hbk2 : Bk w13 gx (labC ⟨1, x.s, x.n, x.d, x.la⟩) := hbk
        have Dw13z : Hid (DSes 92 w w13 gd gsd lv (UpD S)) := ⟨DiskAt.chg Ddw12.out.at_ hc (fun j hj hk => Fdx.out (by rw [← (show j = gx from hk)]; exact hj)), Ddw12.out.fr, Ddw12.out.bel.trans (hc.below Ddw12.out.bel.size (fun q hq he => by have := GXW.out; omega))⟩
        have Kxw13z := Lib.hid hbk2
        have Knw13z : Hid (Bk w13 hn (NdC gd L)) := Knw12.out.chg hc (fun h => by have := Anx.out; omega)
        have Klw13z : Hid (Bk w13 gla (labC L)) := Klaw12.out.chg hc (fun h => by have := Alax.out; omega)
        clear hbk hbk2 hc
        go_wp2_with (refine wpList_st rfl 22 (.tmp 78) (.const (.int .u32 1)) rfl gx 1 1 (labC ⟨1, x.s, x.n, x.d, x.la⟩) [vu32 1] rfl rfl Kxw13z.out (by kernel_rfl) rfl (by exact (by decide : 1 + 1 ≤ 5)) (fun u hu => by obtain rfl := List.mem_singleton.1 hu; rfl) ?_)
        intro w14 hbk hc
        have hbk2 : Bk w14 gx (labC ⟨1, 1, x.n, x.d, x.la⟩) := hbk
        have Dw14z : Hid (DSes 92 w w14 gd gsd lv (UpD S)) := ⟨DiskAt.chg Dw13z.out.at_ hc (fun j hj hk => Fdx.out (by rw [← (show j = gx from hk)]; exact hj)), Dw13z.out.fr, Dw13z.out.bel.trans (hc.below Dw13z.out.bel.size (fun q hq he => by have := GXW.out; omega))⟩
        have Kxw14z := Lib.hid hbk2
        have Knw14z : Hid (Bk w14 hn (NdC gd L)) := Knw13z.out.chg hc (fun h => by have := Anx.out; omega)
        have Klw14z : Hid (Bk w14 gla (labC L)) := Klw13z.out.chg hc (fun h => by have := Alax.out; omega)
        clear hbk hbk2 hc
        obtain ⟨x1, hx1⟩ : ∃ x1 : Lab, (⟨1, 1, x.n, x.d, x.la⟩ : Lab) = x1 := ⟨_, rfl⟩
        have HNL : Hid (¬ laterB 1 1 x1.e x1.s = true) := by show ¬ _; rw [← hx1]; exact (by decide : ¬ laterB 1 1 1 1 = true)
        have KX1 : Hid (Bk w14 gx (labC x1)) := by rw [← hx1]; exact Kxw14z.out
        clear hx1
        have NFX : ¬ (footD gd gsd lv gx ∨ gx = hn) := fun h => h.elim Fdx.out (fun h => by have := Anx.out; omega)
        have NFL : ¬ (footD gd gsd lv gla ∨ gla = hn) := fun h => h.elim FLN.out (fun h => ANL.out h.symm)
        go_wp2_with fail
        apply wp_region_relu 15 2 81 (NodeF w gd gsd hn lv w14.heap.size 0 (S.set 0 (labEnc x1)) x1) (Chg (fun j => footD gd gsd lv j ∨ j = hn)) (Chg NoS) (Chg (fun j => footD gd gsd lv j ∨ j = hn)) [(Veq _), (Veq _), (fun _ _ => True), (Veq _), (Veq _), (Veq _), (Veq _), (Veq _), (Veq (.bool false)), (Veq _), (Veq _), (Veq _), (Veq (.int .i64 0)), (Veq _), (Veq _)] [[], [], [0, 1], [2], [3], [4], [2, 4, 5], [4], [4, 6, 7], [4, 8], [9], [10], [2, 10, 11], [10, 12], [10, 13]] [79, 80, 81, 82, 83, 84, 85, 86, 87, 88, 89, 90, 91, 92, 93] (by kernel_rfl) (by kernel_rfl) rfl rfl rfl (by kernel_rfl) Chg.refl (fun _ _ _ => Chg.trans) (fun _ _ _ => Chg.trans) (fun _ _ h => h.mono (fun _ hk => hk.elim)) (fun _ _ h => h) ⟨Veq.lasts, Veq.lasts, (fun _ _ _ _ _ => trivial), Veq.lasts, Veq.lasts, Veq.lasts, Veq.lasts, Veq.lasts, Veq.lasts, Veq.lasts, Veq.lasts, Veq.lasts, Veq.lasts, Veq.lasts, Veq.lasts, trivial⟩ ⟨Veq.lasts, Veq.lasts, (fun _ _ _ _ _ => trivial), Veq.lasts, Veq.lasts, Veq.lasts, Veq.lasts, Veq.lasts, Veq.lasts, Veq.lasts, Veq.lasts, Veq.lasts, Veq.lasts, Veq.lasts, Veq.lasts, trivial⟩ NodeF.lasts (fun F h w v => by cases h; trivial) ?aops ?afin
        case aops =>
          refine ⟨?ao0, ?ao1, ?ao2, ?ao3, ?ao4, ?ao5, ?ao6, ?ao7, ?ao8, ?ao9, ?ao10, ?ao11, ?ao12, ?ao13, ?ao14, trivial⟩
          case ao0 =>
            rw [if_neg (by decide)]
            intro a wx hE hin hsu
            clear hsu
            have i8 : a.eval (.tmp 8) = .pointer (some ⟨hn, 0, none⟩) := hin 8 rfl
            clear hin
            have hcst : ∀ v, a.eval (.const v) = v := fun _ => rfl
            have hfnc : ∀ f, a.eval (.func f) = .func (.func f) #[] #[] := fun _ => rfl
            refine want_none rfl ?_
            unfold Oper.wp
            generalize a.eval = ρ at *
            go_simp
            try go_bits
            first | exact rel_val (Chg.refl _) | (go_simp; exact rel_val (Chg.refl _))
          case ao1 =>
            rw [if_neg (by decide)]
            intro a wx hE hin hsu
            clear hsu
            have i12 : a.eval (.tmp 12) = .pointer (some ⟨gx, 0, none⟩) := hin 12 rfl
            clear hin
            have hcst : ∀ v, a.eval (.const v) = v := fun _ => rfl
            have hfnc : ∀ f, a.eval (.func f) = .func (.func f) #[] #[] := fun _ => rfl
            refine want_none rfl ?_
            exact wp_ld 40 _ rfl gx 0 5 (labC x1) (labC x1) i12 (KX1.out.drew.chg hE NFX) (by kernel_rfl) (by kernel_rfl) (Nat.le_refl 5) rfl (rel_val (Chg.refl _))
          case ao2 =>
            rw [if_pos (by decide)]
            rintro a wx hE hin (h0 : a.eval (.tmp 79) = _) (h1 : a.eval (.tmp 80) = _)
            clear hin
            have hcst : ∀ v, a.eval (.const v) = v := fun _ => rfl
            have hfnc : ∀ f, a.eval (.func f) = .func (.func f) #[] #[] := fun _ => rfl
            unfold Oper.wp
            generalize a.eval = ρ at *
            go_simp
            go_simp
            refine (ndSetLabel_calls wx gd gsd lv hn (UpD S) L x1 0 (Dw14z.out.drew.chgN hE).at_ (Knw14z.out.drew.chg hE id) FNN.out (ok_up _) (by decide)).mono ?_
            intro e w' hp
            rw [up_setLab HSL.out, labAfter_pair] at hp
            have hch := NPost.chg hp
            obtain ⟨rfl, lv3, hd3, hk3, hf3⟩ := DSes.npost (Dw14z.out.drew.chgN hE) hp NHW.out
            refine ⟨_, rfl, ?_, hch⟩
            (try rw [if_pos rfl])
            exact ⟨rfl, lv3, hd3, hk3, fun j hj => (hf3 j hj).elim .inl (fun h => .inr (Nat.le_trans hE.size h))⟩
          case ao3 =>
            rw [if_neg (by decide)]
            rintro a wx hE hin hsu _
            have hfp := hsu (by decide)
            clear hin
            have hcst : ∀ v, a.eval (.const v) = v := fun _ => rfl
            have hfnc : ∀ f, a.eval (.func f) = .func (.func f) #[] #[] := fun _ => rfl
            refine want_none rfl ?_
            unfold Oper.wp
            generalize a.eval = ρ at *
            have h2 := hfp.1
            go_simp
            try go_bits
            first | exact rel_val (Chg.refl _) | (go_simp; exact rel_val (Chg.refl _))
          case ao4 =>
            rw [if_neg (by decide)]
            rintro a wx hE hin hsu (h3 : a.eval (.tmp 82) = _)
            clear hsu
            clear hin
            have hcst : ∀ v, a.eval (.const v) = v := fun _ => rfl
            have hfnc : ∀ f, a.eval (.func f) = .func (.func f) #[] #[] := fun _ => rfl
            refine want_none rfl ?_
            unfold Oper.wp
            generalize a.eval = ρ at *
            go_simp
            try go_bits
            first | exact rel_val (Chg.refl _) | (go_simp; exact rel_val (Chg.refl _))
          case ao5 =>
            rw [if_neg (by decide)]
            rintro a wx hE hin hsu (h4 : a.eval (.tmp 83) = _)
            clear hsu
            have i8 : a.eval (.tmp 8) = .pointer (some ⟨hn, 0, none⟩) := hin 8 rfl
            clear hin
            have hcst : ∀ v, a.eval (.const v) = v := fun _ => rfl
            have hfnc : ∀ f, a.eval (.func f) = .func (.func f) #[] #[] := fun _ => rfl
            refine want_yes rfl rfl h4 ?_
            unfold Oper.wp
            generalize a.eval = ρ at *
            go_simp
            try go_bits
            first | exact rel_val (Chg.refl _) | (go_simp; exact rel_val (Chg.refl _))
          case ao6 =>
            rw [if_neg (by decide)]
            rintro a wx hE hin hsu _ (h4 : a.eval (.tmp 83) = _) (h5 : a.eval (.tmp 84) = _)
            have hfp := hsu (by decide)
            clear hin
            have hcst : ∀ v, a.eval (.const v) = v := fun _ => rfl
            have hfnc : ∀ f, a.eval (.func f) = .func (.func f) #[] #[] := fun _ => rfl
            refine want_yes rfl rfl h4 ?_
            unfold Oper.wp
            generalize a.eval = ρ at *
            go_simp
            obtain ⟨_, lv3, hd3, hk3, _⟩ := hfp
            refine (ndLabel_calls wx gd hn x1 hk3).mono ?_
            rintro e w' ⟨rfl, hb⟩
            exact rel_val (.of_below hb)
          case ao7 =>
            rw [if_neg (by decide)]
            rintro a wx hE hin hsu (h4 : a.eval (.tmp 83) = _)
            clear hsu
            have i12 : a.eval (.tmp 12) = .pointer (some ⟨gx, 0, none⟩) := hin 12 rfl
            clear hin
            have hcst : ∀ v, a.eval (.const v) = v := fun _ => rfl
            have hfnc : ∀ f, a.eval (.func f) = .func (.func f) #[] #[] := fun _ => rfl
            refine want_yes rfl rfl h4 ?_
            exact wp_ld 40 _ rfl gx 0 5 (labC x1) (labC x1) i12 (KX1.out.drew.chg hE NFX) (by kernel_rfl) (by kernel_rfl) (Nat.le_refl 5) rfl (rel_val (Chg.refl _))
          case ao8 =>
            rw [if_neg (by decide)]
            rintro a wx hE hin hsu (h4 : a.eval (.tmp 83) = _) (h6 : a.eval (.tmp 85) = _) (h7 : a.eval (.tmp 86) = _)
            clear hsu
            clear hin
            have hcst : ∀ v, a.eval (.const v) = v := fun _ => rfl
            have hfnc : ∀ f, a.eval (.func f) = .func (.func f) #[] #[] := fun _ => rfl
            refine want_yes rfl rfl h4 ?_
            exact wp_eq_lab true 40 _ _ rfl x1 x1 h6 h7 (by rw [show (true ^^ decide (x1 = x1)) = false by simp]; exact rel_val (Chg.refl _))
          case ao9 =>
            rw [if_neg (by decide)]
            rintro a wx hE hin hsu (h4 : a.eval (.tmp 83) = _) (h8 : a.eval (.tmp 87) = _)
            clear hsu
            clear hin
            have hcst : ∀ v, a.eval (.const v) = v := fun _ => rfl
            have hfnc : ∀ f, a.eval (.func f) = .func (.func f) #[] #[] := fun _ => rfl
            refine want_none rfl ?_
            unfold Oper.wp
            generalize a.eval = ρ at *
            go_simp
            try go_bits
            first | exact rel_val (Chg.refl _) | (go_simp; exact rel_val (Chg.refl _))
          case ao10 =>
            rw [if_neg (by decide)]
            rintro a wx hE hin hsu (h9 : a.eval (.tmp 88) = _)
            clear hsu
            clear hin
            have hcst : ∀ v, a.eval (.const v) = v := fun _ => rfl
            have hfnc : ∀ f, a.eval (.func f) = .func (.func f) #[] #[] := fun _ => rfl
            refine want_none rfl ?_
            unfold Oper.wp
            generalize a.eval = ρ at *
            go_simp
            try go_bits
            first | exact rel_val (Chg.refl _) | (go_simp; exact rel_val (Chg.refl _))
          case ao11 =>
            rw [if_neg (by decide)]
            rintro a wx hE hin hsu (h10 : a.eval (.tmp 89) = _)
            clear hsu
            have i7 : a.eval (.tmp 7) = .pointer (some ⟨gd, 0, none⟩) := hin 7 rfl
            clear hin
            have hcst : ∀ v, a.eval (.const v) = v := fun _ => rfl
            have hfnc : ∀ f, a.eval (.func f) = .func (.func f) #[] #[] := fun _ => rfl
            refine want_yes rfl rfl h10 ?_
            unfold Oper.wp
            generalize a.eval = ρ at *
            go_simp
            try go_bits
            first | exact rel_val (Chg.refl _) | (go_simp; exact rel_val (Chg.refl _))
          case ao12 =>
            rw [if_neg (by decide)]
            rintro a wx hE hin hsu _ (h10 : a.eval (.tmp 89) = _) (h11 : a.eval (.tmp 90) = _)
            have hfp := hsu (by decide)
            clear hin
            have hcst : ∀ v, a.eval (.const v) = v := fun _ => rfl
            have hfnc : ∀ f, a.eval (.func f) = .func (.func f) #[] #[] := fun _ => rfl
            refine want_yes rfl rfl h10 ?_
            unfold Oper.wp
            generalize a.eval = ρ at *
            go_simp
            obtain ⟨_, lv3, hd3, hk3, _⟩ := hfp
            refine (upLoose_at wx gd gsd lv3 _ hd3.at_).mono ?_
            rintro e w' ⟨rfl, rfl⟩
            exact rel_val (Chg.refl _)
          case ao13 =>
            rw [if_neg (by decide)]
            rintro a wx hE hin hsu (h10 : a.eval (.tmp 89) = _) (h12 : a.eval (.tmp 91) = _)
            clear hsu
            clear hin
            have hcst : ∀ v, a.eval (.const v) = v := fun _ => rfl
            have hfnc : ∀ f, a.eval (.func f) = .func (.func f) #[] #[] := fun _ => rfl
            refine want_yes rfl rfl h10 ?_
            unfold Oper.wp
            generalize a.eval = ρ at *
            go_simp
            try go_bits
            first | exact rel_val (Chg.refl _) | (go_simp; exact rel_val (Chg.refl _))
          case ao14 =>
            rw [if_neg (by decide)]
            rintro a wx hE hin hsu (h10 : a.eval (.tmp 89) = _) (h13 : a.eval (.tmp 92) = _)
            clear hsu
            clear hin
            have hcst : ∀ v, a.eval (.const v) = v := fun _ => rfl
            have hfnc : ∀ f, a.eval (.func f) = .func (.func f) #[] #[] := fun _ => rfl
            refine want_none rfl ?_
            unfold Oper.wp
            generalize a.eval = ρ at *
            go_simp
            try go_bits
            first | exact rel_val (Chg.refl _) | (go_simp; exact rel_val (Chg.refl _))
        case afin =>
          intro wx hE
          rintro _ rfl _ rfl vsp _ _ rfl _ rfl _ rfl _ rfl _ rfl _ rfl _ rfl _ rfl _ rfl _ rfl _ rfl _ rfl hsp
          simp only [FinOk, List.take_succ_cons, List.take_zero, List.take_nil, List.drop_succ_cons, List.drop_zero, List.drop_nil, Act.put, List.setIfInBounds_toArray, List.set_cons_succ, List.set_cons_zero]
          simp only [Act.put, List.setIfInBounds_toArray, List.set_cons_succ, List.set_cons_zero] at hsp
          have hsp' : NodeF w gd gsd hn lv w14.heap.size 0 (S.set 0 (labEnc x1)) x1 wx vsp := hsp
          clear hsp
          obtain ⟨rfl, lv3, hd3, hk3, hf3⟩ := hsp'
          have KX3 : Hid (Bk wx gx (labC x1)) := KX1.out.drew.chg hE NFX
          have KL3 : Hid (Bk wx gla (labC L)) := Klw14z.out.drew.chg hE NFL
          have D3 := Lib.hid hd3
          have K3 := Lib.hid hk3
          have F3 : Hid (¬ footD gd gsd lv3 hn) := fun hj => (hf3 _ hj).elim FNN.out (fun h => by have := Knw14z.out.lt; omega)
          have G3 : Hid (¬ footD gd gsd lv3 gla) := fun hj => (hf3 _ hj).elim FLN.out (fun h => by have := Klw14z.out.lt; omega)
          clear hE hd3 hk3 hf3 NFX NFL
          go_wp2_with (first
            | (refine wpList_ld rfl 40 (.tmp 12) rfl gx 0 5 (labC x1) (labC x1) rfl KX3.out (by kernel_rfl) (by kernel_rfl) (Nat.le_refl 5) rfl ?_)
            | (refine wpList_st rfl 40 (.tmp 10) (.tmp 94) rfl gla 0 5 (labC L) (labC x1) rfl rfl KL3.out (by kernel_rfl) rfl (by exact Nat.le_refl 5) (one_lab _) ?_))
          intro w4 hbk hc
          rw [splice_whole (labC L) (labC x1) rfl] at hbk
          have K4 := Lib.hid hbk
          have D4 : Hid (DSes 92 w w4 gd gsd lv3 (UpD (S.set 0 (labEnc x1)))) := ⟨DiskAt.chg D3.out.at_ hc (fun j hj hk => G3.out (by rw [← (show j = gla from hk)]; exact hj)), D3.out.fr, D3.out.bel.trans (hc.below D3.out.bel.size (fun q hq he => by have := GLW.out; omega))⟩
          have N4 : Hid (Bk w4 hn (NdC gd x1)) := K3.out.chg hc (fun h => ANL.out h)
          clear hbk hc
          go_wp2_with fail
          go_roundw
          case rel => exact ⟨k + 1, lv3, (S.set 0 (labEnc x1)), x1, by omega, by go_num, D4.out, N4.out, K4.out, F3.out, G3.out, by rw [set_len]; exact HSL.out, set_lab HSL.out, fun j h1 h2 => by rw [set_other (by omega)]; exact HSO.out j h1 h2, HNL.out⟩
          case measure => simp [intOf]; omega
    · have hke : k = ls.length := by omega
      subst hke
      have hki : ¬ (((ls.length : Nat) : Int) < (ls.length : Int)) := by omega
      have HGET : Hid ((UpD S).walGet 1 = (⟨1, 1, ps⟩, 0)) := by
        show _ = _
        rw [app_same (S := (appS S0 1 1 ps (carryL zLab 1 1 ps 0))) (by rw [appS_length]; exact S0_len) HSL.out HSO.out]
        exact appS_get S0_len HGD.out
      go_wp2_with (at_builtin; refine wpList_append_rd rfl _ _ 56 rfl wr.heap.size 5 (.int .u8 0) 1 1 Try.underlying56 info_u8n rfl (by decide) (by decide) (.slice (some ⟨wr.heap.size, 0, none⟩) 0 0) 0 [] rfl ?own A2 ks.length c2 (bts ks) rfl ?len ?rd (one_bts _) ?bytes ?base ?_)
      case own => exact empty_own' _ _ rfl
      case rd => exact (HRK.out.below Er.out).alloc _
      case bytes => omega
      intro v1 w4 hown1 hg1 hat1
      obtain ⟨A4, c4, rfl, hb4, hr4⟩ := copied hown1 hg1
      have HR4 := Lib.hid (hr4 gd gsd (DiskAt.lt DBr.out.at_ _ (.inl rfl)) (DiskAt.lt DBr.out.at_ _ (.inr (.inl rfl))))
      have hb := hb4
      clear hown1 hg1 hat1 hb4 hr4
      have Ew4 : Hid (Below w.heap.size w w4) := Er.out.trans (hb.mono Er.out.size)
      have Knw4 : Hid (Bk w4 hn (NdC gd L)) := KBr.out.below hb
      have Klaw4 : Hid (Bk w4 gla (labC L)) := KLr.out.below hb
      have Ddw4 : Hid (DSes 92 w w4 gd gsd lv (UpD S)) := DBr.out.below hb
      clear Er KBr KLr DBr
      clear hb
      have Fdla := FLN
      go_wp2_with fail
      refine (diskUp_at w4 gd gsd lv (UpD S) A4 ks.length c4 ks Ddw4.out.at_ rfl HR4.out).mono ?_
      intro en w15 hp
      have hch := DPost.chgF hp
      obtain ⟨rfl, lvdw15, hd, hft⟩ := DSes.post2 Ddw4.out hp
      have Ddw15 : Hid (DSes 92 w w15 gd gsd lvdw15 (UpD S)) := hd
      have Ew15 : Hid (Below w.heap.size w w15) := hd.bel
      have Knw15 : Hid (Bk w15 hn (NdC gd L)) := Knw4.out.chg hch Fdn.out
      have Fdn : Hid (¬ footD gd gsd lvdw15 hn) := fun hj => (hft _ hj).elim Fdn.out (fun h => by have := Knw4.out.lt; omega)
      have Klaw15 : Hid (Bk w15 gla (labC L)) := Klaw4.out.chg hch Fdla.out
      have Fdla : Hid (¬ footD gd gsd lvdw15 gla) := fun hj => (hft _ hj).elim Fdla.out (fun h => by have := Klaw4.out.lt; omega)
      clear hp hd hft hch Knw4 Klaw4 Ddw4 Ew4
      go_wp2_with fail
      clear HR4
      have HSZm : Hid (w.heap.size ≤ w15.heap.size) := Ew15.out.size
      refine (ndOpen_calls w15 gd gsd lvdw15 (UpD S) 0 Ddw15.out.at_ (ok_up _) (by decide)).mono ?_
      intro en w16 hp
      rw [up_open HSL.out HS0.out HGET.out HNL.out] at hp
      obtain ⟨hm, lvdw16, rfl, hd, hk, hge, hnf, hft, hch⟩ := DSes.opost Ddw15.out hp
      have Anm : Hid (hn < hm) := by show _ < _; have := Knw15.out.lt; omega
      have Alam : Hid (gla < hm) := by show _ < _; have := Klaw15.out.lt; omega
      have Ddw16 : Hid (DSes 92 w w16 gd gsd lvdw16 (UpD S)) := hd
      have Ew16 : Hid (Below w.heap.size w w16) := hd.bel
      have Knw16 : Hid (Bk w16 hn (NdC gd L)) := Knw15.out.chg hch Fdn.out
      have Fdn : Hid (¬ footD gd gsd lvdw16 hn) := fun hj => (hft _ hj).elim Fdn.out (fun h => by have := Knw15.out.lt; omega)
      have Klaw16 : Hid (Bk w16 gla (labC L)) := Klaw15.out.chg hch Fdla.out
      have Fdla : Hid (¬ footD gd gsd lvdw16 gla) := fun hj => (hft _ hj).elim Fdla.out (fun h => by have := Klaw15.out.lt; omega)
      have Kmw16 : Hid (Bk w16 hm (NdC gd L)) := hk
      have Fdm : Hid (¬ footD gd gsd lvdw16 hm) := hnf
      have NHm : Hid (w.heap.size ≤ hm) := by show _ ≤ _; have := HSZm.out; omega
      clear hp hd hk hge hnf hft hch Knw15 Klaw15 Ddw15 Ew15
      go_wp2_with fail
      clear Knw16
      apply wp_region_rel 12 (Chg NoS) [(Veq _), (Veq _), (Veq _), (Veq _), (Veq _), (Veq _), (Veq _), (Veq _), (Veq _), (Veq _), (Veq (.bool false)), (Veq _)] [[], [0], [1], [2], [2, 3], [2, 4], [5], [6], [6, 7], [6], [6, 8, 9], [6, 10]] [105, 106, 107, 108, 109, 110, 111, 112, 113, 114, 115, 116] (by kernel_rfl) (by kernel_rfl) rfl rfl rfl Chg.refl (fun _ _ _ => Chg.trans) ⟨Veq.lasts, Veq.lasts, Veq.lasts, Veq.lasts, Veq.lasts, Veq.lasts, Veq.lasts, Veq.lasts, Veq.lasts, Veq.lasts, Veq.lasts, Veq.lasts, trivial⟩ ?cops ?cfin
      case cops =>
        refine ⟨?co0, ?co1, ?co2, ?co3, ?co4, ?co5, ?co6, ?co7, ?co8, ?co9, ?co10, ?co11, trivial⟩
        case co0 =>
          intro a wx hE hin
          have i14 : a.eval (.tmp 14) = .int .i64 0 := hin 14 rfl
          clear hin
          have hcst : ∀ v, a.eval (.const v) = v := fun _ => rfl
          have hfnc : ∀ f, a.eval (.func f) = .func (.func f) #[] #[] := fun _ => rfl
          refine want_none rfl ?_
          unfold Oper.wp
          generalize a.eval = ρ at *
          go_simp
          try go_bits
          first | exact rel_val (Chg.refl _) | (go_simp; exact rel_val (Chg.refl _))
        case co1 =>
          rintro a wx hE hin (h0 : a.eval (.tmp 105) = _)
          clear hin
          have hcst : ∀ v, a.eval (.const v) = v := fun _ => rfl
          have hfnc : ∀ f, a.eval (.func f) = .func (.func f) #[] #[] := fun _ => rfl
          refine want_none rfl ?_
          unfold Oper.wp
          generalize a.eval = ρ at *
          go_simp
          try go_bits
          first | exact rel_val (Chg.refl _) | (go_simp; exact rel_val (Chg.refl _))
        case co2 =>
          rintro a wx hE hin (h1 : a.eval (.tmp 106) = _)
          clear hin
          have hcst : ∀ v, a.eval (.const v) = v := fun _ => rfl
          have hfnc : ∀ f, a.eval (.func f) = .func (.func f) #[] #[] := fun _ => rfl
          refine want_none rfl ?_
          unfold Oper.wp
          generalize a.eval = ρ at *
          go_simp
          try go_bits
          first | exact rel_val (Chg.refl _) | (go_simp; exact rel_val (Chg.refl _))
        case co3 =>
          rintro a wx hE hin (h2 : a.eval (.tmp 107) = _)
          have i13 : a.eval (.tmp 13) = .pointer (some ⟨hm, 0, none⟩) := hin 13 rfl
          clear hin
          have hcst : ∀ v, a.eval (.const v) = v := fun _ => rfl
          have hfnc : ∀ f, a.eval (.func f) = .func (.func f) #[] #[] := fun _ => rfl
          refine want_yes rfl rfl h2 ?_
          unfold Oper.wp
          generalize a.eval = ρ at *
          go_simp
          try go_bits
          first | exact rel_val (Chg.refl _) | (go_simp; exact rel_val (Chg.refl _))
        case co4 =>
          rintro a wx hE hin (h2 : a.eval (.tmp 107) = _) (h3 : a.eval (.tmp 108) = _)
          clear hin
          have hcst : ∀ v, a.eval (.const v) = v := fun _ => rfl
          have hfnc : ∀ f, a.eval (.func f) = .func (.func f) #[] #[] := fun _ => rfl
          refine want_yes rfl rfl h2 ?_
          unfold Oper.wp
          generalize a.eval = ρ at *
          go_simp
          try go_bits
          first | exact rel_val (Chg.refl _) | (go_simp; exact rel_val (Chg.refl _))
        case co5 =>
          rintro a wx hE hin (h2 : a.eval (.tmp 107) = _) (h4 : a.eval (.tmp 109) = _)
          clear hin
          have hcst : ∀ v, a.eval (.const v) = v := fun _ => rfl
          have hfnc : ∀ f, a.eval (.func f) = .func (.func f) #[] #[] := fun _ => rfl
          refine want_none rfl ?_
          unfold Oper.wp
          generalize a.eval = ρ at *
          go_simp
          try go_bits
          first | exact rel_val (Chg.refl _) | (go_simp; exact rel_val (Chg.refl _))
        case co6 =>
          rintro a wx hE hin (h5 : a.eval (.tmp 110) = _)
          clear hin
          have hcst : ∀ v, a.eval (.const v) = v := fun _ => rfl
          have hfnc : ∀ f, a.eval (.func f) = .func (.func f) #[] #[] := fun _ => rfl
          refine want_none rfl ?_
          unfold Oper.wp
          generalize a.eval = ρ at *
          go_simp
          try go_bits
          first | exact rel_val (Chg.refl _) | (go_simp; exact rel_val (Chg.refl _))
        case co7 =>
          rintro a wx hE hin (h6 : a.eval (.tmp 111) = _)
          have i13 : a.eval (.tmp 13) = .pointer (some ⟨hm, 0, none⟩) := hin 13 rfl
          clear hin
          have hcst : ∀ v, a.eval (.const v) = v := fun _ => rfl
          have hfnc : ∀ f, a.eval (.func f) = .func (.func f) #[] #[] := fun _ => rfl
          refine want_yes rfl rfl h6 ?_
          unfold Oper.wp
          generalize a.eval = ρ at *
          go_simp
          try go_bits
          first | exact rel_val (Chg.refl _) | (go_simp; exact rel_val (Chg.refl _))
        case co8 =>
          rintro a wx hE hin (h6 : a.eval (.tmp 111) = _) (h7 : a.eval (.tmp 112) = _)
          clear hin
          have hcst : ∀ v, a.eval (.const v) = v := fun _ => rfl
          have hfnc : ∀ f, a.eval (.func f) = .func (.func f) #[] #[] := fun _ => rfl
          refine want_yes rfl rfl h6 ?_
          unfold Oper.wp
          generalize a.eval = ρ at *
          go_simp
          go_simp
          refine (ndLabel_calls wx gd hm L (Kmw16.out.drew.chg hE id)).mono ?_
          rintro e w' ⟨rfl, hb⟩
          exact rel_val (.of_below hb)
        case co9 =>
          rintro a wx hE hin (h6 : a.eval (.tmp 111) = _)
          have i10 : a.eval (.tmp 10) = .pointer (some ⟨gla, 0, none⟩) := hin 10 rfl
          clear hin
          have hcst : ∀ v, a.eval (.const v) = v := fun _ => rfl
          have hfnc : ∀ f, a.eval (.func f) = .func (.func f) #[] #[] := fun _ => rfl
          refine want_yes rfl rfl h6 ?_
          exact wp_ld 40 _ rfl gla 0 5 (labC L) (labC L) i10 (Klaw16.out.drew.chg hE id) (by kernel_rfl) (by kernel_rfl) (Nat.le_refl 5) rfl (rel_val (Chg.refl _))
        case co10 =>
          rintro a wx hE hin (h6 : a.eval (.tmp 111) = _) (h8 : a.eval (.tmp 113) = _) (h9 : a.eval (.tmp 114) = _)
          clear hin
          have hcst : ∀ v, a.eval (.const v) = v := fun _ => rfl
          have hfnc : ∀ f, a.eval (.func f) = .func (.func f) #[] #[] := fun _ => rfl
          refine want_yes rfl rfl h6 ?_
          exact wp_eq_lab true 40 _ _ rfl L L h8 h9 (by rw [show (true ^^ decide (L = L)) = false by simp]; exact rel_val (Chg.refl _))
        case co11 =>
          rintro a wx hE hin (h6 : a.eval (.tmp 111) = _) (h10 : a.eval (.tmp 115) = _)
          clear hin
          have hcst : ∀ v, a.eval (.const v) = v := fun _ => rfl
          have hfnc : ∀ f, a.eval (.func f) = .func (.func f) #[] #[] := fun _ => rfl
          refine want_none rfl ?_
          unfold Oper.wp
          generalize a.eval = ρ at *
          go_simp
          try go_bits
          first | exact rel_val (Chg.refl _) | (go_simp; exact rel_val (Chg.refl _))
      case cfin =>
        intro wx hE
        rintro _ rfl _ rfl _ rfl _ rfl _ rfl _ rfl _ rfl _ rfl _ rfl _ rfl _ rfl _ rfl
        simp only [FinOk, List.take_succ_cons, List.take_zero, List.take_nil, List.drop_succ_cons, List.drop_zero, List.drop_nil, Act.put, List.setIfInBounds_toArray, List.set_cons_succ, List.set_cons_zero]
        have HM2 : Hid (DSes 92 w wx gd gsd lvdw16 (UpD S)) := Ddw16.out.chgN hE.undrew
        have KM2 : Hid (Bk wx hm (NdC gd L)) := Kmw16.out.drew.chg hE id
        have H2 : Hid (KeepRel2 w gd gsd hm lvdw16 S L ps.length (.int .i64 0) wx) := ⟨0, Nat.zero_le _, rfl, HM2.out, KM2.out⟩
        clear hE HM2 KM2 Ddw16 Kmw16 Ew16 Klaw16
        go_wp2_with fail
        go_loopw [15] (fun v15 wr => KeepRel2 w gd gsd hm lvdw16 S L ps.length v15 wr) (fun v15 _ => ps.length - (intOf v15).toNat)
        case atStart => exact H2.out
        case round =>
          obtain ⟨k, hk, rfl, hd, hkm⟩ := hrel
          have DBs := Lib.hid hd
          have Es := Lib.hid hd.bel
          have KMs := Lib.hid hkm
          clear hd hkm H2
          by_cases hlt : k < ps.length
          case neg =>
            have hke : k = ps.length := by omega
            subst hke
            have hki : ¬ (((ps.length : Nat) : Int) < (ps.length : Int)) := by omega
            go_wp2_with fail
            refine (ndBlock_out wr (.pointer (some ⟨hm, 0, none⟩)) (-1) (.inr ⟨⟨hm, rfl⟩, .inl (by decide)⟩)).mono ?_
            rintro en w31 ⟨rfl, hb⟩
            have Ew31 : Hid (Below w.heap.size w w31) := Es.out.trans (hb.mono Es.out.size)
            have Kmw31 : Hid (Bk w31 hm (NdC gd L)) := KMs.out.below hb
            have Ddw31 : Hid (DSes 92 w w31 gd gsd lvdw16 (UpD S)) := DBs.out.below hb
            clear Es KMs DBs
            clear hb
            go_wp2_with (refine wpList_al rfl 35 rfl (bts (List.replicate 32 0)) (by kernel_rfl) ?_)
            intro gy w32 hg hb hc hs
            have HQy : Hid (Below w31.heap.size w31 w32) := hc.below (Nat.le_refl _) (fun _ _ => id)
            have HGy : Hid (gy = w31.heap.size) := hg
            have KZy := Lib.hid hb
            clear hg hb hc hs
            go_wp2_with (refine wpList_st rfl 35 (.tmp 18) (.tmp 147) rfl gy 0 32 (bts (List.replicate 32 0)) (bts (List.replicate 32 0)) rfl rfl KZy.out (by kernel_rfl) nw32z (by decide) (one_bts _) ?_)
            intro w33 hbk hc
            rw [splice_whole _ _ (by rfl)] at hbk
            have hb : Below w31.heap.size w31 w33 := HQy.out.trans (hc.below HQy.out.size (fun q hq he => by have := HGy.out; omega))
            have Amy : Hid (hm < gy) := by show _ < _; have := Kmw31.out.lt; have := HGy.out; omega
            have Ew33 : Hid (Below w.heap.size w w33) := Ew31.out.trans (hb.mono Ew31.out.size)
            have Kmw33 : Hid (Bk w33 hm (NdC gd L)) := Kmw31.out.below hb
            have Ddw33 : Hid (DSes 92 w w33 gd gsd lvdw16 (UpD S)) := Ddw31.out.below hb
            clear Ew31 Kmw31 Ddw31
            have Kyw33 : Hid (Bk w33 gy (bts (List.replicate 32 0))) := hbk
            have Kyw33 : Hid (Bk w33 gy (bts (List.replicate 32 0))) := hbk
            clear hbk hb hc KZy HQy HGy
            go_wp2_with fail
            refine (ndBlock_out w33 (.pointer (some ⟨hm, 0, none⟩)) 12 (.inr ⟨⟨hm, rfl⟩, .inr (by decide)⟩)).mono ?_
            rintro en w34 ⟨rfl, hb⟩
            have Ew34 : Hid (Below w.heap.size w w34) := Ew33.out.trans (hb.mono Ew33.out.size)
            have Kmw34 : Hid (Bk w34 hm (NdC gd L)) := Kmw33.out.below hb
            have Kyw34 : Hid (Bk w34 gy (bts (List.replicate 32 0))) := Kyw33.out.below hb
            have Ddw34 : Hid (DSes 92 w w34 gd gsd lvdw16 (UpD S)) := Ddw33.out.below hb
            clear Ew33 Kmw33 Kyw33 Ddw33
            clear hb
            go_wp2_with (refine wpList_al rfl 35 rfl (bts (List.replicate 32 0)) (by kernel_rfl) ?_)
            intro gz w35 hg hb hc hs
            have HQz : Hid (Below w34.heap.size w34 w35) := hc.below (Nat.le_refl _) (fun _ _ => id)
            have HGz : Hid (gz = w34.heap.size) := hg
            have KZz := Lib.hid hb
            clear hg hb hc hs
            go_wp2_with (refine wpList_st rfl 35 (.tmp 20) (.tmp 152) rfl gz 0 32 (bts (List.replicate 32 0)) (bts (List.replicate 32 0)) rfl rfl KZz.out (by kernel_rfl) nw32z (by decide) (one_bts _) ?_)
            intro w36 hbk hc
            rw [splice_whole _ _ (by rfl)] at hbk
            have hb : Below w34.heap.size w34 w36 := HQz.out.trans (hc.below HQz.out.size (fun q hq he => by have := HGz.out; omega))
            have Amz : Hid (hm < gz) := by show _ < _; have := Kmw34.out.lt; have := HGz.out; omega
            have Ayz : Hid (gy < gz) := by show _ < _; have := Kyw34.out.lt; have := HGz.out; omega
            have Ew36 : Hid (Below w.heap.size w w36) := Ew34.out.trans (hb.mono Ew34.out.size)
            have Kmw36 : Hid (Bk w36 hm (NdC gd L)) := Kmw34.out.below hb
            have Kyw36 : Hid (Bk w36 gy (bts (List.replicate 32 0))) := Kyw34.out.below hb
            have Ddw36 : Hid (DSes 92 w w36 gd gsd lvdw16 (UpD S)) := Ddw34.out.below hb
            clear Ew34 Kmw34 Kyw34 Ddw34
            have Kzw36 : Hid (Bk w36 gz (bts (List.replicate 32 0))) := hbk
            have Kzw36 : Hid (Bk w36 gz (bts (List.replicate 32 0))) := hbk
            clear hbk hb hc KZz HQz HGz
            go_wp2_with fail
            refine (wakes9_calls w36).mono ?_
            rintro en w37 ⟨rfl, hb⟩
            have Ew37 : Hid (Below w.heap.size w w37) := Ew36.out.trans (hb.mono Ew36.out.size)
            have Kmw37 : Hid (Bk w37 hm (NdC gd L)) := Kmw36.out.below hb
            have Kyw37 : Hid (Bk w37 gy (bts (List.replicate 32 0))) := Kyw36.out.below hb
            have Kzw37 : Hid (Bk w37 gz (bts (List.replicate 32 0))) := Kzw36.out.below hb
            have Ddw37 : Hid (DSes 92 w w37 gd gsd lvdw16 (UpD S)) := Ddw36.out.below hb
            clear Ew36 Kmw36 Kyw36 Kzw36 Ddw36
            clear hb
            go_wp2_with fail
            (try simp only [Exit.inBlock, Exit.then])
            go_ret
            exact ⟨rfl, Ew37.out⟩
          have hki : (k : Int) < (ps.length : Int) := by omega
          have hk0 : (0 : Int) ≤ (k : Int) := by omega
          obtain ⟨ad, hA⟩ := puts_some HR.out hlt
          subst hA
          have cp := put_at (HR.out.below Es.out) HO.out hlt
          obtain ⟨bz, hbz⟩ : ∃ bz, ps[k].at_ = bz := ⟨_, rfl⟩
          have hbz0 : 0 ≤ bz ∧ bz < 12 := by rw [← hbz]; exact goodB_ats' HGD.out _ (List.getElem_mem hlt)
          have HB0 : Hid (0 ≤ bz) := hbz0.1
          have HB12 : Hid (bz < 12) := hbz0.2
          have HRB : Hid ((UpD S).readB (7 + bz) = ps[k].data) := by
            have h := (up_block (S := S) HSL.out (b := bz.toNat) (by omega)).1
            rw [show (((bz.toNat : Nat)) : Int) = bz by omega, HSO.out _ (by omega) (by omega), appS_blk S0_len HGD.out (by omega), ← hbz, wupd_at ps _ (goodB_ats' HGD.out) (goodB_at HGD.out).2.2.2 k hlt] at h
            rw [← hbz]
            exact h
          have HRE : Hid ((UpD S).readE (7 + bz) = 0) := by
            have h := (up_block (S := S) HSL.out (b := bz.toNat) (by omega)).2
            rwa [show (((bz.toNat : Nat)) : Int) = bz by omega] at h
          have HDL := Lib.hid (HO.out _ (List.getElem_mem hlt)).1
          have HPD : Hid (∀ w', Below w.heap.size w w' → Rd w' (some (ad.add (k * 33))) (putC ps[k])) := fun w' hb => put_rd (HR.out.below hb) HO.out hlt
          obtain ⟨pd, hpd⟩ : ∃ pd, ps[k] = pd := ⟨_, rfl⟩
          rw [hpd] at HRB HDL HPD hbz
          rw [hpd] at cp
          rw [hbz] at cp
          clear hbz hbz0
          go_wp2_with fail
          clear cp
          refine (ndBlock_calls wr gd gsd lvdw16 hm (UpD S) L bz DBs.out.at_ KMs.out HB0.out HB12.out).mono ?_
          rintro en w31 ⟨rfl, hb⟩
          have Ew31 : Hid (Below w.heap.size w w31) := Es.out.trans (hb.mono Es.out.size)
          have Kmw31 : Hid (Bk w31 hm (NdC gd L)) := KMs.out.below hb
          have Ddw31 : Hid (DSes 92 w w31 gd gsd lvdw16 (UpD S)) := DBs.out.below hb
          clear Es KMs DBs
          clear hb
          rw [HRB.out, HRE.out]
          obtain ⟨vb, hvb⟩ : ∃ vb, bts pd.data = vb := ⟨_, rfl⟩
          have HVB := Lib.hid hvb
          have HVL : Hid (vb.length = 32) := by show _ = _; rw [← hvb, bts_length]; exact HDL.out
          have HVO : Hid (∀ u ∈ vb, u.oneCell' = true) := by rw [← hvb]; exact one_bts _
          rw [hvb]
          clear hvb
          go_wp2_with (refine wpList_al rfl 35 rfl (bts (List.replicate 32 0)) (by kernel_rfl) ?_)
          intro gb w32 hg hb hc hs
          have HQb : Hid (Below w31.heap.size w31 w32) := hc.below (Nat.le_refl _) (fun _ _ => id)
          have HGb : Hid (gb = w31.heap.size) := hg
          have KZb := Lib.hid hb
          clear hg hb hc hs
          go_wp2_with (refine wpList_st rfl 35 (.tmp 16) (.tmp 131) rfl gb 0 32 (bts (List.replicate 32 0)) vb rfl rfl KZb.out (by kernel_rfl) HVL.out (by decide) HVO.out ?_)
          intro w33 hbk hc
          rw [splice_whole _ _ (by rw [HVL.out]; rfl)] at hbk
          have hb : Below w31.heap.size w31 w33 := HQb.out.trans (hc.below HQb.out.size (fun q hq he => by have := HGb.out; omega))
          have Amb : Hid (hm < gb) := by show _ < _; have := Kmw31.out.lt; have := HGb.out; omega
          have Ew33 : Hid (Below w.heap.size w w33) := Ew31.out.trans (hb.mono Ew31.out.size)
          have Kmw33 : Hid (Bk w33 hm (NdC gd L)) := Kmw31.out.below hb
          have Ddw33 : Hid (DSes 92 w w33 gd gsd lvdw16 (UpD S)) := Ddw31.out.below hb
          clear Ew31 Kmw31 Ddw31
          have Kbw33 : Hid (Bk w33 gb vb) := hbk
          have Kbw33 : Hid (Bk w33 gb vb) := hbk
          clear hbk hb hc KZb HQb HGb
          go_wp2_with fail
          apply wp_region_rel 11 (Chg NoS) [(Veq _), (Veq _), (Veq _), (Veq _), (Veq _), (Veq _), (Veq _), (Veq _), (Veq _), (Veq (.bool false)), (Veq _)] [[], [0], [1], [2], [2], [2], [2, 4, 5], [2, 6], [2, 7], [2, 3, 8], [2, 9]] [133, 134, 135, 136, 137, 138, 139, 140, 141, 142, 143] (by kernel_rfl) (by kernel_rfl) rfl rfl rfl Chg.refl (fun _ _ _ => Chg.trans) ⟨Veq.lasts, Veq.lasts, Veq.lasts, Veq.lasts, Veq.lasts, Veq.lasts, Veq.lasts, Veq.lasts, Veq.lasts, Veq.lasts, Veq.lasts, trivial⟩ ?bops ?bfin
          case bops =>
            refine ⟨?bo0, ?bo1, ?bo2, ?bo3, ?bo4, ?bo5, ?bo6, ?bo7, ?bo8, ?bo9, ?bo10, trivial⟩
            case bo0 =>
              intro a wx hE hin
              have i17 : a.eval (.tmp 17) = .int .i64 0 := hin 17 rfl
              clear hin
              have hcst : ∀ v, a.eval (.const v) = v := fun _ => rfl
              have hfnc : ∀ f, a.eval (.func f) = .func (.func f) #[] #[] := fun _ => rfl
              refine want_none rfl ?_
              unfold Oper.wp
              generalize a.eval = ρ at *
              go_simp
              try go_bits
              first | exact rel_val (Chg.refl _) | (go_simp; exact rel_val (Chg.refl _))
            case bo1 =>
              rintro a wx hE hin (h0 : a.eval (.tmp 133) = _)
              clear hin
              have hcst : ∀ v, a.eval (.const v) = v := fun _ => rfl
              have hfnc : ∀ f, a.eval (.func f) = .func (.func f) #[] #[] := fun _ => rfl
              refine want_none rfl ?_
              unfold Oper.wp
              generalize a.eval = ρ at *
              go_simp
              try go_bits
              first | exact rel_val (Chg.refl _) | (go_simp; exact rel_val (Chg.refl _))
            case bo2 =>
              rintro a wx hE hin (h1 : a.eval (.tmp 134) = _)
              clear hin
              have hcst : ∀ v, a.eval (.const v) = v := fun _ => rfl
              have hfnc : ∀ f, a.eval (.func f) = .func (.func f) #[] #[] := fun _ => rfl
              refine want_none rfl ?_
              unfold Oper.wp
              generalize a.eval = ρ at *
              go_simp
              try go_bits
              first | exact rel_val (Chg.refl _) | (go_simp; exact rel_val (Chg.refl _))
            case bo3 =>
              rintro a wx hE hin (h2 : a.eval (.tmp 135) = _)
              have i16 : a.eval (.tmp 16) = .pointer (some ⟨gb, 0, none⟩) := hin 16 rfl
              clear hin
              have hcst : ∀ v, a.eval (.const v) = v := fun _ => rfl
              have hfnc : ∀ f, a.eval (.func f) = .func (.func f) #[] #[] := fun _ => rfl
              refine want_yes rfl rfl h2 ?_
              exact wp_ld 35 _ rfl gb 0 32 vb (bts pd.data) i16 (Kbw33.out.drew.chg hE id) (by kernel_rfl) (by kernel_rfl) (by rw [HVL.out]; decide) (by rw [List.drop_zero, List.take_of_length_le (by rw [HVL.out]; exact Nat.le_refl _), HVB.out]) (rel_val (Chg.refl _))
            case bo4 =>
              rintro a wx hE hin (h2 : a.eval (.tmp 135) = _)
              have i0 : a.eval (.tmp 0) = .slice (some ad) ps.length c := hin 0 rfl
              clear hin
              have hcst : ∀ v, a.eval (.const v) = v := fun _ => rfl
              have hfnc : ∀ f, a.eval (.func f) = .func (.func f) #[] #[] := fun _ => rfl
              refine want_yes rfl rfl h2 ?_
              unfold Oper.wp
              generalize a.eval = ρ at *
              go_simp
              try go_bits
              first | exact rel_val (Chg.refl _) | (go_simp; exact rel_val (Chg.refl _))
            case bo5 =>
              rintro a wx hE hin (h2 : a.eval (.tmp 135) = _)
              have i15 : a.eval (.tmp 15) = .int .i64 k := hin 15 rfl
              clear hin
              have hcst : ∀ v, a.eval (.const v) = v := fun _ => rfl
              have hfnc : ∀ f, a.eval (.func f) = .func (.func f) #[] #[] := fun _ => rfl
              refine want_yes rfl rfl h2 ?_
              unfold Oper.wp
              generalize a.eval = ρ at *
              go_simp
              try go_bits
              first | exact rel_val (Chg.refl _) | (go_simp; exact rel_val (Chg.refl _))
            case bo6 =>
              rintro a wx hE hin (h2 : a.eval (.tmp 135) = _) (h4 : a.eval (.tmp 137) = _) (h5 : a.eval (.tmp 138) = _)
              clear hin
              have hcst : ∀ v, a.eval (.const v) = v := fun _ => rfl
              have hfnc : ∀ f, a.eval (.func f) = .func (.func f) #[] #[] := fun _ => rfl
              refine want_yes rfl rfl h2 ?_
              unfold Oper.wp
              generalize a.eval = ρ at *
              go_simp
              try go_bits
              first | exact rel_val (Chg.refl _) | (go_simp; exact rel_val (Chg.refl _))
            case bo7 =>
              rintro a wx hE hin (h2 : a.eval (.tmp 135) = _) (h6 : a.eval (.tmp 139) = _)
              clear hin
              have hcst : ∀ v, a.eval (.const v) = v := fun _ => rfl
              have hfnc : ∀ f, a.eval (.func f) = .func (.func f) #[] #[] := fun _ => rfl
              refine want_yes rfl rfl h2 ?_
              unfold Oper.wp
              generalize a.eval = ρ at *
              go_simp
              try go_bits
              first | exact rel_val (Chg.refl _) | (go_simp; exact rel_val (Chg.refl _))
            case bo8 =>
              rintro a wx hE hin (h2 : a.eval (.tmp 135) = _) (h7 : a.eval (.tmp 140) = _)
              clear hin
              have hcst : ∀ v, a.eval (.const v) = v := fun _ => rfl
              have hfnc : ∀ f, a.eval (.func f) = .func (.func f) #[] #[] := fun _ => rfl
              refine want_yes rfl rfl h2 ?_
              exact wp_ldr2 35 _ rfl _ 32 (bts pd.data) h7 (by have h := (HPD.out wx (Ew33.out.trans (hE.undrew.below Ew33.out.size (fun _ _ => id)))).drop 1; exact h) (by kernel_rfl) (by kernel_rfl) (by rw [bts_length]; exact HDL.out) (rel_val (Chg.refl _))
            case bo9 =>
              rintro a wx hE hin (h2 : a.eval (.tmp 135) = _) (h3 : a.eval (.tmp 136) = _) (h8 : a.eval (.tmp 141) = _)
              clear hin
              have hcst : ∀ v, a.eval (.const v) = v := fun _ => rfl
              have hfnc : ∀ f, a.eval (.func f) = .func (.func f) #[] #[] := fun _ => rfl
              refine want_yes rfl rfl h2 ?_
              exact wp_eq_bytes true 35 _ _ _ rfl 5 32 Try.underlying35 Try.underlying5 (by kernel_rfl) (by kernel_rfl) pd.data pd.data h3 h8 HDL.out HDL.out (by rw [decide_eq_true rfl]; exact rel_val (Chg.refl _))
            case bo10 =>
              rintro a wx hE hin (h2 : a.eval (.tmp 135) = _) (h9 : a.eval (.tmp 142) = _)
              clear hin
              have hcst : ∀ v, a.eval (.const v) = v := fun _ => rfl
              have hfnc : ∀ f, a.eval (.func f) = .func (.func f) #[] #[] := fun _ => rfl
              refine want_none rfl ?_
              unfold Oper.wp
              generalize a.eval = ρ at *
              go_simp
              try go_bits
              first | exact rel_val (Chg.refl _) | (go_simp; exact rel_val (Chg.refl _))
          case bfin =>
            intro wx hE
            rintro _ rfl _ rfl _ rfl _ rfl _ rfl _ rfl _ rfl _ rfl _ rfl _ rfl _ rfl
            simp only [FinOk, List.take_succ_cons, List.take_zero, List.take_nil, List.drop_succ_cons, List.drop_zero, List.drop_nil, Act.put, List.setIfInBounds_toArray, List.set_cons_succ, List.set_cons_zero]
            have DX : Hid (DSes 92 w wx gd gsd lvdw16 (UpD S)) := Ddw33.out.chgN hE.undrew
            have KY : Hid (Bk wx hm (NdC gd L)) := Kmw33.out.drew.chg hE id
            clear hE
            go_wp2_with fail
            go_roundw
            case rel => exact ⟨k + 1, by omega, by go_num, DX.out, KY.out⟩
            case measure => simp [intOf]; omega
end Go.Proofs.Ytcmfkdfegfablaa
