/- The walk of DiskSafe. -/
import Derived.Test.YtnpcehlbboeadaaCopied
namespace Go.Proofs.Ytnpcehlbboeadaa
open Go.RowKit
set_option linter.unusedVariables false
set_option linter.unusedSimpArgs false

/-- The first k steps' writes. -/
def putsB (l : List Stp) (k : Nat) : List (Nat × List UInt8) := (l.take k).map fun s => ((s.i % 6).toNat, List.replicate 32 s.v)
theorem putsB_length (l : List Stp) (k : Nat) (h : k ≤ l.length) : (putsB l k).length = k := by rw [putsB, List.length_map, List.length_take, Nat.min_eq_left h]
theorem putsB_succ (l : List Stp) (k : Nat) (h : k < l.length) : putsB l (k + 1) = putsB l k ++ [((l[k].i % 6).toNat, List.replicate 32 l[k].v)] := by rw [putsB, putsB, List.take_succ_eq_append_getElem h, List.map_append]; rfl
theorem putsB_get (l : List Stp) (k : Nat) (h : k < l.length) (h2 : k < (putsB l l.length).length) : (putsB l l.length)[k] = ((l[k].i % 6).toNat, List.replicate 32 l[k].v) := by simp [putsB]
/-- What the first loop keeps. -/
structure SafeAt (w : World) (g gs g9 : Nat) (k : Nat) (lv : Value) (S : List (List UInt8)) (L : List (Nat × List UInt8)) (wb : List UInt8) (wr : World) : Prop where
  ll : L.length ≤ k
  sl : S.length = 6
  wl : wb.length = 6
  eq : ∀ j, j < 6 → nowS S L j = List.replicate 32 (wb.getD j 0)
  ds : DSes 91 w wr g gs lv ⟨S, L, -1, false⟩
  bk : Bk wr g9 (bts wb)
  nf : ¬ footD g gs lv g9
  gp : w.heap.size ≤ g9
def SafeRel (w : World) (g gs g9 m : Nat) (v : Value) (wr : World) : Prop := ∃ (k : Nat) (lv : Value) (S : List (List UInt8)) (L : List (Nat × List UInt8)) (wb : List UInt8), k ≤ m ∧ v = .int .i64 k ∧ SafeAt w g gs g9 k lv S L wb wr
def SafeRel2 (w : World) (g gs g9 : Nat) (l1 : List Stp) (S1 : List (List UInt8)) (wb : List UInt8) (v : Value) (wr : World) : Prop := ∃ (k : Nat) (lv : Value), k ≤ l1.length ∧ v = .int .i64 k ∧ DSes 91 w wr g gs lv ⟨S1, putsB l1 k, -1, false⟩ ∧ Bk wr g9 (bts wb) ∧ ¬ footD g gs lv g9
def SafeRel4 (w : World) (g gs g9 : Nat) (lv : Value) (S2 : List (List UInt8)) (wb : List UInt8) (v : Value) (wr : World) : Prop := ∃ (j : Nat), j ≤ 6 ∧ v = .int .i64 j ∧ DSes 91 w wr g gs lv ⟨S2, [], -1, false⟩ ∧ Bk wr g9 (bts wb)
set_option maxRecDepth 100000 in
set_option maxHeartbeats 8000000 in
theorem diskSafe_calls (w : World) (A0 A1 A2 : Option Addr) (n0 n1 n2 c0 c1 c2 : Nat) (l0 l1 : List Stp) (ks : List UInt8) (hl0 : l0.length = n0) (hl1 : l1.length = n1) (hl2 : ks.length = n2) (hnc0 : n0 ≤ c0) (hnc1 : n1 ≤ c1) (hnc2 : n2 ≤ c2) (hm0 : c0 ≤ 9223372036854775807) (hm1 : c1 ≤ 9223372036854775807) (hm2 : c2 ≤ 9223372036854775807)
    (hr0 : Rd w A0 (l0.flatMap stpC)) (hr1 : Rd w A1 (l1.flatMap stpC)) (hr2 : Rd w A2 (bts ks)) (hok0 : ∀ s ∈ l0, StpOk w s) (hok1 : ∀ s ∈ l1, StpOk w s) :
    Calls Try.prog 4 #[.slice A0 n0 c0, .slice A1 n1 c1, .slice A2 n2 c2] w fun e w' => e = .returned (.bool true) ∧ Below w.heap.size w w' := by
  subst hl0
  subst hl1
  subst hl2
  have HR0 := Lib.hid hr0
  have HR1 := Lib.hid hr1
  have HRK := Lib.hid hr2
  have HOK0 := Lib.hid hok0
  have HOK1 := Lib.hid hok1
  clear hr0 hr1 hr2 hok0 hok1
  go_enter Try.func4, Try.ntmps4
  go_wp2_with fail
  refine (diskNew_yes 6 w (by decide) (by decide)).mono ?_
  intro e w1 hp
  obtain ⟨g, gs, rfl, hs⟩ := DSes.new (wT := 91) (by decide) (Below.refl _ _) hp
  have HD1 : Hid (DSes 91 w w1 g gs (.slice none 0 0) (Dst.new 6)) := hs
  clear hp hs
  go_wp2_with fail
  refine (fair_calls w1 A0 l0.length c0 l0 rfl (by omega) (HR0.out.below HD1.out.bel)).mono ?_
  rintro e w' ⟨rfl, rfl⟩
  cases hq0 : fairB l0 with
  | false =>
    clear hq0
    go_wp2_with fail
    refine (wakes5_calls w1).mono ?_
    rintro e w9 ⟨rfl, hb⟩
    have E9 : Hid (Below w.heap.size w w9) := HD1.out.bel.trans (hb.mono HD1.out.bel.size)
    clear hb
    go_wp2
    go_ret
    exact ⟨rfl, E9.out⟩
  | true =>
    have HLL0 : Hid (l0.length ≤ 200) := by
      show l0.length ≤ 200
      rw [fairB, Bool.and_eq_true] at hq0
      exact of_decide_eq_true hq0.2
    clear hq0
    go_wp2_with fail
    refine (fair_calls w1 A1 l1.length c1 l1 rfl (by omega) (HR1.out.below HD1.out.bel)).mono ?_
    rintro e w' ⟨rfl, rfl⟩
    cases hq1 : fairB l1 with
    | false =>
      clear hq1
      go_wp2_with fail
      refine (wakes5_calls w1).mono ?_
      rintro e w9 ⟨rfl, hb⟩
      have E9 : Hid (Below w.heap.size w w9) := HD1.out.bel.trans (hb.mono HD1.out.bel.size)
      clear hb
      go_wp2
      go_ret
      exact ⟨rfl, E9.out⟩
    | true =>
      have HLL1 : Hid (l1.length ≤ 200) := by
        show l1.length ≤ 200
        rw [fairB, Bool.and_eq_true] at hq1
        exact of_decide_eq_true hq1.2
      clear hq1
      by_cases hk300 : ks.length ≤ 300
      rotate_left
      · have hki : (300 : Int) < (ks.length : Int) := by omega
        go_wp2_with fail
        refine (wakes5_calls w1).mono ?_
        rintro e w9 ⟨rfl, hb⟩
        have E9 : Hid (Below w.heap.size w w9) := HD1.out.bel.trans (hb.mono HD1.out.bel.size)
        clear hb
        go_wp2
        go_ret
        exact ⟨rfl, E9.out⟩
      have hk300i : ¬ ((300 : Int) < (ks.length : Int)) := by omega
      go_wp2_with (refine wpList_al rfl 54 rfl (bts (List.replicate 6 0)) (by kernel_rfl) ?_)
      intro g9 w2 hg hb hc hs
      have HD2 := Lib.hid (HD1.out.chgN hc)
      have H0 : Hid (SafeRel w g gs g9 l0.length (.int .i64 0) w2) := ⟨0, .slice none 0 0, (Dst.new 6).S, [], List.replicate 6 0, by omega, rfl, ⟨by simp, by simp [Dst.new], by simp, fun j hj => by
        rw [nowS_new 6 j hj, List.getD_eq_getElem?_getD, List.getElem?_replicate, if_pos hj]
        rfl, HD2.out, hb, fun hf => by have := DiskAt.lt HD1.out.at_ _ hf; rw [hg] at this; omega, by rw [hg]; exact HD1.out.bel.size⟩⟩
      clear hb hc hs hg hk300i
      go_wp2_with fail
      go_loopw [10] (fun v wr => SafeRel w g gs g9 l0.length v wr) (fun v _ => l0.length - (intOf v).toNat)
      case atStart => exact H0.out
      case round =>
        obtain ⟨k, lv, S, L, wb, hk, rfl, hrel⟩ := hrel
        have HRL := Lib.hid hrel
        clear hrel H0
        by_cases hlt : k < l0.length
        · have hki : (k : Int) < (l0.length : Int) := by omega
          have HRr := Lib.hid (HR0.out.below HRL.out.ds.bel)
          obtain ⟨ad, hA, h0, h1, h2, h3⟩ := stp_cells HRr.out hlt
          subst hA
          have hsok := HOK0.out _ (List.getElem_mem hlt)
          obtain ⟨s5, hs⟩ : ∃ s5, l0[k] = s5 := ⟨_, rfl⟩
          rw [hs] at h0 h1 h2 h3 hsok
          have HI1 := Lib.hid hsok.i1
          have HI2 := Lib.hid hsok.i2
          have hi1 := hsok.i1
          have hi2 := hsok.i2
          have HS := Lib.hid hs
          clear hs hsok h0 h3
          obtain ⟨m, hm6, hmod⟩ : ∃ m : Nat, m < 6 ∧ s5.i % 6 = (m : Int) := ⟨(s5.i % 6).toNat, by omega, by omega⟩
          have HM := Lib.hid hmod
          have hm6i : (m : Int) < 6 := by omega
          obtain ⟨b, hbv⟩ : ∃ b, List.replicate 32 s5.v = b := ⟨_, rfl⟩
          have HBV := Lib.hid hbv
          have HB32 : Hid (b.length = 32) := by show _ = _; rw [← hbv, List.length_replicate]

          have HSM : Hid (m < S.length) := by show _ < _; rw [HRL.out.sl]; exact hm6
          have HWL : Hid ((bts wb).length = 6) := by show _ = _; rw [bts_length, HRL.out.wl]
          clear hbv
          go_wp2_with (go_at_call 30; refine (mod_calls s5.i 6 wr (by decide) (by decide) hi1 hi2).mono ?_; rintro e w' ⟨rfl, rfl⟩; rw [hmod])
          refine (fill_calls s5.v wr).mono ?_
          rintro e w3 ⟨rfl, hb⟩
          rw [HBV.out]
          have HD3 := Lib.hid (HRL.out.ds.below hb)
          have HB3 := Lib.hid (HRL.out.bk.below hb)
          clear hb h1 h2
          go_wp2_with fail
          refine (diskWrite_at w3 g gs lv _ m b HD3.out.at_ HB32.out (by have := HRL.out.ll; have := HLL0.out; show L.length ≤ 1000; omega) live_lo live_hi).mono ?_
          intro e w5 hp
          rw [(write_live S L m b HSM.out).1, (write_live S L m b HSM.out).2] at hp
          obtain ⟨rfl, lv3, hd3, hnf3, hbk3, hbel3⟩ := hp.beside HD3.out HRL.out.nf HB3.out
          have HD5 := Lib.hid hd3
          have HB5 := Lib.hid hbk3
          have HNF5 := Lib.hid hnf3
          clear hp hd3 hnf3 hbk3 hbel3
          have hst := stp_cells (HR0.out.below HD5.out.bel) hlt
          rw [HS.out] at hst
          obtain ⟨ad9, hA9, _, _, e2, _⟩ := hst
          injection hA9 with hA9
          subst hA9
          go_wp2_with (refine wpList_st rfl 5 (.tmp 80) (.tmp 79) rfl g9 m 1 (bts wb) [vu8 s5.v] rfl rfl HB5.out (by kernel_rfl) rfl (by rw [HWL.out]; omega) (fun u hu => by obtain rfl := List.mem_singleton.1 hu; rfl) ?_)
          intro w6 hb6 hc6
          rw [show splice (bts wb) m [vu8 s5.v] = bts (wb.set m s5.v) by rw [← bts_set, splice, List.set_eq_take_append_cons_drop, if_pos (by rw [HWL.out]; exact hm6)]; simp] at hb6
          have HRL6 : Hid (SafeAt w g gs g9 (k + 1) lv3 S (L ++ [(m, b)]) (wb.set m s5.v) w6) := ⟨by have := HRL.out.ll; simp; omega, HRL.out.sl, by rw [List.length_set]; exact HRL.out.wl, fun j hj => by
              rw [nowS_snoc, HRL.out.eq j hj]
              simp only [List.getD_eq_getElem?_getD, List.getElem?_set]
              by_cases hmj : m = j
              · subst hmj
                rw [if_pos rfl, if_pos rfl, if_pos (by rw [HRL.out.wl]; exact hj), ← HBV.out]
                rfl
              · rw [if_neg hmj, if_neg hmj], ⟨DiskAt.chg HD5.out.at_ hc6 (fun q hq he => HNF5.out (by rw [← he]; exact hq)), HD5.out.fr, HD5.out.bel.trans (hc6.below HD5.out.bel.size (fun q hq he => by have := HRL.out.gp; omega))⟩, hb6, HNF5.out, HRL.out.gp⟩
          clear hb6 hc6 e2
          go_wp2_with fail
          go_roundw
          case rel => exact ⟨k + 1, lv3, S, L ++ [(m, b)], wb.set m s5.v, by omega, by go_num, HRL6.out⟩
          case measure => simp [intOf]; omega
        · have hki : ¬ ((k : Int) < (l0.length : Int)) := by omega
          go_wp2_with fail
          refine (diskFlush_at wr g gs lv _ HRL.out.ds.at_ live_lo live_hi).mono ?_
          intro e w3 hp
          rw [(flush_live S L).1, (flush_live S L).2] at hp
          obtain ⟨rfl, lv3, hd3, hnf3, hbk3, hbel3⟩ := hp.beside HRL.out.ds HRL.out.nf HRL.out.bk
          obtain ⟨S1, hS1⟩ : ∃ S1, doneS S L = S1 := ⟨_, rfl⟩
          have HS6 : Hid (S1.length = 6) := by show _ = _; rw [← hS1, doneS_length]; exact HRL.out.sl
          have HE1 : Hid (∀ j, j < 6 → S1.getD j [] = List.replicate 32 (wb.getD j 0)) := fun j hj => by rw [← hS1, ← HRL.out.eq j hj, ← nowS_done L S j (by rw [HRL.out.sl]; exact hj)]; rfl
          rw [hS1] at hd3
          have HD3 := Lib.hid hd3
          have HWB := Lib.hid HRL.out.wl
          have HGP := Lib.hid HRL.out.gp
          have H2 : Hid (SafeRel2 w g gs g9 l1 S1 wb (.int .i64 0) w3) := ⟨0, lv3, by omega, rfl, hd3, hbk3, hnf3⟩
          clear hp hd3 hnf3 hbk3 hbel3 hS1 HRL
          go_wp2_with fail
          refine (diskLoose_at w3 g gs lv3 _ HD3.out.at_).mono ?_
          rintro e w' ⟨rfl, rfl⟩
          clear HD3
          go_wp2_with fail
          go_loopw [12] (fun v wr => SafeRel2 w g gs g9 l1 S1 wb v wr) (fun v _ => l1.length - (intOf v).toNat)
          case atStart => exact H2.out
          case round =>
            obtain ⟨k, lv, hk, rfl, hd, hbk, hnf⟩ := hrel
            have HD := Lib.hid hd
            have HK := Lib.hid hbk
            have HNF := Lib.hid hnf
            clear hd hbk hnf H2
            by_cases hlt : k < l1.length
            · have hki : (k : Int) < (l1.length : Int) := by omega
              have HRr := Lib.hid (HR1.out.below HD.out.bel)
              obtain ⟨ad, hA, h0, h1, h2, h3⟩ := stp_cells HRr.out hlt
              subst hA
              have hsok := HOK1.out _ (List.getElem_mem hlt)
              obtain ⟨s5, hs⟩ : ∃ s5, l1[k] = s5 := ⟨_, rfl⟩
              rw [hs] at h0 h1 h2 h3 hsok
              have HI1 := Lib.hid hsok.i1
              have HI2 := Lib.hid hsok.i2
              have hi1 := hsok.i1
              have hi2 := hsok.i2
              have HS := Lib.hid hs
              clear hs hsok h0 h3
              obtain ⟨m, hm6, hmod⟩ : ∃ m : Nat, m < 6 ∧ s5.i % 6 = (m : Int) := ⟨(s5.i % 6).toNat, by omega, by omega⟩
              have HM := Lib.hid hmod
              have hm6i : (m : Int) < 6 := by omega
              obtain ⟨b, hbv⟩ : ∃ b, List.replicate 32 s5.v = b := ⟨_, rfl⟩
              have HBV := Lib.hid hbv
              have HB32 : Hid (b.length = 32) := by show _ = _; rw [← hbv, List.length_replicate]

              have HSM : Hid (m < S1.length) := by show _ < _; rw [HS6.out]; exact hm6
              clear hbv h1 h2 hmod
              go_wp2_with fail
              apply wp_region_rel 13 (Chg NoS) [(Veq _), (Veq _), (Veq _), (Veq _), (Veq _), (Veq _), (Veq _), (Veq _), (Veq _), (Veq _), (Veq _), (Veq _), (Veq _)] [[], [], [], [1, 2], [3], [4], [5], [], [], [7, 8], [9], [10], [11]] [95, 96, 97, 98, 99, 100, 101, 102, 103, 104, 105, 106, 107] (by kernel_rfl) (by kernel_rfl) rfl rfl rfl Chg.refl (fun _ _ _ => Chg.trans) ⟨Veq.lasts, Veq.lasts, Veq.lasts, Veq.lasts, Veq.lasts, Veq.lasts, Veq.lasts, Veq.lasts, Veq.lasts, Veq.lasts, Veq.lasts, Veq.lasts, Veq.lasts, trivial⟩ ?aops ?afin
              case aops =>
                refine ⟨?ao0, ?ao1, ?ao2, ?ao3, ?ao4, ?ao5, ?ao6, ?ao7, ?ao8, ?ao9, ?ao10, ?ao11, ?ao12, trivial⟩
                case ao0 =>
                  intro a wx hE hin
                  have i7 : a.eval (.tmp 7) = .pointer (some ⟨g, 0, none⟩) := hin 7 rfl
                  clear hin
                  have hcst : ∀ v, a.eval (.const v) = v := fun _ => rfl
                  have hfnc : ∀ f, a.eval (.func f) = .func (.func f) #[] #[] := fun _ => rfl
                  refine want_none rfl ?_
                  unfold Oper.wp
                  generalize a.eval = ρ at *
                  go_simp
                  try go_bits
                  first | exact rel_val (Chg.refl _) | (go_simp; exact rel_val (Chg.refl _))
                case ao1 =>
                  intro a wx hE hin
                  have i1 : a.eval (.tmp 1) = .slice (some ad) l1.length c1 := hin 1 rfl
                  clear hin
                  have hcst : ∀ v, a.eval (.const v) = v := fun _ => rfl
                  have hfnc : ∀ f, a.eval (.func f) = .func (.func f) #[] #[] := fun _ => rfl
                  refine want_none rfl ?_
                  unfold Oper.wp
                  generalize a.eval = ρ at *
                  go_simp
                  try go_bits
                  first | exact rel_val (Chg.refl _) | (go_simp; exact rel_val (Chg.refl _))
                case ao2 =>
                  intro a wx hE hin
                  have i12 : a.eval (.tmp 12) = .int .i64 k := hin 12 rfl
                  clear hin
                  have hcst : ∀ v, a.eval (.const v) = v := fun _ => rfl
                  have hfnc : ∀ f, a.eval (.func f) = .func (.func f) #[] #[] := fun _ => rfl
                  refine want_none rfl ?_
                  unfold Oper.wp
                  generalize a.eval = ρ at *
                  go_simp
                  try go_bits
                  first | exact rel_val (Chg.refl _) | (go_simp; exact rel_val (Chg.refl _))
                case ao3 =>
                  rintro a wx hE hin (h1 : a.eval (.tmp 96) = _) (h2 : a.eval (.tmp 97) = _)
                  clear hin
                  have hcst : ∀ v, a.eval (.const v) = v := fun _ => rfl
                  have hfnc : ∀ f, a.eval (.func f) = .func (.func f) #[] #[] := fun _ => rfl
                  refine want_none rfl ?_
                  unfold Oper.wp
                  generalize a.eval = ρ at *
                  go_simp
                  try go_bits
                  first | exact rel_val (Chg.refl _) | (go_simp; exact rel_val (Chg.refl _))
                case ao4 =>
                  rintro a wx hE hin (h3 : a.eval (.tmp 98) = _)
                  clear hin
                  have hcst : ∀ v, a.eval (.const v) = v := fun _ => rfl
                  have hfnc : ∀ f, a.eval (.func f) = .func (.func f) #[] #[] := fun _ => rfl
                  refine want_none rfl ?_
                  unfold Oper.wp
                  generalize a.eval = ρ at *
                  go_simp
                  try go_bits
                  first | exact rel_val (Chg.refl _) | (go_simp; exact rel_val (Chg.refl _))
                case ao5 =>
                  rintro a wx hE hin (h4 : a.eval (.tmp 99) = _)
                  clear hin
                  have hcst : ∀ v, a.eval (.const v) = v := fun _ => rfl
                  have hfnc : ∀ f, a.eval (.func f) = .func (.func f) #[] #[] := fun _ => rfl
                  refine want_none rfl ?_
                  unfold Oper.wp
                  generalize a.eval = ρ at *
                  have hst := stp_cells ((HRr.out.drew).chg hE) hlt
                  rw [HS.out] at hst
                  obtain ⟨ad9, hA9, e0, e1, e2, e3⟩ := hst
                  injection hA9 with hA9
                  subst hA9
                  go_simp
                  try go_bits
                  first | exact rel_val (Chg.refl _) | (go_simp; exact rel_val (Chg.refl _))
                case ao6 =>
                  rintro a wx hE hin (h5 : a.eval (.tmp 100) = _)
                  clear hin
                  have hcst : ∀ v, a.eval (.const v) = v := fun _ => rfl
                  have hfnc : ∀ f, a.eval (.func f) = .func (.func f) #[] #[] := fun _ => rfl
                  refine want_none rfl ?_
                  unfold Oper.wp
                  generalize a.eval = ρ at *
                  go_simp
                  refine (mod_calls s5.i 6 wx (by decide) (by decide) HI1.out HI2.out).mono ?_
                  rintro e w' ⟨rfl, rfl⟩
                  rw [HM.out]
                  exact rel_val (Chg.refl _)
                case ao7 =>
                  intro a wx hE hin
                  have i1 : a.eval (.tmp 1) = .slice (some ad) l1.length c1 := hin 1 rfl
                  clear hin
                  have hcst : ∀ v, a.eval (.const v) = v := fun _ => rfl
                  have hfnc : ∀ f, a.eval (.func f) = .func (.func f) #[] #[] := fun _ => rfl
                  refine want_none rfl ?_
                  unfold Oper.wp
                  generalize a.eval = ρ at *
                  go_simp
                  try go_bits
                  first | exact rel_val (Chg.refl _) | (go_simp; exact rel_val (Chg.refl _))
                case ao8 =>
                  intro a wx hE hin
                  have i12 : a.eval (.tmp 12) = .int .i64 k := hin 12 rfl
                  clear hin
                  have hcst : ∀ v, a.eval (.const v) = v := fun _ => rfl
                  have hfnc : ∀ f, a.eval (.func f) = .func (.func f) #[] #[] := fun _ => rfl
                  refine want_none rfl ?_
                  unfold Oper.wp
                  generalize a.eval = ρ at *
                  go_simp
                  try go_bits
                  first | exact rel_val (Chg.refl _) | (go_simp; exact rel_val (Chg.refl _))
                case ao9 =>
                  rintro a wx hE hin (h7 : a.eval (.tmp 102) = _) (h8 : a.eval (.tmp 103) = _)
                  clear hin
                  have hcst : ∀ v, a.eval (.const v) = v := fun _ => rfl
                  have hfnc : ∀ f, a.eval (.func f) = .func (.func f) #[] #[] := fun _ => rfl
                  refine want_none rfl ?_
                  unfold Oper.wp
                  generalize a.eval = ρ at *
                  go_simp
                  try go_bits
                  first | exact rel_val (Chg.refl _) | (go_simp; exact rel_val (Chg.refl _))
                case ao10 =>
                  rintro a wx hE hin (h9 : a.eval (.tmp 104) = _)
                  clear hin
                  have hcst : ∀ v, a.eval (.const v) = v := fun _ => rfl
                  have hfnc : ∀ f, a.eval (.func f) = .func (.func f) #[] #[] := fun _ => rfl
                  refine want_none rfl ?_
                  unfold Oper.wp
                  generalize a.eval = ρ at *
                  go_simp
                  try go_bits
                  first | exact rel_val (Chg.refl _) | (go_simp; exact rel_val (Chg.refl _))
                case ao11 =>
                  rintro a wx hE hin (h10 : a.eval (.tmp 105) = _)
                  clear hin
                  have hcst : ∀ v, a.eval (.const v) = v := fun _ => rfl
                  have hfnc : ∀ f, a.eval (.func f) = .func (.func f) #[] #[] := fun _ => rfl
                  refine want_none rfl ?_
                  unfold Oper.wp
                  generalize a.eval = ρ at *
                  have hst := stp_cells ((HRr.out.drew).chg hE) hlt
                  rw [HS.out] at hst
                  obtain ⟨ad9, hA9, e0, e1, e2, e3⟩ := hst
                  injection hA9 with hA9
                  subst hA9
                  go_simp
                  try go_bits
                  first | exact rel_val (Chg.refl _) | (go_simp; exact rel_val (Chg.refl _))
                case ao12 =>
                  rintro a wx hE hin (h11 : a.eval (.tmp 106) = _)
                  clear hin
                  have hcst : ∀ v, a.eval (.const v) = v := fun _ => rfl
                  have hfnc : ∀ f, a.eval (.func f) = .func (.func f) #[] #[] := fun _ => rfl
                  refine want_none rfl ?_
                  unfold Oper.wp
                  generalize a.eval = ρ at *
                  go_simp
                  refine (fill_calls s5.v wx).mono ?_
                  rintro e w' ⟨rfl, hb⟩
                  rw [HBV.out]
                  exact rel_val (.of_below hb)
              case afin =>
                intro wx hE
                rintro _ rfl _ rfl _ rfl _ rfl _ rfl _ rfl _ rfl _ rfl _ rfl _ rfl _ rfl _ rfl _ rfl
                simp only [FinOk, List.take_succ_cons, List.take_zero, List.take_nil, List.drop_succ_cons, List.drop_zero, List.drop_nil, Act.put, List.setIfInBounds_toArray, List.set_cons_succ, List.set_cons_zero]
                have HDX := Lib.hid (HD.out.drew.chgN hE)
                have HKX := Lib.hid (HK.out.drew.chg hE id)
                clear hE
                go_wp2_with fail
                refine (diskWrite_at wx g gs lv _ m b HDX.out.at_ HB32.out (by show (putsB l1 k).length ≤ 1000; rw [putsB_length l1 k hk]; have := HLL1.out; omega) live_lo live_hi).mono ?_
                intro e w3 hp
                rw [(write_live S1 (putsB l1 k) m b HSM.out).1, (write_live S1 (putsB l1 k) m b HSM.out).2] at hp
                obtain ⟨rfl, lv3, hd3, hnf3, hbk3, hbel3⟩ := hp.beside HDX.out HNF.out HKX.out
                have HD3 : Hid (DSes 91 w w3 g gs lv3 ⟨S1, putsB l1 (k + 1), -1, false⟩) := by rw [putsB_succ l1 k hlt, HS.out, HM.out, HBV.out]; exact hd3
                have HK3 := Lib.hid hbk3
                have HNF3 := Lib.hid hnf3
                clear hp hd3 hbk3 hnf3 hbel3
                go_wp2_with fail
                go_roundw
                case rel => exact ⟨k + 1, lv3, by omega, by go_num, HD3.out, HK3.out, HNF3.out⟩
                case measure => simp [intOf]; omega
            · have hke : k = l1.length := by omega
              have hki : ¬ ((k : Int) < (l1.length : Int)) := by omega
              rw [hke] at HD
              clear hke
              go_wp2_with (at_builtin; refine wpList_append_rd rfl _ _ 32 rfl wr.heap.size 5 (.int .u8 0) 1 1 Try.underlying32 info_u8d rfl (by decide) (by decide) (.slice (some ⟨wr.heap.size, 0, none⟩) 0 0) 0 [] rfl ?own A2 ks.length c2 (bts ks) rfl ?len ?rd (one_bts _) ?bytes ?base ?_)
              case own => exact empty_own' _ _ rfl
              case rd => exact (HRK.out.below HD.out.bel).alloc _
              case bytes => omega
              intro v1 w4 hown1 hg1 hat1
              obtain ⟨A4, c4, rfl, hb4, hr4⟩ := copied hown1 hg1
              have HD4 := Lib.hid (HD.out.below hb4)
              have HK4 := Lib.hid (HK.out.below hb4)
              have HR4 := Lib.hid (hr4 g gs (DiskAt.lt HD.out.at_ _ (.inl rfl)) (DiskAt.lt HD.out.at_ _ (.inr (.inl rfl))))
              clear hown1 hg1 hat1 hb4 hr4
              go_wp2_with fail
              refine (diskUp_at w4 g gs lv _ A4 ks.length c4 ks HD4.out.at_ rfl HR4.out).mono ?_
              intro e w5 hp
              obtain ⟨rfl, lv5, hd5, hnf5, hbk5, hbel5⟩ := hp.beside HD4.out HNF.out HK4.out
              obtain ⟨S2, hS2⟩ : ∃ S2, upS S1 (putsB l1 l1.length) ks = S2 := ⟨_, rfl⟩
              have hd6 : DSes 91 w w5 g gs lv5 ⟨upS S1 (putsB l1 l1.length) ks, [], -1, false⟩ := hd5
              rw [hS2] at hd6
              have H4 : Hid (SafeRel4 w g gs g9 lv5 S2 wb (.int .i64 0) w5) := ⟨0, by omega, rfl, hd6, hbk5⟩
              have HSL2 : Hid (S2.length = 6) := by show _ = _; rw [← hS2, upS_length, HS6.out]
              have HS2 := Lib.hid hS2
              have HNF5 := Lib.hid hnf5
              clear hp hd5 hnf5 hbk5 hbel5 hd6 hS2 HR4 HD4 HK4 HD HK HNF
              go_wp2_with fail
              go_loopw [13] (fun v wr => SafeRel4 w g gs g9 lv5 S2 wb v wr) (fun v _ => 6 - (intOf v).toNat)
              case atStart => exact H4.out
              case round =>
                obtain ⟨j, hj, rfl, hd, hbk⟩ := hrel
                have HD := Lib.hid hd
                have HWA := Lib.hid hbk
                clear hd hbk H4
                by_cases hj6 : j < 6
                · have hji : (j : Int) < 6 := by omega
                  have hrb := (read_live S2 [] (-1) j (by rw [HSL2.out]; exact hj6)).1
                  have hre := (read_live S2 [] (-1) j (by rw [HSL2.out]; exact hj6)).2
                  obtain ⟨b, hb⟩ : ∃ b, nowS S2 [] j = b := ⟨_, rfl⟩
                  rw [hb] at hrb
                  have HB32 : Hid (b.length = 32) := by show _ = _; rw [← hrb]; exact DAt.readB_len HD.out.at_ _
                  have HBE : Hid ((upS S1 (putsB l1 l1.length) ks).getD j [] = b) := by show _ = _; rw [HS2.out]; exact hb
                  have HRB := Lib.hid hrb
                  have HRE := Lib.hid hre
                  clear hrb hre hb
                  go_wp2_with fail
                  refine (diskRead_at wr g gs lv5 ⟨S2, [], -1, false⟩ j HD.out.at_).mono ?_
                  rintro e w1a ⟨rfl, hb⟩
                  rw [HRB.out, HRE.out]
                  have HD1a := Lib.hid (HD.out.below hb)
                  have HWAa := Lib.hid (HWA.out.below hb)
                  clear hb
                  go_wp2_with (refine wpList_al rfl 37 rfl (bts (List.replicate 32 0)) (by kernel_rfl) ?_)
                  intro gx w1b hg hb hc hs
                  have HD1b := Lib.hid (HD1a.out.chgN hc)
                  have HWAb := Lib.hid (HWAa.out.chg hc id)
                  have HWAl : Hid (g9 < gx) := by show _ < _; rw [hg]; exact HWAa.out.lt
                  have HF1 : Hid (∀ q, footD g gs lv5 q → q < gx) := by intro q hq; rw [hg]; exact DiskAt.lt HD1a.out.at_ q hq
                  have HG1 : Hid (w.heap.size ≤ gx) := by show _ ≤ _; rw [hg]; exact HD1a.out.bel.size
                  have K1b := Lib.hid hb
                  clear hb hc hs hg
                  go_wp2_with (refine wpList_st rfl 37 (.tmp 14) (.tmp 123) rfl gx 0 32 (bts (List.replicate 32 0)) (bts b) rfl rfl K1b.out (by kernel_rfl) (by rw [bts_length, HB32.out]) (by decide) (one_bts _) ?_)
                  intro w1c hb hc
                  rw [splice_whole _ _ (by rw [bts_length, HB32.out]; rfl)] at hb
                  have K1c := Lib.hid hb
                  have HWAc := Lib.hid (HWAb.out.chg hc (by have := HWAl.out; omega))
                  have HD1c : Hid (DSes 91 w w1c g gs lv5 ⟨S2, [], -1, false⟩) := ⟨DiskAt.chg HD1b.out.at_ hc (fun q hq he => by have := HF1.out q hq; omega), HD1b.out.fr, HD1b.out.bel.trans (hc.below HD1b.out.bel.size (fun q hq he => by have := HG1.out; omega))⟩
                  clear hb hc

                  have HJ : Hid ((upS S1 ((putsB l1 l1.length).take 0) ks).getD j [] = List.replicate 32 (wb.getD j 0)) := HE1.out j hj6
                  have c9 := Bk.cell HWAc.out (bts_get (l := wb) (j := j) (by rw [HWB.out]; exact hj6))
                  obtain ⟨wj, hwj⟩ : ∃ wj, wb.getD j 0 = wj := ⟨_, rfl⟩
                  rw [hwj] at c9 HJ
                  have HV0 : Hid (vu8 wj = vu8 wj) := rfl
                  clear hwj
                  go_wp2_with fail
                  go_loop [16, 17] (fun v16 v17 => ∃ (k : Nat) (wv : UInt8), k ≤ l1.length ∧ v17 = .int .i64 k ∧ v16 = vu8 wv ∧ (upS S1 ((putsB l1 l1.length).take k) ks).getD j [] = List.replicate 32 wv) (fun _ v17 => l1.length - (intOf v17).toNat)
                  case atStart => exact ⟨0, wj, by omega, rfl, rfl, HJ.out⟩
                  case round =>
                    obtain ⟨k, wv, hk, rfl, rfl, hwv⟩ := hrel
                    have HWK := Lib.hid hwv
                    clear hwv
                    by_cases hboth : k < l1.length ∧ k < ks.length
                    · obtain ⟨hlt, hkk⟩ := hboth
                      have hki : (k : Int) < (l1.length : Int) := by omega
                      have hkki : (k : Int) < (ks.length : Int) := by omega
                      have HRr := Lib.hid (HR1.out.below HD1c.out.bel)
                      obtain ⟨ad, hA, h0, h1, h2, h3⟩ := stp_cells HRr.out hlt
                      subst hA
                      have hsok := HOK1.out _ (List.getElem_mem hlt)
                      obtain ⟨s5, hs⟩ : ∃ s5, l1[k] = s5 := ⟨_, rfl⟩
                      rw [hs] at h0 h1 h2 h3 hsok
                      have HI1 := Lib.hid hsok.i1
                      have HI2 := Lib.hid hsok.i2
                      have hi1 := hsok.i1
                      have hi2 := hsok.i2
                      have HS := Lib.hid hs
                      clear hs hsok h0 h3
                      obtain ⟨m, hm6, hmod⟩ : ∃ m : Nat, m < 6 ∧ s5.i % 6 = (m : Int) := ⟨(s5.i % 6).toNat, by omega, by omega⟩
                      have HM := Lib.hid hmod
                      have hm6i : (m : Int) < 6 := by omega
                      obtain ⟨b2, hbv⟩ : ∃ b2, List.replicate 32 s5.v = b2 := ⟨_, rfl⟩
                      have HBV := Lib.hid hbv
                      have HB322 : Hid (b2.length = 32) := by show _ = _; rw [← hbv, List.length_replicate]

                      obtain ⟨ad2, hA2, hcell⟩ := (HRK.out.below HD1c.out.bel).bt k hkk
                      subst hA2
                      obtain ⟨q, hqv⟩ : ∃ q, ks.getD k 0 = q := ⟨_, rfl⟩
                      rw [hqv] at hcell
                      have HQV := Lib.hid hqv
                      have ho8 := odd8 q
                      have hLk : k < (putsB l1 l1.length).length := by rw [putsB_length l1 _ (Nat.le_refl _)]; exact hlt
                      have HST : Hid (upS S1 ((putsB l1 l1.length).take (k + 1)) ks = if q % 2 = 1 then (upS S1 ((putsB l1 l1.length).take k) ks).set m b2 else upS S1 ((putsB l1 l1.length).take k) ks) := by
                        show _ = _
                        rw [upS_take S1 _ ks k hLk, hqv, putsB_get l1 k hlt, HS.out, HM.out, ← HBV.out]
                        rfl
                      by_cases hod : q % 2 = 1
                      · rw [decide_eq_true hod] at ho8
                        have HST2 := HST.out
                        rw [if_pos hod] at HST2
                        have HST3 := Lib.hid HST2
                        clear HST HST2 hod hqv
                        by_cases hmj : m = j
                        · subst hmj
                          have hmb : ((m : Int) == (m : Int)) = true := beq_self_eq_true _
                          go_wp2_with (go_at_call 30; refine (mod_calls s5.i 6 w1c (by decide) (by decide) hi1 hi2).mono ?_; rintro e w' ⟨rfl, rfl⟩; rw [hmod])
                          go_round
                          case rel => exact ⟨k + 1, s5.v, by omega, by go_num, rfl, by rw [HST3.out, List.getD_eq_getElem?_getD, List.getElem?_set_self (by rw [upS_length, HS6.out]; exact hm6), ← HBV.out]; rfl⟩
                          case measure => simp [intOf]; omega
                        · have hmb : ((m : Int) == (j : Int)) = false := by rw [beq_eq_false_iff_ne]; omega
                          have HNE : Hid (¬ m = j) := hmj
                          clear hmj
                          go_wp2_with (go_at_call 30; refine (mod_calls s5.i 6 w1c (by decide) (by decide) hi1 hi2).mono ?_; rintro e w' ⟨rfl, rfl⟩; rw [hmod])
                          go_round
                          case rel => exact ⟨k + 1, wv, by omega, by go_num, rfl, by rw [HST3.out, List.getD_eq_getElem?_getD, List.getElem?_set_ne HNE.out, ← List.getD_eq_getElem?_getD]; exact HWK.out⟩
                          case measure => simp [intOf]; omega
                      · rw [decide_eq_false hod] at ho8
                        have HST2 := HST.out
                        rw [if_neg hod] at HST2
                        have HST3 := Lib.hid HST2
                        clear HST HST2 hod hqv
                        go_wp2_with fail
                        go_round
                        case rel => exact ⟨k + 1, wv, by omega, by go_num, rfl, by rw [HST3.out]; exact HWK.out⟩
                        case measure => simp [intOf]; omega
                    · have HWF : Hid ((upS S1 (putsB l1 l1.length) ks).getD j [] = List.replicate 32 wv) := by
                        show _ = _
                        rw [← HWK.out]
                        by_cases hlt : k < l1.length
                        · rw [upS_stop S1 (putsB l1 l1.length) ks _ k rfl (by rw [putsB_length l1 _ (Nat.le_refl _)]; exact hk) (by omega)]
                        · rw [List.take_of_length_le (by rw [putsB_length l1 _ (Nat.le_refl _)]; omega)]
                      have HWV : Hid (b = List.replicate 32 wv) := by show _ = _; rw [← HBE.out]; exact HWF.out
                      clear HWF
                      by_cases hlt : k < l1.length
                      · have hki : (k : Int) < (l1.length : Int) := by omega
                        have hkki : ¬ ((k : Int) < (ks.length : Int)) := by omega
                        go_wp2_with fail
                        apply wp_region_rel 8 (Chg NoS) [(Veq _), (Veq _), (Veq _), (Veq _), (Veq _), (Veq _), (Veq _), (Veq _)] [[], [0], [1], [2], [2], [2, 4], [2, 3, 5], [2, 6]] [161, 162, 163, 164, 165, 166, 167, 168] (by kernel_rfl) (by kernel_rfl) rfl rfl rfl Chg.refl (fun _ _ _ => Chg.trans) ⟨Veq.lasts, Veq.lasts, Veq.lasts, Veq.lasts, Veq.lasts, Veq.lasts, Veq.lasts, Veq.lasts, trivial⟩ ?bops ?bfin
                        case bops =>
                          refine ⟨?bo0, ?bo1, ?bo2, ?bo3, ?bo4, ?bo5, ?bo6, ?bo7, trivial⟩
                          case bo0 =>
                            intro a wx hE hin
                            have i15 : a.eval (.tmp 15) = .int .i64 0 := hin 15 rfl
                            clear hin
                            have hcst : ∀ v, a.eval (.const v) = v := fun _ => rfl
                            have hfnc : ∀ f, a.eval (.func f) = .func (.func f) #[] #[] := fun _ => rfl
                            refine want_none rfl ?_
                            unfold Oper.wp
                            generalize a.eval = ρ at *
                            go_simp
                            try go_bits
                            first | exact rel_val (Chg.refl _) | (go_simp; exact rel_val (Chg.refl _))
                          case bo1 =>
                            rintro a wx hE hin (h0 : a.eval (.tmp 161) = _)
                            clear hin
                            have hcst : ∀ v, a.eval (.const v) = v := fun _ => rfl
                            have hfnc : ∀ f, a.eval (.func f) = .func (.func f) #[] #[] := fun _ => rfl
                            refine want_none rfl ?_
                            unfold Oper.wp
                            generalize a.eval = ρ at *
                            go_simp
                            try go_bits
                            first | exact rel_val (Chg.refl _) | (go_simp; exact rel_val (Chg.refl _))
                          case bo2 =>
                            rintro a wx hE hin (h1 : a.eval (.tmp 162) = _)
                            clear hin
                            have hcst : ∀ v, a.eval (.const v) = v := fun _ => rfl
                            have hfnc : ∀ f, a.eval (.func f) = .func (.func f) #[] #[] := fun _ => rfl
                            refine want_none rfl ?_
                            unfold Oper.wp
                            generalize a.eval = ρ at *
                            go_simp
                            try go_bits
                            first | exact rel_val (Chg.refl _) | (go_simp; exact rel_val (Chg.refl _))
                          case bo3 =>
                            rintro a wx hE hin (h2 : a.eval (.tmp 163) = _)
                            have i14 : a.eval (.tmp 14) = .pointer (some ⟨gx, 0, none⟩) := hin 14 rfl
                            clear hin
                            have hcst : ∀ v, a.eval (.const v) = v := fun _ => rfl
                            have hfnc : ∀ f, a.eval (.func f) = .func (.func f) #[] #[] := fun _ => rfl
                            refine want_yes rfl rfl h2 ?_
                            exact wp_ld 37 _ rfl gx 0 32 (bts b) (bts b) i14 ((K1c.out.drew).chg hE id) (by kernel_rfl) (by kernel_rfl) (by rw [bts_length, HB32.out]; decide) (by rw [List.drop_zero, List.take_of_length_le (by rw [bts_length, HB32.out]; decide)]) (rel_val (Chg.refl _))
                          case bo4 =>
                            rintro a wx hE hin (h2 : a.eval (.tmp 163) = _)
                            have i16 : a.eval (.tmp 16) = vu8 wv := hin 16 rfl
                            clear hin
                            have hcst : ∀ v, a.eval (.const v) = v := fun _ => rfl
                            have hfnc : ∀ f, a.eval (.func f) = .func (.func f) #[] #[] := fun _ => rfl
                            refine want_yes rfl rfl h2 ?_
                            unfold Oper.wp
                            generalize a.eval = ρ at *
                            go_simp
                            try go_bits
                            first | exact rel_val (Chg.refl _) | (go_simp; exact rel_val (Chg.refl _))
                          case bo5 =>
                            rintro a wx hE hin (h2 : a.eval (.tmp 163) = _) (h4 : a.eval (.tmp 165) = _)
                            clear hin
                            have hcst : ∀ v, a.eval (.const v) = v := fun _ => rfl
                            have hfnc : ∀ f, a.eval (.func f) = .func (.func f) #[] #[] := fun _ => rfl
                            refine want_yes rfl rfl h2 ?_
                            unfold Oper.wp
                            generalize a.eval = ρ at *
                            go_simp
                            refine (fill_calls wv wx).mono ?_
                            rintro e w' ⟨rfl, hb⟩
                            rw [← HWV.out]
                            exact rel_val (.of_below hb)
                          case bo6 =>
                            rintro a wx hE hin (h2 : a.eval (.tmp 163) = _) (h3 : a.eval (.tmp 164) = _) (h5 : a.eval (.tmp 166) = _)
                            clear hin
                            have hcst : ∀ v, a.eval (.const v) = v := fun _ => rfl
                            have hfnc : ∀ f, a.eval (.func f) = .func (.func f) #[] #[] := fun _ => rfl
                            refine want_yes rfl rfl h2 ?_
                            exact wp_eq_bytes true 37 37 _ _ rfl 5 32 Try.underlying37 Try.underlying5 (by kernel_rfl) (by kernel_rfl) b b h3 h5 HB32.out HB32.out (by rw [show (true ^^ decide (b = b)) = false by simp]; exact rel_val (e := .bool false) (Chg.refl _))
                          case bo7 =>
                            rintro a wx hE hin (h2 : a.eval (.tmp 163) = _) (h6 : a.eval (.tmp 167) = _)
                            clear hin
                            have hcst : ∀ v, a.eval (.const v) = v := fun _ => rfl
                            have hfnc : ∀ f, a.eval (.func f) = .func (.func f) #[] #[] := fun _ => rfl
                            refine want_none rfl ?_
                            unfold Oper.wp
                            generalize a.eval = ρ at *
                            go_simp
                            try go_bits
                            first | exact rel_val (Chg.refl _) | (go_simp; exact rel_val (Chg.refl _))
                        case bfin =>
                          intro wx hE
                          rintro _ rfl _ rfl _ rfl _ rfl _ rfl _ rfl _ rfl _ rfl
                          simp only [FinOk, List.take_succ_cons, List.take_zero, List.take_nil, List.drop_succ_cons, List.drop_zero, List.drop_nil, Act.put, List.setIfInBounds_toArray, List.set_cons_succ, List.set_cons_zero]
                          have HD7 := Lib.hid (HD1c.out.drew.chgN hE)
                          have HK7 := Lib.hid (HWAc.out.drew.chg hE id)
                          clear hE
                          go_wp2_with fail
                          go_roundw
                          case rel => exact ⟨j + 1, by omega, by go_num, HD7.out, HK7.out⟩
                          case measure => simp [intOf]; omega
                      · have hki : ¬ ((k : Int) < (l1.length : Int)) := by omega
                        go_wp2_with fail
                        apply wp_region_rel 8 (Chg NoS) [(Veq _), (Veq _), (Veq _), (Veq _), (Veq _), (Veq _), (Veq _), (Veq _)] [[], [0], [1], [2], [2], [2, 4], [2, 3, 5], [2, 6]] [161, 162, 163, 164, 165, 166, 167, 168] (by kernel_rfl) (by kernel_rfl) rfl rfl rfl Chg.refl (fun _ _ _ => Chg.trans) ⟨Veq.lasts, Veq.lasts, Veq.lasts, Veq.lasts, Veq.lasts, Veq.lasts, Veq.lasts, Veq.lasts, trivial⟩ ?bops ?bfin
                        case bops =>
                          refine ⟨?bo0, ?bo1, ?bo2, ?bo3, ?bo4, ?bo5, ?bo6, ?bo7, trivial⟩
                          case bo0 =>
                            intro a wx hE hin
                            have i15 : a.eval (.tmp 15) = .int .i64 0 := hin 15 rfl
                            clear hin
                            have hcst : ∀ v, a.eval (.const v) = v := fun _ => rfl
                            have hfnc : ∀ f, a.eval (.func f) = .func (.func f) #[] #[] := fun _ => rfl
                            refine want_none rfl ?_
                            unfold Oper.wp
                            generalize a.eval = ρ at *
                            go_simp
                            try go_bits
                            first | exact rel_val (Chg.refl _) | (go_simp; exact rel_val (Chg.refl _))
                          case bo1 =>
                            rintro a wx hE hin (h0 : a.eval (.tmp 161) = _)
                            clear hin
                            have hcst : ∀ v, a.eval (.const v) = v := fun _ => rfl
                            have hfnc : ∀ f, a.eval (.func f) = .func (.func f) #[] #[] := fun _ => rfl
                            refine want_none rfl ?_
                            unfold Oper.wp
                            generalize a.eval = ρ at *
                            go_simp
                            try go_bits
                            first | exact rel_val (Chg.refl _) | (go_simp; exact rel_val (Chg.refl _))
                          case bo2 =>
                            rintro a wx hE hin (h1 : a.eval (.tmp 162) = _)
                            clear hin
                            have hcst : ∀ v, a.eval (.const v) = v := fun _ => rfl
                            have hfnc : ∀ f, a.eval (.func f) = .func (.func f) #[] #[] := fun _ => rfl
                            refine want_none rfl ?_
                            unfold Oper.wp
                            generalize a.eval = ρ at *
                            go_simp
                            try go_bits
                            first | exact rel_val (Chg.refl _) | (go_simp; exact rel_val (Chg.refl _))
                          case bo3 =>
                            rintro a wx hE hin (h2 : a.eval (.tmp 163) = _)
                            have i14 : a.eval (.tmp 14) = .pointer (some ⟨gx, 0, none⟩) := hin 14 rfl
                            clear hin
                            have hcst : ∀ v, a.eval (.const v) = v := fun _ => rfl
                            have hfnc : ∀ f, a.eval (.func f) = .func (.func f) #[] #[] := fun _ => rfl
                            refine want_yes rfl rfl h2 ?_
                            exact wp_ld 37 _ rfl gx 0 32 (bts b) (bts b) i14 ((K1c.out.drew).chg hE id) (by kernel_rfl) (by kernel_rfl) (by rw [bts_length, HB32.out]; decide) (by rw [List.drop_zero, List.take_of_length_le (by rw [bts_length, HB32.out]; decide)]) (rel_val (Chg.refl _))
                          case bo4 =>
                            rintro a wx hE hin (h2 : a.eval (.tmp 163) = _)
                            have i16 : a.eval (.tmp 16) = vu8 wv := hin 16 rfl
                            clear hin
                            have hcst : ∀ v, a.eval (.const v) = v := fun _ => rfl
                            have hfnc : ∀ f, a.eval (.func f) = .func (.func f) #[] #[] := fun _ => rfl
                            refine want_yes rfl rfl h2 ?_
                            unfold Oper.wp
                            generalize a.eval = ρ at *
                            go_simp
                            try go_bits
                            first | exact rel_val (Chg.refl _) | (go_simp; exact rel_val (Chg.refl _))
                          case bo5 =>
                            rintro a wx hE hin (h2 : a.eval (.tmp 163) = _) (h4 : a.eval (.tmp 165) = _)
                            clear hin
                            have hcst : ∀ v, a.eval (.const v) = v := fun _ => rfl
                            have hfnc : ∀ f, a.eval (.func f) = .func (.func f) #[] #[] := fun _ => rfl
                            refine want_yes rfl rfl h2 ?_
                            unfold Oper.wp
                            generalize a.eval = ρ at *
                            go_simp
                            refine (fill_calls wv wx).mono ?_
                            rintro e w' ⟨rfl, hb⟩
                            rw [← HWV.out]
                            exact rel_val (.of_below hb)
                          case bo6 =>
                            rintro a wx hE hin (h2 : a.eval (.tmp 163) = _) (h3 : a.eval (.tmp 164) = _) (h5 : a.eval (.tmp 166) = _)
                            clear hin
                            have hcst : ∀ v, a.eval (.const v) = v := fun _ => rfl
                            have hfnc : ∀ f, a.eval (.func f) = .func (.func f) #[] #[] := fun _ => rfl
                            refine want_yes rfl rfl h2 ?_
                            exact wp_eq_bytes true 37 37 _ _ rfl 5 32 Try.underlying37 Try.underlying5 (by kernel_rfl) (by kernel_rfl) b b h3 h5 HB32.out HB32.out (by rw [show (true ^^ decide (b = b)) = false by simp]; exact rel_val (e := .bool false) (Chg.refl _))
                          case bo7 =>
                            rintro a wx hE hin (h2 : a.eval (.tmp 163) = _) (h6 : a.eval (.tmp 167) = _)
                            clear hin
                            have hcst : ∀ v, a.eval (.const v) = v := fun _ => rfl
                            have hfnc : ∀ f, a.eval (.func f) = .func (.func f) #[] #[] := fun _ => rfl
                            refine want_none rfl ?_
                            unfold Oper.wp
                            generalize a.eval = ρ at *
                            go_simp
                            try go_bits
                            first | exact rel_val (Chg.refl _) | (go_simp; exact rel_val (Chg.refl _))
                        case bfin =>
                          intro wx hE
                          rintro _ rfl _ rfl _ rfl _ rfl _ rfl _ rfl _ rfl _ rfl
                          simp only [FinOk, List.take_succ_cons, List.take_zero, List.take_nil, List.drop_succ_cons, List.drop_zero, List.drop_nil, Act.put, List.setIfInBounds_toArray, List.set_cons_succ, List.set_cons_zero]
                          have HD7 := Lib.hid (HD1c.out.drew.chgN hE)
                          have HK7 := Lib.hid (HWAc.out.drew.chg hE id)
                          clear hE
                          go_wp2_with fail
                          go_roundw
                          case rel => exact ⟨j + 1, by omega, by go_num, HD7.out, HK7.out⟩
                          case measure => simp [intOf]; omega

                · have hji : ¬ ((j : Int) < 6) := by omega
                  go_wp2_with fail
                  refine (wakes5_calls wr).mono ?_
                  rintro e w9 ⟨rfl, hb⟩
                  have E9 : Hid (Below w.heap.size w w9) := HD.out.bel.trans (hb.mono HD.out.bel.size)
                  clear hb
                  go_wp2
                  go_ret
                  exact ⟨rfl, E9.out⟩
end Go.Proofs.Ytnpcehlbboeadaa
