/- The walk of DiskReads. -/
import Derived.Test.YtnpcehlbboeadaaDiskLive
import Derived.Test.YtnpcehlbboeadaaMod
namespace Go.Proofs.Ytnpcehlbboeadaa
open Go.RowKit
set_option linter.unusedVariables false
set_option linter.unusedSimpArgs false

theorem secs_len (ws : List (List UInt8)) (h : ∀ b ∈ ws, b.length = 32) : (secs ws).length = ws.length * 32 := flat_length bts 32 ws (fun s hs => by rw [bts_length]; exact h s hs)
theorem secs_piece (ws : List (List UInt8)) (h : ∀ b ∈ ws, b.length = 32) (i : Nat) (hi : i < ws.length) : ((secs ws).drop (i * 32)).take 32 = bts (ws.getD i []) :=
  flat_piece bts 32 ws i _ (fun s hs => by rw [bts_length]; exact h s hs) (by rw [List.getD_eq_getElem?_getD, List.getElem?_eq_getElem hi]; rfl)
theorem secs_set (ws : List (List UInt8)) (h : ∀ b ∈ ws, b.length = 32) (i : Nat) (b : List UInt8) (hb : b.length = 32) (hi : i < ws.length) : splice (secs ws) (i * 32) (bts b) = secs (ws.set i b) :=
  flat_set bts 32 ws i b (fun s hs => by rw [bts_length]; exact h s hs) (by rw [bts_length, hb]) hi
theorem all32_set {ws : List (List UInt8)} (h : ∀ b ∈ ws, b.length = 32) (i : Nat) (b : List UInt8) (hb : b.length = 32) : ∀ c ∈ ws.set i b, c.length = 32 := by
  intro c hc
  rcases List.mem_or_eq_of_mem_set hc with h2 | rfl
  · exact h c h2
  · exact hb
theorem getD32 {ws : List (List UInt8)} (h : ∀ b ∈ ws, b.length = 32) {i : Nat} (hi : i < ws.length) : (ws.getD i []).length = 32 := by
  rw [List.getD_eq_getElem?_getD, List.getElem?_eq_getElem hi]
  exact h _ (List.getElem_mem hi)
/-- What the first loop keeps. -/
structure ReadsAt (w : World) (g gs g5 : Nat) (k : Nat) (lv : Value) (S : List (List UInt8)) (L : List (Nat × List UInt8)) (ws : List (List UInt8)) (wr : World) : Prop where
  ll : L.length ≤ k
  sl : S.length = 7
  wl : ws.length = 7
  w32 : ∀ b ∈ ws, b.length = 32
  eq : ∀ j, j < 7 → nowS S L j = ws.getD j []
  ds : DSes 91 w wr g gs lv ⟨S, L, -1, false⟩
  bk : Bk wr g5 (secs ws)
  nf : ¬ footD g gs lv g5
  gp : w.heap.size ≤ g5
def ReadsRel (w : World) (g gs g5 m : Nat) (v : Value) (wr : World) : Prop := ∃ (k : Nat) (lv : Value) (S : List (List UInt8)) (L : List (Nat × List UInt8)) (ws : List (List UInt8)), k ≤ m ∧ v = .int .i64 k ∧ ReadsAt w g gs g5 k lv S L ws wr
def ReadsRel2 (w : World) (g gs g5 : Nat) (S : List (List UInt8)) (L : List (Nat × List UInt8)) (ws : List (List UInt8)) (v : Value) (wr : World) : Prop := ∃ (j : Nat) (lv : Value), j ≤ 7 ∧ v = .int .i64 j ∧ DSes 91 w wr g gs lv ⟨S, L, -1, false⟩ ∧ Bk wr g5 (secs ws) ∧ ¬ footD g gs lv g5
set_option maxRecDepth 100000 in
set_option maxHeartbeats 8000000 in
theorem diskReads_calls (w : World) (A : Option Addr) (n c : Nat) (l : List Stp) (hl : l.length = n) (hnc : n ≤ c) (hm : c ≤ 9223372036854775807) (hr : Rd w A (l.flatMap stpC)) (hok : ∀ s ∈ l, StpOk w s) :
    Calls Try.prog 7 #[.slice A n c] w fun e w' => e = .returned (.bool true) ∧ Below w.heap.size w w' := by
  subst hl
  have HR := Lib.hid hr
  have HOK := Lib.hid hok
  clear hr hok
  go_enter Try.func7, Try.ntmps7
  go_wp2_with fail
  refine (diskNew_yes 7 w (by decide) (by decide)).mono ?_
  intro e w1 hp
  obtain ⟨g, gs, rfl, hs⟩ := DSes.new (wT := 91) (by decide) (Below.refl _ _) hp
  have HD1 : Hid (DSes 91 w w1 g gs (.slice none 0 0) (Dst.new 7)) := hs
  clear hp hs
  go_wp2_with fail
  refine (fair_calls w1 A l.length c l rfl (by omega) (HR.out.below HD1.out.bel)).mono ?_
  rintro e w' ⟨rfl, rfl⟩
  cases hq : fairB l with
  | false =>
    clear hq
    go_wp2_with fail
    refine (wakes5_calls w1).mono ?_
    rintro e w3 ⟨rfl, hb⟩
    have E3 : Hid (Below w.heap.size w w3) := HD1.out.bel.trans (hb.mono HD1.out.bel.size)
    clear hb
    go_wp2
    go_ret
    exact ⟨rfl, E3.out⟩
  | true =>
    have HLL : Hid (l.length ≤ 200) := by
      show l.length ≤ 200
      rw [fairB, Bool.and_eq_true] at hq
      exact of_decide_eq_true hq.2
    clear hq
    go_wp2_with (refine wpList_al rfl 59 rfl (bts (List.replicate 224 0)) (by kernel_rfl) ?_)
    intro g5 w2 hg hb hc hs
    have HD2 := Lib.hid (HD1.out.chgN hc)
    have hb' : Bk w2 g5 (secs (List.replicate 7 (List.replicate 32 0))) := by rw [secs_new]; exact hb
    have H0 : Hid (ReadsRel w g gs g5 l.length (.int .i64 0) w2) := ⟨0, .slice none 0 0, (Dst.new 7).S, [], List.replicate 7 (List.replicate 32 0), by omega, rfl, ⟨by simp, by simp [Dst.new], by simp, fun b hb => by rw [List.eq_of_mem_replicate hb, List.length_replicate], fun j _ => rfl, HD2.out, hb', fun hf => by have := DiskAt.lt HD1.out.at_ _ hf; rw [hg] at this; omega, by rw [hg]; exact HD1.out.bel.size⟩⟩
    clear hb hc hs hb' hg
    go_wp2_with fail
    go_loopw [6] (fun v wr => ReadsRel w g gs g5 l.length v wr) (fun v _ => l.length - (intOf v).toNat)
    case atStart => exact H0.out
    case round =>
      obtain ⟨k, lv, S, L, ws, hk, rfl, hrel⟩ := hrel
      have HRL := Lib.hid hrel
      have HSZ : Hid (wr.heap.size = wr.heap.size) := rfl
      clear hrel H0 HSZ
      by_cases hlt : k < l.length
      · have hki : (k : Int) < (l.length : Int) := by omega
        have HRr := Lib.hid (HR.out.below HRL.out.ds.bel)
        obtain ⟨ad, hA, h0, h1, h2, h3⟩ := stp_cells HRr.out hlt
        subst hA
        have hsok := HOK.out _ (List.getElem_mem hlt)
        have hi1 := hsok.i1
        have hi2 := hsok.i2
        obtain ⟨s, hs⟩ : ∃ s, l[k] = s := ⟨_, rfl⟩
        rw [hs] at h0 h1 h2 h3 hi1 hi2
        clear hs hsok h3
        obtain ⟨m, hm7, hmod⟩ : ∃ m : Nat, m < 7 ∧ s.i % 7 = (m : Int) := ⟨(s.i % 7).toNat, by omega, by omega⟩
        have hm7i : (m : Int) < 7 := by omega
        have HS7 : Hid (m < S.length) := by show _ < _; rw [HRL.out.sl]; exact hm7
        by_cases hkind : s.k = 2
        · have hkb : (s.k == 2) = true := by rw [hkind]; rfl
          go_wp2_with (go_at_call 30; refine (mod_calls s.i 7 wr (by decide) (by decide) hi1 hi2).mono ?_; rintro e w' ⟨rfl, rfl⟩; rw [hmod])
          refine (diskFlush_at wr g gs lv _ HRL.out.ds.at_ live_lo live_hi).mono ?_
          intro e w3 hp
          rw [(flush_live S L).1, (flush_live S L).2] at hp
          obtain ⟨rfl, lv3, hd3, hnf3, hbk3, hbel3⟩ := hp.beside HRL.out.ds HRL.out.nf HRL.out.bk
          have HD3 := Lib.hid hd3
          have HRL3 : Hid (ReadsAt w g gs g5 (k + 1) lv3 (doneS S L) [] ws w3) := ⟨by simp, by rw [doneS_length]; exact HRL.out.sl, HRL.out.wl, HRL.out.w32, fun j hj => by rw [nowS_done L S j (by rw [HRL.out.sl]; exact hj)]; exact HRL.out.eq j hj, hd3, hbk3, hnf3, HRL.out.gp⟩
          clear hp hd3 hnf3 hbk3 hbel3 h0 h1 h2
          go_wp2_with fail
          refine (diskLoose_at w3 g gs lv3 _ HD3.out.at_).mono ?_
          rintro e w' ⟨rfl, rfl⟩
          go_wp2_with fail
          go_roundw
          case rel => exact ⟨k + 1, lv3, doneS S L, [], ws, by omega, by go_num, HRL3.out⟩
          case measure => simp [intOf]; omega
        · have hkb : (s.k == 2) = false := by rw [beq_eq_false_iff_ne]; exact hkind
          go_wp2_with (go_at_call 30; refine (mod_calls s.i 7 wr (by decide) (by decide) hi1 hi2).mono ?_; rintro e w' ⟨rfl, rfl⟩; rw [hmod])
          refine (diskLoose_at wr g gs lv _ HRL.out.ds.at_).mono ?_
          rintro e w' ⟨rfl, rfl⟩
          go_wp2_with fail
          refine (fill_calls s.v wr).mono ?_
          rintro e w3 ⟨rfl, hb⟩
          have HD3 := Lib.hid (HRL.out.ds.below hb)
          have HB3 := Lib.hid (HRL.out.bk.below hb)
          have HBF : Hid (List.replicate 32 s.v = List.replicate 32 s.v) := rfl
          obtain ⟨b, hbv⟩ : ∃ b, List.replicate 32 s.v = b := ⟨_, rfl⟩
          have HB32 : Hid (b.length = 32) := by show _ = _; rw [← hbv, List.length_replicate]
          have HWL : Hid ((secs ws).length = 224) := by show _ = _; rw [secs_len ws HRL.out.w32, HRL.out.wl]
          rw [hbv]
          clear hb HBF hbv h0 h1 h2
          go_wp2_with (refine wpList_st rfl 37 (.tmp 71) (.tmp 70) rfl g5 (m * 32) 32 (secs ws) (bts b) rfl rfl HB3.out (by kernel_rfl) (by rw [bts_length, HB32.out]) (by rw [HWL.out]; omega) (one_bts _) ?_)
          intro w4 hb4 hc4
          rw [secs_set ws HRL.out.w32 m b HB32.out (by rw [HRL.out.wl]; exact hm7)] at hb4
          have HD4 : Hid (DSes 91 w w4 g gs lv ⟨S, L, -1, false⟩) := ⟨DiskAt.chg HD3.out.at_ hc4 (fun j hj he => HRL.out.nf (by rw [← he]; exact hj)), HD3.out.fr, HD3.out.bel.trans (hc4.below HD3.out.bel.size (fun j hj he => by have := HRL.out.gp; omega))⟩
          have HB4 := Lib.hid hb4
          have HW4 := Lib.hid (all32_set HRL.out.w32 m b HB32.out)
          have HPC : Hid (((secs (ws.set m b)).drop (m * 32)).take 32 = bts b) := by
            show _ = _
            rw [secs_piece _ HW4.out m (by rw [List.length_set, HRL.out.wl]; exact hm7)]
            congr 1
            rw [List.getD_eq_getElem?_getD, List.getElem?_set_self (by rw [HRL.out.wl]; exact hm7)]
            rfl
          have HWL4 : Hid ((secs (ws.set m b)).length = 224) := by show _ = _; rw [secs_len _ HW4.out, List.length_set, HRL.out.wl]
          clear hb4 hc4 HD3 HB3 HWL
          go_wp2_with (refine wpList_ld rfl 37 (.tmp 75) rfl g5 (m * 32) 32 (secs (ws.set m b)) (bts b) rfl HB4.out (by kernel_rfl) (by kernel_rfl) (by rw [HWL4.out]; omega) HPC.out ?_)
          go_wp2_with fail
          refine (diskWrite_at w4 g gs lv _ m b HD4.out.at_ HB32.out (by have := HRL.out.ll; have := HLL.out; show L.length ≤ 1000; omega) live_lo live_hi).mono ?_
          intro e w5 hp
          rw [(write_live S L m b HS7.out).1, (write_live S L m b HS7.out).2] at hp
          obtain ⟨rfl, lv3, hd3, hnf3, hbk3, hbel3⟩ := hp.beside HD4.out HRL.out.nf HB4.out
          have HD5 := Lib.hid hd3
          have HRL3 : Hid (ReadsAt w g gs g5 (k + 1) lv3 S (L ++ [(m, b)]) (ws.set m b) w5) := ⟨by have := HRL.out.ll; simp; omega, HRL.out.sl, by rw [List.length_set]; exact HRL.out.wl, HW4.out, fun j hj => by
              rw [nowS_snoc, HRL.out.eq j hj]
              simp only [List.getD_eq_getElem?_getD, List.getElem?_set]
              by_cases hmj : m = j
              · subst hmj
                rw [if_pos rfl, if_pos rfl, if_pos (by rw [HRL.out.wl]; exact hj)]
                rfl
              · rw [if_neg hmj, if_neg hmj], hd3, hbk3, hnf3, HRL.out.gp⟩
          clear hp hd3 hnf3 hbk3 hbel3
          go_wp2_with fail
          refine (diskLoose_at w5 g gs lv3 _ HD5.out.at_).mono ?_
          rintro e w' ⟨rfl, rfl⟩
          have hle : ((L ++ [(m, b)]).length : Int) = (L.length : Int) + 1 := by simp
          rw [show (Dst.mk S (L ++ [(m, b)]) (-1) false).L.length = (L ++ [(m, b)]).length from rfl, hle]
          have hL200 : (L.length : Int) ≤ 200 := by have := HRL.out.ll; have := HLL.out; omega
          go_wp2_with fail
          go_roundw
          case rel => exact ⟨k + 1, lv3, S, L ++ [(m, b)], ws.set m b, by omega, by go_num, HRL3.out⟩
          case measure => simp [intOf]; omega
      · have hki : ¬ ((k : Int) < (l.length : Int)) := by omega
        have HX0 : Hid (ReadsRel2 w g gs g5 S L ws (.int .i64 0) wr) := ⟨0, lv, by omega, rfl, HRL.out.ds, HRL.out.bk, HRL.out.nf⟩
        have HWL : Hid ((secs ws).length = 224) := by show _ = _; rw [secs_len ws HRL.out.w32, HRL.out.wl]
        go_wp2_with fail
        go_loopw [9] (fun v w2r => ReadsRel2 w g gs g5 S L ws v w2r) (fun v _ => 7 - (intOf v).toNat)
        case atStart => exact HX0.out
        case round =>
          obtain ⟨j, lv2, hj, rfl, hd2, hb2, hnf2⟩ := hrel
          have HD2 := Lib.hid hd2
          have HW2 := Lib.hid hb2
          have HNF2 := Lib.hid hnf2
          clear hd2 hb2 hnf2 HX0
          by_cases hj7 : j < 7
          · have hji : (j : Int) < 7 := by omega
            have hrb := (read_live S L (-1) j (by rw [HRL.out.sl]; exact hj7)).1
            rw [HRL.out.eq j hj7] at hrb
            have hre := (read_live S L (-1) j (by rw [HRL.out.sl]; exact hj7)).2
            have hb32 := getD32 HRL.out.w32 (i := j) (by rw [HRL.out.wl]; exact hj7)
            have hpc := secs_piece ws HRL.out.w32 j (by rw [HRL.out.wl]; exact hj7)
            obtain ⟨b, hb⟩ : ∃ b, ws.getD j [] = b := ⟨_, rfl⟩
            rw [hb] at hrb hb32 hpc
            have HPC := Lib.hid hpc
            have HB32 := Lib.hid hb32
            have HRB := Lib.hid hrb
            have HRE := Lib.hid hre
            clear hpc hb32 hrb hre hb
            go_wp2_with fail
            refine (diskRead_at wr g gs lv2 _ j HD2.out.at_).mono ?_
            rintro e w3 ⟨rfl, hb⟩
            rw [HRB.out, HRE.out]
            have HD3 := Lib.hid (HD2.out.below hb)
            have HW3 := Lib.hid (HW2.out.below hb)
            clear hb
            go_wp2_with (refine wpList_al rfl 37 rfl (bts (List.replicate 32 0)) (by kernel_rfl) ?_)
            intro g10 w4 hg hb hc hs
            have HD4 := Lib.hid (HD3.out.chgN hc)
            have HW4 := Lib.hid (HW3.out.chg hc id)
            have HF4 : Hid (∀ q, footD g gs lv2 q → q < g10) := by intro q hq; rw [hg]; exact DiskAt.lt HD3.out.at_ q hq
            have HG4 : Hid (g5 < g10 ∧ w.heap.size ≤ g10) := by constructor; · rw [hg]; exact HW3.out.lt
                                                                · rw [hg]; exact HD3.out.bel.size
            have K4 := Lib.hid hb
            clear hb hc hs hg
            go_wp2_with (refine wpList_st rfl 37 (.tmp 10) (.tmp 94) rfl g10 0 32 (bts (List.replicate 32 0)) (bts b) rfl rfl K4.out (by kernel_rfl) (by rw [bts_length, HB32.out]) (by decide) (one_bts _) ?_)
            intro w6 hb hc
            rw [splice_whole _ _ (by rw [bts_length, HB32.out]; rfl)] at hb
            have K6 := Lib.hid hb
            have HD6 : Hid (DSes 91 w w6 g gs lv2 ⟨S, L, -1, false⟩) := ⟨DiskAt.chg HD4.out.at_ hc (fun q hq he => by have := HF4.out q hq; omega), HD4.out.fr, HD4.out.bel.trans (hc.below HD4.out.bel.size (fun q hq he => by have := HG4.out.2; omega))⟩
            have HW6 := Lib.hid (HW4.out.chg hc (fun he => by have := HG4.out.1; omega))
            clear hb hc
            go_wp2_with fail
            apply wp_region_rel 9 (Chg NoS) [(Veq _), (Veq _), (Veq _), (Veq _), (Veq _), (Veq _), (Veq _), (Veq _), (Veq _)] [[], [0], [1], [2], [2], [2, 4], [2, 5], [2, 3, 6], [2, 7]] [96, 97, 98, 99, 100, 101, 102, 103, 104] (by kernel_rfl) (by kernel_rfl) rfl rfl rfl Chg.refl (fun _ _ _ => Chg.trans) ⟨Veq.lasts, Veq.lasts, Veq.lasts, Veq.lasts, Veq.lasts, Veq.lasts, Veq.lasts, Veq.lasts, Veq.lasts, trivial⟩ ?aops ?afin
            case aops =>
              refine ⟨?ao0, ?ao1, ?ao2, ?ao3, ?ao4, ?ao5, ?ao6, ?ao7, ?ao8, trivial⟩
              case ao0 =>
                intro a wx hE hin
                have i11 : a.eval (.tmp 11) = .int .i64 0 := hin 11 rfl
                clear hin
                have hcst : ∀ v, a.eval (.const v) = v := fun _ => rfl
                have hfnc : ∀ f, a.eval (.func f) = .func (.func f) #[] #[] := fun _ => rfl
                refine want_none rfl ?_
                unfold Oper.wp
                generalize a.eval = ρ at *
                go_simp
                try go_bits
                first | exact rel_val (Chg.refl _) | (go_simp; exact rel_val (Chg.refl _))
              case ao1 =>
                rintro a wx hE hin (h0 : a.eval (.tmp 96) = _)
                clear hin
                have hcst : ∀ v, a.eval (.const v) = v := fun _ => rfl
                have hfnc : ∀ f, a.eval (.func f) = .func (.func f) #[] #[] := fun _ => rfl
                refine want_none rfl ?_
                unfold Oper.wp
                generalize a.eval = ρ at *
                go_simp
                try go_bits
                first | exact rel_val (Chg.refl _) | (go_simp; exact rel_val (Chg.refl _))
              case ao2 =>
                rintro a wx hE hin (h1 : a.eval (.tmp 97) = _)
                clear hin
                have hcst : ∀ v, a.eval (.const v) = v := fun _ => rfl
                have hfnc : ∀ f, a.eval (.func f) = .func (.func f) #[] #[] := fun _ => rfl
                refine want_none rfl ?_
                unfold Oper.wp
                generalize a.eval = ρ at *
                go_simp
                try go_bits
                first | exact rel_val (Chg.refl _) | (go_simp; exact rel_val (Chg.refl _))
              case ao3 =>
                rintro a wx hE hin (h2 : a.eval (.tmp 98) = _)
                have i10 : a.eval (.tmp 10) = .pointer (some ⟨g10, 0, none⟩) := hin 10 rfl
                clear hin
                have hcst : ∀ v, a.eval (.const v) = v := fun _ => rfl
                have hfnc : ∀ f, a.eval (.func f) = .func (.func f) #[] #[] := fun _ => rfl
                refine want_yes rfl rfl h2 ?_
                exact wp_ld 37 _ rfl g10 0 32 (bts b) (bts b) i10 ((K6.out.drew).chg hE id) (by kernel_rfl) (by kernel_rfl) (by rw [bts_length, HB32.out]; decide) (by rw [List.drop_zero, List.take_of_length_le (by rw [bts_length, HB32.out]; decide)]) (rel_val (Chg.refl _))
              case ao4 =>
                rintro a wx hE hin (h2 : a.eval (.tmp 98) = _)
                have i9 : a.eval (.tmp 9) = .int .i64 j := hin 9 rfl
                clear hin
                have hcst : ∀ v, a.eval (.const v) = v := fun _ => rfl
                have hfnc : ∀ f, a.eval (.func f) = .func (.func f) #[] #[] := fun _ => rfl
                refine want_yes rfl rfl h2 ?_
                unfold Oper.wp
                generalize a.eval = ρ at *
                go_simp
                try go_bits
                first | exact rel_val (Chg.refl _) | (go_simp; exact rel_val (Chg.refl _))
              case ao5 =>
                rintro a wx hE hin (h2 : a.eval (.tmp 98) = _) (h4 : a.eval (.tmp 100) = _)
                have i5 : a.eval (.tmp 5) = .pointer (some ⟨g5, 0, none⟩) := hin 5 rfl
                clear hin
                have hcst : ∀ v, a.eval (.const v) = v := fun _ => rfl
                have hfnc : ∀ f, a.eval (.func f) = .func (.func f) #[] #[] := fun _ => rfl
                refine want_yes rfl rfl h2 ?_
                unfold Oper.wp
                generalize a.eval = ρ at *
                go_simp
                try go_bits
                first | exact rel_val (Chg.refl _) | (go_simp; exact rel_val (Chg.refl _))
              case ao6 =>
                rintro a wx hE hin (h2 : a.eval (.tmp 98) = _) (h5 : a.eval (.tmp 101) = _)
                clear hin
                have hcst : ∀ v, a.eval (.const v) = v := fun _ => rfl
                have hfnc : ∀ f, a.eval (.func f) = .func (.func f) #[] #[] := fun _ => rfl
                refine want_yes rfl rfl h2 ?_
                exact wp_ld 37 _ rfl g5 (j * 32) 32 (secs ws) (bts b) h5 ((HW6.out.drew).chg hE id) (by kernel_rfl) (by kernel_rfl) (by have := HWL.out; omega) HPC.out (rel_val (Chg.refl _))
              case ao7 =>
                rintro a wx hE hin (h2 : a.eval (.tmp 98) = _) (h3 : a.eval (.tmp 99) = _) (h6 : a.eval (.tmp 102) = _)
                clear hin
                have hcst : ∀ v, a.eval (.const v) = v := fun _ => rfl
                have hfnc : ∀ f, a.eval (.func f) = .func (.func f) #[] #[] := fun _ => rfl
                refine want_yes rfl rfl h2 ?_
                exact wp_eq_bytes true 37 37 _ _ rfl 5 32 Try.underlying37 Try.underlying5 (by kernel_rfl) (by kernel_rfl) b b h3 h6 HB32.out HB32.out (by rw [show (true ^^ decide (b = b)) = false by simp]; exact rel_val (e := .bool false) (Chg.refl _))
              case ao8 =>
                rintro a wx hE hin (h2 : a.eval (.tmp 98) = _) (h7 : a.eval (.tmp 103) = _)
                clear hin
                have hcst : ∀ v, a.eval (.const v) = v := fun _ => rfl
                have hfnc : ∀ f, a.eval (.func f) = .func (.func f) #[] #[] := fun _ => rfl
                refine want_none rfl ?_
                unfold Oper.wp
                generalize a.eval = ρ at *
                go_simp
                try go_bits
                first | exact rel_val (Chg.refl _) | (go_simp; exact rel_val (Chg.refl _))
            case afin =>
              intro wx hE
              rintro _ rfl _ rfl _ rfl _ rfl _ rfl _ rfl _ rfl _ rfl _ rfl
              simp only [FinOk, List.take_succ_cons, List.take_zero, List.take_nil, List.drop_succ_cons, List.drop_zero, List.drop_nil, Act.put, List.setIfInBounds_toArray, List.set_cons_succ, List.set_cons_zero]
              have HD7 := Lib.hid (HD6.out.drew.chgN hE)
              have HW7 := Lib.hid ((HW6.out.drew).chg hE id)
              clear hE
              go_wp2_with fail
              go_roundw
              case rel => exact ⟨j + 1, lv2, by omega, by go_num, HD7.out, HW7.out, HNF2.out⟩
              case measure => simp [intOf]; omega
          · have hji : ¬ ((j : Int) < 7) := by omega
            go_wp2_with fail
            refine (wakes5_calls wr).mono ?_
            rintro e w3 ⟨rfl, hb⟩
            have E3 : Hid (Below w.heap.size w w3) := HD2.out.bel.trans (hb.mono HD2.out.bel.size)
            clear hb
            go_wp2
            go_ret
            exact ⟨rfl, E3.out⟩
end Go.Proofs.Ytnpcehlbboeadaa
