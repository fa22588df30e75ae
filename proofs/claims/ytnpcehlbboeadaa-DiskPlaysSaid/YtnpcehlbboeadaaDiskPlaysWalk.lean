/- The walk of DiskPlays. -/
import Derived.Test.YtnpcehlbboeadaaDiskTwo
namespace Go.Proofs.Ytnpcehlbboeadaa
open Go.RowKit
set_option linter.unusedVariables false
set_option linter.unusedSimpArgs false

def PlaysRel (w : World) (g gs q qs N m : Nat) (v : Value) (wr : World) : Prop := ∃ (k : Nat) (lv mv : Value) (t : Dst), k ≤ m ∧ v = .int .i64 k ∧ TOk N k t ∧ Two w wr 91 g gs lv t.low 93 q qs mv t
def PlaysRel2 (w : World) (g gs q qs N : Nat) (lv mv : Value) (SS : List (List UInt8)) (v : Value) (wr : World) : Prop := ∃ (j : Nat), j ≤ N ∧ v = .int .i64 j ∧ Two w wr 91 g gs lv ⟨SS, [], -1, false⟩ 93 q qs mv ⟨SS, [], -1, false⟩
set_option maxRecDepth 100000 in
set_option maxHeartbeats 8000000 in
theorem diskPlays_no (w : World) (n : Int) (A : Option Addr) (c : Nat) (l : List Stp) (hm : l.length ≤ 9223372036854775807) (hr : Rd w A (l.flatMap stpC)) (h : fairB l = false ∨ n < 1 ∨ 60 < n) :
    Calls Try.prog 3 #[.int .i64 n, .slice A l.length c] w fun e w' => e = .returned (.bool true) ∧ Below w.heap.size w w' := by
  have HH := Lib.hid h
  clear h
  go_enter Try.func3, Try.ntmps3
  go_wp2_with fail
  refine (fair_calls w A l.length c l rfl hm hr).mono ?_
  rintro e w' ⟨rfl, rfl⟩
  cases hq0 : fairB l with
  | false =>
    clear hq0
    go_wp2_with fail
    refine (wakes5_calls w).mono ?_
    rintro e w9 ⟨rfl, hb⟩
    have E9 : Hid (Below w.heap.size w w9) := hb
    clear hb
    go_wp2
    go_ret
    exact ⟨rfl, E9.out⟩
  | true =>
    have hn : n < 1 ∨ 60 < n := HH.out.resolve_left (by rw [hq0]; decide)
    clear hq0
    by_cases h60 : 60 < n
    · by_cases h1024 : n ≤ 1024
      · go_wp2_with fail
        refine (wakes5_calls w).mono ?_
        rintro e w9 ⟨rfl, hb⟩
        have E9 : Hid (Below w.heap.size w w9) := hb
        clear hb
        go_wp2
        go_ret
        exact ⟨rfl, E9.out⟩
      · have hgt : n < 1 ∨ 1024 < n := .inr (by omega)
        go_wp2_with fail
        refine (diskNew_no n w hgt).mono ?_
        rintro e w' ⟨rfl, rfl⟩
        go_wp2_with fail
        refine (refNew_no n w hgt).mono ?_
        rintro e w' ⟨rfl, rfl⟩
        go_wp2_with fail
        go_loop [9] (fun v => v = .int .i64 0) (fun _ => 0)
        case atStart => rfl
        case round =>
          subst hrel
          by_cases hz : 0 < l.length
          · have hzi : (0 : Int) < (l.length : Int) := by omega
            go_wp2_with fail
            refine (wakes5_calls w).mono ?_
            rintro e w9 ⟨rfl, hb⟩
            have E9 : Hid (Below w.heap.size w w9) := hb
            clear hb
            go_wp2
            go_ret
            exact ⟨rfl, E9.out⟩
          · have hzi : ¬ ((0 : Int) < (l.length : Int)) := by omega
            go_wp2_with fail
            refine (wakes5_calls w).mono ?_
            rintro e w9 ⟨rfl, hb⟩
            have E9 : Hid (Below w.heap.size w w9) := hb
            clear hb
            go_wp2
            go_ret
            exact ⟨rfl, E9.out⟩
    · have hgt : n < 1 ∨ 1024 < n := by omega
      go_wp2_with fail
      refine (diskNew_no n w hgt).mono ?_
      rintro e w' ⟨rfl, rfl⟩
      go_wp2_with fail
      refine (refNew_no n w hgt).mono ?_
      rintro e w' ⟨rfl, rfl⟩
      go_wp2_with fail
      go_loop [9] (fun v => v = .int .i64 0) (fun _ => 0)
      case atStart => rfl
      case round =>
        subst hrel
        by_cases hz : 0 < l.length
        · have hzi : (0 : Int) < (l.length : Int) := by omega
          go_wp2_with fail
          refine (wakes5_calls w).mono ?_
          rintro e w9 ⟨rfl, hb⟩
          have E9 : Hid (Below w.heap.size w w9) := hb
          clear hb
          go_wp2
          go_ret
          exact ⟨rfl, E9.out⟩
        · have hzi : ¬ ((0 : Int) < (l.length : Int)) := by omega
          go_wp2_with fail
          refine (wakes5_calls w).mono ?_
          rintro e w9 ⟨rfl, hb⟩
          have E9 : Hid (Below w.heap.size w w9) := hb
          clear hb
          go_wp2
          go_ret
          exact ⟨rfl, E9.out⟩
set_option maxRecDepth 100000 in
set_option maxHeartbeats 16000000 in
theorem diskPlays_yes (w : World) (N : Nat) (A : Option Addr) (n c : Nat) (l : List Stp) (hl : l.length = n) (hnc : n ≤ c) (hm : c ≤ 9223372036854775807) (hr : Rd w A (l.flatMap stpC)) (hok : ∀ s ∈ l, StpOk w s) (hf : fairB l = true) (hN1 : 1 ≤ N) (hN : N ≤ 60) :
    Calls Try.prog 3 #[.int .i64 N, .slice A n c] w fun e w' => e = .returned (.bool true) ∧ Below w.heap.size w w' := by
  subst hl
  have HR := Lib.hid hr
  have HOK := Lib.hid hok
  have HF := Lib.hid hf
  have HLL : Hid (l.length ≤ 200) := by
    show l.length ≤ 200
    rw [fairB, Bool.and_eq_true] at hf
    exact of_decide_eq_true hf.2
  have HL300 : Hid (∀ s ∈ l, s.n ≤ 300) := by
    intro s hs
    rw [fairB, Bool.and_eq_true, List.all_eq_true] at hf
    simpa using hf.1 s hs
  have hN60 : ¬ ((60 : Int) < (N : Int)) := by omega
  clear hr hok hf
  go_enter Try.func3, Try.ntmps3
  go_wp2_with fail
  refine (fair_calls w A l.length c l rfl (by omega) HR.out).mono ?_
  rintro e w' ⟨rfl, rfl⟩
  rw [HF.out]
  go_wp2_with fail
  refine (diskNew_yes N w hN1 (by omega)).mono ?_
  intro e w1 hp
  obtain ⟨g, gs, rfl, hs⟩ := DSes.new (wT := 91) (by omega) (Below.refl _ _) hp
  have HD1 : Hid (DSes 91 w w1 g gs (.slice none 0 0) (Dst.new N)) := hs
  clear hp hs
  go_wp2_with fail
  refine (refNew_yes N w1 hN1 (by omega)).mono ?_
  intro e w2 hp
  obtain ⟨q, qs, rfl, ht⟩ := Two.new (vT := 93) (by omega) HD1.out hp
  have H0 : Hid (PlaysRel w g gs q qs N l.length (.int .i64 0) w2) := ⟨0, _, _, Dst.new N, by omega, rfl, ⟨by simp [Dst.new], Nat.zero_le _, by show _ ≤ (-1 : Int); decide, by show (-1 : Int) ≤ _; decide⟩, ht⟩
  clear hp ht HD1
  go_wp2_with fail
  go_loopw [9] (fun v wr => PlaysRel w g gs q qs N l.length v wr) (fun v _ => l.length - (intOf v).toNat)
  case atStart => exact H0.out
  case round =>
    obtain ⟨k, lv, mv, t, hk, rfl, htk, ht⟩ := hrel
    have HT0 := Lib.hid ht
    have HTK := Lib.hid htk
    clear ht htk H0
    by_cases hlt : k < l.length
    · have hki : (k : Int) < (l.length : Int) := by omega
      have hrr := HR.out.below HT0.out.a.bel
      obtain ⟨ad, hA, _⟩ := stp_cells hrr hlt
      subst hA
      have hst := stp_rd hrr hlt
      have hsn := HL300.out _ (List.getElem_mem hlt)
      have hso := HOK.out _ (List.getElem_mem hlt)
      obtain ⟨s5, hs⟩ : ∃ s5, l[k] = s5 := ⟨_, rfl⟩
      rw [hs] at hst hso hsn
      have HSO := Lib.hid hso
      have HSN := Lib.hid hsn
      have HSR := Lib.hid hst
      have HONE := Lib.hid (one_stp s5)
      obtain ⟨vs, hvs⟩ : ∃ vs, stpC s5 = vs := ⟨_, rfl⟩
      have HVS := Lib.hid hvs
      have HVL : Hid (vs.length = 4) := by show _ = _; rw [← hvs]; rfl
      rw [hvs] at HSR HONE
      clear hs hso hst hrr hvs hsn
      go_wp2_with (first
        | (refine wpList_ldr rfl 34 (.tmp 62) rfl (ad.add (k * 4)) vs rfl HSR.out (by kernel_rfl) (by rw [HVL.out]; kernel_rfl) ?_)
        | (refine wpList_al rfl 34 rfl [.int .i64 0, .int .i64 0, .int .u8 0, .slice none 0 0] (by kernel_rfl) ?_))
      intro gx w1 hg hb hc hs
      have HT1 := Lib.hid (HT0.out.chgN hc)
      have HBS := Lib.hid (HT0.out.beside hg)
      have K1 := Lib.hid hb
      clear hb hc hs hg HSR
      go_wp2_with (refine wpList_st rfl 34 (.tmp 10) (.tmp 63) rfl gx 0 4 [.int .i64 0, .int .i64 0, .int .u8 0, .slice none 0 0] vs rfl rfl K1.out (by kernel_rfl) HVL.out (by decide) HONE.out ?_)
      intro w2 hb hc
      rw [splice_whole _ _ (by rw [HVL.out]; rfl), ← HVS.out] at hb
      have HT := Lib.hid (HT1.out.st HBS.out hc)
      have HX := Lib.hid hb
      have d0 := Bk.cell (j := 0) hb rfl
      have d1 := Bk.cell (j := 1) hb rfl
      have d3 := Bk.cell (j := 3) hb rfl
      clear hb hc HT1 K1 HT0
      by_cases hk0 : s5.k = 0
      · have hkb0 : (s5.k == 0) = true := by rw [hk0]; rfl
        obtain ⟨b, hbv⟩ : ∃ b, List.replicate 32 s5.v = b := ⟨_, rfl⟩
        have HBV := Lib.hid hbv
        have HB32 : Hid (b.length = 32) := by show _ = _; rw [← hbv, List.length_replicate]
        clear hbv
        go_wp2_with fail
        clear d0 d1 d3
        apply wp_region_relt 13 6 74 (TwoTo w g gs (t.write s5.i b).low q qs mv t (.int .i64 (t.writeE s5.i))) (Chg (footD g gs lv)) (Chg NoS) (Chg (footD g gs lv)) [(Veq _), (Veq _), (Veq _), (Veq _), (Veq _), (Veq _), (fun _ _ => True), (Veq _), (Veq _), (Veq _), (Veq _), (Veq _), (Veq _)] [[], [], [1], [], [3], [4], [0, 2, 5], [], [], [8], [], [10], [11]] [68, 69, 70, 71, 72, 73, 74, 75, 76, 77, 78, 79, 80] (by kernel_rfl) (by kernel_rfl) rfl rfl rfl (by kernel_rfl) Chg.refl (fun _ _ _ => Chg.trans) (fun _ _ _ => Chg.trans) (fun _ _ h => h.mono (fun _ hk => hk.elim)) (fun _ _ h => h) ⟨Veq.lasts, Veq.lasts, Veq.lasts, Veq.lasts, Veq.lasts, Veq.lasts, (fun _ _ _ _ _ => trivial), Veq.lasts, Veq.lasts, Veq.lasts, Veq.lasts, Veq.lasts, Veq.lasts, trivial⟩ ⟨Veq.lasts, Veq.lasts, Veq.lasts, Veq.lasts, Veq.lasts, Veq.lasts, (fun _ _ _ _ _ => trivial), Veq.lasts, Veq.lasts, Veq.lasts, Veq.lasts, Veq.lasts, Veq.lasts, trivial⟩ TwoTo.lasts (fun F h w v => by cases h; trivial) ?aops ?afin
        case aops =>
          refine ⟨?ao0, ?ao1, ?ao2, ?ao3, ?ao4, ?ao5, ?ao6, ?ao7, ?ao8, ?ao9, ?ao10, ?ao11, ?ao12, trivial⟩
          case ao0 =>
            rw [if_neg (by decide)]
            intro a wx hE hin
            have i5 : a.eval (.tmp 5) = .pointer (some ⟨g, 0, none⟩) := hin 5 rfl
            clear hin
            have hcst : ∀ v, a.eval (.const v) = v := fun _ => rfl
            have hfnc : ∀ f, a.eval (.func f) = .func (.func f) #[] #[] := fun _ => rfl
            refine want_none rfl ?_
            unfold Oper.wp
            generalize a.eval = ρ at *
            go_simp
            try go_bits
            first | exact rel_val (Chg.refl _) | (go_simp; exact rel_val (Chg.refl _))
          case ao1 =>
            rw [if_neg (by decide)]
            intro a wx hE hin
            have i10 : a.eval (.tmp 10) = .pointer (some ⟨gx, 0, none⟩) := hin 10 rfl
            clear hin
            have hcst : ∀ v, a.eval (.const v) = v := fun _ => rfl
            have hfnc : ∀ f, a.eval (.func f) = .func (.func f) #[] #[] := fun _ => rfl
            refine want_none rfl ?_
            unfold Oper.wp
            generalize a.eval = ρ at *
            go_simp
            try go_bits
            first | exact rel_val (Chg.refl _) | (go_simp; exact rel_val (Chg.refl _))
          case ao2 =>
            rw [if_neg (by decide)]
            rintro a wx hE hin (h1 : a.eval (.tmp 69) = _)
            clear hin
            have hcst : ∀ v, a.eval (.const v) = v := fun _ => rfl
            have hfnc : ∀ f, a.eval (.func f) = .func (.func f) #[] #[] := fun _ => rfl
            refine want_none rfl ?_
            unfold Oper.wp
            generalize a.eval = ρ at *
            have c := Bk.cell (j := 1) (HX.out.drew.chg hE (fun hf => HBS.out.1 _ hf rfl)) rfl
            go_simp
            try go_bits
            first | exact rel_val (Chg.refl _) | (go_simp; exact rel_val (Chg.refl _))
          case ao3 =>
            rw [if_neg (by decide)]
            intro a wx hE hin
            have i10 : a.eval (.tmp 10) = .pointer (some ⟨gx, 0, none⟩) := hin 10 rfl
            clear hin
            have hcst : ∀ v, a.eval (.const v) = v := fun _ => rfl
            have hfnc : ∀ f, a.eval (.func f) = .func (.func f) #[] #[] := fun _ => rfl
            refine want_none rfl ?_
            unfold Oper.wp
            generalize a.eval = ρ at *
            go_simp
            try go_bits
            first | exact rel_val (Chg.refl _) | (go_simp; exact rel_val (Chg.refl _))
          case ao4 =>
            rw [if_neg (by decide)]
            rintro a wx hE hin (h3 : a.eval (.tmp 71) = _)
            clear hin
            have hcst : ∀ v, a.eval (.const v) = v := fun _ => rfl
            have hfnc : ∀ f, a.eval (.func f) = .func (.func f) #[] #[] := fun _ => rfl
            refine want_none rfl ?_
            unfold Oper.wp
            generalize a.eval = ρ at *
            have c := Bk.cell (j := 2) (HX.out.drew.chg hE (fun hf => HBS.out.1 _ hf rfl)) rfl
            go_simp
            try go_bits
            first | exact rel_val (Chg.refl _) | (go_simp; exact rel_val (Chg.refl _))
          case ao5 =>
            rw [if_neg (by decide)]
            rintro a wx hE hin (h4 : a.eval (.tmp 72) = _)
            clear hin
            have hcst : ∀ v, a.eval (.const v) = v := fun _ => rfl
            have hfnc : ∀ f, a.eval (.func f) = .func (.func f) #[] #[] := fun _ => rfl
            refine want_none rfl ?_
            unfold Oper.wp
            generalize a.eval = ρ at *
            go_simp
            refine (fill_calls s5.v wx).mono ?_
            rintro e w' ⟨rfl, hb⟩
            rw [HBV.out]
            exact rel_val (.of_below hb)
          case ao6 =>
            rw [if_pos (by decide)]
            rintro a wx hE hin (h0 : a.eval (.tmp 68) = _) (h2 : a.eval (.tmp 70) = _) (h5 : a.eval (.tmp 73) = _)
            clear hin
            have hcst : ∀ v, a.eval (.const v) = v := fun _ => rfl
            have hfnc : ∀ f, a.eval (.func f) = .func (.func f) #[] #[] := fun _ => rfl
            unfold Oper.wp
            generalize a.eval = ρ at *
            go_simp
            go_simp
            have HTx : Hid (Two w wx 91 g gs lv t.low 93 q qs mv t) := HT.out.drew.chgN hE
            refine (diskWrite_at wx g gs lv t.low s5.i b HTx.out.a.at_ HB32.out (by have := HTK.out.ll; have := HLL.out; show t.L.length ≤ 1000; omega) HTK.out.lo HTK.out.hi).mono ?_
            intro e w' hp
            rw [low_write, low_writeE] at hp
            obtain ⟨rfl, lv3, ht3⟩ := HTx.out.post hp
            refine ⟨_, rfl, ?_, hp.2.choose_spec.2.2⟩
            (try rw [if_pos rfl])
            exact ⟨rfl, lv3, ht3⟩
          case ao7 =>
            rw [if_neg (by decide)]
            intro a wx hE hin
            have i7 : a.eval (.tmp 7) = .pointer (some ⟨q, 0, none⟩) := hin 7 rfl
            clear hin
            have hcst : ∀ v, a.eval (.const v) = v := fun _ => rfl
            have hfnc : ∀ f, a.eval (.func f) = .func (.func f) #[] #[] := fun _ => rfl
            refine want_none rfl ?_
            unfold Oper.wp
            generalize a.eval = ρ at *
            go_simp
            try go_bits
            first | exact rel_val (Chg.refl _) | (go_simp; exact rel_val (Chg.refl _))
          case ao8 =>
            rw [if_neg (by decide)]
            intro a wx hE hin
            have i10 : a.eval (.tmp 10) = .pointer (some ⟨gx, 0, none⟩) := hin 10 rfl
            clear hin
            have hcst : ∀ v, a.eval (.const v) = v := fun _ => rfl
            have hfnc : ∀ f, a.eval (.func f) = .func (.func f) #[] #[] := fun _ => rfl
            refine want_none rfl ?_
            unfold Oper.wp
            generalize a.eval = ρ at *
            go_simp
            try go_bits
            first | exact rel_val (Chg.refl _) | (go_simp; exact rel_val (Chg.refl _))
          case ao9 =>
            rw [if_neg (by decide)]
            rintro a wx hE hin (h8 : a.eval (.tmp 76) = _)
            clear hin
            have hcst : ∀ v, a.eval (.const v) = v := fun _ => rfl
            have hfnc : ∀ f, a.eval (.func f) = .func (.func f) #[] #[] := fun _ => rfl
            refine want_none rfl ?_
            unfold Oper.wp
            generalize a.eval = ρ at *
            have c := Bk.cell (j := 1) (HX.out.drew.chg hE (fun hf => HBS.out.1 _ hf rfl)) rfl
            go_simp
            try go_bits
            first | exact rel_val (Chg.refl _) | (go_simp; exact rel_val (Chg.refl _))
          case ao10 =>
            rw [if_neg (by decide)]
            intro a wx hE hin
            have i10 : a.eval (.tmp 10) = .pointer (some ⟨gx, 0, none⟩) := hin 10 rfl
            clear hin
            have hcst : ∀ v, a.eval (.const v) = v := fun _ => rfl
            have hfnc : ∀ f, a.eval (.func f) = .func (.func f) #[] #[] := fun _ => rfl
            refine want_none rfl ?_
            unfold Oper.wp
            generalize a.eval = ρ at *
            go_simp
            try go_bits
            first | exact rel_val (Chg.refl _) | (go_simp; exact rel_val (Chg.refl _))
          case ao11 =>
            rw [if_neg (by decide)]
            rintro a wx hE hin (h10 : a.eval (.tmp 78) = _)
            clear hin
            have hcst : ∀ v, a.eval (.const v) = v := fun _ => rfl
            have hfnc : ∀ f, a.eval (.func f) = .func (.func f) #[] #[] := fun _ => rfl
            refine want_none rfl ?_
            unfold Oper.wp
            generalize a.eval = ρ at *
            have c := Bk.cell (j := 2) (HX.out.drew.chg hE (fun hf => HBS.out.1 _ hf rfl)) rfl
            go_simp
            try go_bits
            first | exact rel_val (Chg.refl _) | (go_simp; exact rel_val (Chg.refl _))
          case ao12 =>
            rw [if_neg (by decide)]
            rintro a wx hE hin (h11 : a.eval (.tmp 79) = _)
            clear hin
            have hcst : ∀ v, a.eval (.const v) = v := fun _ => rfl
            have hfnc : ∀ f, a.eval (.func f) = .func (.func f) #[] #[] := fun _ => rfl
            refine want_none rfl ?_
            unfold Oper.wp
            generalize a.eval = ρ at *
            go_simp
            refine (fill_calls s5.v wx).mono ?_
            rintro e w' ⟨rfl, hb⟩
            rw [HBV.out]
            exact rel_val (.of_below hb)
        case afin =>
          intro wx hE
          rintro _ rfl _ rfl _ rfl _ rfl _ rfl _ rfl vsp _ _ rfl _ rfl _ rfl _ rfl _ rfl _ rfl hsp
          simp only [FinOk, List.take_succ_cons, List.take_zero, List.take_nil, List.drop_succ_cons, List.drop_zero, List.drop_nil, Act.put, List.setIfInBounds_toArray, List.set_cons_succ, List.set_cons_zero]
          simp only [Act.put, List.setIfInBounds_toArray, List.set_cons_succ, List.set_cons_zero] at hsp
          have hsp' : TwoTo w g gs (t.write s5.i b).low q qs mv t (.int .i64 (t.writeE s5.i)) wx vsp := hsp
          clear hsp
          obtain ⟨rfl, lv3, ht3⟩ := hsp'
          have HT3 := Lib.hid ht3
          clear hE ht3
          go_wp2_with fail
          refine (refWrite_at wx q qs mv t s5.i b HT3.out.b.at_ HB32.out (by have := HTK.out.ll; have := HLL.out; omega) HTK.out.f1 HTK.out.f2).mono ?_
          intro e w4 hp
          obtain ⟨rfl, mv4, ht4⟩ := HT3.out.post2 hp
          have HT4 := Lib.hid ht4
          have HTK4 := Lib.hid (HTK.out.write s5.i b)
          clear hp ht4
          generalize t.write s5.i b = t4 at HT4 HTK4
          go_wp2_with fail
          obtain ⟨Am, cm, hmv, _, _, _⟩ := own_rd HT4.out.b.at_.own
          subst hmv
          apply wp_region_rel 27 (Chg NoS) [(Veq _), (Veq _), (Veq _), (Veq _), (Veq _), (Veq _), (Veq _), (Veq _), (Veq _), (Veq _), (Veq _), (Veq _), (Veq _), (Veq _), (Veq _), (Veq _), (Veq _), (Veq _), (Veq _), (Veq _), (Veq _), (Veq _), (Veq _), (Veq _), (Veq _), (Veq _), (Veq _)] [[], [0], [], [2], [3], [4], [5], [1, 6], [7], [8], [8, 9], [8], [8, 11], [8, 12], [8, 13], [8, 10, 14], [8, 15], [16], [17], [17, 18], [17], [17, 20], [17, 21], [17, 22], [17, 23], [17, 19, 24], [17, 25]] [137, 138, 139, 140, 141, 142, 143, 144, 145, 146, 147, 148, 149, 150, 151, 152, 153, 154, 155, 156, 157, 158, 159, 160, 161, 162, 163] (by kernel_rfl) (by kernel_rfl) rfl rfl rfl Chg.refl (fun _ _ _ => Chg.trans) ⟨Veq.lasts, Veq.lasts, Veq.lasts, Veq.lasts, Veq.lasts, Veq.lasts, Veq.lasts, Veq.lasts, Veq.lasts, Veq.lasts, Veq.lasts, Veq.lasts, Veq.lasts, Veq.lasts, Veq.lasts, Veq.lasts, Veq.lasts, Veq.lasts, Veq.lasts, Veq.lasts, Veq.lasts, Veq.lasts, Veq.lasts, Veq.lasts, Veq.lasts, Veq.lasts, Veq.lasts, trivial⟩ ?bops ?bfin
          case bops =>
            refine ⟨?bo0, ?bo1, ?bo2, ?bo3, ?bo4, ?bo5, ?bo6, ?bo7, ?bo8, ?bo9, ?bo10, ?bo11, ?bo12, ?bo13, ?bo14, ?bo15, ?bo16, ?bo17, ?bo18, ?bo19, ?bo20, ?bo21, ?bo22, ?bo23, ?bo24, ?bo25, ?bo26, trivial⟩
            case bo0 =>
              intro a wx hE hin
              have i5 : a.eval (.tmp 5) = .pointer (some ⟨g, 0, none⟩) := hin 5 rfl
              clear hin
              have hcst : ∀ v, a.eval (.const v) = v := fun _ => rfl
              have hfnc : ∀ f, a.eval (.func f) = .func (.func f) #[] #[] := fun _ => rfl
              refine want_none rfl ?_
              unfold Oper.wp
              generalize a.eval = ρ at *
              go_simp
              try go_bits
              first | exact rel_val (Chg.refl _) | (go_simp; exact rel_val (Chg.refl _))
            case bo1 =>
              rintro a wx hE hin (h0 : a.eval (.tmp 137) = _)
              clear hin
              have hcst : ∀ v, a.eval (.const v) = v := fun _ => rfl
              have hfnc : ∀ f, a.eval (.func f) = .func (.func f) #[] #[] := fun _ => rfl
              refine want_none rfl ?_
              unfold Oper.wp
              generalize a.eval = ρ at *
              go_simp
              refine (lowLoose wx g gs lv3 t4 (HT4.out.a.drew.chgN hE).at_).mono ?_
              rintro e w' ⟨rfl, rfl⟩
              exact rel_val (Chg.refl _)
            case bo2 =>
              intro a wx hE hin
              have i7 : a.eval (.tmp 7) = .pointer (some ⟨q, 0, none⟩) := hin 7 rfl
              clear hin
              have hcst : ∀ v, a.eval (.const v) = v := fun _ => rfl
              have hfnc : ∀ f, a.eval (.func f) = .func (.func f) #[] #[] := fun _ => rfl
              refine want_none rfl ?_
              unfold Oper.wp
              generalize a.eval = ρ at *
              go_simp
              try go_bits
              first | exact rel_val (Chg.refl _) | (go_simp; exact rel_val (Chg.refl _))
            case bo3 =>
              rintro a wx hE hin (h2 : a.eval (.tmp 139) = _)
              clear hin
              have hcst : ∀ v, a.eval (.const v) = v := fun _ => rfl
              have hfnc : ∀ f, a.eval (.func f) = .func (.func f) #[] #[] := fun _ => rfl
              refine want_none rfl ?_
              unfold Oper.wp
              generalize a.eval = ρ at *
              go_simp
              try go_bits
              first | exact rel_val (Chg.refl _) | (go_simp; exact rel_val (Chg.refl _))
            case bo4 =>
              rintro a wx hE hin (h3 : a.eval (.tmp 140) = _)
              clear hin
              have hcst : ∀ v, a.eval (.const v) = v := fun _ => rfl
              have hfnc : ∀ f, a.eval (.func f) = .func (.func f) #[] #[] := fun _ => rfl
              refine want_none rfl ?_
              unfold Oper.wp
              generalize a.eval = ρ at *
              go_simp
              try go_bits
              first | exact rel_val (Chg.refl _) | (go_simp; exact rel_val (Chg.refl _))
            case bo5 =>
              rintro a wx hE hin (h4 : a.eval (.tmp 141) = _)
              clear hin
              have hcst : ∀ v, a.eval (.const v) = v := fun _ => rfl
              have hfnc : ∀ f, a.eval (.func f) = .func (.func f) #[] #[] := fun _ => rfl
              refine want_none rfl ?_
              unfold Oper.wp
              generalize a.eval = ρ at *
              have c := Bk.cell (j := 1) (DiskAt.chg (HT4.out.b.drew.at_) hE (fun _ _ => id)).dk rfl
              go_simp
              try go_bits
              first | exact rel_val (Chg.refl _) | (go_simp; exact rel_val (Chg.refl _))
            case bo6 =>
              rintro a wx hE hin (h5 : a.eval (.tmp 142) = _)
              clear hin
              have hcst : ∀ v, a.eval (.const v) = v := fun _ => rfl
              have hfnc : ∀ f, a.eval (.func f) = .func (.func f) #[] #[] := fun _ => rfl
              refine want_none rfl ?_
              unfold Oper.wp
              generalize a.eval = ρ at *
              go_simp
              try go_bits
              first | exact rel_val (Chg.refl _) | (go_simp; exact rel_val (Chg.refl _))
            case bo7 =>
              rintro a wx hE hin (h1 : a.eval (.tmp 138) = _) (h6 : a.eval (.tmp 143) = _)
              clear hin
              have hcst : ∀ v, a.eval (.const v) = v := fun _ => rfl
              have hfnc : ∀ f, a.eval (.func f) = .func (.func f) #[] #[] := fun _ => rfl
              refine want_none rfl ?_
              unfold Oper.wp
              generalize a.eval = ρ at *
              go_simp
              try go_bits
              first | exact rel_val (e := .bool false) (Chg.refl _) | (simp only [bne_self_eq_false]; exact rel_val (e := .bool false) (Chg.refl _)) | (rw [bne_self_eq_false]; exact rel_val (e := .bool false) (Chg.refl _))
            case bo8 =>
              rintro a wx hE hin (h7 : a.eval (.tmp 144) = _)
              clear hin
              have hcst : ∀ v, a.eval (.const v) = v := fun _ => rfl
              have hfnc : ∀ f, a.eval (.func f) = .func (.func f) #[] #[] := fun _ => rfl
              refine want_none rfl ?_
              unfold Oper.wp
              generalize a.eval = ρ at *
              go_simp
              try go_bits
              first | exact rel_val (Chg.refl _) | (go_simp; exact rel_val (Chg.refl _))
            case bo9 =>
              rintro a wx hE hin (h8 : a.eval (.tmp 145) = _)
              have i5 : a.eval (.tmp 5) = .pointer (some ⟨g, 0, none⟩) := hin 5 rfl
              clear hin
              have hcst : ∀ v, a.eval (.const v) = v := fun _ => rfl
              have hfnc : ∀ f, a.eval (.func f) = .func (.func f) #[] #[] := fun _ => rfl
              refine want_yes rfl rfl h8 ?_
              unfold Oper.wp
              generalize a.eval = ρ at *
              go_simp
              try go_bits
              first | exact rel_val (Chg.refl _) | (go_simp; exact rel_val (Chg.refl _))
            case bo10 =>
              rintro a wx hE hin (h8 : a.eval (.tmp 145) = _) (h9 : a.eval (.tmp 146) = _)
              clear hin
              have hcst : ∀ v, a.eval (.const v) = v := fun _ => rfl
              have hfnc : ∀ f, a.eval (.func f) = .func (.func f) #[] #[] := fun _ => rfl
              refine want_yes rfl rfl h8 ?_
              unfold Oper.wp
              generalize a.eval = ρ at *
              go_simp
              refine (lowDown wx g gs lv3 t4 (HT4.out.a.drew.chgN hE).at_).mono ?_
              rintro e w' ⟨rfl, rfl⟩
              exact rel_val (Chg.refl _)
            case bo11 =>
              rintro a wx hE hin (h8 : a.eval (.tmp 145) = _)
              have i7 : a.eval (.tmp 7) = .pointer (some ⟨q, 0, none⟩) := hin 7 rfl
              clear hin
              have hcst : ∀ v, a.eval (.const v) = v := fun _ => rfl
              have hfnc : ∀ f, a.eval (.func f) = .func (.func f) #[] #[] := fun _ => rfl
              refine want_yes rfl rfl h8 ?_
              unfold Oper.wp
              generalize a.eval = ρ at *
              go_simp
              try go_bits
              first | exact rel_val (Chg.refl _) | (go_simp; exact rel_val (Chg.refl _))
            case bo12 =>
              rintro a wx hE hin (h8 : a.eval (.tmp 145) = _) (h11 : a.eval (.tmp 148) = _)
              clear hin
              have hcst : ∀ v, a.eval (.const v) = v := fun _ => rfl
              have hfnc : ∀ f, a.eval (.func f) = .func (.func f) #[] #[] := fun _ => rfl
              refine want_yes rfl rfl h8 ?_
              unfold Oper.wp
              generalize a.eval = ρ at *
              go_simp
              try go_bits
              first | exact rel_val (Chg.refl _) | (go_simp; exact rel_val (Chg.refl _))
            case bo13 =>
              rintro a wx hE hin (h8 : a.eval (.tmp 145) = _) (h12 : a.eval (.tmp 149) = _)
              clear hin
              have hcst : ∀ v, a.eval (.const v) = v := fun _ => rfl
              have hfnc : ∀ f, a.eval (.func f) = .func (.func f) #[] #[] := fun _ => rfl
              refine want_yes rfl rfl h8 ?_
              unfold Oper.wp
              generalize a.eval = ρ at *
              go_simp
              try go_bits
              first | exact rel_val (Chg.refl _) | (go_simp; exact rel_val (Chg.refl _))
            case bo14 =>
              rintro a wx hE hin (h8 : a.eval (.tmp 145) = _) (h13 : a.eval (.tmp 150) = _)
              clear hin
              have hcst : ∀ v, a.eval (.const v) = v := fun _ => rfl
              have hfnc : ∀ f, a.eval (.func f) = .func (.func f) #[] #[] := fun _ => rfl
              refine want_yes rfl rfl h8 ?_
              unfold Oper.wp
              generalize a.eval = ρ at *
              have c := Bk.cell (j := 3) (DiskAt.chg (HT4.out.b.drew.at_) hE (fun _ _ => id)).dk rfl
              go_simp
              try go_bits
              first | exact rel_val (Chg.refl _) | (go_simp; exact rel_val (Chg.refl _))
            case bo15 =>
              rintro a wx hE hin (h8 : a.eval (.tmp 145) = _) (h10 : a.eval (.tmp 147) = _) (h14 : a.eval (.tmp 151) = _)
              clear hin
              have hcst : ∀ v, a.eval (.const v) = v := fun _ => rfl
              have hfnc : ∀ f, a.eval (.func f) = .func (.func f) #[] #[] := fun _ => rfl
              refine want_yes rfl rfl h8 ?_
              unfold Oper.wp
              generalize a.eval = ρ at *
              go_simp
              try go_bits
              first | exact rel_val (e := .bool false) (Chg.refl _) | (simp only [bne_self_eq_false]; exact rel_val (e := .bool false) (Chg.refl _)) | (rw [bne_self_eq_false]; exact rel_val (e := .bool false) (Chg.refl _))
            case bo16 =>
              rintro a wx hE hin (h8 : a.eval (.tmp 145) = _) (h15 : a.eval (.tmp 152) = _)
              clear hin
              have hcst : ∀ v, a.eval (.const v) = v := fun _ => rfl
              have hfnc : ∀ f, a.eval (.func f) = .func (.func f) #[] #[] := fun _ => rfl
              refine want_none rfl ?_
              unfold Oper.wp
              generalize a.eval = ρ at *
              go_simp
              try go_bits
              first | exact rel_val (Chg.refl _) | (go_simp; exact rel_val (Chg.refl _))
            case bo17 =>
              rintro a wx hE hin (h16 : a.eval (.tmp 153) = _)
              clear hin
              have hcst : ∀ v, a.eval (.const v) = v := fun _ => rfl
              have hfnc : ∀ f, a.eval (.func f) = .func (.func f) #[] #[] := fun _ => rfl
              refine want_none rfl ?_
              unfold Oper.wp
              generalize a.eval = ρ at *
              go_simp
              try go_bits
              first | exact rel_val (Chg.refl _) | (go_simp; exact rel_val (Chg.refl _))
            case bo18 =>
              rintro a wx hE hin (h17 : a.eval (.tmp 154) = _)
              have i5 : a.eval (.tmp 5) = .pointer (some ⟨g, 0, none⟩) := hin 5 rfl
              clear hin
              have hcst : ∀ v, a.eval (.const v) = v := fun _ => rfl
              have hfnc : ∀ f, a.eval (.func f) = .func (.func f) #[] #[] := fun _ => rfl
              refine want_yes rfl rfl h17 ?_
              unfold Oper.wp
              generalize a.eval = ρ at *
              go_simp
              try go_bits
              first | exact rel_val (Chg.refl _) | (go_simp; exact rel_val (Chg.refl _))
            case bo19 =>
              rintro a wx hE hin (h17 : a.eval (.tmp 154) = _) (h18 : a.eval (.tmp 155) = _)
              clear hin
              have hcst : ∀ v, a.eval (.const v) = v := fun _ => rfl
              have hfnc : ∀ f, a.eval (.func f) = .func (.func f) #[] #[] := fun _ => rfl
              refine want_yes rfl rfl h17 ?_
              unfold Oper.wp
              generalize a.eval = ρ at *
              go_simp
              refine (lowLen wx g gs lv3 t4 (HT4.out.a.drew.chgN hE).at_).mono ?_
              rintro e w' ⟨rfl, rfl⟩
              exact rel_val (Chg.refl _)
            case bo20 =>
              rintro a wx hE hin (h17 : a.eval (.tmp 154) = _)
              have i7 : a.eval (.tmp 7) = .pointer (some ⟨q, 0, none⟩) := hin 7 rfl
              clear hin
              have hcst : ∀ v, a.eval (.const v) = v := fun _ => rfl
              have hfnc : ∀ f, a.eval (.func f) = .func (.func f) #[] #[] := fun _ => rfl
              refine want_yes rfl rfl h17 ?_
              unfold Oper.wp
              generalize a.eval = ρ at *
              go_simp
              try go_bits
              first | exact rel_val (Chg.refl _) | (go_simp; exact rel_val (Chg.refl _))
            case bo21 =>
              rintro a wx hE hin (h17 : a.eval (.tmp 154) = _) (h20 : a.eval (.tmp 157) = _)
              clear hin
              have hcst : ∀ v, a.eval (.const v) = v := fun _ => rfl
              have hfnc : ∀ f, a.eval (.func f) = .func (.func f) #[] #[] := fun _ => rfl
              refine want_yes rfl rfl h17 ?_
              unfold Oper.wp
              generalize a.eval = ρ at *
              go_simp
              try go_bits
              first | exact rel_val (Chg.refl _) | (go_simp; exact rel_val (Chg.refl _))
            case bo22 =>
              rintro a wx hE hin (h17 : a.eval (.tmp 154) = _) (h21 : a.eval (.tmp 158) = _)
              clear hin
              have hcst : ∀ v, a.eval (.const v) = v := fun _ => rfl
              have hfnc : ∀ f, a.eval (.func f) = .func (.func f) #[] #[] := fun _ => rfl
              refine want_yes rfl rfl h17 ?_
              unfold Oper.wp
              generalize a.eval = ρ at *
              go_simp
              try go_bits
              first | exact rel_val (Chg.refl _) | (go_simp; exact rel_val (Chg.refl _))
            case bo23 =>
              rintro a wx hE hin (h17 : a.eval (.tmp 154) = _) (h22 : a.eval (.tmp 159) = _)
              clear hin
              have hcst : ∀ v, a.eval (.const v) = v := fun _ => rfl
              have hfnc : ∀ f, a.eval (.func f) = .func (.func f) #[] #[] := fun _ => rfl
              refine want_yes rfl rfl h17 ?_
              unfold Oper.wp
              generalize a.eval = ρ at *
              have c := Bk.cell (j := 0) (DiskAt.chg (HT4.out.b.drew.at_) hE (fun _ _ => id)).dk rfl
              go_simp
              try go_bits
              first | exact rel_val (Chg.refl _) | (go_simp; exact rel_val (Chg.refl _))
            case bo24 =>
              rintro a wx hE hin (h17 : a.eval (.tmp 154) = _) (h23 : a.eval (.tmp 160) = _)
              clear hin
              have hcst : ∀ v, a.eval (.const v) = v := fun _ => rfl
              have hfnc : ∀ f, a.eval (.func f) = .func (.func f) #[] #[] := fun _ => rfl
              refine want_yes rfl rfl h17 ?_
              unfold Oper.wp
              generalize a.eval = ρ at *
              go_simp
              try go_bits
              first | exact rel_val (Chg.refl _) | (go_simp; exact rel_val (Chg.refl _))
            case bo25 =>
              rintro a wx hE hin (h17 : a.eval (.tmp 154) = _) (h19 : a.eval (.tmp 156) = _) (h24 : a.eval (.tmp 161) = _)
              clear hin
              have hcst : ∀ v, a.eval (.const v) = v := fun _ => rfl
              have hfnc : ∀ f, a.eval (.func f) = .func (.func f) #[] #[] := fun _ => rfl
              refine want_yes rfl rfl h17 ?_
              unfold Oper.wp
              generalize a.eval = ρ at *
              go_simp
              try go_bits
              first | exact rel_val (e := .bool false) (Chg.refl _) | (simp only [bne_self_eq_false]; exact rel_val (e := .bool false) (Chg.refl _)) | (rw [bne_self_eq_false]; exact rel_val (e := .bool false) (Chg.refl _))
            case bo26 =>
              rintro a wx hE hin (h17 : a.eval (.tmp 154) = _) (h25 : a.eval (.tmp 162) = _)
              clear hin
              have hcst : ∀ v, a.eval (.const v) = v := fun _ => rfl
              have hfnc : ∀ f, a.eval (.func f) = .func (.func f) #[] #[] := fun _ => rfl
              refine want_none rfl ?_
              unfold Oper.wp
              generalize a.eval = ρ at *
              go_simp
              try go_bits
              first | exact rel_val (Chg.refl _) | (go_simp; exact rel_val (Chg.refl _))
          case bfin =>
            intro wx hE
            rintro _ rfl _ rfl _ rfl _ rfl _ rfl _ rfl _ rfl _ rfl _ rfl _ rfl _ rfl _ rfl _ rfl _ rfl _ rfl _ rfl _ rfl _ rfl _ rfl _ rfl _ rfl _ rfl _ rfl _ rfl _ rfl _ rfl _ rfl
            simp only [FinOk, List.take_succ_cons, List.take_zero, List.take_nil, List.drop_succ_cons, List.drop_zero, List.drop_nil, Act.put, List.setIfInBounds_toArray, List.set_cons_succ, List.set_cons_zero]
            have HT7 := Lib.hid (HT4.out.drew.chgN hE)
            clear hE
            go_wp2_with fail
            go_roundw
            case rel => exact ⟨k + 1, lv3, _, t4, by omega, by go_num, HTK4.out, HT7.out⟩
            case measure => simp [intOf]; omega
      · have hkb0 : (s5.k == 0) = false := by rw [beq_eq_false_iff_ne]; exact hk0
        by_cases hk1 : s5.k = 1
        · have hkb1 : (s5.k == 1) = true := by rw [hk1]; rfl
          obtain ⟨b, hb⟩ : ∃ b, t.readB s5.i = b := ⟨_, rfl⟩
          have HB32 : Hid (b.length = 32) := by show _ = _; rw [← hb]; exact DAt.readB_len HT.out.b.at_ _
          obtain ⟨ee, hee⟩ : ∃ ee, t.readE s5.i = ee := ⟨_, rfl⟩
          have HRB := Lib.hid hb
          have HRE := Lib.hid hee
          clear hb hee
          go_wp2_with fail
          refine (lowRead w2 g gs lv t s5.i HT.out.a.at_).mono ?_
          rintro e w1a ⟨rfl, hb⟩
          rw [HRB.out, HRE.out]
          have HT1a := Lib.hid (HT.out.below hb)
          have HXa := Lib.hid (HX.out.below hb)
          clear hb
          go_wp2_with (refine wpList_al rfl 37 rfl (bts (List.replicate 32 0)) (by kernel_rfl) ?_)
          intro g11 w1b hg hb hc hs
          have HT1b := Lib.hid (HT1a.out.chgN hc)
          have HBS1 := Lib.hid (HT1a.out.beside hg)
          have HXb := Lib.hid (HXa.out.chg hc id)
          have HXl : Hid (gx < g11) := by show _ < _; rw [hg]; exact HXa.out.lt
          have K1b := Lib.hid hb
          clear hb hc hs hg
          go_wp2_with (refine wpList_st rfl 37 (.tmp 11) (.tmp 90) rfl g11 0 32 (bts (List.replicate 32 0)) (bts b) rfl rfl K1b.out (by kernel_rfl) (by rw [bts_length, HB32.out]) (by decide) (one_bts _) ?_)
          intro w1c hb hc
          rw [splice_whole _ _ (by rw [bts_length, HB32.out]; rfl)] at hb
          have K1c := Lib.hid hb
          have HXc := Lib.hid (HXb.out.chg hc (by have := HXl.out; omega))
          have HT1c := Lib.hid (HT1b.out.st HBS1.out hc)
          clear hb hc
          have d1 := Bk.cell (j := 1) HXc.out rfl
          go_wp2_with fail
          refine (refRead_at w1c q qs mv t s5.i HT1c.out.b.at_).mono ?_
          rintro e w2a ⟨rfl, hb⟩
          rw [HRB.out, HRE.out]
          have HT2a := Lib.hid (HT1c.out.below hb)
          have K1ca := Lib.hid (K1c.out.below hb)
          clear hb
          go_wp2_with (refine wpList_al rfl 37 rfl (bts (List.replicate 32 0)) (by kernel_rfl) ?_)
          intro g13 w2b hg hb hc hs
          have HT2b := Lib.hid (HT2a.out.chgN hc)
          have HBS2 := Lib.hid (HT2a.out.beside hg)
          have K1cb := Lib.hid (K1ca.out.chg hc id)
          have K1cl : Hid (g11 < g13) := by show _ < _; rw [hg]; exact K1ca.out.lt
          have K2b := Lib.hid hb
          clear hb hc hs hg
          go_wp2_with (refine wpList_st rfl 37 (.tmp 13) (.tmp 97) rfl g13 0 32 (bts (List.replicate 32 0)) (bts b) rfl rfl K2b.out (by kernel_rfl) (by rw [bts_length, HB32.out]) (by decide) (one_bts _) ?_)
          intro w2c hb hc
          rw [splice_whole _ _ (by rw [bts_length, HB32.out]; rfl)] at hb
          have K2c := Lib.hid hb
          have K1cc := Lib.hid (K1cb.out.chg hc (by have := K1cl.out; omega))
          have HT2c := Lib.hid (HT2b.out.st HBS2.out hc)
          clear hb hc
          clear d1
          go_wp2_with (first
            | (refine wpList_ld rfl 37 (.tmp 11) rfl g11 0 32 (bts b) (bts b) rfl K1cc.out (by kernel_rfl) (by kernel_rfl) (by rw [bts_length, HB32.out]; decide) (by rw [List.drop_zero, List.take_of_length_le (by rw [bts_length, HB32.out]; decide)]) ?_)
            | (refine wpList_ld rfl 37 (.tmp 13) rfl g13 0 32 (bts b) (bts b) rfl K2c.out (by kernel_rfl) (by kernel_rfl) (by rw [bts_length, HB32.out]; decide) (by rw [List.drop_zero, List.take_of_length_le (by rw [bts_length, HB32.out]; decide)]) ?_)
            | (refine wpList_eq_bytes rfl true 37 37 (.tmp 99) (.tmp 100) rfl 5 32 Try.underlying37 Try.underlying5 (by kernel_rfl) (by kernel_rfl) b b rfl rfl HB32.out HB32.out false (by simp) ?_))
          obtain ⟨Am, cm, hmv, _, _, _⟩ := own_rd HT2c.out.b.at_.own
          subst hmv
          apply wp_region_rel 27 (Chg NoS) [(Veq _), (Veq _), (Veq _), (Veq _), (Veq _), (Veq _), (Veq _), (Veq _), (Veq _), (Veq _), (Veq _), (Veq _), (Veq _), (Veq _), (Veq _), (Veq _), (Veq _), (Veq _), (Veq _), (Veq _), (Veq _), (Veq _), (Veq _), (Veq _), (Veq _), (Veq _), (Veq _)] [[], [0], [], [2], [3], [4], [5], [1, 6], [7], [8], [8, 9], [8], [8, 11], [8, 12], [8, 13], [8, 10, 14], [8, 15], [16], [17], [17, 18], [17], [17, 20], [17, 21], [17, 22], [17, 23], [17, 19, 24], [17, 25]] [137, 138, 139, 140, 141, 142, 143, 144, 145, 146, 147, 148, 149, 150, 151, 152, 153, 154, 155, 156, 157, 158, 159, 160, 161, 162, 163] (by kernel_rfl) (by kernel_rfl) rfl rfl rfl Chg.refl (fun _ _ _ => Chg.trans) ⟨Veq.lasts, Veq.lasts, Veq.lasts, Veq.lasts, Veq.lasts, Veq.lasts, Veq.lasts, Veq.lasts, Veq.lasts, Veq.lasts, Veq.lasts, Veq.lasts, Veq.lasts, Veq.lasts, Veq.lasts, Veq.lasts, Veq.lasts, Veq.lasts, Veq.lasts, Veq.lasts, Veq.lasts, Veq.lasts, Veq.lasts, Veq.lasts, Veq.lasts, Veq.lasts, Veq.lasts, trivial⟩ ?cops ?cfin
          case cops =>
            refine ⟨?co0, ?co1, ?co2, ?co3, ?co4, ?co5, ?co6, ?co7, ?co8, ?co9, ?co10, ?co11, ?co12, ?co13, ?co14, ?co15, ?co16, ?co17, ?co18, ?co19, ?co20, ?co21, ?co22, ?co23, ?co24, ?co25, ?co26, trivial⟩
            case co0 =>
              intro a wx hE hin
              have i5 : a.eval (.tmp 5) = .pointer (some ⟨g, 0, none⟩) := hin 5 rfl
              clear hin
              have hcst : ∀ v, a.eval (.const v) = v := fun _ => rfl
              have hfnc : ∀ f, a.eval (.func f) = .func (.func f) #[] #[] := fun _ => rfl
              refine want_none rfl ?_
              unfold Oper.wp
              generalize a.eval = ρ at *
              go_simp
              try go_bits
              first | exact rel_val (Chg.refl _) | (go_simp; exact rel_val (Chg.refl _))
            case co1 =>
              rintro a wx hE hin (h0 : a.eval (.tmp 137) = _)
              clear hin
              have hcst : ∀ v, a.eval (.const v) = v := fun _ => rfl
              have hfnc : ∀ f, a.eval (.func f) = .func (.func f) #[] #[] := fun _ => rfl
              refine want_none rfl ?_
              unfold Oper.wp
              generalize a.eval = ρ at *
              go_simp
              refine (lowLoose wx g gs lv t (HT2c.out.a.drew.chgN hE).at_).mono ?_
              rintro e w' ⟨rfl, rfl⟩
              exact rel_val (Chg.refl _)
            case co2 =>
              intro a wx hE hin
              have i7 : a.eval (.tmp 7) = .pointer (some ⟨q, 0, none⟩) := hin 7 rfl
              clear hin
              have hcst : ∀ v, a.eval (.const v) = v := fun _ => rfl
              have hfnc : ∀ f, a.eval (.func f) = .func (.func f) #[] #[] := fun _ => rfl
              refine want_none rfl ?_
              unfold Oper.wp
              generalize a.eval = ρ at *
              go_simp
              try go_bits
              first | exact rel_val (Chg.refl _) | (go_simp; exact rel_val (Chg.refl _))
            case co3 =>
              rintro a wx hE hin (h2 : a.eval (.tmp 139) = _)
              clear hin
              have hcst : ∀ v, a.eval (.const v) = v := fun _ => rfl
              have hfnc : ∀ f, a.eval (.func f) = .func (.func f) #[] #[] := fun _ => rfl
              refine want_none rfl ?_
              unfold Oper.wp
              generalize a.eval = ρ at *
              go_simp
              try go_bits
              first | exact rel_val (Chg.refl _) | (go_simp; exact rel_val (Chg.refl _))
            case co4 =>
              rintro a wx hE hin (h3 : a.eval (.tmp 140) = _)
              clear hin
              have hcst : ∀ v, a.eval (.const v) = v := fun _ => rfl
              have hfnc : ∀ f, a.eval (.func f) = .func (.func f) #[] #[] := fun _ => rfl
              refine want_none rfl ?_
              unfold Oper.wp
              generalize a.eval = ρ at *
              go_simp
              try go_bits
              first | exact rel_val (Chg.refl _) | (go_simp; exact rel_val (Chg.refl _))
            case co5 =>
              rintro a wx hE hin (h4 : a.eval (.tmp 141) = _)
              clear hin
              have hcst : ∀ v, a.eval (.const v) = v := fun _ => rfl
              have hfnc : ∀ f, a.eval (.func f) = .func (.func f) #[] #[] := fun _ => rfl
              refine want_none rfl ?_
              unfold Oper.wp
              generalize a.eval = ρ at *
              have c := Bk.cell (j := 1) (DiskAt.chg (HT2c.out.b.drew.at_) hE (fun _ _ => id)).dk rfl
              go_simp
              try go_bits
              first | exact rel_val (Chg.refl _) | (go_simp; exact rel_val (Chg.refl _))
            case co6 =>
              rintro a wx hE hin (h5 : a.eval (.tmp 142) = _)
              clear hin
              have hcst : ∀ v, a.eval (.const v) = v := fun _ => rfl
              have hfnc : ∀ f, a.eval (.func f) = .func (.func f) #[] #[] := fun _ => rfl
              refine want_none rfl ?_
              unfold Oper.wp
              generalize a.eval = ρ at *
              go_simp
              try go_bits
              first | exact rel_val (Chg.refl _) | (go_simp; exact rel_val (Chg.refl _))
            case co7 =>
              rintro a wx hE hin (h1 : a.eval (.tmp 138) = _) (h6 : a.eval (.tmp 143) = _)
              clear hin
              have hcst : ∀ v, a.eval (.const v) = v := fun _ => rfl
              have hfnc : ∀ f, a.eval (.func f) = .func (.func f) #[] #[] := fun _ => rfl
              refine want_none rfl ?_
              unfold Oper.wp
              generalize a.eval = ρ at *
              go_simp
              try go_bits
              first | exact rel_val (e := .bool false) (Chg.refl _) | (simp only [bne_self_eq_false]; exact rel_val (e := .bool false) (Chg.refl _)) | (rw [bne_self_eq_false]; exact rel_val (e := .bool false) (Chg.refl _))
            case co8 =>
              rintro a wx hE hin (h7 : a.eval (.tmp 144) = _)
              clear hin
              have hcst : ∀ v, a.eval (.const v) = v := fun _ => rfl
              have hfnc : ∀ f, a.eval (.func f) = .func (.func f) #[] #[] := fun _ => rfl
              refine want_none rfl ?_
              unfold Oper.wp
              generalize a.eval = ρ at *
              go_simp
              try go_bits
              first | exact rel_val (Chg.refl _) | (go_simp; exact rel_val (Chg.refl _))
            case co9 =>
              rintro a wx hE hin (h8 : a.eval (.tmp 145) = _)
              have i5 : a.eval (.tmp 5) = .pointer (some ⟨g, 0, none⟩) := hin 5 rfl
              clear hin
              have hcst : ∀ v, a.eval (.const v) = v := fun _ => rfl
              have hfnc : ∀ f, a.eval (.func f) = .func (.func f) #[] #[] := fun _ => rfl
              refine want_yes rfl rfl h8 ?_
              unfold Oper.wp
              generalize a.eval = ρ at *
              go_simp
              try go_bits
              first | exact rel_val (Chg.refl _) | (go_simp; exact rel_val (Chg.refl _))
            case co10 =>
              rintro a wx hE hin (h8 : a.eval (.tmp 145) = _) (h9 : a.eval (.tmp 146) = _)
              clear hin
              have hcst : ∀ v, a.eval (.const v) = v := fun _ => rfl
              have hfnc : ∀ f, a.eval (.func f) = .func (.func f) #[] #[] := fun _ => rfl
              refine want_yes rfl rfl h8 ?_
              unfold Oper.wp
              generalize a.eval = ρ at *
              go_simp
              refine (lowDown wx g gs lv t (HT2c.out.a.drew.chgN hE).at_).mono ?_
              rintro e w' ⟨rfl, rfl⟩
              exact rel_val (Chg.refl _)
            case co11 =>
              rintro a wx hE hin (h8 : a.eval (.tmp 145) = _)
              have i7 : a.eval (.tmp 7) = .pointer (some ⟨q, 0, none⟩) := hin 7 rfl
              clear hin
              have hcst : ∀ v, a.eval (.const v) = v := fun _ => rfl
              have hfnc : ∀ f, a.eval (.func f) = .func (.func f) #[] #[] := fun _ => rfl
              refine want_yes rfl rfl h8 ?_
              unfold Oper.wp
              generalize a.eval = ρ at *
              go_simp
              try go_bits
              first | exact rel_val (Chg.refl _) | (go_simp; exact rel_val (Chg.refl _))
            case co12 =>
              rintro a wx hE hin (h8 : a.eval (.tmp 145) = _) (h11 : a.eval (.tmp 148) = _)
              clear hin
              have hcst : ∀ v, a.eval (.const v) = v := fun _ => rfl
              have hfnc : ∀ f, a.eval (.func f) = .func (.func f) #[] #[] := fun _ => rfl
              refine want_yes rfl rfl h8 ?_
              unfold Oper.wp
              generalize a.eval = ρ at *
              go_simp
              try go_bits
              first | exact rel_val (Chg.refl _) | (go_simp; exact rel_val (Chg.refl _))
            case co13 =>
              rintro a wx hE hin (h8 : a.eval (.tmp 145) = _) (h12 : a.eval (.tmp 149) = _)
              clear hin
              have hcst : ∀ v, a.eval (.const v) = v := fun _ => rfl
              have hfnc : ∀ f, a.eval (.func f) = .func (.func f) #[] #[] := fun _ => rfl
              refine want_yes rfl rfl h8 ?_
              unfold Oper.wp
              generalize a.eval = ρ at *
              go_simp
              try go_bits
              first | exact rel_val (Chg.refl _) | (go_simp; exact rel_val (Chg.refl _))
            case co14 =>
              rintro a wx hE hin (h8 : a.eval (.tmp 145) = _) (h13 : a.eval (.tmp 150) = _)
              clear hin
              have hcst : ∀ v, a.eval (.const v) = v := fun _ => rfl
              have hfnc : ∀ f, a.eval (.func f) = .func (.func f) #[] #[] := fun _ => rfl
              refine want_yes rfl rfl h8 ?_
              unfold Oper.wp
              generalize a.eval = ρ at *
              have c := Bk.cell (j := 3) (DiskAt.chg (HT2c.out.b.drew.at_) hE (fun _ _ => id)).dk rfl
              go_simp
              try go_bits
              first | exact rel_val (Chg.refl _) | (go_simp; exact rel_val (Chg.refl _))
            case co15 =>
              rintro a wx hE hin (h8 : a.eval (.tmp 145) = _) (h10 : a.eval (.tmp 147) = _) (h14 : a.eval (.tmp 151) = _)
              clear hin
              have hcst : ∀ v, a.eval (.const v) = v := fun _ => rfl
              have hfnc : ∀ f, a.eval (.func f) = .func (.func f) #[] #[] := fun _ => rfl
              refine want_yes rfl rfl h8 ?_
              unfold Oper.wp
              generalize a.eval = ρ at *
              go_simp
              try go_bits
              first | exact rel_val (e := .bool false) (Chg.refl _) | (simp only [bne_self_eq_false]; exact rel_val (e := .bool false) (Chg.refl _)) | (rw [bne_self_eq_false]; exact rel_val (e := .bool false) (Chg.refl _))
            case co16 =>
              rintro a wx hE hin (h8 : a.eval (.tmp 145) = _) (h15 : a.eval (.tmp 152) = _)
              clear hin
              have hcst : ∀ v, a.eval (.const v) = v := fun _ => rfl
              have hfnc : ∀ f, a.eval (.func f) = .func (.func f) #[] #[] := fun _ => rfl
              refine want_none rfl ?_
              unfold Oper.wp
              generalize a.eval = ρ at *
              go_simp
              try go_bits
              first | exact rel_val (Chg.refl _) | (go_simp; exact rel_val (Chg.refl _))
            case co17 =>
              rintro a wx hE hin (h16 : a.eval (.tmp 153) = _)
              clear hin
              have hcst : ∀ v, a.eval (.const v) = v := fun _ => rfl
              have hfnc : ∀ f, a.eval (.func f) = .func (.func f) #[] #[] := fun _ => rfl
              refine want_none rfl ?_
              unfold Oper.wp
              generalize a.eval = ρ at *
              go_simp
              try go_bits
              first | exact rel_val (Chg.refl _) | (go_simp; exact rel_val (Chg.refl _))
            case co18 =>
              rintro a wx hE hin (h17 : a.eval (.tmp 154) = _)
              have i5 : a.eval (.tmp 5) = .pointer (some ⟨g, 0, none⟩) := hin 5 rfl
              clear hin
              have hcst : ∀ v, a.eval (.const v) = v := fun _ => rfl
              have hfnc : ∀ f, a.eval (.func f) = .func (.func f) #[] #[] := fun _ => rfl
              refine want_yes rfl rfl h17 ?_
              unfold Oper.wp
              generalize a.eval = ρ at *
              go_simp
              try go_bits
              first | exact rel_val (Chg.refl _) | (go_simp; exact rel_val (Chg.refl _))
            case co19 =>
              rintro a wx hE hin (h17 : a.eval (.tmp 154) = _) (h18 : a.eval (.tmp 155) = _)
              clear hin
              have hcst : ∀ v, a.eval (.const v) = v := fun _ => rfl
              have hfnc : ∀ f, a.eval (.func f) = .func (.func f) #[] #[] := fun _ => rfl
              refine want_yes rfl rfl h17 ?_
              unfold Oper.wp
              generalize a.eval = ρ at *
              go_simp
              refine (lowLen wx g gs lv t (HT2c.out.a.drew.chgN hE).at_).mono ?_
              rintro e w' ⟨rfl, rfl⟩
              exact rel_val (Chg.refl _)
            case co20 =>
              rintro a wx hE hin (h17 : a.eval (.tmp 154) = _)
              have i7 : a.eval (.tmp 7) = .pointer (some ⟨q, 0, none⟩) := hin 7 rfl
              clear hin
              have hcst : ∀ v, a.eval (.const v) = v := fun _ => rfl
              have hfnc : ∀ f, a.eval (.func f) = .func (.func f) #[] #[] := fun _ => rfl
              refine want_yes rfl rfl h17 ?_
              unfold Oper.wp
              generalize a.eval = ρ at *
              go_simp
              try go_bits
              first | exact rel_val (Chg.refl _) | (go_simp; exact rel_val (Chg.refl _))
            case co21 =>
              rintro a wx hE hin (h17 : a.eval (.tmp 154) = _) (h20 : a.eval (.tmp 157) = _)
              clear hin
              have hcst : ∀ v, a.eval (.const v) = v := fun _ => rfl
              have hfnc : ∀ f, a.eval (.func f) = .func (.func f) #[] #[] := fun _ => rfl
              refine want_yes rfl rfl h17 ?_
              unfold Oper.wp
              generalize a.eval = ρ at *
              go_simp
              try go_bits
              first | exact rel_val (Chg.refl _) | (go_simp; exact rel_val (Chg.refl _))
            case co22 =>
              rintro a wx hE hin (h17 : a.eval (.tmp 154) = _) (h21 : a.eval (.tmp 158) = _)
              clear hin
              have hcst : ∀ v, a.eval (.const v) = v := fun _ => rfl
              have hfnc : ∀ f, a.eval (.func f) = .func (.func f) #[] #[] := fun _ => rfl
              refine want_yes rfl rfl h17 ?_
              unfold Oper.wp
              generalize a.eval = ρ at *
              go_simp
              try go_bits
              first | exact rel_val (Chg.refl _) | (go_simp; exact rel_val (Chg.refl _))
            case co23 =>
              rintro a wx hE hin (h17 : a.eval (.tmp 154) = _) (h22 : a.eval (.tmp 159) = _)
              clear hin
              have hcst : ∀ v, a.eval (.const v) = v := fun _ => rfl
              have hfnc : ∀ f, a.eval (.func f) = .func (.func f) #[] #[] := fun _ => rfl
              refine want_yes rfl rfl h17 ?_
              unfold Oper.wp
              generalize a.eval = ρ at *
              have c := Bk.cell (j := 0) (DiskAt.chg (HT2c.out.b.drew.at_) hE (fun _ _ => id)).dk rfl
              go_simp
              try go_bits
              first | exact rel_val (Chg.refl _) | (go_simp; exact rel_val (Chg.refl _))
            case co24 =>
              rintro a wx hE hin (h17 : a.eval (.tmp 154) = _) (h23 : a.eval (.tmp 160) = _)
              clear hin
              have hcst : ∀ v, a.eval (.const v) = v := fun _ => rfl
              have hfnc : ∀ f, a.eval (.func f) = .func (.func f) #[] #[] := fun _ => rfl
              refine want_yes rfl rfl h17 ?_
              unfold Oper.wp
              generalize a.eval = ρ at *
              go_simp
              try go_bits
              first | exact rel_val (Chg.refl _) | (go_simp; exact rel_val (Chg.refl _))
            case co25 =>
              rintro a wx hE hin (h17 : a.eval (.tmp 154) = _) (h19 : a.eval (.tmp 156) = _) (h24 : a.eval (.tmp 161) = _)
              clear hin
              have hcst : ∀ v, a.eval (.const v) = v := fun _ => rfl
              have hfnc : ∀ f, a.eval (.func f) = .func (.func f) #[] #[] := fun _ => rfl
              refine want_yes rfl rfl h17 ?_
              unfold Oper.wp
              generalize a.eval = ρ at *
              go_simp
              try go_bits
              first | exact rel_val (e := .bool false) (Chg.refl _) | (simp only [bne_self_eq_false]; exact rel_val (e := .bool false) (Chg.refl _)) | (rw [bne_self_eq_false]; exact rel_val (e := .bool false) (Chg.refl _))
            case co26 =>
              rintro a wx hE hin (h17 : a.eval (.tmp 154) = _) (h25 : a.eval (.tmp 162) = _)
              clear hin
              have hcst : ∀ v, a.eval (.const v) = v := fun _ => rfl
              have hfnc : ∀ f, a.eval (.func f) = .func (.func f) #[] #[] := fun _ => rfl
              refine want_none rfl ?_
              unfold Oper.wp
              generalize a.eval = ρ at *
              go_simp
              try go_bits
              first | exact rel_val (Chg.refl _) | (go_simp; exact rel_val (Chg.refl _))
          case cfin =>
            intro wx hE
            rintro _ rfl _ rfl _ rfl _ rfl _ rfl _ rfl _ rfl _ rfl _ rfl _ rfl _ rfl _ rfl _ rfl _ rfl _ rfl _ rfl _ rfl _ rfl _ rfl _ rfl _ rfl _ rfl _ rfl _ rfl _ rfl _ rfl _ rfl
            simp only [FinOk, List.take_succ_cons, List.take_zero, List.take_nil, List.drop_succ_cons, List.drop_zero, List.drop_nil, Act.put, List.setIfInBounds_toArray, List.set_cons_succ, List.set_cons_zero]
            have HT7 := Lib.hid (HT2c.out.drew.chgN hE)
            clear hE
            go_wp2_with fail
            go_roundw
            case rel => exact ⟨k + 1, lv, _, t, by omega, by go_num, HTK.out.more, HT7.out⟩
            case measure => simp [intOf]; omega
        · have hkb1 : (s5.k == 1) = false := by rw [beq_eq_false_iff_ne]; exact hk1
          by_cases hk2 : s5.k = 2
          · have hkb2 : (s5.k == 2) = true := by rw [hk2]; rfl
            go_wp2_with fail
            refine (diskFlush_at w2 g gs lv t.low HT.out.a.at_ HTK.out.lo HTK.out.hi).mono ?_
            intro e w3 hp
            rw [low_flush, low_flushE] at hp
            obtain ⟨rfl, lv3, ht3⟩ := HT.out.post hp
            have HT3 := Lib.hid ht3
            clear hp ht3
            go_wp2_with fail
            refine (refFlush_at w3 q qs mv t HT3.out.b.at_ HTK.out.f1 HTK.out.f2).mono ?_
            intro e w4 hp
            obtain ⟨rfl, mv4, ht4⟩ := HT3.out.post2 hp
            have HT4 := Lib.hid ht4
            have HTK4 := Lib.hid HTK.out.flush
            clear hp ht4
            generalize t.flush = t4 at HT4 HTK4
            go_wp2_with fail
            obtain ⟨Am, cm, hmv, _, _, _⟩ := own_rd HT4.out.b.at_.own
            subst hmv
            apply wp_region_rel 27 (Chg NoS) [(Veq _), (Veq _), (Veq _), (Veq _), (Veq _), (Veq _), (Veq _), (Veq _), (Veq _), (Veq _), (Veq _), (Veq _), (Veq _), (Veq _), (Veq _), (Veq _), (Veq _), (Veq _), (Veq _), (Veq _), (Veq _), (Veq _), (Veq _), (Veq _), (Veq _), (Veq _), (Veq _)] [[], [0], [], [2], [3], [4], [5], [1, 6], [7], [8], [8, 9], [8], [8, 11], [8, 12], [8, 13], [8, 10, 14], [8, 15], [16], [17], [17, 18], [17], [17, 20], [17, 21], [17, 22], [17, 23], [17, 19, 24], [17, 25]] [137, 138, 139, 140, 141, 142, 143, 144, 145, 146, 147, 148, 149, 150, 151, 152, 153, 154, 155, 156, 157, 158, 159, 160, 161, 162, 163] (by kernel_rfl) (by kernel_rfl) rfl rfl rfl Chg.refl (fun _ _ _ => Chg.trans) ⟨Veq.lasts, Veq.lasts, Veq.lasts, Veq.lasts, Veq.lasts, Veq.lasts, Veq.lasts, Veq.lasts, Veq.lasts, Veq.lasts, Veq.lasts, Veq.lasts, Veq.lasts, Veq.lasts, Veq.lasts, Veq.lasts, Veq.lasts, Veq.lasts, Veq.lasts, Veq.lasts, Veq.lasts, Veq.lasts, Veq.lasts, Veq.lasts, Veq.lasts, Veq.lasts, Veq.lasts, trivial⟩ ?dops ?dfin
            case dops =>
              refine ⟨?do0, ?do1, ?do2, ?do3, ?do4, ?do5, ?do6, ?do7, ?do8, ?do9, ?do10, ?do11, ?do12, ?do13, ?do14, ?do15, ?do16, ?do17, ?do18, ?do19, ?do20, ?do21, ?do22, ?do23, ?do24, ?do25, ?do26, trivial⟩
              case do0 =>
                intro a wx hE hin
                have i5 : a.eval (.tmp 5) = .pointer (some ⟨g, 0, none⟩) := hin 5 rfl
                clear hin
                have hcst : ∀ v, a.eval (.const v) = v := fun _ => rfl
                have hfnc : ∀ f, a.eval (.func f) = .func (.func f) #[] #[] := fun _ => rfl
                refine want_none rfl ?_
                unfold Oper.wp
                generalize a.eval = ρ at *
                go_simp
                try go_bits
                first | exact rel_val (Chg.refl _) | (go_simp; exact rel_val (Chg.refl _))
              case do1 =>
                rintro a wx hE hin (h0 : a.eval (.tmp 137) = _)
                clear hin
                have hcst : ∀ v, a.eval (.const v) = v := fun _ => rfl
                have hfnc : ∀ f, a.eval (.func f) = .func (.func f) #[] #[] := fun _ => rfl
                refine want_none rfl ?_
                unfold Oper.wp
                generalize a.eval = ρ at *
                go_simp
                refine (lowLoose wx g gs lv3 t4 (HT4.out.a.drew.chgN hE).at_).mono ?_
                rintro e w' ⟨rfl, rfl⟩
                exact rel_val (Chg.refl _)
              case do2 =>
                intro a wx hE hin
                have i7 : a.eval (.tmp 7) = .pointer (some ⟨q, 0, none⟩) := hin 7 rfl
                clear hin
                have hcst : ∀ v, a.eval (.const v) = v := fun _ => rfl
                have hfnc : ∀ f, a.eval (.func f) = .func (.func f) #[] #[] := fun _ => rfl
                refine want_none rfl ?_
                unfold Oper.wp
                generalize a.eval = ρ at *
                go_simp
                try go_bits
                first | exact rel_val (Chg.refl _) | (go_simp; exact rel_val (Chg.refl _))
              case do3 =>
                rintro a wx hE hin (h2 : a.eval (.tmp 139) = _)
                clear hin
                have hcst : ∀ v, a.eval (.const v) = v := fun _ => rfl
                have hfnc : ∀ f, a.eval (.func f) = .func (.func f) #[] #[] := fun _ => rfl
                refine want_none rfl ?_
                unfold Oper.wp
                generalize a.eval = ρ at *
                go_simp
                try go_bits
                first | exact rel_val (Chg.refl _) | (go_simp; exact rel_val (Chg.refl _))
              case do4 =>
                rintro a wx hE hin (h3 : a.eval (.tmp 140) = _)
                clear hin
                have hcst : ∀ v, a.eval (.const v) = v := fun _ => rfl
                have hfnc : ∀ f, a.eval (.func f) = .func (.func f) #[] #[] := fun _ => rfl
                refine want_none rfl ?_
                unfold Oper.wp
                generalize a.eval = ρ at *
                go_simp
                try go_bits
                first | exact rel_val (Chg.refl _) | (go_simp; exact rel_val (Chg.refl _))
              case do5 =>
                rintro a wx hE hin (h4 : a.eval (.tmp 141) = _)
                clear hin
                have hcst : ∀ v, a.eval (.const v) = v := fun _ => rfl
                have hfnc : ∀ f, a.eval (.func f) = .func (.func f) #[] #[] := fun _ => rfl
                refine want_none rfl ?_
                unfold Oper.wp
                generalize a.eval = ρ at *
                have c := Bk.cell (j := 1) (DiskAt.chg (HT4.out.b.drew.at_) hE (fun _ _ => id)).dk rfl
                go_simp
                try go_bits
                first | exact rel_val (Chg.refl _) | (go_simp; exact rel_val (Chg.refl _))
              case do6 =>
                rintro a wx hE hin (h5 : a.eval (.tmp 142) = _)
                clear hin
                have hcst : ∀ v, a.eval (.const v) = v := fun _ => rfl
                have hfnc : ∀ f, a.eval (.func f) = .func (.func f) #[] #[] := fun _ => rfl
                refine want_none rfl ?_
                unfold Oper.wp
                generalize a.eval = ρ at *
                go_simp
                try go_bits
                first | exact rel_val (Chg.refl _) | (go_simp; exact rel_val (Chg.refl _))
              case do7 =>
                rintro a wx hE hin (h1 : a.eval (.tmp 138) = _) (h6 : a.eval (.tmp 143) = _)
                clear hin
                have hcst : ∀ v, a.eval (.const v) = v := fun _ => rfl
                have hfnc : ∀ f, a.eval (.func f) = .func (.func f) #[] #[] := fun _ => rfl
                refine want_none rfl ?_
                unfold Oper.wp
                generalize a.eval = ρ at *
                go_simp
                try go_bits
                first | exact rel_val (e := .bool false) (Chg.refl _) | (simp only [bne_self_eq_false]; exact rel_val (e := .bool false) (Chg.refl _)) | (rw [bne_self_eq_false]; exact rel_val (e := .bool false) (Chg.refl _))
              case do8 =>
                rintro a wx hE hin (h7 : a.eval (.tmp 144) = _)
                clear hin
                have hcst : ∀ v, a.eval (.const v) = v := fun _ => rfl
                have hfnc : ∀ f, a.eval (.func f) = .func (.func f) #[] #[] := fun _ => rfl
                refine want_none rfl ?_
                unfold Oper.wp
                generalize a.eval = ρ at *
                go_simp
                try go_bits
                first | exact rel_val (Chg.refl _) | (go_simp; exact rel_val (Chg.refl _))
              case do9 =>
                rintro a wx hE hin (h8 : a.eval (.tmp 145) = _)
                have i5 : a.eval (.tmp 5) = .pointer (some ⟨g, 0, none⟩) := hin 5 rfl
                clear hin
                have hcst : ∀ v, a.eval (.const v) = v := fun _ => rfl
                have hfnc : ∀ f, a.eval (.func f) = .func (.func f) #[] #[] := fun _ => rfl
                refine want_yes rfl rfl h8 ?_
                unfold Oper.wp
                generalize a.eval = ρ at *
                go_simp
                try go_bits
                first | exact rel_val (Chg.refl _) | (go_simp; exact rel_val (Chg.refl _))
              case do10 =>
                rintro a wx hE hin (h8 : a.eval (.tmp 145) = _) (h9 : a.eval (.tmp 146) = _)
                clear hin
                have hcst : ∀ v, a.eval (.const v) = v := fun _ => rfl
                have hfnc : ∀ f, a.eval (.func f) = .func (.func f) #[] #[] := fun _ => rfl
                refine want_yes rfl rfl h8 ?_
                unfold Oper.wp
                generalize a.eval = ρ at *
                go_simp
                refine (lowDown wx g gs lv3 t4 (HT4.out.a.drew.chgN hE).at_).mono ?_
                rintro e w' ⟨rfl, rfl⟩
                exact rel_val (Chg.refl _)
              case do11 =>
                rintro a wx hE hin (h8 : a.eval (.tmp 145) = _)
                have i7 : a.eval (.tmp 7) = .pointer (some ⟨q, 0, none⟩) := hin 7 rfl
                clear hin
                have hcst : ∀ v, a.eval (.const v) = v := fun _ => rfl
                have hfnc : ∀ f, a.eval (.func f) = .func (.func f) #[] #[] := fun _ => rfl
                refine want_yes rfl rfl h8 ?_
                unfold Oper.wp
                generalize a.eval = ρ at *
                go_simp
                try go_bits
                first | exact rel_val (Chg.refl _) | (go_simp; exact rel_val (Chg.refl _))
              case do12 =>
                rintro a wx hE hin (h8 : a.eval (.tmp 145) = _) (h11 : a.eval (.tmp 148) = _)
                clear hin
                have hcst : ∀ v, a.eval (.const v) = v := fun _ => rfl
                have hfnc : ∀ f, a.eval (.func f) = .func (.func f) #[] #[] := fun _ => rfl
                refine want_yes rfl rfl h8 ?_
                unfold Oper.wp
                generalize a.eval = ρ at *
                go_simp
                try go_bits
                first | exact rel_val (Chg.refl _) | (go_simp; exact rel_val (Chg.refl _))
              case do13 =>
                rintro a wx hE hin (h8 : a.eval (.tmp 145) = _) (h12 : a.eval (.tmp 149) = _)
                clear hin
                have hcst : ∀ v, a.eval (.const v) = v := fun _ => rfl
                have hfnc : ∀ f, a.eval (.func f) = .func (.func f) #[] #[] := fun _ => rfl
                refine want_yes rfl rfl h8 ?_
                unfold Oper.wp
                generalize a.eval = ρ at *
                go_simp
                try go_bits
                first | exact rel_val (Chg.refl _) | (go_simp; exact rel_val (Chg.refl _))
              case do14 =>
                rintro a wx hE hin (h8 : a.eval (.tmp 145) = _) (h13 : a.eval (.tmp 150) = _)
                clear hin
                have hcst : ∀ v, a.eval (.const v) = v := fun _ => rfl
                have hfnc : ∀ f, a.eval (.func f) = .func (.func f) #[] #[] := fun _ => rfl
                refine want_yes rfl rfl h8 ?_
                unfold Oper.wp
                generalize a.eval = ρ at *
                have c := Bk.cell (j := 3) (DiskAt.chg (HT4.out.b.drew.at_) hE (fun _ _ => id)).dk rfl
                go_simp
                try go_bits
                first | exact rel_val (Chg.refl _) | (go_simp; exact rel_val (Chg.refl _))
              case do15 =>
                rintro a wx hE hin (h8 : a.eval (.tmp 145) = _) (h10 : a.eval (.tmp 147) = _) (h14 : a.eval (.tmp 151) = _)
                clear hin
                have hcst : ∀ v, a.eval (.const v) = v := fun _ => rfl
                have hfnc : ∀ f, a.eval (.func f) = .func (.func f) #[] #[] := fun _ => rfl
                refine want_yes rfl rfl h8 ?_
                unfold Oper.wp
                generalize a.eval = ρ at *
                go_simp
                try go_bits
                first | exact rel_val (e := .bool false) (Chg.refl _) | (simp only [bne_self_eq_false]; exact rel_val (e := .bool false) (Chg.refl _)) | (rw [bne_self_eq_false]; exact rel_val (e := .bool false) (Chg.refl _))
              case do16 =>
                rintro a wx hE hin (h8 : a.eval (.tmp 145) = _) (h15 : a.eval (.tmp 152) = _)
                clear hin
                have hcst : ∀ v, a.eval (.const v) = v := fun _ => rfl
                have hfnc : ∀ f, a.eval (.func f) = .func (.func f) #[] #[] := fun _ => rfl
                refine want_none rfl ?_
                unfold Oper.wp
                generalize a.eval = ρ at *
                go_simp
                try go_bits
                first | exact rel_val (Chg.refl _) | (go_simp; exact rel_val (Chg.refl _))
              case do17 =>
                rintro a wx hE hin (h16 : a.eval (.tmp 153) = _)
                clear hin
                have hcst : ∀ v, a.eval (.const v) = v := fun _ => rfl
                have hfnc : ∀ f, a.eval (.func f) = .func (.func f) #[] #[] := fun _ => rfl
                refine want_none rfl ?_
                unfold Oper.wp
                generalize a.eval = ρ at *
                go_simp
                try go_bits
                first | exact rel_val (Chg.refl _) | (go_simp; exact rel_val (Chg.refl _))
              case do18 =>
                rintro a wx hE hin (h17 : a.eval (.tmp 154) = _)
                have i5 : a.eval (.tmp 5) = .pointer (some ⟨g, 0, none⟩) := hin 5 rfl
                clear hin
                have hcst : ∀ v, a.eval (.const v) = v := fun _ => rfl
                have hfnc : ∀ f, a.eval (.func f) = .func (.func f) #[] #[] := fun _ => rfl
                refine want_yes rfl rfl h17 ?_
                unfold Oper.wp
                generalize a.eval = ρ at *
                go_simp
                try go_bits
                first | exact rel_val (Chg.refl _) | (go_simp; exact rel_val (Chg.refl _))
              case do19 =>
                rintro a wx hE hin (h17 : a.eval (.tmp 154) = _) (h18 : a.eval (.tmp 155) = _)
                clear hin
                have hcst : ∀ v, a.eval (.const v) = v := fun _ => rfl
                have hfnc : ∀ f, a.eval (.func f) = .func (.func f) #[] #[] := fun _ => rfl
                refine want_yes rfl rfl h17 ?_
                unfold Oper.wp
                generalize a.eval = ρ at *
                go_simp
                refine (lowLen wx g gs lv3 t4 (HT4.out.a.drew.chgN hE).at_).mono ?_
                rintro e w' ⟨rfl, rfl⟩
                exact rel_val (Chg.refl _)
              case do20 =>
                rintro a wx hE hin (h17 : a.eval (.tmp 154) = _)
                have i7 : a.eval (.tmp 7) = .pointer (some ⟨q, 0, none⟩) := hin 7 rfl
                clear hin
                have hcst : ∀ v, a.eval (.const v) = v := fun _ => rfl
                have hfnc : ∀ f, a.eval (.func f) = .func (.func f) #[] #[] := fun _ => rfl
                refine want_yes rfl rfl h17 ?_
                unfold Oper.wp
                generalize a.eval = ρ at *
                go_simp
                try go_bits
                first | exact rel_val (Chg.refl _) | (go_simp; exact rel_val (Chg.refl _))
              case do21 =>
                rintro a wx hE hin (h17 : a.eval (.tmp 154) = _) (h20 : a.eval (.tmp 157) = _)
                clear hin
                have hcst : ∀ v, a.eval (.const v) = v := fun _ => rfl
                have hfnc : ∀ f, a.eval (.func f) = .func (.func f) #[] #[] := fun _ => rfl
                refine want_yes rfl rfl h17 ?_
                unfold Oper.wp
                generalize a.eval = ρ at *
                go_simp
                try go_bits
                first | exact rel_val (Chg.refl _) | (go_simp; exact rel_val (Chg.refl _))
              case do22 =>
                rintro a wx hE hin (h17 : a.eval (.tmp 154) = _) (h21 : a.eval (.tmp 158) = _)
                clear hin
                have hcst : ∀ v, a.eval (.const v) = v := fun _ => rfl
                have hfnc : ∀ f, a.eval (.func f) = .func (.func f) #[] #[] := fun _ => rfl
                refine want_yes rfl rfl h17 ?_
                unfold Oper.wp
                generalize a.eval = ρ at *
                go_simp
                try go_bits
                first | exact rel_val (Chg.refl _) | (go_simp; exact rel_val (Chg.refl _))
              case do23 =>
                rintro a wx hE hin (h17 : a.eval (.tmp 154) = _) (h22 : a.eval (.tmp 159) = _)
                clear hin
                have hcst : ∀ v, a.eval (.const v) = v := fun _ => rfl
                have hfnc : ∀ f, a.eval (.func f) = .func (.func f) #[] #[] := fun _ => rfl
                refine want_yes rfl rfl h17 ?_
                unfold Oper.wp
                generalize a.eval = ρ at *
                have c := Bk.cell (j := 0) (DiskAt.chg (HT4.out.b.drew.at_) hE (fun _ _ => id)).dk rfl
                go_simp
                try go_bits
                first | exact rel_val (Chg.refl _) | (go_simp; exact rel_val (Chg.refl _))
              case do24 =>
                rintro a wx hE hin (h17 : a.eval (.tmp 154) = _) (h23 : a.eval (.tmp 160) = _)
                clear hin
                have hcst : ∀ v, a.eval (.const v) = v := fun _ => rfl
                have hfnc : ∀ f, a.eval (.func f) = .func (.func f) #[] #[] := fun _ => rfl
                refine want_yes rfl rfl h17 ?_
                unfold Oper.wp
                generalize a.eval = ρ at *
                go_simp
                try go_bits
                first | exact rel_val (Chg.refl _) | (go_simp; exact rel_val (Chg.refl _))
              case do25 =>
                rintro a wx hE hin (h17 : a.eval (.tmp 154) = _) (h19 : a.eval (.tmp 156) = _) (h24 : a.eval (.tmp 161) = _)
                clear hin
                have hcst : ∀ v, a.eval (.const v) = v := fun _ => rfl
                have hfnc : ∀ f, a.eval (.func f) = .func (.func f) #[] #[] := fun _ => rfl
                refine want_yes rfl rfl h17 ?_
                unfold Oper.wp
                generalize a.eval = ρ at *
                go_simp
                try go_bits
                first | exact rel_val (e := .bool false) (Chg.refl _) | (simp only [bne_self_eq_false]; exact rel_val (e := .bool false) (Chg.refl _)) | (rw [bne_self_eq_false]; exact rel_val (e := .bool false) (Chg.refl _))
              case do26 =>
                rintro a wx hE hin (h17 : a.eval (.tmp 154) = _) (h25 : a.eval (.tmp 162) = _)
                clear hin
                have hcst : ∀ v, a.eval (.const v) = v := fun _ => rfl
                have hfnc : ∀ f, a.eval (.func f) = .func (.func f) #[] #[] := fun _ => rfl
                refine want_none rfl ?_
                unfold Oper.wp
                generalize a.eval = ρ at *
                go_simp
                try go_bits
                first | exact rel_val (Chg.refl _) | (go_simp; exact rel_val (Chg.refl _))
            case dfin =>
              intro wx hE
              rintro _ rfl _ rfl _ rfl _ rfl _ rfl _ rfl _ rfl _ rfl _ rfl _ rfl _ rfl _ rfl _ rfl _ rfl _ rfl _ rfl _ rfl _ rfl _ rfl _ rfl _ rfl _ rfl _ rfl _ rfl _ rfl _ rfl _ rfl
              simp only [FinOk, List.take_succ_cons, List.take_zero, List.take_nil, List.drop_succ_cons, List.drop_zero, List.drop_nil, Act.put, List.setIfInBounds_toArray, List.set_cons_succ, List.set_cons_zero]
              have HT7 := Lib.hid (HT4.out.drew.chgN hE)
              clear hE
              go_wp2_with fail
              go_roundw
              case rel => exact ⟨k + 1, lv3, _, t4, by omega, by go_num, HTK4.out, HT7.out⟩
              case measure => simp [intOf]; omega
          · have hkb2 : (s5.k == 2) = false := by rw [beq_eq_false_iff_ne]; exact hk2
            by_cases hk3 : s5.k = 3
            · have hkb3 : (s5.k == 3) = true := by rw [hk3]; rfl
              have d3a : (w2.alloc (.cells #[] 5)).cell? ⟨gx, 3, none⟩ = some (.slice s5.A s5.n s5.c) := Bk.cell (HX.out.alloc _) rfl
              go_wp2_with (at_builtin; refine wpList_append_rd rfl _ _ 32 rfl w2.heap.size 5 (.int .u8 0) 1 1 Try.underlying32 info_u8d rfl (by decide) (by decide) (.slice (some ⟨w2.heap.size, 0, none⟩) 0 0) 0 [] rfl ?own s5.A s5.n s5.c (bts s5.ks) rfl ?len ?rd (one_bts _) ?bytes ?base ?_)
              case own => exact empty_own' _ _ rfl
              case len => rw [bts_length, HSO.out.len, Nat.mul_one]
              case rd => exact (HSO.out.rd.below HT.out.a.bel).alloc _
              case bytes => have := HSO.out.cap; have := HSN.out; omega
              case base => simp
              intro v1 w4 hown1 hg1 hat1
              obtain ⟨A4, c4, rfl, hb4, hr4⟩ := copied hown1 hg1
              have HT4 := Lib.hid (HT.out.below hb4)
              have HX4 := Lib.hid (HX.out.below hb4)
              have HR4 := Lib.hid (hr4 g gs (DiskAt.lt HT.out.a.at_ _ (.inl rfl)) (DiskAt.lt HT.out.a.at_ _ (.inr (.inl rfl))))
              clear hown1 hg1 hat1 hb4 hr4 d1 d3 d3a
              go_wp2_with fail
              refine (diskUp_at w4 g gs lv t.low A4 s5.n c4 s5.ks HT4.out.a.at_ HSO.out.len HR4.out).mono ?_
              intro e w5 hp
              rw [low_up] at hp
              have HX5 := Lib.hid (HX4.out.chg hp.2.choose_spec.2.2 (fun hf => HBS.out.1 _ hf rfl))
              obtain ⟨rfl, lv5, ht5⟩ := HT4.out.post hp
              have HT5 := Lib.hid ht5
              have d3 := Bk.cell (j := 3) HX5.out rfl
              clear hp ht5
              go_wp2_with fail
              refine (refUp_at w5 q qs mv t s5.A s5.n s5.c s5.ks HT5.out.b.at_ HSO.out.len (fun w' hc => HSO.out.rd.below (HT5.out.a.bel.trans (hc.below HT5.out.a.bel.size (fun j hj hf => by
                rcases hf with rfl | rfl
                · have := HT5.out.b.fr _ (.inl rfl); omega
                · have := HT5.out.b.fr _ (.inr (.inl rfl)); omega))))).mono ?_
              intro e w6 hp
              obtain ⟨rfl, mv6, ht6⟩ := HT5.out.post2 hp
              have HT6 := Lib.hid ht6
              have HTK6 := Lib.hid (HTK.out.up s5.ks)
              clear hp ht6 d3
              generalize t.up s5.ks = t6 at HT6 HTK6
              go_wp2_with fail
              obtain ⟨Am, cm, hmv, _, _, _⟩ := own_rd HT6.out.b.at_.own
              subst hmv
              apply wp_region_rel 27 (Chg NoS) [(Veq _), (Veq _), (Veq _), (Veq _), (Veq _), (Veq _), (Veq _), (Veq _), (Veq _), (Veq _), (Veq _), (Veq _), (Veq _), (Veq _), (Veq _), (Veq _), (Veq _), (Veq _), (Veq _), (Veq _), (Veq _), (Veq _), (Veq _), (Veq _), (Veq _), (Veq _), (Veq _)] [[], [0], [], [2], [3], [4], [5], [1, 6], [7], [8], [8, 9], [8], [8, 11], [8, 12], [8, 13], [8, 10, 14], [8, 15], [16], [17], [17, 18], [17], [17, 20], [17, 21], [17, 22], [17, 23], [17, 19, 24], [17, 25]] [137, 138, 139, 140, 141, 142, 143, 144, 145, 146, 147, 148, 149, 150, 151, 152, 153, 154, 155, 156, 157, 158, 159, 160, 161, 162, 163] (by kernel_rfl) (by kernel_rfl) rfl rfl rfl Chg.refl (fun _ _ _ => Chg.trans) ⟨Veq.lasts, Veq.lasts, Veq.lasts, Veq.lasts, Veq.lasts, Veq.lasts, Veq.lasts, Veq.lasts, Veq.lasts, Veq.lasts, Veq.lasts, Veq.lasts, Veq.lasts, Veq.lasts, Veq.lasts, Veq.lasts, Veq.lasts, Veq.lasts, Veq.lasts, Veq.lasts, Veq.lasts, Veq.lasts, Veq.lasts, Veq.lasts, Veq.lasts, Veq.lasts, Veq.lasts, trivial⟩ ?eops ?efin
              case eops =>
                refine ⟨?eo0, ?eo1, ?eo2, ?eo3, ?eo4, ?eo5, ?eo6, ?eo7, ?eo8, ?eo9, ?eo10, ?eo11, ?eo12, ?eo13, ?eo14, ?eo15, ?eo16, ?eo17, ?eo18, ?eo19, ?eo20, ?eo21, ?eo22, ?eo23, ?eo24, ?eo25, ?eo26, trivial⟩
                case eo0 =>
                  intro a wx hE hin
                  have i5 : a.eval (.tmp 5) = .pointer (some ⟨g, 0, none⟩) := hin 5 rfl
                  clear hin
                  have hcst : ∀ v, a.eval (.const v) = v := fun _ => rfl
                  have hfnc : ∀ f, a.eval (.func f) = .func (.func f) #[] #[] := fun _ => rfl
                  refine want_none rfl ?_
                  unfold Oper.wp
                  generalize a.eval = ρ at *
                  go_simp
                  try go_bits
                  first | exact rel_val (Chg.refl _) | (go_simp; exact rel_val (Chg.refl _))
                case eo1 =>
                  rintro a wx hE hin (h0 : a.eval (.tmp 137) = _)
                  clear hin
                  have hcst : ∀ v, a.eval (.const v) = v := fun _ => rfl
                  have hfnc : ∀ f, a.eval (.func f) = .func (.func f) #[] #[] := fun _ => rfl
                  refine want_none rfl ?_
                  unfold Oper.wp
                  generalize a.eval = ρ at *
                  go_simp
                  refine (lowLoose wx g gs lv5 t6 (HT6.out.a.drew.chgN hE).at_).mono ?_
                  rintro e w' ⟨rfl, rfl⟩
                  exact rel_val (Chg.refl _)
                case eo2 =>
                  intro a wx hE hin
                  have i7 : a.eval (.tmp 7) = .pointer (some ⟨q, 0, none⟩) := hin 7 rfl
                  clear hin
                  have hcst : ∀ v, a.eval (.const v) = v := fun _ => rfl
                  have hfnc : ∀ f, a.eval (.func f) = .func (.func f) #[] #[] := fun _ => rfl
                  refine want_none rfl ?_
                  unfold Oper.wp
                  generalize a.eval = ρ at *
                  go_simp
                  try go_bits
                  first | exact rel_val (Chg.refl _) | (go_simp; exact rel_val (Chg.refl _))
                case eo3 =>
                  rintro a wx hE hin (h2 : a.eval (.tmp 139) = _)
                  clear hin
                  have hcst : ∀ v, a.eval (.const v) = v := fun _ => rfl
                  have hfnc : ∀ f, a.eval (.func f) = .func (.func f) #[] #[] := fun _ => rfl
                  refine want_none rfl ?_
                  unfold Oper.wp
                  generalize a.eval = ρ at *
                  go_simp
                  try go_bits
                  first | exact rel_val (Chg.refl _) | (go_simp; exact rel_val (Chg.refl _))
                case eo4 =>
                  rintro a wx hE hin (h3 : a.eval (.tmp 140) = _)
                  clear hin
                  have hcst : ∀ v, a.eval (.const v) = v := fun _ => rfl
                  have hfnc : ∀ f, a.eval (.func f) = .func (.func f) #[] #[] := fun _ => rfl
                  refine want_none rfl ?_
                  unfold Oper.wp
                  generalize a.eval = ρ at *
                  go_simp
                  try go_bits
                  first | exact rel_val (Chg.refl _) | (go_simp; exact rel_val (Chg.refl _))
                case eo5 =>
                  rintro a wx hE hin (h4 : a.eval (.tmp 141) = _)
                  clear hin
                  have hcst : ∀ v, a.eval (.const v) = v := fun _ => rfl
                  have hfnc : ∀ f, a.eval (.func f) = .func (.func f) #[] #[] := fun _ => rfl
                  refine want_none rfl ?_
                  unfold Oper.wp
                  generalize a.eval = ρ at *
                  have c := Bk.cell (j := 1) (DiskAt.chg (HT6.out.b.drew.at_) hE (fun _ _ => id)).dk rfl
                  go_simp
                  try go_bits
                  first | exact rel_val (Chg.refl _) | (go_simp; exact rel_val (Chg.refl _))
                case eo6 =>
                  rintro a wx hE hin (h5 : a.eval (.tmp 142) = _)
                  clear hin
                  have hcst : ∀ v, a.eval (.const v) = v := fun _ => rfl
                  have hfnc : ∀ f, a.eval (.func f) = .func (.func f) #[] #[] := fun _ => rfl
                  refine want_none rfl ?_
                  unfold Oper.wp
                  generalize a.eval = ρ at *
                  go_simp
                  try go_bits
                  first | exact rel_val (Chg.refl _) | (go_simp; exact rel_val (Chg.refl _))
                case eo7 =>
                  rintro a wx hE hin (h1 : a.eval (.tmp 138) = _) (h6 : a.eval (.tmp 143) = _)
                  clear hin
                  have hcst : ∀ v, a.eval (.const v) = v := fun _ => rfl
                  have hfnc : ∀ f, a.eval (.func f) = .func (.func f) #[] #[] := fun _ => rfl
                  refine want_none rfl ?_
                  unfold Oper.wp
                  generalize a.eval = ρ at *
                  go_simp
                  try go_bits
                  first | exact rel_val (e := .bool false) (Chg.refl _) | (simp only [bne_self_eq_false]; exact rel_val (e := .bool false) (Chg.refl _)) | (rw [bne_self_eq_false]; exact rel_val (e := .bool false) (Chg.refl _))
                case eo8 =>
                  rintro a wx hE hin (h7 : a.eval (.tmp 144) = _)
                  clear hin
                  have hcst : ∀ v, a.eval (.const v) = v := fun _ => rfl
                  have hfnc : ∀ f, a.eval (.func f) = .func (.func f) #[] #[] := fun _ => rfl
                  refine want_none rfl ?_
                  unfold Oper.wp
                  generalize a.eval = ρ at *
                  go_simp
                  try go_bits
                  first | exact rel_val (Chg.refl _) | (go_simp; exact rel_val (Chg.refl _))
                case eo9 =>
                  rintro a wx hE hin (h8 : a.eval (.tmp 145) = _)
                  have i5 : a.eval (.tmp 5) = .pointer (some ⟨g, 0, none⟩) := hin 5 rfl
                  clear hin
                  have hcst : ∀ v, a.eval (.const v) = v := fun _ => rfl
                  have hfnc : ∀ f, a.eval (.func f) = .func (.func f) #[] #[] := fun _ => rfl
                  refine want_yes rfl rfl h8 ?_
                  unfold Oper.wp
                  generalize a.eval = ρ at *
                  go_simp
                  try go_bits
                  first | exact rel_val (Chg.refl _) | (go_simp; exact rel_val (Chg.refl _))
                case eo10 =>
                  rintro a wx hE hin (h8 : a.eval (.tmp 145) = _) (h9 : a.eval (.tmp 146) = _)
                  clear hin
                  have hcst : ∀ v, a.eval (.const v) = v := fun _ => rfl
                  have hfnc : ∀ f, a.eval (.func f) = .func (.func f) #[] #[] := fun _ => rfl
                  refine want_yes rfl rfl h8 ?_
                  unfold Oper.wp
                  generalize a.eval = ρ at *
                  go_simp
                  refine (lowDown wx g gs lv5 t6 (HT6.out.a.drew.chgN hE).at_).mono ?_
                  rintro e w' ⟨rfl, rfl⟩
                  exact rel_val (Chg.refl _)
                case eo11 =>
                  rintro a wx hE hin (h8 : a.eval (.tmp 145) = _)
                  have i7 : a.eval (.tmp 7) = .pointer (some ⟨q, 0, none⟩) := hin 7 rfl
                  clear hin
                  have hcst : ∀ v, a.eval (.const v) = v := fun _ => rfl
                  have hfnc : ∀ f, a.eval (.func f) = .func (.func f) #[] #[] := fun _ => rfl
                  refine want_yes rfl rfl h8 ?_
                  unfold Oper.wp
                  generalize a.eval = ρ at *
                  go_simp
                  try go_bits
                  first | exact rel_val (Chg.refl _) | (go_simp; exact rel_val (Chg.refl _))
                case eo12 =>
                  rintro a wx hE hin (h8 : a.eval (.tmp 145) = _) (h11 : a.eval (.tmp 148) = _)
                  clear hin
                  have hcst : ∀ v, a.eval (.const v) = v := fun _ => rfl
                  have hfnc : ∀ f, a.eval (.func f) = .func (.func f) #[] #[] := fun _ => rfl
                  refine want_yes rfl rfl h8 ?_
                  unfold Oper.wp
                  generalize a.eval = ρ at *
                  go_simp
                  try go_bits
                  first | exact rel_val (Chg.refl _) | (go_simp; exact rel_val (Chg.refl _))
                case eo13 =>
                  rintro a wx hE hin (h8 : a.eval (.tmp 145) = _) (h12 : a.eval (.tmp 149) = _)
                  clear hin
                  have hcst : ∀ v, a.eval (.const v) = v := fun _ => rfl
                  have hfnc : ∀ f, a.eval (.func f) = .func (.func f) #[] #[] := fun _ => rfl
                  refine want_yes rfl rfl h8 ?_
                  unfold Oper.wp
                  generalize a.eval = ρ at *
                  go_simp
                  try go_bits
                  first | exact rel_val (Chg.refl _) | (go_simp; exact rel_val (Chg.refl _))
                case eo14 =>
                  rintro a wx hE hin (h8 : a.eval (.tmp 145) = _) (h13 : a.eval (.tmp 150) = _)
                  clear hin
                  have hcst : ∀ v, a.eval (.const v) = v := fun _ => rfl
                  have hfnc : ∀ f, a.eval (.func f) = .func (.func f) #[] #[] := fun _ => rfl
                  refine want_yes rfl rfl h8 ?_
                  unfold Oper.wp
                  generalize a.eval = ρ at *
                  have c := Bk.cell (j := 3) (DiskAt.chg (HT6.out.b.drew.at_) hE (fun _ _ => id)).dk rfl
                  go_simp
                  try go_bits
                  first | exact rel_val (Chg.refl _) | (go_simp; exact rel_val (Chg.refl _))
                case eo15 =>
                  rintro a wx hE hin (h8 : a.eval (.tmp 145) = _) (h10 : a.eval (.tmp 147) = _) (h14 : a.eval (.tmp 151) = _)
                  clear hin
                  have hcst : ∀ v, a.eval (.const v) = v := fun _ => rfl
                  have hfnc : ∀ f, a.eval (.func f) = .func (.func f) #[] #[] := fun _ => rfl
                  refine want_yes rfl rfl h8 ?_
                  unfold Oper.wp
                  generalize a.eval = ρ at *
                  go_simp
                  try go_bits
                  first | exact rel_val (e := .bool false) (Chg.refl _) | (simp only [bne_self_eq_false]; exact rel_val (e := .bool false) (Chg.refl _)) | (rw [bne_self_eq_false]; exact rel_val (e := .bool false) (Chg.refl _))
                case eo16 =>
                  rintro a wx hE hin (h8 : a.eval (.tmp 145) = _) (h15 : a.eval (.tmp 152) = _)
                  clear hin
                  have hcst : ∀ v, a.eval (.const v) = v := fun _ => rfl
                  have hfnc : ∀ f, a.eval (.func f) = .func (.func f) #[] #[] := fun _ => rfl
                  refine want_none rfl ?_
                  unfold Oper.wp
                  generalize a.eval = ρ at *
                  go_simp
                  try go_bits
                  first | exact rel_val (Chg.refl _) | (go_simp; exact rel_val (Chg.refl _))
                case eo17 =>
                  rintro a wx hE hin (h16 : a.eval (.tmp 153) = _)
                  clear hin
                  have hcst : ∀ v, a.eval (.const v) = v := fun _ => rfl
                  have hfnc : ∀ f, a.eval (.func f) = .func (.func f) #[] #[] := fun _ => rfl
                  refine want_none rfl ?_
                  unfold Oper.wp
                  generalize a.eval = ρ at *
                  go_simp
                  try go_bits
                  first | exact rel_val (Chg.refl _) | (go_simp; exact rel_val (Chg.refl _))
                case eo18 =>
                  rintro a wx hE hin (h17 : a.eval (.tmp 154) = _)
                  have i5 : a.eval (.tmp 5) = .pointer (some ⟨g, 0, none⟩) := hin 5 rfl
                  clear hin
                  have hcst : ∀ v, a.eval (.const v) = v := fun _ => rfl
                  have hfnc : ∀ f, a.eval (.func f) = .func (.func f) #[] #[] := fun _ => rfl
                  refine want_yes rfl rfl h17 ?_
                  unfold Oper.wp
                  generalize a.eval = ρ at *
                  go_simp
                  try go_bits
                  first | exact rel_val (Chg.refl _) | (go_simp; exact rel_val (Chg.refl _))
                case eo19 =>
                  rintro a wx hE hin (h17 : a.eval (.tmp 154) = _) (h18 : a.eval (.tmp 155) = _)
                  clear hin
                  have hcst : ∀ v, a.eval (.const v) = v := fun _ => rfl
                  have hfnc : ∀ f, a.eval (.func f) = .func (.func f) #[] #[] := fun _ => rfl
                  refine want_yes rfl rfl h17 ?_
                  unfold Oper.wp
                  generalize a.eval = ρ at *
                  go_simp
                  refine (lowLen wx g gs lv5 t6 (HT6.out.a.drew.chgN hE).at_).mono ?_
                  rintro e w' ⟨rfl, rfl⟩
                  exact rel_val (Chg.refl _)
                case eo20 =>
                  rintro a wx hE hin (h17 : a.eval (.tmp 154) = _)
                  have i7 : a.eval (.tmp 7) = .pointer (some ⟨q, 0, none⟩) := hin 7 rfl
                  clear hin
                  have hcst : ∀ v, a.eval (.const v) = v := fun _ => rfl
                  have hfnc : ∀ f, a.eval (.func f) = .func (.func f) #[] #[] := fun _ => rfl
                  refine want_yes rfl rfl h17 ?_
                  unfold Oper.wp
                  generalize a.eval = ρ at *
                  go_simp
                  try go_bits
                  first | exact rel_val (Chg.refl _) | (go_simp; exact rel_val (Chg.refl _))
                case eo21 =>
                  rintro a wx hE hin (h17 : a.eval (.tmp 154) = _) (h20 : a.eval (.tmp 157) = _)
                  clear hin
                  have hcst : ∀ v, a.eval (.const v) = v := fun _ => rfl
                  have hfnc : ∀ f, a.eval (.func f) = .func (.func f) #[] #[] := fun _ => rfl
                  refine want_yes rfl rfl h17 ?_
                  unfold Oper.wp
                  generalize a.eval = ρ at *
                  go_simp
                  try go_bits
                  first | exact rel_val (Chg.refl _) | (go_simp; exact rel_val (Chg.refl _))
                case eo22 =>
                  rintro a wx hE hin (h17 : a.eval (.tmp 154) = _) (h21 : a.eval (.tmp 158) = _)
                  clear hin
                  have hcst : ∀ v, a.eval (.const v) = v := fun _ => rfl
                  have hfnc : ∀ f, a.eval (.func f) = .func (.func f) #[] #[] := fun _ => rfl
                  refine want_yes rfl rfl h17 ?_
                  unfold Oper.wp
                  generalize a.eval = ρ at *
                  go_simp
                  try go_bits
                  first | exact rel_val (Chg.refl _) | (go_simp; exact rel_val (Chg.refl _))
                case eo23 =>
                  rintro a wx hE hin (h17 : a.eval (.tmp 154) = _) (h22 : a.eval (.tmp 159) = _)
                  clear hin
                  have hcst : ∀ v, a.eval (.const v) = v := fun _ => rfl
                  have hfnc : ∀ f, a.eval (.func f) = .func (.func f) #[] #[] := fun _ => rfl
                  refine want_yes rfl rfl h17 ?_
                  unfold Oper.wp
                  generalize a.eval = ρ at *
                  have c := Bk.cell (j := 0) (DiskAt.chg (HT6.out.b.drew.at_) hE (fun _ _ => id)).dk rfl
                  go_simp
                  try go_bits
                  first | exact rel_val (Chg.refl _) | (go_simp; exact rel_val (Chg.refl _))
                case eo24 =>
                  rintro a wx hE hin (h17 : a.eval (.tmp 154) = _) (h23 : a.eval (.tmp 160) = _)
                  clear hin
                  have hcst : ∀ v, a.eval (.const v) = v := fun _ => rfl
                  have hfnc : ∀ f, a.eval (.func f) = .func (.func f) #[] #[] := fun _ => rfl
                  refine want_yes rfl rfl h17 ?_
                  unfold Oper.wp
                  generalize a.eval = ρ at *
                  go_simp
                  try go_bits
                  first | exact rel_val (Chg.refl _) | (go_simp; exact rel_val (Chg.refl _))
                case eo25 =>
                  rintro a wx hE hin (h17 : a.eval (.tmp 154) = _) (h19 : a.eval (.tmp 156) = _) (h24 : a.eval (.tmp 161) = _)
                  clear hin
                  have hcst : ∀ v, a.eval (.const v) = v := fun _ => rfl
                  have hfnc : ∀ f, a.eval (.func f) = .func (.func f) #[] #[] := fun _ => rfl
                  refine want_yes rfl rfl h17 ?_
                  unfold Oper.wp
                  generalize a.eval = ρ at *
                  go_simp
                  try go_bits
                  first | exact rel_val (e := .bool false) (Chg.refl _) | (simp only [bne_self_eq_false]; exact rel_val (e := .bool false) (Chg.refl _)) | (rw [bne_self_eq_false]; exact rel_val (e := .bool false) (Chg.refl _))
                case eo26 =>
                  rintro a wx hE hin (h17 : a.eval (.tmp 154) = _) (h25 : a.eval (.tmp 162) = _)
                  clear hin
                  have hcst : ∀ v, a.eval (.const v) = v := fun _ => rfl
                  have hfnc : ∀ f, a.eval (.func f) = .func (.func f) #[] #[] := fun _ => rfl
                  refine want_none rfl ?_
                  unfold Oper.wp
                  generalize a.eval = ρ at *
                  go_simp
                  try go_bits
                  first | exact rel_val (Chg.refl _) | (go_simp; exact rel_val (Chg.refl _))
              case efin =>
                intro wx hE
                rintro _ rfl _ rfl _ rfl _ rfl _ rfl _ rfl _ rfl _ rfl _ rfl _ rfl _ rfl _ rfl _ rfl _ rfl _ rfl _ rfl _ rfl _ rfl _ rfl _ rfl _ rfl _ rfl _ rfl _ rfl _ rfl _ rfl _ rfl
                simp only [FinOk, List.take_succ_cons, List.take_zero, List.take_nil, List.drop_succ_cons, List.drop_zero, List.drop_nil, Act.put, List.setIfInBounds_toArray, List.set_cons_succ, List.set_cons_zero]
                have HT7 := Lib.hid (HT6.out.drew.chgN hE)
                clear hE
                go_wp2_with fail
                go_roundw
                case rel => exact ⟨k + 1, lv5, _, t6, by omega, by go_num, HTK6.out, HT7.out⟩
                case measure => simp [intOf]; omega
            · have hkb3 : (s5.k == 3) = false := by rw [beq_eq_false_iff_ne]; exact hk3
              by_cases hk4 : s5.k = 4
              · have hkb4 : (s5.k == 4) = true := by rw [hk4]; rfl
                go_wp2_with fail
                refine (diskFuse_at w2 g gs lv t.low s5.i HT.out.a.at_).mono ?_
                intro e w3 hp
                rw [low_fuse] at hp
                have HX3 := Lib.hid (HX.out.chg hp.2.choose_spec.2.2 (fun hf => HBS.out.1 _ hf rfl))
                obtain ⟨rfl, lv3, ht3⟩ := HT.out.post hp
                have HT3 := Lib.hid ht3
                clear hp ht3 d1
                have d1 := Bk.cell (j := 1) HX3.out rfl
                go_wp2_with (refine wpList_st rfl 3 (.tmp 136) (.tmp 134) rfl q 2 1 [.slice (some ⟨qs, 0, none⟩) t.S.length t.S.length, mv, .int .i64 t.f, .bool t.dn] [.int .i64 s5.i] rfl rfl HT3.out.b.at_.dk (by kernel_rfl) rfl (by simp) (one_i _) ?_)
                intro w4 hb hc
                have hb4 : Dk w4 q (.slice (some ⟨qs, 0, none⟩) t.S.length t.S.length) mv s5.i t.dn := hb
                have HT4 := Lib.hid (HT3.out.fuse2 s5.i hc hb4)
                have HTK4 := Lib.hid (HTK.out.fuse s5.i HSO.out.i1 HSO.out.i2)
                clear hb hc hb4 d1
                generalize t.fuse s5.i = t4 at HT4 HTK4
                go_wp2_with fail
                obtain ⟨Am, cm, hmv, _, _, _⟩ := own_rd HT4.out.b.at_.own
                subst hmv
                apply wp_region_rel 27 (Chg NoS) [(Veq _), (Veq _), (Veq _), (Veq _), (Veq _), (Veq _), (Veq _), (Veq _), (Veq _), (Veq _), (Veq _), (Veq _), (Veq _), (Veq _), (Veq _), (Veq _), (Veq _), (Veq _), (Veq _), (Veq _), (Veq _), (Veq _), (Veq _), (Veq _), (Veq _), (Veq _), (Veq _)] [[], [0], [], [2], [3], [4], [5], [1, 6], [7], [8], [8, 9], [8], [8, 11], [8, 12], [8, 13], [8, 10, 14], [8, 15], [16], [17], [17, 18], [17], [17, 20], [17, 21], [17, 22], [17, 23], [17, 19, 24], [17, 25]] [137, 138, 139, 140, 141, 142, 143, 144, 145, 146, 147, 148, 149, 150, 151, 152, 153, 154, 155, 156, 157, 158, 159, 160, 161, 162, 163] (by kernel_rfl) (by kernel_rfl) rfl rfl rfl Chg.refl (fun _ _ _ => Chg.trans) ⟨Veq.lasts, Veq.lasts, Veq.lasts, Veq.lasts, Veq.lasts, Veq.lasts, Veq.lasts, Veq.lasts, Veq.lasts, Veq.lasts, Veq.lasts, Veq.lasts, Veq.lasts, Veq.lasts, Veq.lasts, Veq.lasts, Veq.lasts, Veq.lasts, Veq.lasts, Veq.lasts, Veq.lasts, Veq.lasts, Veq.lasts, Veq.lasts, Veq.lasts, Veq.lasts, Veq.lasts, trivial⟩ ?fops ?ffin
                case fops =>
                  refine ⟨?fo0, ?fo1, ?fo2, ?fo3, ?fo4, ?fo5, ?fo6, ?fo7, ?fo8, ?fo9, ?fo10, ?fo11, ?fo12, ?fo13, ?fo14, ?fo15, ?fo16, ?fo17, ?fo18, ?fo19, ?fo20, ?fo21, ?fo22, ?fo23, ?fo24, ?fo25, ?fo26, trivial⟩
                  case fo0 =>
                    intro a wx hE hin
                    have i5 : a.eval (.tmp 5) = .pointer (some ⟨g, 0, none⟩) := hin 5 rfl
                    clear hin
                    have hcst : ∀ v, a.eval (.const v) = v := fun _ => rfl
                    have hfnc : ∀ f, a.eval (.func f) = .func (.func f) #[] #[] := fun _ => rfl
                    refine want_none rfl ?_
                    unfold Oper.wp
                    generalize a.eval = ρ at *
                    go_simp
                    try go_bits
                    first | exact rel_val (Chg.refl _) | (go_simp; exact rel_val (Chg.refl _))
                  case fo1 =>
                    rintro a wx hE hin (h0 : a.eval (.tmp 137) = _)
                    clear hin
                    have hcst : ∀ v, a.eval (.const v) = v := fun _ => rfl
                    have hfnc : ∀ f, a.eval (.func f) = .func (.func f) #[] #[] := fun _ => rfl
                    refine want_none rfl ?_
                    unfold Oper.wp
                    generalize a.eval = ρ at *
                    go_simp
                    refine (lowLoose wx g gs lv3 t4 (HT4.out.a.drew.chgN hE).at_).mono ?_
                    rintro e w' ⟨rfl, rfl⟩
                    exact rel_val (Chg.refl _)
                  case fo2 =>
                    intro a wx hE hin
                    have i7 : a.eval (.tmp 7) = .pointer (some ⟨q, 0, none⟩) := hin 7 rfl
                    clear hin
                    have hcst : ∀ v, a.eval (.const v) = v := fun _ => rfl
                    have hfnc : ∀ f, a.eval (.func f) = .func (.func f) #[] #[] := fun _ => rfl
                    refine want_none rfl ?_
                    unfold Oper.wp
                    generalize a.eval = ρ at *
                    go_simp
                    try go_bits
                    first | exact rel_val (Chg.refl _) | (go_simp; exact rel_val (Chg.refl _))
                  case fo3 =>
                    rintro a wx hE hin (h2 : a.eval (.tmp 139) = _)
                    clear hin
                    have hcst : ∀ v, a.eval (.const v) = v := fun _ => rfl
                    have hfnc : ∀ f, a.eval (.func f) = .func (.func f) #[] #[] := fun _ => rfl
                    refine want_none rfl ?_
                    unfold Oper.wp
                    generalize a.eval = ρ at *
                    go_simp
                    try go_bits
                    first | exact rel_val (Chg.refl _) | (go_simp; exact rel_val (Chg.refl _))
                  case fo4 =>
                    rintro a wx hE hin (h3 : a.eval (.tmp 140) = _)
                    clear hin
                    have hcst : ∀ v, a.eval (.const v) = v := fun _ => rfl
                    have hfnc : ∀ f, a.eval (.func f) = .func (.func f) #[] #[] := fun _ => rfl
                    refine want_none rfl ?_
                    unfold Oper.wp
                    generalize a.eval = ρ at *
                    go_simp
                    try go_bits
                    first | exact rel_val (Chg.refl _) | (go_simp; exact rel_val (Chg.refl _))
                  case fo5 =>
                    rintro a wx hE hin (h4 : a.eval (.tmp 141) = _)
                    clear hin
                    have hcst : ∀ v, a.eval (.const v) = v := fun _ => rfl
                    have hfnc : ∀ f, a.eval (.func f) = .func (.func f) #[] #[] := fun _ => rfl
                    refine want_none rfl ?_
                    unfold Oper.wp
                    generalize a.eval = ρ at *
                    have c := Bk.cell (j := 1) (DiskAt.chg (HT4.out.b.drew.at_) hE (fun _ _ => id)).dk rfl
                    go_simp
                    try go_bits
                    first | exact rel_val (Chg.refl _) | (go_simp; exact rel_val (Chg.refl _))
                  case fo6 =>
                    rintro a wx hE hin (h5 : a.eval (.tmp 142) = _)
                    clear hin
                    have hcst : ∀ v, a.eval (.const v) = v := fun _ => rfl
                    have hfnc : ∀ f, a.eval (.func f) = .func (.func f) #[] #[] := fun _ => rfl
                    refine want_none rfl ?_
                    unfold Oper.wp
                    generalize a.eval = ρ at *
                    go_simp
                    try go_bits
                    first | exact rel_val (Chg.refl _) | (go_simp; exact rel_val (Chg.refl _))
                  case fo7 =>
                    rintro a wx hE hin (h1 : a.eval (.tmp 138) = _) (h6 : a.eval (.tmp 143) = _)
                    clear hin
                    have hcst : ∀ v, a.eval (.const v) = v := fun _ => rfl
                    have hfnc : ∀ f, a.eval (.func f) = .func (.func f) #[] #[] := fun _ => rfl
                    refine want_none rfl ?_
                    unfold Oper.wp
                    generalize a.eval = ρ at *
                    go_simp
                    try go_bits
                    first | exact rel_val (e := .bool false) (Chg.refl _) | (simp only [bne_self_eq_false]; exact rel_val (e := .bool false) (Chg.refl _)) | (rw [bne_self_eq_false]; exact rel_val (e := .bool false) (Chg.refl _))
                  case fo8 =>
                    rintro a wx hE hin (h7 : a.eval (.tmp 144) = _)
                    clear hin
                    have hcst : ∀ v, a.eval (.const v) = v := fun _ => rfl
                    have hfnc : ∀ f, a.eval (.func f) = .func (.func f) #[] #[] := fun _ => rfl
                    refine want_none rfl ?_
                    unfold Oper.wp
                    generalize a.eval = ρ at *
                    go_simp
                    try go_bits
                    first | exact rel_val (Chg.refl _) | (go_simp; exact rel_val (Chg.refl _))
                  case fo9 =>
                    rintro a wx hE hin (h8 : a.eval (.tmp 145) = _)
                    have i5 : a.eval (.tmp 5) = .pointer (some ⟨g, 0, none⟩) := hin 5 rfl
                    clear hin
                    have hcst : ∀ v, a.eval (.const v) = v := fun _ => rfl
                    have hfnc : ∀ f, a.eval (.func f) = .func (.func f) #[] #[] := fun _ => rfl
                    refine want_yes rfl rfl h8 ?_
                    unfold Oper.wp
                    generalize a.eval = ρ at *
                    go_simp
                    try go_bits
                    first | exact rel_val (Chg.refl _) | (go_simp; exact rel_val (Chg.refl _))
                  case fo10 =>
                    rintro a wx hE hin (h8 : a.eval (.tmp 145) = _) (h9 : a.eval (.tmp 146) = _)
                    clear hin
                    have hcst : ∀ v, a.eval (.const v) = v := fun _ => rfl
                    have hfnc : ∀ f, a.eval (.func f) = .func (.func f) #[] #[] := fun _ => rfl
                    refine want_yes rfl rfl h8 ?_
                    unfold Oper.wp
                    generalize a.eval = ρ at *
                    go_simp
                    refine (lowDown wx g gs lv3 t4 (HT4.out.a.drew.chgN hE).at_).mono ?_
                    rintro e w' ⟨rfl, rfl⟩
                    exact rel_val (Chg.refl _)
                  case fo11 =>
                    rintro a wx hE hin (h8 : a.eval (.tmp 145) = _)
                    have i7 : a.eval (.tmp 7) = .pointer (some ⟨q, 0, none⟩) := hin 7 rfl
                    clear hin
                    have hcst : ∀ v, a.eval (.const v) = v := fun _ => rfl
                    have hfnc : ∀ f, a.eval (.func f) = .func (.func f) #[] #[] := fun _ => rfl
                    refine want_yes rfl rfl h8 ?_
                    unfold Oper.wp
                    generalize a.eval = ρ at *
                    go_simp
                    try go_bits
                    first | exact rel_val (Chg.refl _) | (go_simp; exact rel_val (Chg.refl _))
                  case fo12 =>
                    rintro a wx hE hin (h8 : a.eval (.tmp 145) = _) (h11 : a.eval (.tmp 148) = _)
                    clear hin
                    have hcst : ∀ v, a.eval (.const v) = v := fun _ => rfl
                    have hfnc : ∀ f, a.eval (.func f) = .func (.func f) #[] #[] := fun _ => rfl
                    refine want_yes rfl rfl h8 ?_
                    unfold Oper.wp
                    generalize a.eval = ρ at *
                    go_simp
                    try go_bits
                    first | exact rel_val (Chg.refl _) | (go_simp; exact rel_val (Chg.refl _))
                  case fo13 =>
                    rintro a wx hE hin (h8 : a.eval (.tmp 145) = _) (h12 : a.eval (.tmp 149) = _)
                    clear hin
                    have hcst : ∀ v, a.eval (.const v) = v := fun _ => rfl
                    have hfnc : ∀ f, a.eval (.func f) = .func (.func f) #[] #[] := fun _ => rfl
                    refine want_yes rfl rfl h8 ?_
                    unfold Oper.wp
                    generalize a.eval = ρ at *
                    go_simp
                    try go_bits
                    first | exact rel_val (Chg.refl _) | (go_simp; exact rel_val (Chg.refl _))
                  case fo14 =>
                    rintro a wx hE hin (h8 : a.eval (.tmp 145) = _) (h13 : a.eval (.tmp 150) = _)
                    clear hin
                    have hcst : ∀ v, a.eval (.const v) = v := fun _ => rfl
                    have hfnc : ∀ f, a.eval (.func f) = .func (.func f) #[] #[] := fun _ => rfl
                    refine want_yes rfl rfl h8 ?_
                    unfold Oper.wp
                    generalize a.eval = ρ at *
                    have c := Bk.cell (j := 3) (DiskAt.chg (HT4.out.b.drew.at_) hE (fun _ _ => id)).dk rfl
                    go_simp
                    try go_bits
                    first | exact rel_val (Chg.refl _) | (go_simp; exact rel_val (Chg.refl _))
                  case fo15 =>
                    rintro a wx hE hin (h8 : a.eval (.tmp 145) = _) (h10 : a.eval (.tmp 147) = _) (h14 : a.eval (.tmp 151) = _)
                    clear hin
                    have hcst : ∀ v, a.eval (.const v) = v := fun _ => rfl
                    have hfnc : ∀ f, a.eval (.func f) = .func (.func f) #[] #[] := fun _ => rfl
                    refine want_yes rfl rfl h8 ?_
                    unfold Oper.wp
                    generalize a.eval = ρ at *
                    go_simp
                    try go_bits
                    first | exact rel_val (e := .bool false) (Chg.refl _) | (simp only [bne_self_eq_false]; exact rel_val (e := .bool false) (Chg.refl _)) | (rw [bne_self_eq_false]; exact rel_val (e := .bool false) (Chg.refl _))
                  case fo16 =>
                    rintro a wx hE hin (h8 : a.eval (.tmp 145) = _) (h15 : a.eval (.tmp 152) = _)
                    clear hin
                    have hcst : ∀ v, a.eval (.const v) = v := fun _ => rfl
                    have hfnc : ∀ f, a.eval (.func f) = .func (.func f) #[] #[] := fun _ => rfl
                    refine want_none rfl ?_
                    unfold Oper.wp
                    generalize a.eval = ρ at *
                    go_simp
                    try go_bits
                    first | exact rel_val (Chg.refl _) | (go_simp; exact rel_val (Chg.refl _))
                  case fo17 =>
                    rintro a wx hE hin (h16 : a.eval (.tmp 153) = _)
                    clear hin
                    have hcst : ∀ v, a.eval (.const v) = v := fun _ => rfl
                    have hfnc : ∀ f, a.eval (.func f) = .func (.func f) #[] #[] := fun _ => rfl
                    refine want_none rfl ?_
                    unfold Oper.wp
                    generalize a.eval = ρ at *
                    go_simp
                    try go_bits
                    first | exact rel_val (Chg.refl _) | (go_simp; exact rel_val (Chg.refl _))
                  case fo18 =>
                    rintro a wx hE hin (h17 : a.eval (.tmp 154) = _)
                    have i5 : a.eval (.tmp 5) = .pointer (some ⟨g, 0, none⟩) := hin 5 rfl
                    clear hin
                    have hcst : ∀ v, a.eval (.const v) = v := fun _ => rfl
                    have hfnc : ∀ f, a.eval (.func f) = .func (.func f) #[] #[] := fun _ => rfl
                    refine want_yes rfl rfl h17 ?_
                    unfold Oper.wp
                    generalize a.eval = ρ at *
                    go_simp
                    try go_bits
                    first | exact rel_val (Chg.refl _) | (go_simp; exact rel_val (Chg.refl _))
                  case fo19 =>
                    rintro a wx hE hin (h17 : a.eval (.tmp 154) = _) (h18 : a.eval (.tmp 155) = _)
                    clear hin
                    have hcst : ∀ v, a.eval (.const v) = v := fun _ => rfl
                    have hfnc : ∀ f, a.eval (.func f) = .func (.func f) #[] #[] := fun _ => rfl
                    refine want_yes rfl rfl h17 ?_
                    unfold Oper.wp
                    generalize a.eval = ρ at *
                    go_simp
                    refine (lowLen wx g gs lv3 t4 (HT4.out.a.drew.chgN hE).at_).mono ?_
                    rintro e w' ⟨rfl, rfl⟩
                    exact rel_val (Chg.refl _)
                  case fo20 =>
                    rintro a wx hE hin (h17 : a.eval (.tmp 154) = _)
                    have i7 : a.eval (.tmp 7) = .pointer (some ⟨q, 0, none⟩) := hin 7 rfl
                    clear hin
                    have hcst : ∀ v, a.eval (.const v) = v := fun _ => rfl
                    have hfnc : ∀ f, a.eval (.func f) = .func (.func f) #[] #[] := fun _ => rfl
                    refine want_yes rfl rfl h17 ?_
                    unfold Oper.wp
                    generalize a.eval = ρ at *
                    go_simp
                    try go_bits
                    first | exact rel_val (Chg.refl _) | (go_simp; exact rel_val (Chg.refl _))
                  case fo21 =>
                    rintro a wx hE hin (h17 : a.eval (.tmp 154) = _) (h20 : a.eval (.tmp 157) = _)
                    clear hin
                    have hcst : ∀ v, a.eval (.const v) = v := fun _ => rfl
                    have hfnc : ∀ f, a.eval (.func f) = .func (.func f) #[] #[] := fun _ => rfl
                    refine want_yes rfl rfl h17 ?_
                    unfold Oper.wp
                    generalize a.eval = ρ at *
                    go_simp
                    try go_bits
                    first | exact rel_val (Chg.refl _) | (go_simp; exact rel_val (Chg.refl _))
                  case fo22 =>
                    rintro a wx hE hin (h17 : a.eval (.tmp 154) = _) (h21 : a.eval (.tmp 158) = _)
                    clear hin
                    have hcst : ∀ v, a.eval (.const v) = v := fun _ => rfl
                    have hfnc : ∀ f, a.eval (.func f) = .func (.func f) #[] #[] := fun _ => rfl
                    refine want_yes rfl rfl h17 ?_
                    unfold Oper.wp
                    generalize a.eval = ρ at *
                    go_simp
                    try go_bits
                    first | exact rel_val (Chg.refl _) | (go_simp; exact rel_val (Chg.refl _))
                  case fo23 =>
                    rintro a wx hE hin (h17 : a.eval (.tmp 154) = _) (h22 : a.eval (.tmp 159) = _)
                    clear hin
                    have hcst : ∀ v, a.eval (.const v) = v := fun _ => rfl
                    have hfnc : ∀ f, a.eval (.func f) = .func (.func f) #[] #[] := fun _ => rfl
                    refine want_yes rfl rfl h17 ?_
                    unfold Oper.wp
                    generalize a.eval = ρ at *
                    have c := Bk.cell (j := 0) (DiskAt.chg (HT4.out.b.drew.at_) hE (fun _ _ => id)).dk rfl
                    go_simp
                    try go_bits
                    first | exact rel_val (Chg.refl _) | (go_simp; exact rel_val (Chg.refl _))
                  case fo24 =>
                    rintro a wx hE hin (h17 : a.eval (.tmp 154) = _) (h23 : a.eval (.tmp 160) = _)
                    clear hin
                    have hcst : ∀ v, a.eval (.const v) = v := fun _ => rfl
                    have hfnc : ∀ f, a.eval (.func f) = .func (.func f) #[] #[] := fun _ => rfl
                    refine want_yes rfl rfl h17 ?_
                    unfold Oper.wp
                    generalize a.eval = ρ at *
                    go_simp
                    try go_bits
                    first | exact rel_val (Chg.refl _) | (go_simp; exact rel_val (Chg.refl _))
                  case fo25 =>
                    rintro a wx hE hin (h17 : a.eval (.tmp 154) = _) (h19 : a.eval (.tmp 156) = _) (h24 : a.eval (.tmp 161) = _)
                    clear hin
                    have hcst : ∀ v, a.eval (.const v) = v := fun _ => rfl
                    have hfnc : ∀ f, a.eval (.func f) = .func (.func f) #[] #[] := fun _ => rfl
                    refine want_yes rfl rfl h17 ?_
                    unfold Oper.wp
                    generalize a.eval = ρ at *
                    go_simp
                    try go_bits
                    first | exact rel_val (e := .bool false) (Chg.refl _) | (simp only [bne_self_eq_false]; exact rel_val (e := .bool false) (Chg.refl _)) | (rw [bne_self_eq_false]; exact rel_val (e := .bool false) (Chg.refl _))
                  case fo26 =>
                    rintro a wx hE hin (h17 : a.eval (.tmp 154) = _) (h25 : a.eval (.tmp 162) = _)
                    clear hin
                    have hcst : ∀ v, a.eval (.const v) = v := fun _ => rfl
                    have hfnc : ∀ f, a.eval (.func f) = .func (.func f) #[] #[] := fun _ => rfl
                    refine want_none rfl ?_
                    unfold Oper.wp
                    generalize a.eval = ρ at *
                    go_simp
                    try go_bits
                    first | exact rel_val (Chg.refl _) | (go_simp; exact rel_val (Chg.refl _))
                case ffin =>
                  intro wx hE
                  rintro _ rfl _ rfl _ rfl _ rfl _ rfl _ rfl _ rfl _ rfl _ rfl _ rfl _ rfl _ rfl _ rfl _ rfl _ rfl _ rfl _ rfl _ rfl _ rfl _ rfl _ rfl _ rfl _ rfl _ rfl _ rfl _ rfl _ rfl
                  simp only [FinOk, List.take_succ_cons, List.take_zero, List.take_nil, List.drop_succ_cons, List.drop_zero, List.drop_nil, Act.put, List.setIfInBounds_toArray, List.set_cons_succ, List.set_cons_zero]
                  have HT7 := Lib.hid (HT4.out.drew.chgN hE)
                  clear hE
                  go_wp2_with fail
                  go_roundw
                  case rel => exact ⟨k + 1, lv3, _, t4, by omega, by go_num, HTK4.out, HT7.out⟩
                  case measure => simp [intOf]; omega
              · have hkb4 : (s5.k == 4) = false := by rw [beq_eq_false_iff_ne]; exact hk4
                go_wp2_with fail
                obtain ⟨Am, cm, hmv, _, _, _⟩ := own_rd HT.out.b.at_.own
                subst hmv
                apply wp_region_rel 27 (Chg NoS) [(Veq _), (Veq _), (Veq _), (Veq _), (Veq _), (Veq _), (Veq _), (Veq _), (Veq _), (Veq _), (Veq _), (Veq _), (Veq _), (Veq _), (Veq _), (Veq _), (Veq _), (Veq _), (Veq _), (Veq _), (Veq _), (Veq _), (Veq _), (Veq _), (Veq _), (Veq _), (Veq _)] [[], [0], [], [2], [3], [4], [5], [1, 6], [7], [8], [8, 9], [8], [8, 11], [8, 12], [8, 13], [8, 10, 14], [8, 15], [16], [17], [17, 18], [17], [17, 20], [17, 21], [17, 22], [17, 23], [17, 19, 24], [17, 25]] [137, 138, 139, 140, 141, 142, 143, 144, 145, 146, 147, 148, 149, 150, 151, 152, 153, 154, 155, 156, 157, 158, 159, 160, 161, 162, 163] (by kernel_rfl) (by kernel_rfl) rfl rfl rfl Chg.refl (fun _ _ _ => Chg.trans) ⟨Veq.lasts, Veq.lasts, Veq.lasts, Veq.lasts, Veq.lasts, Veq.lasts, Veq.lasts, Veq.lasts, Veq.lasts, Veq.lasts, Veq.lasts, Veq.lasts, Veq.lasts, Veq.lasts, Veq.lasts, Veq.lasts, Veq.lasts, Veq.lasts, Veq.lasts, Veq.lasts, Veq.lasts, Veq.lasts, Veq.lasts, Veq.lasts, Veq.lasts, Veq.lasts, Veq.lasts, trivial⟩ ?gops ?gfin
                case gops =>
                  refine ⟨?go0, ?go1, ?go2, ?go3, ?go4, ?go5, ?go6, ?go7, ?go8, ?go9, ?go10, ?go11, ?go12, ?go13, ?go14, ?go15, ?go16, ?go17, ?go18, ?go19, ?go20, ?go21, ?go22, ?go23, ?go24, ?go25, ?go26, trivial⟩
                  case go0 =>
                    intro a wx hE hin
                    have i5 : a.eval (.tmp 5) = .pointer (some ⟨g, 0, none⟩) := hin 5 rfl
                    clear hin
                    have hcst : ∀ v, a.eval (.const v) = v := fun _ => rfl
                    have hfnc : ∀ f, a.eval (.func f) = .func (.func f) #[] #[] := fun _ => rfl
                    refine want_none rfl ?_
                    unfold Oper.wp
                    generalize a.eval = ρ at *
                    go_simp
                    try go_bits
                    first | exact rel_val (Chg.refl _) | (go_simp; exact rel_val (Chg.refl _))
                  case go1 =>
                    rintro a wx hE hin (h0 : a.eval (.tmp 137) = _)
                    clear hin
                    have hcst : ∀ v, a.eval (.const v) = v := fun _ => rfl
                    have hfnc : ∀ f, a.eval (.func f) = .func (.func f) #[] #[] := fun _ => rfl
                    refine want_none rfl ?_
                    unfold Oper.wp
                    generalize a.eval = ρ at *
                    go_simp
                    refine (lowLoose wx g gs lv t (HT.out.a.drew.chgN hE).at_).mono ?_
                    rintro e w' ⟨rfl, rfl⟩
                    exact rel_val (Chg.refl _)
                  case go2 =>
                    intro a wx hE hin
                    have i7 : a.eval (.tmp 7) = .pointer (some ⟨q, 0, none⟩) := hin 7 rfl
                    clear hin
                    have hcst : ∀ v, a.eval (.const v) = v := fun _ => rfl
                    have hfnc : ∀ f, a.eval (.func f) = .func (.func f) #[] #[] := fun _ => rfl
                    refine want_none rfl ?_
                    unfold Oper.wp
                    generalize a.eval = ρ at *
                    go_simp
                    try go_bits
                    first | exact rel_val (Chg.refl _) | (go_simp; exact rel_val (Chg.refl _))
                  case go3 =>
                    rintro a wx hE hin (h2 : a.eval (.tmp 139) = _)
                    clear hin
                    have hcst : ∀ v, a.eval (.const v) = v := fun _ => rfl
                    have hfnc : ∀ f, a.eval (.func f) = .func (.func f) #[] #[] := fun _ => rfl
                    refine want_none rfl ?_
                    unfold Oper.wp
                    generalize a.eval = ρ at *
                    go_simp
                    try go_bits
                    first | exact rel_val (Chg.refl _) | (go_simp; exact rel_val (Chg.refl _))
                  case go4 =>
                    rintro a wx hE hin (h3 : a.eval (.tmp 140) = _)
                    clear hin
                    have hcst : ∀ v, a.eval (.const v) = v := fun _ => rfl
                    have hfnc : ∀ f, a.eval (.func f) = .func (.func f) #[] #[] := fun _ => rfl
                    refine want_none rfl ?_
                    unfold Oper.wp
                    generalize a.eval = ρ at *
                    go_simp
                    try go_bits
                    first | exact rel_val (Chg.refl _) | (go_simp; exact rel_val (Chg.refl _))
                  case go5 =>
                    rintro a wx hE hin (h4 : a.eval (.tmp 141) = _)
                    clear hin
                    have hcst : ∀ v, a.eval (.const v) = v := fun _ => rfl
                    have hfnc : ∀ f, a.eval (.func f) = .func (.func f) #[] #[] := fun _ => rfl
                    refine want_none rfl ?_
                    unfold Oper.wp
                    generalize a.eval = ρ at *
                    have c := Bk.cell (j := 1) (DiskAt.chg (HT.out.b.drew.at_) hE (fun _ _ => id)).dk rfl
                    go_simp
                    try go_bits
                    first | exact rel_val (Chg.refl _) | (go_simp; exact rel_val (Chg.refl _))
                  case go6 =>
                    rintro a wx hE hin (h5 : a.eval (.tmp 142) = _)
                    clear hin
                    have hcst : ∀ v, a.eval (.const v) = v := fun _ => rfl
                    have hfnc : ∀ f, a.eval (.func f) = .func (.func f) #[] #[] := fun _ => rfl
                    refine want_none rfl ?_
                    unfold Oper.wp
                    generalize a.eval = ρ at *
                    go_simp
                    try go_bits
                    first | exact rel_val (Chg.refl _) | (go_simp; exact rel_val (Chg.refl _))
                  case go7 =>
                    rintro a wx hE hin (h1 : a.eval (.tmp 138) = _) (h6 : a.eval (.tmp 143) = _)
                    clear hin
                    have hcst : ∀ v, a.eval (.const v) = v := fun _ => rfl
                    have hfnc : ∀ f, a.eval (.func f) = .func (.func f) #[] #[] := fun _ => rfl
                    refine want_none rfl ?_
                    unfold Oper.wp
                    generalize a.eval = ρ at *
                    go_simp
                    try go_bits
                    first | exact rel_val (e := .bool false) (Chg.refl _) | (simp only [bne_self_eq_false]; exact rel_val (e := .bool false) (Chg.refl _)) | (rw [bne_self_eq_false]; exact rel_val (e := .bool false) (Chg.refl _))
                  case go8 =>
                    rintro a wx hE hin (h7 : a.eval (.tmp 144) = _)
                    clear hin
                    have hcst : ∀ v, a.eval (.const v) = v := fun _ => rfl
                    have hfnc : ∀ f, a.eval (.func f) = .func (.func f) #[] #[] := fun _ => rfl
                    refine want_none rfl ?_
                    unfold Oper.wp
                    generalize a.eval = ρ at *
                    go_simp
                    try go_bits
                    first | exact rel_val (Chg.refl _) | (go_simp; exact rel_val (Chg.refl _))
                  case go9 =>
                    rintro a wx hE hin (h8 : a.eval (.tmp 145) = _)
                    have i5 : a.eval (.tmp 5) = .pointer (some ⟨g, 0, none⟩) := hin 5 rfl
                    clear hin
                    have hcst : ∀ v, a.eval (.const v) = v := fun _ => rfl
                    have hfnc : ∀ f, a.eval (.func f) = .func (.func f) #[] #[] := fun _ => rfl
                    refine want_yes rfl rfl h8 ?_
                    unfold Oper.wp
                    generalize a.eval = ρ at *
                    go_simp
                    try go_bits
                    first | exact rel_val (Chg.refl _) | (go_simp; exact rel_val (Chg.refl _))
                  case go10 =>
                    rintro a wx hE hin (h8 : a.eval (.tmp 145) = _) (h9 : a.eval (.tmp 146) = _)
                    clear hin
                    have hcst : ∀ v, a.eval (.const v) = v := fun _ => rfl
                    have hfnc : ∀ f, a.eval (.func f) = .func (.func f) #[] #[] := fun _ => rfl
                    refine want_yes rfl rfl h8 ?_
                    unfold Oper.wp
                    generalize a.eval = ρ at *
                    go_simp
                    refine (lowDown wx g gs lv t (HT.out.a.drew.chgN hE).at_).mono ?_
                    rintro e w' ⟨rfl, rfl⟩
                    exact rel_val (Chg.refl _)
                  case go11 =>
                    rintro a wx hE hin (h8 : a.eval (.tmp 145) = _)
                    have i7 : a.eval (.tmp 7) = .pointer (some ⟨q, 0, none⟩) := hin 7 rfl
                    clear hin
                    have hcst : ∀ v, a.eval (.const v) = v := fun _ => rfl
                    have hfnc : ∀ f, a.eval (.func f) = .func (.func f) #[] #[] := fun _ => rfl
                    refine want_yes rfl rfl h8 ?_
                    unfold Oper.wp
                    generalize a.eval = ρ at *
                    go_simp
                    try go_bits
                    first | exact rel_val (Chg.refl _) | (go_simp; exact rel_val (Chg.refl _))
                  case go12 =>
                    rintro a wx hE hin (h8 : a.eval (.tmp 145) = _) (h11 : a.eval (.tmp 148) = _)
                    clear hin
                    have hcst : ∀ v, a.eval (.const v) = v := fun _ => rfl
                    have hfnc : ∀ f, a.eval (.func f) = .func (.func f) #[] #[] := fun _ => rfl
                    refine want_yes rfl rfl h8 ?_
                    unfold Oper.wp
                    generalize a.eval = ρ at *
                    go_simp
                    try go_bits
                    first | exact rel_val (Chg.refl _) | (go_simp; exact rel_val (Chg.refl _))
                  case go13 =>
                    rintro a wx hE hin (h8 : a.eval (.tmp 145) = _) (h12 : a.eval (.tmp 149) = _)
                    clear hin
                    have hcst : ∀ v, a.eval (.const v) = v := fun _ => rfl
                    have hfnc : ∀ f, a.eval (.func f) = .func (.func f) #[] #[] := fun _ => rfl
                    refine want_yes rfl rfl h8 ?_
                    unfold Oper.wp
                    generalize a.eval = ρ at *
                    go_simp
                    try go_bits
                    first | exact rel_val (Chg.refl _) | (go_simp; exact rel_val (Chg.refl _))
                  case go14 =>
                    rintro a wx hE hin (h8 : a.eval (.tmp 145) = _) (h13 : a.eval (.tmp 150) = _)
                    clear hin
                    have hcst : ∀ v, a.eval (.const v) = v := fun _ => rfl
                    have hfnc : ∀ f, a.eval (.func f) = .func (.func f) #[] #[] := fun _ => rfl
                    refine want_yes rfl rfl h8 ?_
                    unfold Oper.wp
                    generalize a.eval = ρ at *
                    have c := Bk.cell (j := 3) (DiskAt.chg (HT.out.b.drew.at_) hE (fun _ _ => id)).dk rfl
                    go_simp
                    try go_bits
                    first | exact rel_val (Chg.refl _) | (go_simp; exact rel_val (Chg.refl _))
                  case go15 =>
                    rintro a wx hE hin (h8 : a.eval (.tmp 145) = _) (h10 : a.eval (.tmp 147) = _) (h14 : a.eval (.tmp 151) = _)
                    clear hin
                    have hcst : ∀ v, a.eval (.const v) = v := fun _ => rfl
                    have hfnc : ∀ f, a.eval (.func f) = .func (.func f) #[] #[] := fun _ => rfl
                    refine want_yes rfl rfl h8 ?_
                    unfold Oper.wp
                    generalize a.eval = ρ at *
                    go_simp
                    try go_bits
                    first | exact rel_val (e := .bool false) (Chg.refl _) | (simp only [bne_self_eq_false]; exact rel_val (e := .bool false) (Chg.refl _)) | (rw [bne_self_eq_false]; exact rel_val (e := .bool false) (Chg.refl _))
                  case go16 =>
                    rintro a wx hE hin (h8 : a.eval (.tmp 145) = _) (h15 : a.eval (.tmp 152) = _)
                    clear hin
                    have hcst : ∀ v, a.eval (.const v) = v := fun _ => rfl
                    have hfnc : ∀ f, a.eval (.func f) = .func (.func f) #[] #[] := fun _ => rfl
                    refine want_none rfl ?_
                    unfold Oper.wp
                    generalize a.eval = ρ at *
                    go_simp
                    try go_bits
                    first | exact rel_val (Chg.refl _) | (go_simp; exact rel_val (Chg.refl _))
                  case go17 =>
                    rintro a wx hE hin (h16 : a.eval (.tmp 153) = _)
                    clear hin
                    have hcst : ∀ v, a.eval (.const v) = v := fun _ => rfl
                    have hfnc : ∀ f, a.eval (.func f) = .func (.func f) #[] #[] := fun _ => rfl
                    refine want_none rfl ?_
                    unfold Oper.wp
                    generalize a.eval = ρ at *
                    go_simp
                    try go_bits
                    first | exact rel_val (Chg.refl _) | (go_simp; exact rel_val (Chg.refl _))
                  case go18 =>
                    rintro a wx hE hin (h17 : a.eval (.tmp 154) = _)
                    have i5 : a.eval (.tmp 5) = .pointer (some ⟨g, 0, none⟩) := hin 5 rfl
                    clear hin
                    have hcst : ∀ v, a.eval (.const v) = v := fun _ => rfl
                    have hfnc : ∀ f, a.eval (.func f) = .func (.func f) #[] #[] := fun _ => rfl
                    refine want_yes rfl rfl h17 ?_
                    unfold Oper.wp
                    generalize a.eval = ρ at *
                    go_simp
                    try go_bits
                    first | exact rel_val (Chg.refl _) | (go_simp; exact rel_val (Chg.refl _))
                  case go19 =>
                    rintro a wx hE hin (h17 : a.eval (.tmp 154) = _) (h18 : a.eval (.tmp 155) = _)
                    clear hin
                    have hcst : ∀ v, a.eval (.const v) = v := fun _ => rfl
                    have hfnc : ∀ f, a.eval (.func f) = .func (.func f) #[] #[] := fun _ => rfl
                    refine want_yes rfl rfl h17 ?_
                    unfold Oper.wp
                    generalize a.eval = ρ at *
                    go_simp
                    refine (lowLen wx g gs lv t (HT.out.a.drew.chgN hE).at_).mono ?_
                    rintro e w' ⟨rfl, rfl⟩
                    exact rel_val (Chg.refl _)
                  case go20 =>
                    rintro a wx hE hin (h17 : a.eval (.tmp 154) = _)
                    have i7 : a.eval (.tmp 7) = .pointer (some ⟨q, 0, none⟩) := hin 7 rfl
                    clear hin
                    have hcst : ∀ v, a.eval (.const v) = v := fun _ => rfl
                    have hfnc : ∀ f, a.eval (.func f) = .func (.func f) #[] #[] := fun _ => rfl
                    refine want_yes rfl rfl h17 ?_
                    unfold Oper.wp
                    generalize a.eval = ρ at *
                    go_simp
                    try go_bits
                    first | exact rel_val (Chg.refl _) | (go_simp; exact rel_val (Chg.refl _))
                  case go21 =>
                    rintro a wx hE hin (h17 : a.eval (.tmp 154) = _) (h20 : a.eval (.tmp 157) = _)
                    clear hin
                    have hcst : ∀ v, a.eval (.const v) = v := fun _ => rfl
                    have hfnc : ∀ f, a.eval (.func f) = .func (.func f) #[] #[] := fun _ => rfl
                    refine want_yes rfl rfl h17 ?_
                    unfold Oper.wp
                    generalize a.eval = ρ at *
                    go_simp
                    try go_bits
                    first | exact rel_val (Chg.refl _) | (go_simp; exact rel_val (Chg.refl _))
                  case go22 =>
                    rintro a wx hE hin (h17 : a.eval (.tmp 154) = _) (h21 : a.eval (.tmp 158) = _)
                    clear hin
                    have hcst : ∀ v, a.eval (.const v) = v := fun _ => rfl
                    have hfnc : ∀ f, a.eval (.func f) = .func (.func f) #[] #[] := fun _ => rfl
                    refine want_yes rfl rfl h17 ?_
                    unfold Oper.wp
                    generalize a.eval = ρ at *
                    go_simp
                    try go_bits
                    first | exact rel_val (Chg.refl _) | (go_simp; exact rel_val (Chg.refl _))
                  case go23 =>
                    rintro a wx hE hin (h17 : a.eval (.tmp 154) = _) (h22 : a.eval (.tmp 159) = _)
                    clear hin
                    have hcst : ∀ v, a.eval (.const v) = v := fun _ => rfl
                    have hfnc : ∀ f, a.eval (.func f) = .func (.func f) #[] #[] := fun _ => rfl
                    refine want_yes rfl rfl h17 ?_
                    unfold Oper.wp
                    generalize a.eval = ρ at *
                    have c := Bk.cell (j := 0) (DiskAt.chg (HT.out.b.drew.at_) hE (fun _ _ => id)).dk rfl
                    go_simp
                    try go_bits
                    first | exact rel_val (Chg.refl _) | (go_simp; exact rel_val (Chg.refl _))
                  case go24 =>
                    rintro a wx hE hin (h17 : a.eval (.tmp 154) = _) (h23 : a.eval (.tmp 160) = _)
                    clear hin
                    have hcst : ∀ v, a.eval (.const v) = v := fun _ => rfl
                    have hfnc : ∀ f, a.eval (.func f) = .func (.func f) #[] #[] := fun _ => rfl
                    refine want_yes rfl rfl h17 ?_
                    unfold Oper.wp
                    generalize a.eval = ρ at *
                    go_simp
                    try go_bits
                    first | exact rel_val (Chg.refl _) | (go_simp; exact rel_val (Chg.refl _))
                  case go25 =>
                    rintro a wx hE hin (h17 : a.eval (.tmp 154) = _) (h19 : a.eval (.tmp 156) = _) (h24 : a.eval (.tmp 161) = _)
                    clear hin
                    have hcst : ∀ v, a.eval (.const v) = v := fun _ => rfl
                    have hfnc : ∀ f, a.eval (.func f) = .func (.func f) #[] #[] := fun _ => rfl
                    refine want_yes rfl rfl h17 ?_
                    unfold Oper.wp
                    generalize a.eval = ρ at *
                    go_simp
                    try go_bits
                    first | exact rel_val (e := .bool false) (Chg.refl _) | (simp only [bne_self_eq_false]; exact rel_val (e := .bool false) (Chg.refl _)) | (rw [bne_self_eq_false]; exact rel_val (e := .bool false) (Chg.refl _))
                  case go26 =>
                    rintro a wx hE hin (h17 : a.eval (.tmp 154) = _) (h25 : a.eval (.tmp 162) = _)
                    clear hin
                    have hcst : ∀ v, a.eval (.const v) = v := fun _ => rfl
                    have hfnc : ∀ f, a.eval (.func f) = .func (.func f) #[] #[] := fun _ => rfl
                    refine want_none rfl ?_
                    unfold Oper.wp
                    generalize a.eval = ρ at *
                    go_simp
                    try go_bits
                    first | exact rel_val (Chg.refl _) | (go_simp; exact rel_val (Chg.refl _))
                case gfin =>
                  intro wx hE
                  rintro _ rfl _ rfl _ rfl _ rfl _ rfl _ rfl _ rfl _ rfl _ rfl _ rfl _ rfl _ rfl _ rfl _ rfl _ rfl _ rfl _ rfl _ rfl _ rfl _ rfl _ rfl _ rfl _ rfl _ rfl _ rfl _ rfl _ rfl
                  simp only [FinOk, List.take_succ_cons, List.take_zero, List.take_nil, List.drop_succ_cons, List.drop_zero, List.drop_nil, Act.put, List.setIfInBounds_toArray, List.set_cons_succ, List.set_cons_zero]
                  have HT7 := Lib.hid (HT.out.drew.chgN hE)
                  clear hE
                  go_wp2_with fail
                  go_roundw
                  case rel => exact ⟨k + 1, lv, _, t, by omega, by go_num, HTK.out.more, HT7.out⟩
                  case measure => simp [intOf]; omega
    · have hki : ¬ ((k : Int) < (l.length : Int)) := by omega
      go_wp2_with fail
      refine (diskUp_at wr g gs lv t.low none 0 0 [] HT0.out.a.at_ rfl (fun _ _ => Rd.nil _ _)).mono ?_
      intro e w3 hp
      obtain ⟨rfl, lv3, ht3⟩ := HT0.out.post hp
      have HT3 := Lib.hid ht3
      clear hp ht3
      go_wp2_with fail
      refine (refUp_at w3 q qs mv t none 0 0 [] HT3.out.b.at_ rfl (fun _ _ => Rd.nil _ _)).mono ?_
      intro e w4 hp
      obtain ⟨rfl, mv4, ht4⟩ := HT3.out.post2 hp
      obtain ⟨SS, hSS⟩ : ∃ SS, upS t.S t.L [] = SS := ⟨_, rfl⟩
      have ht5 : Two w w4 91 g gs lv3 ⟨upS t.S t.L [], [], -1, false⟩ 93 q qs mv4 ⟨upS t.S t.L [], [], -1, false⟩ := ht4
      rw [hSS] at ht5
      have HSL : Hid (SS.length = N) := by show _ = _; rw [← hSS, upS_length]; exact HTK.out.sl
      have H2 : Hid (PlaysRel2 w g gs q qs N lv3 mv4 SS (.int .i64 0) w4) := ⟨0, by omega, rfl, ht5⟩
      have HSEC : Hid ((secs SS).length = N * 32) := by show _ = _; rw [← HSL.out]; exact DiskAt.secs_len ht5.b.at_
      have HS32 : Hid (∀ b ∈ SS, b.length = 32) := DiskAt.s32 ht5.b.at_
      clear hp ht4 ht5 hSS HT3 HT0 HTK
      go_wp2_with fail
      go_loopw [15] (fun v wr => PlaysRel2 w g gs q qs N lv3 mv4 SS v wr) (fun v _ => N - (intOf v).toNat)
      case atStart => exact H2.out
      case round =>
        obtain ⟨j, hj, rfl, ht⟩ := hrel
        have HT := Lib.hid ht
        clear ht H2
        have c0 := Bk.cell (j := 0) HT.out.b.at_.dk rfl
        have c0' : wr.cell? ⟨q, 0, none⟩ = some (.slice (some ⟨qs, 0, none⟩) N N) := by rw [← HSL.out]; exact c0
        clear c0
        by_cases hjN : j < N
        · have hji : (j : Int) < (N : Int) := by omega
          have hrb := (read_live SS [] (-1) j (by rw [HSL.out]; exact hjN)).1
          have hre := (read_live SS [] (-1) j (by rw [HSL.out]; exact hjN)).2
          have hpc := secs_piece SS HS32.out j (by rw [HSL.out]; exact hjN)
          obtain ⟨b, hb⟩ : ∃ b, SS.getD j [] = b := ⟨_, rfl⟩
          rw [nowS_nil, hb] at hrb
          rw [hb] at hpc
          have HB32 : Hid (b.length = 32) := by show _ = _; rw [← hrb]; exact DAt.readB_len HT.out.b.at_ _
          have HRB := Lib.hid hrb
          have HRE := Lib.hid hre
          have HPC := Lib.hid hpc
          clear hrb hre hpc hb
          go_wp2_with fail
          refine (diskRead_at wr g gs lv3 _ j HT.out.a.at_).mono ?_
          rintro e w1a ⟨rfl, hb⟩
          rw [HRB.out, HRE.out]
          have HT1a := Lib.hid (HT.out.below hb)
          clear hb
          go_wp2_with (refine wpList_al rfl 37 rfl (bts (List.replicate 32 0)) (by kernel_rfl) ?_)
          intro g16 w1b hg hb hc hs
          have HT1b := Lib.hid (HT1a.out.chgN hc)
          have HBS1 := Lib.hid (HT1a.out.beside hg)
          have K1b := Lib.hid hb
          clear hb hc hs hg
          go_wp2_with (refine wpList_st rfl 37 (.tmp 16) (.tmp 184) rfl g16 0 32 (bts (List.replicate 32 0)) (bts b) rfl rfl K1b.out (by kernel_rfl) (by rw [bts_length, HB32.out]) (by decide) (one_bts _) ?_)
          intro w1c hb hc
          rw [splice_whole _ _ (by rw [bts_length, HB32.out]; rfl)] at hb
          have K1c := Lib.hid hb
          have HT1c := Lib.hid (HT1b.out.st HBS1.out hc)
          clear hb hc

          clear c0'
          go_wp2_with fail
          apply wp_region_rel 13 (Chg NoS) [(Veq _), (Veq _), (Veq _), (Veq _), (Veq _), (Veq _), (Veq _), (Veq _), (Veq _), (Veq _), (Veq _), (Veq _), (Veq _)] [[], [0], [1], [2], [2], [2, 4], [2, 5], [2, 6], [2], [2, 7, 8], [2, 9], [2, 3, 10], [2, 11]] [186, 187, 188, 189, 190, 191, 192, 193, 194, 195, 196, 197, 198] (by kernel_rfl) (by kernel_rfl) rfl rfl rfl Chg.refl (fun _ _ _ => Chg.trans) ⟨Veq.lasts, Veq.lasts, Veq.lasts, Veq.lasts, Veq.lasts, Veq.lasts, Veq.lasts, Veq.lasts, Veq.lasts, Veq.lasts, Veq.lasts, Veq.lasts, Veq.lasts, trivial⟩ ?hops ?hfin
          case hops =>
            refine ⟨?ho0, ?ho1, ?ho2, ?ho3, ?ho4, ?ho5, ?ho6, ?ho7, ?ho8, ?ho9, ?ho10, ?ho11, ?ho12, trivial⟩
            case ho0 =>
              intro a wx hE hin
              have i17 : a.eval (.tmp 17) = .int .i64 0 := hin 17 rfl
              clear hin
              have hcst : ∀ v, a.eval (.const v) = v := fun _ => rfl
              have hfnc : ∀ f, a.eval (.func f) = .func (.func f) #[] #[] := fun _ => rfl
              refine want_none rfl ?_
              unfold Oper.wp
              generalize a.eval = ρ at *
              go_simp
              try go_bits
              first | exact rel_val (Chg.refl _) | (go_simp; exact rel_val (Chg.refl _))
            case ho1 =>
              rintro a wx hE hin (h0 : a.eval (.tmp 186) = _)
              clear hin
              have hcst : ∀ v, a.eval (.const v) = v := fun _ => rfl
              have hfnc : ∀ f, a.eval (.func f) = .func (.func f) #[] #[] := fun _ => rfl
              refine want_none rfl ?_
              unfold Oper.wp
              generalize a.eval = ρ at *
              go_simp
              try go_bits
              first | exact rel_val (Chg.refl _) | (go_simp; exact rel_val (Chg.refl _))
            case ho2 =>
              rintro a wx hE hin (h1 : a.eval (.tmp 187) = _)
              clear hin
              have hcst : ∀ v, a.eval (.const v) = v := fun _ => rfl
              have hfnc : ∀ f, a.eval (.func f) = .func (.func f) #[] #[] := fun _ => rfl
              refine want_none rfl ?_
              unfold Oper.wp
              generalize a.eval = ρ at *
              go_simp
              try go_bits
              first | exact rel_val (Chg.refl _) | (go_simp; exact rel_val (Chg.refl _))
            case ho3 =>
              rintro a wx hE hin (h2 : a.eval (.tmp 188) = _)
              have i16 : a.eval (.tmp 16) = .pointer (some ⟨g16, 0, none⟩) := hin 16 rfl
              clear hin
              have hcst : ∀ v, a.eval (.const v) = v := fun _ => rfl
              have hfnc : ∀ f, a.eval (.func f) = .func (.func f) #[] #[] := fun _ => rfl
              refine want_yes rfl rfl h2 ?_
              exact wp_ld 37 _ rfl g16 0 32 (bts b) (bts b) i16 ((K1c.out.drew).chg hE id) (by kernel_rfl) (by kernel_rfl) (by rw [bts_length, HB32.out]; decide) (by rw [List.drop_zero, List.take_of_length_le (by rw [bts_length, HB32.out]; decide)]) (rel_val (Chg.refl _))
            case ho4 =>
              rintro a wx hE hin (h2 : a.eval (.tmp 188) = _)
              have i7 : a.eval (.tmp 7) = .pointer (some ⟨q, 0, none⟩) := hin 7 rfl
              clear hin
              have hcst : ∀ v, a.eval (.const v) = v := fun _ => rfl
              have hfnc : ∀ f, a.eval (.func f) = .func (.func f) #[] #[] := fun _ => rfl
              refine want_yes rfl rfl h2 ?_
              unfold Oper.wp
              generalize a.eval = ρ at *
              go_simp
              try go_bits
              first | exact rel_val (Chg.refl _) | (go_simp; exact rel_val (Chg.refl _))
            case ho5 =>
              rintro a wx hE hin (h2 : a.eval (.tmp 188) = _) (h4 : a.eval (.tmp 190) = _)
              clear hin
              have hcst : ∀ v, a.eval (.const v) = v := fun _ => rfl
              have hfnc : ∀ f, a.eval (.func f) = .func (.func f) #[] #[] := fun _ => rfl
              refine want_yes rfl rfl h2 ?_
              unfold Oper.wp
              generalize a.eval = ρ at *
              go_simp
              try go_bits
              first | exact rel_val (Chg.refl _) | (go_simp; exact rel_val (Chg.refl _))
            case ho6 =>
              rintro a wx hE hin (h2 : a.eval (.tmp 188) = _) (h5 : a.eval (.tmp 191) = _)
              clear hin
              have hcst : ∀ v, a.eval (.const v) = v := fun _ => rfl
              have hfnc : ∀ f, a.eval (.func f) = .func (.func f) #[] #[] := fun _ => rfl
              refine want_yes rfl rfl h2 ?_
              unfold Oper.wp
              generalize a.eval = ρ at *
              go_simp
              try go_bits
              first | exact rel_val (Chg.refl _) | (go_simp; exact rel_val (Chg.refl _))
            case ho7 =>
              rintro a wx hE hin (h2 : a.eval (.tmp 188) = _) (h6 : a.eval (.tmp 192) = _)
              clear hin
              have hcst : ∀ v, a.eval (.const v) = v := fun _ => rfl
              have hfnc : ∀ f, a.eval (.func f) = .func (.func f) #[] #[] := fun _ => rfl
              refine want_yes rfl rfl h2 ?_
              unfold Oper.wp
              generalize a.eval = ρ at *
              have c := Bk.cell (j := 0) (DiskAt.chg (HT1c.out.b.drew.at_) hE (fun _ _ => id)).dk rfl
              have c2 : wx.cell? ⟨q, 0, none⟩ = some (.slice (some ⟨qs, 0, none⟩) N N) := by rw [← HSL.out]; exact c
              clear c
              go_simp
              try go_bits
              first | exact rel_val (Chg.refl _) | (go_simp; exact rel_val (Chg.refl _))
            case ho8 =>
              rintro a wx hE hin (h2 : a.eval (.tmp 188) = _)
              have i15 : a.eval (.tmp 15) = .int .i64 j := hin 15 rfl
              clear hin
              have hcst : ∀ v, a.eval (.const v) = v := fun _ => rfl
              have hfnc : ∀ f, a.eval (.func f) = .func (.func f) #[] #[] := fun _ => rfl
              refine want_yes rfl rfl h2 ?_
              unfold Oper.wp
              generalize a.eval = ρ at *
              go_simp
              try go_bits
              first | exact rel_val (Chg.refl _) | (go_simp; exact rel_val (Chg.refl _))
            case ho9 =>
              rintro a wx hE hin (h2 : a.eval (.tmp 188) = _) (h7 : a.eval (.tmp 193) = _) (h8 : a.eval (.tmp 194) = _)
              clear hin
              have hcst : ∀ v, a.eval (.const v) = v := fun _ => rfl
              have hfnc : ∀ f, a.eval (.func f) = .func (.func f) #[] #[] := fun _ => rfl
              refine want_yes rfl rfl h2 ?_
              unfold Oper.wp
              generalize a.eval = ρ at *
              go_simp
              try go_bits
              first | exact rel_val (Chg.refl _) | (go_simp; exact rel_val (Chg.refl _))
            case ho10 =>
              rintro a wx hE hin (h2 : a.eval (.tmp 188) = _) (h9 : a.eval (.tmp 195) = _)
              clear hin
              have hcst : ∀ v, a.eval (.const v) = v := fun _ => rfl
              have hfnc : ∀ f, a.eval (.func f) = .func (.func f) #[] #[] := fun _ => rfl
              refine want_yes rfl rfl h2 ?_
              exact wp_ld 37 _ rfl qs (j * 32) 32 (secs SS) (bts b) h9 (DiskAt.chg (HT1c.out.b.drew.at_) hE (fun _ _ => id)).sb (by kernel_rfl) (by kernel_rfl) (by rw [HSEC.out]; omega) HPC.out (rel_val (Chg.refl _))
            case ho11 =>
              rintro a wx hE hin (h2 : a.eval (.tmp 188) = _) (h3 : a.eval (.tmp 189) = _) (h10 : a.eval (.tmp 196) = _)
              clear hin
              have hcst : ∀ v, a.eval (.const v) = v := fun _ => rfl
              have hfnc : ∀ f, a.eval (.func f) = .func (.func f) #[] #[] := fun _ => rfl
              refine want_yes rfl rfl h2 ?_
              exact wp_eq_bytes true 37 37 _ _ rfl 5 32 Try.underlying37 Try.underlying5 (by kernel_rfl) (by kernel_rfl) b b h3 h10 HB32.out HB32.out (by rw [show (true ^^ decide (b = b)) = false by simp]; exact rel_val (e := .bool false) (Chg.refl _))
            case ho12 =>
              rintro a wx hE hin (h2 : a.eval (.tmp 188) = _) (h11 : a.eval (.tmp 197) = _)
              clear hin
              have hcst : ∀ v, a.eval (.const v) = v := fun _ => rfl
              have hfnc : ∀ f, a.eval (.func f) = .func (.func f) #[] #[] := fun _ => rfl
              refine want_none rfl ?_
              unfold Oper.wp
              generalize a.eval = ρ at *
              go_simp
              try go_bits
              first | exact rel_val (Chg.refl _) | (go_simp; exact rel_val (Chg.refl _))
          case hfin =>
            intro wx hE
            rintro _ rfl _ rfl _ rfl _ rfl _ rfl _ rfl _ rfl _ rfl _ rfl _ rfl _ rfl _ rfl _ rfl
            simp only [FinOk, List.take_succ_cons, List.take_zero, List.take_nil, List.drop_succ_cons, List.drop_zero, List.drop_nil, Act.put, List.setIfInBounds_toArray, List.set_cons_succ, List.set_cons_zero]
            have HT7 := Lib.hid (HT1c.out.drew.chgN hE)
            clear hE
            go_wp2_with fail
            go_roundw
            case rel => exact ⟨j + 1, by omega, by go_num, HT7.out⟩
            case measure => simp [intOf]; omega
        · have hji : ¬ ((j : Int) < (N : Int)) := by omega
          go_wp2_with fail
          refine (wakes5_calls wr).mono ?_
          rintro e w9 ⟨rfl, hb⟩
          have E9 : Hid (Below w.heap.size w w9) := HT.out.a.bel.trans (hb.mono HT.out.a.bel.size)
          clear hb
          go_wp2
          go_ret
          exact ⟨rfl, E9.out⟩

theorem diskPlays_calls (w : World) (n : Int) (A : Option Addr) (m c : Nat) (l : List Stp) (hl : l.length = m) (hnc : m ≤ c) (hm : c ≤ 9223372036854775807) (hr : Rd w A (l.flatMap stpC)) (hok : ∀ s ∈ l, StpOk w s) :
    Calls Try.prog 3 #[.int .i64 n, .slice A m c] w fun e w' => e = .returned (.bool true) ∧ Below w.heap.size w w' := by
  by_cases h : fairB l = false ∨ n < 1 ∨ 60 < n
  · subst hl
    exact diskPlays_no w n A c l (by omega) hr h
  · have h1 : fairB l = true := by
      cases hq : fairB l with
      | true => rfl
      | false => exact absurd (.inl hq) h
    obtain ⟨N, rfl⟩ := Int.eq_ofNat_of_zero_le (show 0 ≤ n by omega)
    exact diskPlays_yes w N A m c l hl hnc hm hr hok h1 (by omega) (by omega)
end Go.Proofs.Ytnpcehlbboeadaa
