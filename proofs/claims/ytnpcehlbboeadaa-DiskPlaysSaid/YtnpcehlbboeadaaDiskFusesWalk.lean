/- The walk of DiskFuses. -/
import Derived.Test.YtnpcehlbboeadaaDiskReadsWalk
namespace Go.Proofs.Ytnpcehlbboeadaa
open Go.RowKit
set_option linter.unusedVariables false
set_option linter.unusedSimpArgs false

/-- What the loop keeps: d writes and flushes went through. -/
structure FAt (w : World) (g gs F0 k d : Nat) (lv : Value) (s : Dst) (wr : World) : Prop where
  le : d ≤ F0
  f0 : F0 < 30
  f : s.f = (F0 : Int) - (d : Int)
  dn : s.dn = true → s.f = 0
  sl : s.S.length = 5
  ll : s.L.length ≤ k
  ds : DSes 91 w wr g gs lv s
section
variable {w wr wx : World} {g gs F0 k d : Nat} {lv lv' : Value} {s : Dst}
theorem FAt.at_ (h : FAt w g gs F0 k d lv s wr) (hd : DSes 91 w wx g gs lv s) : FAt w g gs F0 k d lv s wx := ⟨h.le, h.f0, h.f, h.dn, h.sl, h.ll, hd⟩
theorem FAt.more (h : FAt w g gs F0 k d lv s wr) (hd : DSes 91 w wx g gs lv s) : FAt w g gs F0 (k + 1) d lv s wx := ⟨h.le, h.f0, h.f, h.dn, h.sl, by have := h.ll; omega, hd⟩
theorem FAt.flo (h : FAt w g gs F0 k d lv s wr) : -1 ≤ s.f := by have := h.f; have := h.le; omega
theorem FAt.fhi (h : FAt w g gs F0 k d lv s wr) : s.f ≤ 9223372036854775807 := by have := h.f; have := h.f0; omega
theorem FAt.zero (h : FAt w g gs F0 k d lv s wr) : passD s.f s.dn = true ↔ s.f = 0 := by
  rw [passD, Bool.or_eq_true, decide_eq_true_iff]
  exact ⟨fun hh => hh.elim h.dn id, .inr⟩
theorem FAt.ge (h : FAt w g gs F0 k d lv s wr) (hp : passD s.f s.dn = true) : F0 ≤ d := by have := h.zero.1 hp; have := h.f; omega
theorem FAt.lt_ (h : FAt w g gs F0 k d lv s wr) (hp : ¬ passD s.f s.dn = true) : d < F0 := by
  have h2 : ¬ s.f = 0 := fun hh => hp (h.zero.2 hh)
  have := h.f
  have := h.le
  omega
theorem FAt.pf (h : FAt w g gs F0 k d lv s wr) (hp : passD s.f s.dn = true) : passF s.f s.dn = s.f := by
  have := h.zero.1 hp
  rw [passF, if_pos (.inr this)]
theorem FAt.pf2 (h : FAt w g gs F0 k d lv s wr) (hp : ¬ passD s.f s.dn = true) : passF s.f s.dn = s.f - 1 := by
  have h1 := h.lt_ hp
  have h2 := h.f
  rw [passF, if_neg, if_pos (by omega)]
  rintro (h3 | h3)
  · exact hp (by rw [passD, h3]; rfl)
  · omega
theorem FAt.down (h : FAt w g gs F0 k d lv s wr) (hp : passD s.f s.dn = true) (hd : DSes 91 w wx g gs lv' ⟨s.S, s.L, passF s.f s.dn, true⟩) : FAt w g gs F0 (k + 1) d lv' ⟨s.S, s.L, passF s.f s.dn, true⟩ wx :=
  ⟨h.le, h.f0, (h.pf hp).trans h.f, fun _ => (h.pf hp).trans (h.zero.1 hp), h.sl, by have := h.ll; show s.L.length ≤ k + 1; omega, hd⟩
theorem FAt.wrote (h : FAt w g gs F0 k d lv s wr) (m : Nat) (b : List UInt8) (hp : ¬ passD s.f s.dn = true) (hd : DSes 91 w wx g gs lv' ⟨s.S, s.L ++ [(m, b)], passF s.f s.dn, false⟩) : FAt w g gs F0 (k + 1) (d + 1) lv' ⟨s.S, s.L ++ [(m, b)], passF s.f s.dn, false⟩ wx :=
  ⟨h.lt_ hp, h.f0, by have := h.pf2 hp; have := h.f; show passF s.f s.dn = _; omega, fun hh => (by cases hh), h.sl, by have := h.ll; show (s.L ++ [(m, b)]).length ≤ k + 1; rw [List.length_append]; simp; omega, hd⟩
theorem FAt.flushed (h : FAt w g gs F0 k d lv s wr) (hp : ¬ passD s.f s.dn = true) (hd : DSes 91 w wx g gs lv' ⟨doneS s.S s.L, [], passF s.f s.dn, false⟩) : FAt w g gs F0 (k + 1) (d + 1) lv' ⟨doneS s.S s.L, [], passF s.f s.dn, false⟩ wx :=
  ⟨h.lt_ hp, h.f0, by have := h.pf2 hp; have := h.f; show passF s.f s.dn = _; omega, fun hh => (by cases hh), (doneS_length s.S s.L).trans h.sl, Nat.zero_le _, hd⟩
end
theorem write_yes (s : Dst) (i : Nat) (b : List UInt8) (h : i < s.S.length) (hp : ¬ passD s.f s.dn = true) : s.write (i : Int) b = ⟨s.S, s.L ++ [(i, b)], passF s.f s.dn, false⟩ := by
  rw [Dst.write, if_pos (show s.has (i : Int) from ⟨by omega, by omega⟩), if_neg hp]
  rfl
theorem writeE_yes (s : Dst) (i : Nat) (h : i < s.S.length) (hp : ¬ passD s.f s.dn = true) : s.writeE (i : Int) = 0 := by
  rw [Dst.writeE, if_pos (show s.has (i : Int) from ⟨by omega, by omega⟩), if_neg hp]
theorem write_no (s : Dst) (i : Nat) (b : List UInt8) (h : i < s.S.length) (hp : passD s.f s.dn = true) : s.write (i : Int) b = ⟨s.S, s.L, passF s.f s.dn, true⟩ := by
  rw [Dst.write, if_pos (show s.has (i : Int) from ⟨by omega, by omega⟩), if_pos hp]
theorem writeE_no (s : Dst) (i : Nat) (h : i < s.S.length) (hp : passD s.f s.dn = true) : s.writeE (i : Int) = 20 := by
  rw [Dst.writeE, if_pos (show s.has (i : Int) from ⟨by omega, by omega⟩), if_pos hp]
theorem flush_yes (s : Dst) (hp : ¬ passD s.f s.dn = true) : s.flush = ⟨doneS s.S s.L, [], passF s.f s.dn, false⟩ := by rw [Dst.flush, if_neg hp]
theorem flushE_yes (s : Dst) (hp : ¬ passD s.f s.dn = true) : s.flushE = 0 := by rw [Dst.flushE, if_neg hp]
theorem flush_no (s : Dst) (hp : passD s.f s.dn = true) : s.flush = ⟨s.S, s.L, passF s.f s.dn, true⟩ := by rw [Dst.flush, if_pos hp]
theorem flushE_no (s : Dst) (hp : passD s.f s.dn = true) : s.flushE = 20 := by rw [Dst.flushE, if_pos hp]
def FusesRel (w : World) (g gs F0 m : Nat) (v8 v9 : Value) (wr : World) : Prop := ∃ (k d : Nat) (lv : Value) (s : Dst), k ≤ m ∧ v9 = .int .i64 k ∧ v8 = .int .i64 d ∧ FAt w g gs F0 k d lv s wr
set_option maxRecDepth 100000 in
set_option maxHeartbeats 8000000 in
theorem diskFuses_calls (w : World) (x : UInt8) (A : Option Addr) (n c : Nat) (l : List Stp) (hl : l.length = n) (hnc : n ≤ c) (hm : c ≤ 9223372036854775807) (hr : Rd w A (l.flatMap stpC)) (hok : ∀ s ∈ l, StpOk w s) :
    Calls Try.prog 5 #[vu8 x, .slice A n c] w fun e w' => e = .returned (.bool true) ∧ Below w.heap.size w w' := by
  subst hl
  have HR := Lib.hid hr
  have HOK := Lib.hid hok
  clear hr hok
  go_enter Try.func5, Try.ntmps5
  go_wp2_with fail
  refine (diskNew_yes 5 w (by decide) (by decide)).mono ?_
  intro e w1 hp
  obtain ⟨g, gs, rfl, hs⟩ := DSes.new (wT := 91) (by decide) (Below.refl _ _) hp
  have HD1 : Hid (DSes 91 w w1 g gs (.slice none 0 0) (Dst.new 5)) := hs
  clear hp hs
  go_wp2_with fail
  refine (fair_calls w1 A l.length c l rfl (by omega) (HR.out.below HD1.out.bel)).mono ?_
  rintro e w' ⟨rfl, rfl⟩
  cases hq : fairB l with
  | false =>
    clear hq
    go_wp2_with fail
    refine (wakes5_calls w1).mono ?_
    rintro e w3 ⟨rfl, hb⟩
    have E3 : Hid (Below w.heap.size w w3) := HD1.out.bel.trans (hb.mono HD1.out.bel.size)
    clear hb
    go_wp2
    go_ret
    exact ⟨rfl, E3.out⟩
  | true =>
    have HLL : Hid (l.length ≤ 200) := by
      show l.length ≤ 200
      rw [fairB, Bool.and_eq_true] at hq
      exact of_decide_eq_true hq.2
    clear hq
    obtain ⟨F0, hF30, hF⟩ : ∃ F0 : Nat, F0 < 30 ∧ (wrap64 (x.toNat : Int)).tmod 30 = (F0 : Int) := ⟨x.toNat % 30, Nat.mod_lt _ (by decide), by have := x.toNat_lt; rw [show wrap64 (x.toNat : Int) = x.toNat by unfold wrap64; omega, Int.tmod_eq_emod_of_nonneg (by omega)]; omega⟩
    go_wp2_with fail
    refine (diskFuse_at w1 g gs _ _ _ HD1.out.at_).mono ?_
    intro e w2 hp
    rw [show max (F0 : Int) (-1) = F0 by omega] at hp
    obtain ⟨rfl, lv2, hd2⟩ := HD1.out.post hp
    have H0 : Hid (FusesRel w g gs F0 l.length (.int .i64 0) (.int .i64 0) w2) := ⟨0, 0, lv2, _, by omega, rfl, rfl, ⟨Nat.zero_le _, hF30, by show (F0 : Int) = _; omega, fun hh => (by cases hh), by simp [Dst.new, Dst.fuse], Nat.zero_le _, hd2⟩⟩
    clear hp hd2 hF
    go_wp2_with fail
    go_loopw [8, 9] (fun v8 v9 wr => FusesRel w g gs F0 l.length v8 v9 wr) (fun _ v9 _ => l.length - (intOf v9).toNat)
    case atStart => exact H0.out
    case round =>
      obtain ⟨k, d, lv, s, hk, rfl, rfl, hrel⟩ := hrel
      have HRL := Lib.hid hrel
      have hd200 : d < 30 := by have := HRL.out.le; omega
      clear hrel H0
      by_cases hlt : k < l.length
      · have hki : (k : Int) < (l.length : Int) := by omega
        have HRr := Lib.hid (HR.out.below HRL.out.ds.bel)
        obtain ⟨ad, hA, h0, h1, h2, h3⟩ := stp_cells HRr.out hlt
        subst hA
        have hsok := HOK.out _ (List.getElem_mem hlt)
        obtain ⟨s5, hs⟩ : ∃ s5, l[k] = s5 := ⟨_, rfl⟩
        rw [hs] at h0 h1 h2 h3 hsok
        have HI1 := Lib.hid hsok.i1
        have HI2 := Lib.hid hsok.i2
        have HS := Lib.hid hs
        clear hs hsok h3
        by_cases hk0 : s5.k = 0
        · have hkb : (s5.k == 0) = true := by rw [hk0]; rfl
          obtain ⟨m, hm7, hmod⟩ : ∃ m : Nat, m < 5 ∧ s5.i % 5 = (m : Int) := ⟨(s5.i % 5).toNat, by omega, by omega⟩
          have HM := Lib.hid hmod
          obtain ⟨b, hbv⟩ : ∃ b, List.replicate 32 s5.v = b := ⟨_, rfl⟩
          have HBV := Lib.hid hbv
          have HB32 : Hid (b.length = 32) := by show _ = _; rw [← hbv, List.length_replicate]
          have HSM : Hid (m < s.S.length) := by show _ < _; rw [HRL.out.sl]; exact hm7
          clear hbv hmod h1 h2
          go_wp2_with fail
          apply wp_region_rel 13 (Chg NoS) [(Veq _), (Veq _), (Veq _), (Veq _), (Veq _), (Veq _), (Veq _), (Veq _), (Veq _), (Veq _), (Veq _), (Veq _), (Veq _)] [[], [], [], [1, 2], [3], [4], [5], [], [], [7, 8], [9], [10], [11]] [77, 78, 79, 80, 81, 82, 83, 84, 85, 86, 87, 88, 89] (by kernel_rfl) (by kernel_rfl) rfl rfl rfl Chg.refl (fun _ _ _ => Chg.trans) ⟨Veq.lasts, Veq.lasts, Veq.lasts, Veq.lasts, Veq.lasts, Veq.lasts, Veq.lasts, Veq.lasts, Veq.lasts, Veq.lasts, Veq.lasts, Veq.lasts, Veq.lasts, trivial⟩ ?aops ?afin
          case aops =>
            refine ⟨?ao0, ?ao1, ?ao2, ?ao3, ?ao4, ?ao5, ?ao6, ?ao7, ?ao8, ?ao9, ?ao10, ?ao11, ?ao12, trivial⟩
            case ao0 =>
              intro a wx hE hin
              have i5 : a.eval (.tmp 5) = .pointer (some ⟨g, 0, none⟩) := hin 5 rfl
              clear hin
              have hcst : ∀ v, a.eval (.const v) = v := fun _ => rfl
              have hfnc : ∀ f, a.eval (.func f) = .func (.func f) #[] #[] := fun _ => rfl
              refine want_none rfl ?_
              unfold Oper.wp
              generalize a.eval = ρ at *
              go_simp
              try go_bits
              first | exact rel_val (Chg.refl _) | (go_simp; exact rel_val (Chg.refl _))
            case ao1 =>
              intro a wx hE hin
              have i1 : a.eval (.tmp 1) = .slice (some ad) l.length c := hin 1 rfl
              clear hin
              have hcst : ∀ v, a.eval (.const v) = v := fun _ => rfl
              have hfnc : ∀ f, a.eval (.func f) = .func (.func f) #[] #[] := fun _ => rfl
              refine want_none rfl ?_
              unfold Oper.wp
              generalize a.eval = ρ at *
              go_simp
              try go_bits
              first | exact rel_val (Chg.refl _) | (go_simp; exact rel_val (Chg.refl _))
            case ao2 =>
              intro a wx hE hin
              have i9 : a.eval (.tmp 9) = .int .i64 k := hin 9 rfl
              clear hin
              have hcst : ∀ v, a.eval (.const v) = v := fun _ => rfl
              have hfnc : ∀ f, a.eval (.func f) = .func (.func f) #[] #[] := fun _ => rfl
              refine want_none rfl ?_
              unfold Oper.wp
              generalize a.eval = ρ at *
              go_simp
              try go_bits
              first | exact rel_val (Chg.refl _) | (go_simp; exact rel_val (Chg.refl _))
            case ao3 =>
              rintro a wx hE hin (h1 : a.eval (.tmp 78) = _) (h2 : a.eval (.tmp 79) = _)
              clear hin
              have hcst : ∀ v, a.eval (.const v) = v := fun _ => rfl
              have hfnc : ∀ f, a.eval (.func f) = .func (.func f) #[] #[] := fun _ => rfl
              refine want_none rfl ?_
              unfold Oper.wp
              generalize a.eval = ρ at *
              go_simp
              try go_bits
              first | exact rel_val (Chg.refl _) | (go_simp; exact rel_val (Chg.refl _))
            case ao4 =>
              rintro a wx hE hin (h3 : a.eval (.tmp 80) = _)
              clear hin
              have hcst : ∀ v, a.eval (.const v) = v := fun _ => rfl
              have hfnc : ∀ f, a.eval (.func f) = .func (.func f) #[] #[] := fun _ => rfl
              refine want_none rfl ?_
              unfold Oper.wp
              generalize a.eval = ρ at *
              go_simp
              try go_bits
              first | exact rel_val (Chg.refl _) | (go_simp; exact rel_val (Chg.refl _))
            case ao5 =>
              rintro a wx hE hin (h4 : a.eval (.tmp 81) = _)
              clear hin
              have hcst : ∀ v, a.eval (.const v) = v := fun _ => rfl
              have hfnc : ∀ f, a.eval (.func f) = .func (.func f) #[] #[] := fun _ => rfl
              refine want_none rfl ?_
              unfold Oper.wp
              generalize a.eval = ρ at *
              have hst := stp_cells ((HRr.out.drew).chg hE) hlt
              rw [HS.out] at hst
              obtain ⟨ad9, hA9, e0, e1, e2, e3⟩ := hst
              injection hA9 with hA9
              subst hA9
              go_simp
              try go_bits
              first | exact rel_val (Chg.refl _) | (go_simp; exact rel_val (Chg.refl _))
            case ao6 =>
              rintro a wx hE hin (h5 : a.eval (.tmp 82) = _)
              clear hin
              have hcst : ∀ v, a.eval (.const v) = v := fun _ => rfl
              have hfnc : ∀ f, a.eval (.func f) = .func (.func f) #[] #[] := fun _ => rfl
              refine want_none rfl ?_
              unfold Oper.wp
              generalize a.eval = ρ at *
              go_simp
              refine (mod_calls s5.i 5 wx (by decide) (by decide) HI1.out HI2.out).mono ?_
              rintro e w' ⟨rfl, rfl⟩
              rw [HM.out]
              exact rel_val (Chg.refl _)
            case ao7 =>
              intro a wx hE hin
              have i1 : a.eval (.tmp 1) = .slice (some ad) l.length c := hin 1 rfl
              clear hin
              have hcst : ∀ v, a.eval (.const v) = v := fun _ => rfl
              have hfnc : ∀ f, a.eval (.func f) = .func (.func f) #[] #[] := fun _ => rfl
              refine want_none rfl ?_
              unfold Oper.wp
              generalize a.eval = ρ at *
              go_simp
              try go_bits
              first | exact rel_val (Chg.refl _) | (go_simp; exact rel_val (Chg.refl _))
            case ao8 =>
              intro a wx hE hin
              have i9 : a.eval (.tmp 9) = .int .i64 k := hin 9 rfl
              clear hin
              have hcst : ∀ v, a.eval (.const v) = v := fun _ => rfl
              have hfnc : ∀ f, a.eval (.func f) = .func (.func f) #[] #[] := fun _ => rfl
              refine want_none rfl ?_
              unfold Oper.wp
              generalize a.eval = ρ at *
              go_simp
              try go_bits
              first | exact rel_val (Chg.refl _) | (go_simp; exact rel_val (Chg.refl _))
            case ao9 =>
              rintro a wx hE hin (h7 : a.eval (.tmp 84) = _) (h8 : a.eval (.tmp 85) = _)
              clear hin
              have hcst : ∀ v, a.eval (.const v) = v := fun _ => rfl
              have hfnc : ∀ f, a.eval (.func f) = .func (.func f) #[] #[] := fun _ => rfl
              refine want_none rfl ?_
              unfold Oper.wp
              generalize a.eval = ρ at *
              go_simp
              try go_bits
              first | exact rel_val (Chg.refl _) | (go_simp; exact rel_val (Chg.refl _))
            case ao10 =>
              rintro a wx hE hin (h9 : a.eval (.tmp 86) = _)
              clear hin
              have hcst : ∀ v, a.eval (.const v) = v := fun _ => rfl
              have hfnc : ∀ f, a.eval (.func f) = .func (.func f) #[] #[] := fun _ => rfl
              refine want_none rfl ?_
              unfold Oper.wp
              generalize a.eval = ρ at *
              go_simp
              try go_bits
              first | exact rel_val (Chg.refl _) | (go_simp; exact rel_val (Chg.refl _))
            case ao11 =>
              rintro a wx hE hin (h10 : a.eval (.tmp 87) = _)
              clear hin
              have hcst : ∀ v, a.eval (.const v) = v := fun _ => rfl
              have hfnc : ∀ f, a.eval (.func f) = .func (.func f) #[] #[] := fun _ => rfl
              refine want_none rfl ?_
              unfold Oper.wp
              generalize a.eval = ρ at *
              have hst := stp_cells ((HRr.out.drew).chg hE) hlt
              rw [HS.out] at hst
              obtain ⟨ad9, hA9, e0, e1, e2, e3⟩ := hst
              injection hA9 with hA9
              subst hA9
              go_simp
              try go_bits
              first | exact rel_val (Chg.refl _) | (go_simp; exact rel_val (Chg.refl _))
            case ao12 =>
              rintro a wx hE hin (h11 : a.eval (.tmp 88) = _)
              clear hin
              have hcst : ∀ v, a.eval (.const v) = v := fun _ => rfl
              have hfnc : ∀ f, a.eval (.func f) = .func (.func f) #[] #[] := fun _ => rfl
              refine want_none rfl ?_
              unfold Oper.wp
              generalize a.eval = ρ at *
              go_simp
              refine (fill_calls s5.v wx).mono ?_
              rintro e w' ⟨rfl, hb⟩
              rw [HBV.out]
              exact rel_val (.of_below hb)
          case afin =>
            intro wx hE
            rintro _ rfl _ rfl _ rfl _ rfl _ rfl _ rfl _ rfl _ rfl _ rfl _ rfl _ rfl _ rfl _ rfl
            simp only [FinOk, List.take_succ_cons, List.take_zero, List.take_nil, List.drop_succ_cons, List.drop_zero, List.drop_nil, Act.put, List.setIfInBounds_toArray, List.set_cons_succ, List.set_cons_zero]
            have HDX := Lib.hid (HRL.out.ds.drew.chgN hE)
            have HFX : Hid (FAt w g gs F0 k d lv s wx) := HRL.out.at_ HDX.out
            clear hE
            go_wp2_with fail
            by_cases hps : passD s.f s.dn = true
            · refine (diskWrite_at wx g gs lv s m b HDX.out.at_ HB32.out (by have := HFX.out.ll; have := HLL.out; omega) HFX.out.flo HFX.out.fhi).mono ?_
              intro e w3 hp
              rw [write_no s m b HSM.out hps, writeE_no s m HSM.out hps] at hp
              obtain ⟨rfl, lv3, hd3⟩ := HDX.out.post hp
              have HD3 := Lib.hid hd3
              have HFA : Hid (FAt w g gs F0 (k + 1) d lv3 _ w3) := HFX.out.down hps hd3
              have hgeq : F0 ≤ d := HFX.out.ge hps
              clear hp hd3 hps
              have hdf : ¬ ((d : Int) < (F0 : Int)) := by omega
              go_wp2_with fail
              refine (diskDown_at w3 g gs lv3 _ HD3.out.at_).mono ?_
              rintro e w' ⟨rfl, rfl⟩
              go_wp2_with fail
              go_roundw
              case rel => exact ⟨k + 1, d, lv3, _, by omega, by go_num, rfl, HFA.out⟩
              case measure => simp [intOf]; omega
            · refine (diskWrite_at wx g gs lv s m b HDX.out.at_ HB32.out (by have := HFX.out.ll; have := HLL.out; omega) HFX.out.flo HFX.out.fhi).mono ?_
              intro e w3 hp
              rw [write_yes s m b HSM.out hps, writeE_yes s m HSM.out hps] at hp
              obtain ⟨rfl, lv3, hd3⟩ := HDX.out.post hp
              have HD3 := Lib.hid hd3
              have HFA : Hid (FAt w g gs F0 (k + 1) (d + 1) lv3 _ w3) := HFX.out.wrote m b hps hd3
              have hlt2 : d < F0 := HFX.out.lt_ hps
              clear hp hd3 hps
              have hdf : (d : Int) < (F0 : Int) := by omega
              go_wp2_with fail
              refine (diskDown_at w3 g gs lv3 _ HD3.out.at_).mono ?_
              rintro e w' ⟨rfl, rfl⟩
              go_wp2_with fail
              go_roundw
              case rel => exact ⟨k + 1, d + 1, lv3, _, by omega, by go_num, by go_num, HFA.out⟩
              case measure => simp [intOf]; omega
        · have hkb : (s5.k == 0) = false := by rw [beq_eq_false_iff_ne]; exact hk0
          by_cases hk2 : s5.k = 2
          · have hkb2 : (s5.k == 2) = true := by rw [hk2]; rfl
            have HDX := Lib.hid HRL.out.ds
            have HFX : Hid (FAt w g gs F0 k d lv s wr) := HRL
            clear h1 h2
            go_wp2_with fail
            by_cases hps : passD s.f s.dn = true
            · refine (diskFlush_at wr g gs lv s HDX.out.at_ HFX.out.flo HFX.out.fhi).mono ?_
              intro e w3 hp
              rw [flush_no s hps, flushE_no s hps] at hp
              obtain ⟨rfl, lv3, hd3⟩ := HDX.out.post hp
              have HD3 := Lib.hid hd3
              have HFA : Hid (FAt w g gs F0 (k + 1) d lv3 _ w3) := HFX.out.down hps hd3
              have hgeq : F0 ≤ d := HFX.out.ge hps
              clear hp hd3 hps
              have hdf : ¬ ((d : Int) < (F0 : Int)) := by omega
              go_wp2_with fail
              refine (diskDown_at w3 g gs lv3 _ HD3.out.at_).mono ?_
              rintro e w' ⟨rfl, rfl⟩
              go_wp2_with fail
              go_roundw
              case rel => exact ⟨k + 1, d, lv3, _, by omega, by go_num, rfl, HFA.out⟩
              case measure => simp [intOf]; omega
            · refine (diskFlush_at wr g gs lv s HDX.out.at_ HFX.out.flo HFX.out.fhi).mono ?_
              intro e w3 hp
              rw [flush_yes s hps, flushE_yes s hps] at hp
              obtain ⟨rfl, lv3, hd3⟩ := HDX.out.post hp
              have HD3 := Lib.hid hd3
              have HFA : Hid (FAt w g gs F0 (k + 1) (d + 1) lv3 _ w3) := HFX.out.flushed hps hd3
              have hlt2 : d < F0 := HFX.out.lt_ hps
              clear hp hd3 hps
              have hdf : (d : Int) < (F0 : Int) := by omega
              go_wp2_with fail
              refine (diskDown_at w3 g gs lv3 _ HD3.out.at_).mono ?_
              rintro e w' ⟨rfl, rfl⟩
              go_wp2_with fail
              go_roundw
              case rel => exact ⟨k + 1, d + 1, lv3, _, by omega, by go_num, by go_num, HFA.out⟩
              case measure => simp [intOf]; omega
          · have hkb2 : (s5.k == 2) = false := by rw [beq_eq_false_iff_ne]; exact hk2
            clear h1 h2
            have HDX := Lib.hid HRL.out.ds
            obtain ⟨b, hb⟩ : ∃ b, s.readB 0 = b := ⟨_, rfl⟩
            have HB32 : Hid (b.length = 32) := by show _ = _; rw [← hb]; exact DAt.readB_len HRL.out.ds.at_ 0
            have HRB := Lib.hid hb
            cases hdn : s.dn with
            | true =>
              have HRE : Hid (s.readE 0 = 20) := by show readE s.S s.dn 0 = 20; rw [readE_in s.S s.dn 0 (by omega) (by rw [HRL.out.sl]; decide), hdn]; rfl
              have HBZ : Hid (b = List.replicate 32 0) := by show _ = _; rw [← hb]; show readB s.S s.L s.dn 0 = _; rw [hdn, readB_down]
              clear hb
              go_wp2_with fail
              refine (diskRead_at wr g gs lv s 0 HDX.out.at_).mono ?_
              rintro e w1a ⟨rfl, hb⟩
              rw [HRB.out, HRE.out]
              have HD1a := Lib.hid (HDX.out.below hb)
              clear hb
              go_wp2_with (refine wpList_al rfl 37 rfl (bts (List.replicate 32 0)) (by kernel_rfl) ?_)
              intro gx w1b hg hb hc hs
              have HD1b := Lib.hid (HD1a.out.chgN hc)
              have HF1 : Hid (∀ q, footD g gs lv q → q < gx) := by intro q hq; rw [hg]; exact DiskAt.lt HD1a.out.at_ q hq
              have HG1 : Hid (w.heap.size ≤ gx) := by show _ ≤ _; rw [hg]; exact HD1a.out.bel.size
              have K1b := Lib.hid hb
              clear hb hc hs hg
              go_wp2_with (refine wpList_st rfl 37 (.tmp 11) (.tmp 59) rfl gx 0 32 (bts (List.replicate 32 0)) (bts b) rfl rfl K1b.out (by kernel_rfl) (by rw [bts_length, HB32.out]) (by decide) (one_bts _) ?_)
              intro w1c hb hc
              rw [splice_whole _ _ (by rw [bts_length, HB32.out]; rfl)] at hb
              have K1c := Lib.hid hb
              have HD1c : Hid (DSes 91 w w1c g gs lv s) := ⟨DiskAt.chg HD1b.out.at_ hc (fun q hq he => by have := HF1.out q hq; omega), HD1b.out.fr, HD1b.out.bel.trans (hc.below HD1b.out.bel.size (fun q hq he => by have := HG1.out; omega))⟩
              clear hb hc

              go_wp2_with fail
              refine (diskDown_at w1c g gs lv s HD1c.out.at_).mono ?_
              rintro e w' ⟨rfl, rfl⟩
              rw [hdn]
              go_wp2_with (first
                | (refine wpList_ld rfl 37 (.tmp 11) rfl gx 0 32 (bts b) (bts b) rfl K1c.out (by kernel_rfl) (by kernel_rfl) (by rw [bts_length, HB32.out]; decide) (by rw [List.drop_zero, List.take_of_length_le (by rw [bts_length, HB32.out]; decide)]) ?_)
                | (refine wpList_bld rfl 37 [] rfl (bts (List.replicate 32 0)) [] (bts (List.replicate 32 0)) (by kernel_rfl) (by kernel_rfl) trivial rfl ?_)
                | (refine wpList_eq_bytes rfl true 37 37 (.tmp 70) (.tmp 71) rfl 5 32 Try.underlying37 Try.underlying5 (by kernel_rfl) (by kernel_rfl) b (List.replicate 32 0) rfl rfl HB32.out (by rw [List.length_replicate]) false (by rw [HBZ.out]; simp) ?_))
              go_roundw
              case rel => exact ⟨k + 1, d, lv, s, by omega, by go_num, rfl, HRL.out.more HD1c.out⟩
              case measure => simp [intOf]; omega
            | false =>
              have HRE : Hid (s.readE 0 = 0) := by show readE s.S s.dn 0 = 0; rw [readE_in s.S s.dn 0 (by omega) (by rw [HRL.out.sl]; decide), hdn]; rfl
              clear hb
              go_wp2_with fail
              refine (diskRead_at wr g gs lv s 0 HDX.out.at_).mono ?_
              rintro e w1a ⟨rfl, hb⟩
              rw [HRB.out, HRE.out]
              have HD1a := Lib.hid (HDX.out.below hb)
              clear hb
              go_wp2_with (refine wpList_al rfl 37 rfl (bts (List.replicate 32 0)) (by kernel_rfl) ?_)
              intro gx w1b hg hb hc hs
              have HD1b := Lib.hid (HD1a.out.chgN hc)
              have HF1 : Hid (∀ q, footD g gs lv q → q < gx) := by intro q hq; rw [hg]; exact DiskAt.lt HD1a.out.at_ q hq
              have HG1 : Hid (w.heap.size ≤ gx) := by show _ ≤ _; rw [hg]; exact HD1a.out.bel.size
              have K1b := Lib.hid hb
              clear hb hc hs hg
              go_wp2_with (refine wpList_st rfl 37 (.tmp 11) (.tmp 59) rfl gx 0 32 (bts (List.replicate 32 0)) (bts b) rfl rfl K1b.out (by kernel_rfl) (by rw [bts_length, HB32.out]) (by decide) (one_bts _) ?_)
              intro w1c hb hc
              rw [splice_whole _ _ (by rw [bts_length, HB32.out]; rfl)] at hb
              have K1c := Lib.hid hb
              have HD1c : Hid (DSes 91 w w1c g gs lv s) := ⟨DiskAt.chg HD1b.out.at_ hc (fun q hq he => by have := HF1.out q hq; omega), HD1b.out.fr, HD1b.out.bel.trans (hc.below HD1b.out.bel.size (fun q hq he => by have := HG1.out; omega))⟩
              clear hb hc

              go_wp2_with fail
              refine (diskDown_at w1c g gs lv s HD1c.out.at_).mono ?_
              rintro e w' ⟨rfl, rfl⟩
              rw [hdn]
              go_wp2_with fail
              go_roundw
              case rel => exact ⟨k + 1, d, lv, s, by omega, by go_num, rfl, HRL.out.more HD1c.out⟩
              case measure => simp [intOf]; omega
      · have hki : ¬ ((k : Int) < (l.length : Int)) := by omega
        go_wp2_with fail
        refine (diskUp_at wr g gs lv s none 0 0 [] HRL.out.ds.at_ rfl (fun _ _ => Rd.nil _ _)).mono ?_
        intro e w4 hp
        obtain ⟨rfl, lv4, hd4⟩ := HRL.out.ds.post hp
        have hd4' : DSes 91 w w4 g gs lv4 ⟨upS s.S s.L [], [], -1, false⟩ := hd4
        have HD4 := Lib.hid hd4'
        have HU5 : Hid (0 < (upS s.S s.L []).length) := by show _ < _; rw [upS_length, HRL.out.sl]; decide
        have hrb := (read_live (upS s.S s.L []) [] (-1) 0 HU5.out).1
        have hre := (read_live (upS s.S s.L []) [] (-1) 0 HU5.out).2
        obtain ⟨b, hb⟩ : ∃ b, nowS (upS s.S s.L []) [] 0 = b := ⟨_, rfl⟩
        rw [hb] at hrb
        have HB32 : Hid (b.length = 32) := by show _ = _; rw [← hrb]; exact DAt.readB_len hd4'.at_ _
        have HRB := Lib.hid hrb
        have HRE := Lib.hid hre
        clear hrb hre hb hp hd4 hd4'
        go_wp2_with fail
        refine (diskRead_at w4 g gs lv4 _ ((0 : Nat) : Int) HD4.out.at_).mono ?_
        rintro e w1a ⟨rfl, hb⟩
        rw [HRB.out, HRE.out]
        have HD1a := Lib.hid (HD4.out.below hb)
        clear hb
        go_wp2_with (refine wpList_al rfl 37 rfl (bts (List.replicate 32 0)) (by kernel_rfl) ?_)
        intro gx w1b hg hb hc hs
        have HD1b := Lib.hid (HD1a.out.chgN hc)
        have HF1 : Hid (∀ q, footD g gs lv4 q → q < gx) := by intro q hq; rw [hg]; exact DiskAt.lt HD1a.out.at_ q hq
        have HG1 : Hid (w.heap.size ≤ gx) := by show _ ≤ _; rw [hg]; exact HD1a.out.bel.size
        have K1b := Lib.hid hb
        clear hb hc hs hg
        go_wp2_with (refine wpList_st rfl 37 (.tmp 13) (.tmp 125) rfl gx 0 32 (bts (List.replicate 32 0)) (bts b) rfl rfl K1b.out (by kernel_rfl) (by rw [bts_length, HB32.out]) (by decide) (one_bts _) ?_)
        intro w1c hb hc
        rw [splice_whole _ _ (by rw [bts_length, HB32.out]; rfl)] at hb
        have K1c := Lib.hid hb
        have HD1c : Hid (DSes 91 w w1c g gs lv4 ⟨upS s.S s.L [], [], -1, false⟩) := ⟨DiskAt.chg HD1b.out.at_ hc (fun q hq he => by have := HF1.out q hq; omega), HD1b.out.fr, HD1b.out.bel.trans (hc.below HD1b.out.bel.size (fun q hq he => by have := HG1.out; omega))⟩
        clear hb hc

        go_wp2_with fail
        refine (diskDown_at w1c g gs lv4 _ HD1c.out.at_).mono ?_
        rintro e w' ⟨rfl, rfl⟩
        go_wp2_with (refine wpList_bld rfl 37 [] rfl (bts (List.replicate 32 0)) [] (bts (List.replicate 32 0)) (by kernel_rfl) (by kernel_rfl) trivial rfl ?_)
        go_wp2_with fail
        refine (diskWrite_at w1c g gs lv4 _ ((0 : Nat) : Int) (List.replicate 32 0) HD1c.out.at_ (by rw [List.length_replicate]) (by show 0 ≤ 1000; decide) live_lo live_hi).mono ?_
        intro e w5 hp
        rw [(write_live _ [] 0 (List.replicate 32 0) HU5.out).1, (write_live _ [] 0 (List.replicate 32 0) HU5.out).2] at hp
        obtain ⟨rfl, lv5, hd5⟩ := HD1c.out.post hp
        have HD5 := Lib.hid hd5
        clear hp hd5
        go_wp2_with fail
        refine (wakes5_calls w5).mono ?_
        rintro e w6 ⟨rfl, hb⟩
        have E6 : Hid (Below w.heap.size w w6) := HD5.out.bel.trans (hb.mono HD5.out.bel.size)
        clear hb
        go_wp2
        go_ret
        exact ⟨rfl, E6.out⟩

end Go.Proofs.Ytnpcehlbboeadaa
