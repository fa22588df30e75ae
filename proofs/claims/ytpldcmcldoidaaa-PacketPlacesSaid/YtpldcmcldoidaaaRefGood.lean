
/- The walks of wal's small functions and of the reference's Good. -/
import Derived.Test.YtpldcmcldoidaaaWalGood
namespace Go.Proofs.Ytpldcmcldoidaaa
open Go.RowKit
set_option linter.unusedVariables false
set_option linter.unusedSimpArgs false

structure RG (ps : List PutV) (k : Nat) : Prop where
  rg : ∀ p ∈ ps.take k, 0 ≤ p.at_ ∧ p.at_ < 12
  nd : ((ps.take k).map (·.at_)).Nodup
theorem RG.more {ps : List PutV} {k : Nat} (h : RG ps k) (hk : k < ps.length) (hr : 0 ≤ ps[k].at_ ∧ ps[k].at_ < 12) (hn : ¬ ps[k].at_ ∈ (ps.take k).map (·.at_)) : RG ps (k + 1) := by
  refine ⟨fun p hp => ?_, ?_⟩
  · rw [List.take_succ_eq_append_getElem hk] at hp
    rcases List.mem_append.1 hp with hp | hp
    · exact h.rg p hp
    · obtain rfl := List.mem_singleton.1 hp
      exact hr
  · rw [List.take_succ_eq_append_getElem hk, List.map_append, List.nodup_append]
    refine ⟨h.nd, by simp, fun a ha b hb2 => ?_⟩
    simp at hb2
    subst hb2
    exact fun he => hn (by rw [← he]; exact ha)
def RGRel (w : World) (ps : List PutV) (v : Value) (wr : World) : Prop := ∃ k : Nat, k ≤ ps.length ∧ v = .int .i64 k ∧ RG ps k ∧ Below w.heap.size w wr
def RGRel2 (w : World) (ps : List PutV) (z : Int) (k : Nat) (v : Value) (wr : World) : Prop := ∃ j : Nat, j ≤ k ∧ v = .int .i64 j ∧ (∀ i (hi : i < j) (hl : i < ps.length), ps[i].at_ ≠ z) ∧ Below w.heap.size w wr
set_option maxRecDepth 100000 in
set_option maxHeartbeats 4000000 in
theorem refGood_calls (ps : List PutV) (A : Option Addr) (n c : Nat) (w : World) (hl : ps.length = n) (hm : n ≤ 9223372036854775807) (hr : Rd w A (ps.flatMap putC)) (ho : PutsOk ps) :
    Calls Try.prog 33 #[.slice A n c] w fun e w' => e = .returned (.bool (goodB ps)) ∧ Below w.heap.size w w' := by
  subst hl
  have HR := Lib.hid hr
  have HO := Lib.hid ho
  have H0 : Hid (RGRel w ps (.int .i64 0) w) := ⟨0, Nat.zero_le _, rfl, ⟨fun p hp => by simp at hp, by simp⟩, Below.refl _ _⟩
  clear hr ho
  go_enter Try.func33, Try.ntmps33
  go_wp2_with fail
  go_loopw [3] (fun v wr => RGRel w ps v wr) (fun v _ => ps.length - (intOf v).toNat)
  case atStart => exact H0.out
  case round =>
    obtain ⟨k, hk, rfl, hg, hb⟩ := hrel
    have HG := Lib.hid hg
    have HB := Lib.hid hb
    clear hg hb H0
    by_cases hlt : k < ps.length
    · have hki : (k : Int) < (ps.length : Int) := by omega
      have HRR := Lib.hid (HR.out.below HB.out)
      obtain ⟨ad, hA⟩ := puts_some HRR.out hlt
      subst hA
      have c0 := put_at HRR.out HO.out hlt
      have HRG := Lib.hid (@goodB_range ps k hlt)
      obtain ⟨p, hp⟩ : ∃ p, ps[k] = p := ⟨_, rfl⟩
      have HP := Lib.hid hp
      rw [hp] at c0 HRG
      clear hp
      by_cases h0 : p.at_ < 0
      · have HN : Hid (goodB ps = false) := HRG.out (fun hh => by omega)
        go_wp2
        go_ret
        exact ⟨by rw [HN.out]; rfl, HB.out⟩
      · by_cases h12 : p.at_ < 12
        · have h12n : ¬ ((12 : Int) ≤ p.at_) := by omega
          have HI0 : Hid (RGRel2 w ps p.at_ k (.int .i64 0) wr) := ⟨0, Nat.zero_le _, rfl, fun j hj _ => by omega, HB.out⟩
          go_wp2_with fail
          clear c0
          go_loopw [4] (fun v w2r => RGRel2 w ps p.at_ k v w2r) (fun v _ => k - (intOf v).toNat)
          case atStart => exact HI0.out
          case round =>
            obtain ⟨j, hj, rfl, hne, hb2⟩ := hrel
            have HNE := Lib.hid hne
            have HB2 := Lib.hid hb2
            clear hne hb2 HI0
            have HR2 := Lib.hid (HR.out.below HB2.out)
            by_cases hjk : j < k
            · have hji : (j : Int) < (k : Int) := by omega
              have hjl : j < ps.length := by omega
              obtain ⟨r, hr⟩ : ∃ r, ps[j] = r := ⟨_, rfl⟩
              have HQ := Lib.hid hr
              clear hr
              by_cases heq : r.at_ = p.at_
              · have hbe : (r.at_ == p.at_) = true := by rw [heq]; exact beq_self_eq_true _
                have HN : Hid (goodB ps = false) := goodB_dup hlt (by
                  rw [HP.out, ← heq, ← HQ.out]
                  exact List.mem_map.2 ⟨ps[j], List.mem_take_iff_getElem.2 ⟨j, by omega, rfl⟩, rfl⟩)
                clear heq
                go_wp2_with fail
                apply wp_region_rel 11 (Chg NoS) [(Veq _), (Veq _), (Veq _), (Veq _), (Veq _), (Veq _), (Veq _), (Veq _), (Veq _), (Veq _), (Veq _)] [[], [], [0, 1], [2], [3], [], [], [5, 6], [7], [8], [4, 9]] [30, 31, 32, 33, 34, 35, 36, 37, 38, 39, 40] (by kernel_rfl) (by kernel_rfl) rfl rfl rfl Chg.refl (fun _ _ _ => Chg.trans) ⟨Veq.lasts, Veq.lasts, Veq.lasts, Veq.lasts, Veq.lasts, Veq.lasts, Veq.lasts, Veq.lasts, Veq.lasts, Veq.lasts, Veq.lasts, trivial⟩ ?aops ?afin
                case aops =>
                  refine ⟨?ao0, ?ao1, ?ao2, ?ao3, ?ao4, ?ao5, ?ao6, ?ao7, ?ao8, ?ao9, ?ao10, trivial⟩
                  case ao0 =>
                    intro a wx hE hin
                    have i0 : a.eval (.tmp 0) = .slice (some ad) ps.length c := hin 0 rfl
                    clear hin
                    have hcst : ∀ v, a.eval (.const v) = v := fun _ => rfl
                    have hfnc : ∀ f, a.eval (.func f) = .func (.func f) #[] #[] := fun _ => rfl
                    refine want_none rfl ?_
                    unfold Oper.wp
                    generalize a.eval = ρ at *
                    go_simp
                    try go_bits
                    first | exact rel_val (Chg.refl _) | (go_simp; exact rel_val (Chg.refl _))
                  case ao1 =>
                    intro a wx hE hin
                    have i4 : a.eval (.tmp 4) = .int .i64 j := hin 4 rfl
                    clear hin
                    have hcst : ∀ v, a.eval (.const v) = v := fun _ => rfl
                    have hfnc : ∀ f, a.eval (.func f) = .func (.func f) #[] #[] := fun _ => rfl
                    refine want_none rfl ?_
                    unfold Oper.wp
                    generalize a.eval = ρ at *
                    go_simp
                    try go_bits
                    first | exact rel_val (Chg.refl _) | (go_simp; exact rel_val (Chg.refl _))
                  case ao2 =>
                    rintro a wx hE hin (h0 : a.eval (.tmp 30) = _) (h1 : a.eval (.tmp 31) = _)
                    clear hin
                    have hcst : ∀ v, a.eval (.const v) = v := fun _ => rfl
                    have hfnc : ∀ f, a.eval (.func f) = .func (.func f) #[] #[] := fun _ => rfl
                    refine want_none rfl ?_
                    unfold Oper.wp
                    generalize a.eval = ρ at *
                    go_simp
                    try go_bits
                    first | exact rel_val (Chg.refl _) | (go_simp; exact rel_val (Chg.refl _))
                  case ao3 =>
                    rintro a wx hE hin (h2 : a.eval (.tmp 32) = _)
                    clear hin
                    have hcst : ∀ v, a.eval (.const v) = v := fun _ => rfl
                    have hfnc : ∀ f, a.eval (.func f) = .func (.func f) #[] #[] := fun _ => rfl
                    refine want_none rfl ?_
                    unfold Oper.wp
                    generalize a.eval = ρ at *
                    go_simp
                    try go_bits
                    first | exact rel_val (Chg.refl _) | (go_simp; exact rel_val (Chg.refl _))
                  case ao4 =>
                    rintro a wx hE hin (h3 : a.eval (.tmp 33) = _)
                    clear hin
                    have hcst : ∀ v, a.eval (.const v) = v := fun _ => rfl
                    have hfnc : ∀ f, a.eval (.func f) = .func (.func f) #[] #[] := fun _ => rfl
                    refine want_none rfl ?_
                    unfold Oper.wp
                    generalize a.eval = ρ at *
                    have c := put_at (HR2.out.drew.chg hE) HO.out hjl
                    rw [HQ.out] at c
                    go_simp
                    try go_bits
                    first | exact rel_val (Chg.refl _) | (go_simp; exact rel_val (Chg.refl _))
                  case ao5 =>
                    intro a wx hE hin
                    have i0 : a.eval (.tmp 0) = .slice (some ad) ps.length c := hin 0 rfl
                    clear hin
                    have hcst : ∀ v, a.eval (.const v) = v := fun _ => rfl
                    have hfnc : ∀ f, a.eval (.func f) = .func (.func f) #[] #[] := fun _ => rfl
                    refine want_none rfl ?_
                    unfold Oper.wp
                    generalize a.eval = ρ at *
                    go_simp
                    try go_bits
                    first | exact rel_val (Chg.refl _) | (go_simp; exact rel_val (Chg.refl _))
                  case ao6 =>
                    intro a wx hE hin
                    have i3 : a.eval (.tmp 3) = .int .i64 k := hin 3 rfl
                    clear hin
                    have hcst : ∀ v, a.eval (.const v) = v := fun _ => rfl
                    have hfnc : ∀ f, a.eval (.func f) = .func (.func f) #[] #[] := fun _ => rfl
                    refine want_none rfl ?_
                    unfold Oper.wp
                    generalize a.eval = ρ at *
                    go_simp
                    try go_bits
                    first | exact rel_val (Chg.refl _) | (go_simp; exact rel_val (Chg.refl _))
                  case ao7 =>
                    rintro a wx hE hin (h5 : a.eval (.tmp 35) = _) (h6 : a.eval (.tmp 36) = _)
                    clear hin
                    have hcst : ∀ v, a.eval (.const v) = v := fun _ => rfl
                    have hfnc : ∀ f, a.eval (.func f) = .func (.func f) #[] #[] := fun _ => rfl
                    refine want_none rfl ?_
                    unfold Oper.wp
                    generalize a.eval = ρ at *
                    go_simp
                    try go_bits
                    first | exact rel_val (Chg.refl _) | (go_simp; exact rel_val (Chg.refl _))
                  case ao8 =>
                    rintro a wx hE hin (h7 : a.eval (.tmp 37) = _)
                    clear hin
                    have hcst : ∀ v, a.eval (.const v) = v := fun _ => rfl
                    have hfnc : ∀ f, a.eval (.func f) = .func (.func f) #[] #[] := fun _ => rfl
                    refine want_none rfl ?_
                    unfold Oper.wp
                    generalize a.eval = ρ at *
                    go_simp
                    try go_bits
                    first | exact rel_val (Chg.refl _) | (go_simp; exact rel_val (Chg.refl _))
                  case ao9 =>
                    rintro a wx hE hin (h8 : a.eval (.tmp 38) = _)
                    clear hin
                    have hcst : ∀ v, a.eval (.const v) = v := fun _ => rfl
                    have hfnc : ∀ f, a.eval (.func f) = .func (.func f) #[] #[] := fun _ => rfl
                    refine want_none rfl ?_
                    unfold Oper.wp
                    generalize a.eval = ρ at *
                    have c := put_at (HR2.out.drew.chg hE) HO.out hlt
                    rw [HP.out] at c
                    go_simp
                    try go_bits
                    first | exact rel_val (Chg.refl _) | (go_simp; exact rel_val (Chg.refl _))
                  case ao10 =>
                    rintro a wx hE hin (h4 : a.eval (.tmp 34) = _) (h9 : a.eval (.tmp 39) = _)
                    clear hin
                    have hcst : ∀ v, a.eval (.const v) = v := fun _ => rfl
                    have hfnc : ∀ f, a.eval (.func f) = .func (.func f) #[] #[] := fun _ => rfl
                    refine want_none rfl ?_
                    unfold Oper.wp
                    generalize a.eval = ρ at *
                    go_simp
                    try go_bits
                    first | exact rel_val (Chg.refl _) | (go_simp; exact rel_val (Chg.refl _))
                case afin =>
                  intro wx hE
                  rintro _ rfl _ rfl _ rfl _ rfl _ rfl _ rfl _ rfl _ rfl _ rfl _ rfl _ rfl
                  simp only [FinOk, List.take_succ_cons, List.take_zero, List.take_nil, List.drop_succ_cons, List.drop_zero, List.drop_nil, Act.put, List.setIfInBounds_toArray, List.set_cons_succ, List.set_cons_zero]
                  have HB3 : Hid (Below w.heap.size w wx) := HB2.out.trans ((hE.undrew).below (B := w.heap.size) HB2.out.size (fun _ _ => id))
                  clear hE
                  go_wp2
                  go_ret
                  exact ⟨by rw [HN.out]; rfl, HB3.out⟩
              · have hbe : (r.at_ == p.at_) = false := by rw [beq_eq_false_iff_ne]; exact heq
                have HNQ := Lib.hid heq
                clear heq
                go_wp2_with fail
                apply wp_region_rel 11 (Chg NoS) [(Veq _), (Veq _), (Veq _), (Veq _), (Veq _), (Veq _), (Veq _), (Veq _), (Veq _), (Veq _), (Veq _)] [[], [], [0, 1], [2], [3], [], [], [5, 6], [7], [8], [4, 9]] [30, 31, 32, 33, 34, 35, 36, 37, 38, 39, 40] (by kernel_rfl) (by kernel_rfl) rfl rfl rfl Chg.refl (fun _ _ _ => Chg.trans) ⟨Veq.lasts, Veq.lasts, Veq.lasts, Veq.lasts, Veq.lasts, Veq.lasts, Veq.lasts, Veq.lasts, Veq.lasts, Veq.lasts, Veq.lasts, trivial⟩ ?aops ?afin
                case aops =>
                  refine ⟨?ao0, ?ao1, ?ao2, ?ao3, ?ao4, ?ao5, ?ao6, ?ao7, ?ao8, ?ao9, ?ao10, trivial⟩
                  case ao0 =>
                    intro a wx hE hin
                    have i0 : a.eval (.tmp 0) = .slice (some ad) ps.length c := hin 0 rfl
                    clear hin
                    have hcst : ∀ v, a.eval (.const v) = v := fun _ => rfl
                    have hfnc : ∀ f, a.eval (.func f) = .func (.func f) #[] #[] := fun _ => rfl
                    refine want_none rfl ?_
                    unfold Oper.wp
                    generalize a.eval = ρ at *
                    go_simp
                    try go_bits
                    first | exact rel_val (Chg.refl _) | (go_simp; exact rel_val (Chg.refl _))
                  case ao1 =>
                    intro a wx hE hin
                    have i4 : a.eval (.tmp 4) = .int .i64 j := hin 4 rfl
                    clear hin
                    have hcst : ∀ v, a.eval (.const v) = v := fun _ => rfl
                    have hfnc : ∀ f, a.eval (.func f) = .func (.func f) #[] #[] := fun _ => rfl
                    refine want_none rfl ?_
                    unfold Oper.wp
                    generalize a.eval = ρ at *
                    go_simp
                    try go_bits
                    first | exact rel_val (Chg.refl _) | (go_simp; exact rel_val (Chg.refl _))
                  case ao2 =>
                    rintro a wx hE hin (h0 : a.eval (.tmp 30) = _) (h1 : a.eval (.tmp 31) = _)
                    clear hin
                    have hcst : ∀ v, a.eval (.const v) = v := fun _ => rfl
                    have hfnc : ∀ f, a.eval (.func f) = .func (.func f) #[] #[] := fun _ => rfl
                    refine want_none rfl ?_
                    unfold Oper.wp
                    generalize a.eval = ρ at *
                    go_simp
                    try go_bits
                    first | exact rel_val (Chg.refl _) | (go_simp; exact rel_val (Chg.refl _))
                  case ao3 =>
                    rintro a wx hE hin (h2 : a.eval (.tmp 32) = _)
                    clear hin
                    have hcst : ∀ v, a.eval (.const v) = v := fun _ => rfl
                    have hfnc : ∀ f, a.eval (.func f) = .func (.func f) #[] #[] := fun _ => rfl
                    refine want_none rfl ?_
                    unfold Oper.wp
                    generalize a.eval = ρ at *
                    go_simp
                    try go_bits
                    first | exact rel_val (Chg.refl _) | (go_simp; exact rel_val (Chg.refl _))
                  case ao4 =>
                    rintro a wx hE hin (h3 : a.eval (.tmp 33) = _)
                    clear hin
                    have hcst : ∀ v, a.eval (.const v) = v := fun _ => rfl
                    have hfnc : ∀ f, a.eval (.func f) = .func (.func f) #[] #[] := fun _ => rfl
                    refine want_none rfl ?_
                    unfold Oper.wp
                    generalize a.eval = ρ at *
                    have c := put_at (HR2.out.drew.chg hE) HO.out hjl
                    rw [HQ.out] at c
                    go_simp
                    try go_bits
                    first | exact rel_val (Chg.refl _) | (go_simp; exact rel_val (Chg.refl _))
                  case ao5 =>
                    intro a wx hE hin
                    have i0 : a.eval (.tmp 0) = .slice (some ad) ps.length c := hin 0 rfl
                    clear hin
                    have hcst : ∀ v, a.eval (.const v) = v := fun _ => rfl
                    have hfnc : ∀ f, a.eval (.func f) = .func (.func f) #[] #[] := fun _ => rfl
                    refine want_none rfl ?_
                    unfold Oper.wp
                    generalize a.eval = ρ at *
                    go_simp
                    try go_bits
                    first | exact rel_val (Chg.refl _) | (go_simp; exact rel_val (Chg.refl _))
                  case ao6 =>
                    intro a wx hE hin
                    have i3 : a.eval (.tmp 3) = .int .i64 k := hin 3 rfl
                    clear hin
                    have hcst : ∀ v, a.eval (.const v) = v := fun _ => rfl
                    have hfnc : ∀ f, a.eval (.func f) = .func (.func f) #[] #[] := fun _ => rfl
                    refine want_none rfl ?_
                    unfold Oper.wp
                    generalize a.eval = ρ at *
                    go_simp
                    try go_bits
                    first | exact rel_val (Chg.refl _) | (go_simp; exact rel_val (Chg.refl _))
                  case ao7 =>
                    rintro a wx hE hin (h5 : a.eval (.tmp 35) = _) (h6 : a.eval (.tmp 36) = _)
                    clear hin
                    have hcst : ∀ v, a.eval (.const v) = v := fun _ => rfl
                    have hfnc : ∀ f, a.eval (.func f) = .func (.func f) #[] #[] := fun _ => rfl
                    refine want_none rfl ?_
                    unfold Oper.wp
                    generalize a.eval = ρ at *
                    go_simp
                    try go_bits
                    first | exact rel_val (Chg.refl _) | (go_simp; exact rel_val (Chg.refl _))
                  case ao8 =>
                    rintro a wx hE hin (h7 : a.eval (.tmp 37) = _)
                    clear hin
                    have hcst : ∀ v, a.eval (.const v) = v := fun _ => rfl
                    have hfnc : ∀ f, a.eval (.func f) = .func (.func f) #[] #[] := fun _ => rfl
                    refine want_none rfl ?_
                    unfold Oper.wp
                    generalize a.eval = ρ at *
                    go_simp
                    try go_bits
                    first | exact rel_val (Chg.refl _) | (go_simp; exact rel_val (Chg.refl _))
                  case ao9 =>
                    rintro a wx hE hin (h8 : a.eval (.tmp 38) = _)
                    clear hin
                    have hcst : ∀ v, a.eval (.const v) = v := fun _ => rfl
                    have hfnc : ∀ f, a.eval (.func f) = .func (.func f) #[] #[] := fun _ => rfl
                    refine want_none rfl ?_
                    unfold Oper.wp
                    generalize a.eval = ρ at *
                    have c := put_at (HR2.out.drew.chg hE) HO.out hlt
                    rw [HP.out] at c
                    go_simp
                    try go_bits
                    first | exact rel_val (Chg.refl _) | (go_simp; exact rel_val (Chg.refl _))
                  case ao10 =>
                    rintro a wx hE hin (h4 : a.eval (.tmp 34) = _) (h9 : a.eval (.tmp 39) = _)
                    clear hin
                    have hcst : ∀ v, a.eval (.const v) = v := fun _ => rfl
                    have hfnc : ∀ f, a.eval (.func f) = .func (.func f) #[] #[] := fun _ => rfl
                    refine want_none rfl ?_
                    unfold Oper.wp
                    generalize a.eval = ρ at *
                    go_simp
                    try go_bits
                    first | exact rel_val (Chg.refl _) | (go_simp; exact rel_val (Chg.refl _))
                case afin =>
                  intro wx hE
                  rintro _ rfl _ rfl _ rfl _ rfl _ rfl _ rfl _ rfl _ rfl _ rfl _ rfl _ rfl
                  simp only [FinOk, List.take_succ_cons, List.take_zero, List.take_nil, List.drop_succ_cons, List.drop_zero, List.drop_nil, Act.put, List.setIfInBounds_toArray, List.set_cons_succ, List.set_cons_zero]
                  have HB3 : Hid (Below w.heap.size w wx) := HB2.out.trans ((hE.undrew).below (B := w.heap.size) HB2.out.size (fun _ _ => id))
                  clear hE
                  go_wp2_with fail
                  go_roundw
                  case rel => exact ⟨j + 1, by omega, by go_num, fun i hi hl => by
                    rcases Nat.lt_or_ge i j with h | h
                    · exact HNE.out i h hl
                    · obtain rfl : i = j := by omega
                      rw [HQ.out]
                      exact HNQ.out, HB3.out⟩
                  case measure => simp [intOf]; omega
            · have hje : j = k := by omega
              have hji : ¬ ((j : Int) < (k : Int)) := by omega
              have HG2 := Lib.hid (HG.out.more hlt (by rw [HP.out]; exact ⟨by omega, h12⟩) (by
                rw [HP.out]
                intro hm
                obtain ⟨y, hy, he⟩ := List.mem_map.1 hm
                obtain ⟨i, hi, rfl⟩ := List.mem_take_iff_getElem.1 hy
                exact HNE.out i (by omega) (by omega) he))
              go_wp2_with fail
              go_roundw
              case rel => exact ⟨k + 1, by omega, by go_num, HG2.out, HB2.out⟩
              case measure => simp [intOf]; omega
        · have h12n : (12 : Int) ≤ p.at_ := by omega
          have HN : Hid (goodB ps = false) := HRG.out (fun hh => by omega)
          go_wp2
          go_ret
          exact ⟨by rw [HN.out]; rfl, HB.out⟩
    · have hke : k = ps.length := by omega
      have hki : ¬ ((k : Int) < (ps.length : Int)) := by omega
      have HN : Hid (goodB ps = decide ((1 : Int) ≤ (ps.length : Int) ∧ (ps.length : Int) ≤ 5)) := by
        have h1 := HG.out.rg
        have h2 := HG.out.nd
        rw [hke, List.take_length] at h1 h2
        show decide _ = decide _
        rw [decide_eq_decide]
        exact ⟨fun h => by omega, fun h => ⟨by omega, by omega, h1, h2⟩⟩
      by_cases hl1 : (1 : Int) ≤ (ps.length : Int)
      · go_wp2
        go_ret
        exact ⟨by rw [HN.out]; simp [hl1], HB.out⟩
      · go_wp2
        go_ret
        exact ⟨by rw [HN.out]; simp [hl1]; intro h; omega, HB.out⟩
end Go.Proofs.Ytpldcmcldoidaaa
