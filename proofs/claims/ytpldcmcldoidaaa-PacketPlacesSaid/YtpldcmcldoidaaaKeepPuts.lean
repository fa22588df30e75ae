
/- The walk of keep.Puts. -/
import Derived.Test.YtpldcmcldoidaaaPutEq
import Derived.Test.YtpldcmcldoidaaaBlk
namespace Go.Proofs.Ytpldcmcldoidaaa
open Go.RowKit
set_option linter.unusedVariables false
set_option linter.unusedSimpArgs false

theorem wp_ldr2 {P : Program} {o : Oper} {a : Act} {w : World} {K : Act → World → Prop} {Q : Exit → Act → World → Prop} (ty : TypeId) (x : Operand) (ho : o.op = .load ty x) (ad : Addr) (n : Nat) (vs : List Value) (hx : a.eval x = .pointer (some ad)) (hr : Rd w (some ad) vs)
    (hagg : (match P.underlying ty with | some (.struct _) | some (.array _ _) => true | _ => false) = true) (hsz : (P.info? ty).map (·.size) = some n) (hn : vs.length = n)
    (h : K (a.put o.dst (.agg vs.toArray)) w) : o.wp P a w K Q := by
  subst hn
  unfold Oper.wp execOp
  simp only [ho, hx, Instr.loadAt, Instr.sureAddr, Sem.run_bind, Sem.run_pure, Result.andThen_ok, run_loadVar_rd2 w ty ad vs hr hagg hsz]
  exact h
theorem Chg.belowN {w w' : World} (h : Chg NoS w w') : Below w.heap.size w w' := h.below (Nat.le_refl _) (fun _ _ => id)
def KPRel (w : World) (ps qs : List PutV) (v : Value) (wr : World) : Prop := ∃ k : Nat, k ≤ ps.length ∧ v = .int .i64 k ∧ ps.take k = qs.take k ∧ Below w.heap.size w wr
set_option maxRecDepth 100000 in
set_option maxHeartbeats 4000000 in
theorem keepPuts_calls (ps qs : List PutV) (A B : Option Addr) (n m c d : Nat) (w : World) (hl : ps.length = n) (hm : qs.length = m) (hnn : n ≤ 9223372036854775807) (hr : Rd w A (ps.flatMap putC)) (hr2 : Rd w B (qs.flatMap putC)) (ho : PutsOk ps) (ho2 : PutsOk qs) :
    Calls Try.prog 28 #[.slice A n c, .slice B m d] w fun e w' => e = .returned (.bool (decide (ps = qs))) ∧ Below w.heap.size w w' := by
  subst hl hm
  by_cases hlen : ps.length = qs.length
  case neg =>
    have HNE : Hid (decide (ps = qs) = false) := decide_eq_false (fun h => hlen (by rw [h]))
    have hne : ¬ ((ps.length : Int) = (qs.length : Int)) := by omega
    clear hlen hr hr2 ho ho2
    go_enter Try.func28, Try.ntmps28
    go_wp2_with fail
    (try simp only [Exit.inBlock, Exit.then])
    go_ret
    exact ⟨by rw [HNE.out]; rfl, Below.refl _ _⟩
  have HR := Lib.hid hr
  have HR2 := Lib.hid hr2
  have HO := Lib.hid ho
  have HO2 := Lib.hid ho2
  have HLEN := Lib.hid hlen
  clear hr hr2 ho ho2
  rw [← hlen]
  clear hlen
  go_enter Try.func28, Try.ntmps28
  go_wp2_with fail
  go_loopw [5] (fun v5 wr => KPRel w ps qs v5 wr) (fun v5 _ => ps.length - (intOf v5).toNat)
  case atStart => exact ⟨0, Nat.zero_le _, rfl, rfl, Below.refl _ _⟩
  case round =>
    obtain ⟨k, hk, rfl, ht, hb⟩ := hrel
    have HT0 := Lib.hid ht
    have EB := Lib.hid hb
    clear ht hb
    by_cases hlt : k < ps.length
    · have hki : (k : Int) < (ps.length : Int) := by omega
      have hlt2 : k < qs.length := by have := HLEN.out; omega
      obtain ⟨ad, rfl⟩ := puts_some HR.out hlt
      obtain ⟨ad2, rfl⟩ := puts_some HR2.out hlt2
      have HP := Lib.hid (put_rd (HR.out.below EB.out) HO.out hlt)
      have HQ := Lib.hid (put_rd (HR2.out.below EB.out) HO2.out hlt2)
      have HPD := Lib.hid (HO.out _ (List.getElem_mem hlt)).1
      have HQD := Lib.hid (HO2.out _ (List.getElem_mem hlt2)).1
      obtain ⟨p, hp⟩ : ∃ p, ps[k] = p := ⟨_, rfl⟩
      obtain ⟨q, hq⟩ : ∃ q, qs[k] = q := ⟨_, rfl⟩
      have HPE := Lib.hid hp
      have HQE := Lib.hid hq
      rw [hp] at HP HPD
      rw [hq] at HQ HQD
      have HPL := Lib.hid (putC_len HPD.out)
      have HQL := Lib.hid (putC_len HQD.out)
      clear hp hq
      go_wp2_with fail
      apply wp_region_rel 9 (Chg NoS) [(Veq _), (Veq _), (Veq _), (Veq _), (Veq _), (Veq _), (Veq _), (Veq _), (Veq _)] [[], [], [0, 1], [2], [], [], [4, 5], [6], [3, 7]] [17, 18, 19, 20, 21, 22, 23, 24, 25] (by kernel_rfl) (by kernel_rfl) rfl rfl rfl Chg.refl (fun _ _ _ => Chg.trans) ⟨Veq.lasts, Veq.lasts, Veq.lasts, Veq.lasts, Veq.lasts, Veq.lasts, Veq.lasts, Veq.lasts, Veq.lasts, trivial⟩ ?aops ?afin
      case aops =>
        refine ⟨?ao0, ?ao1, ?ao2, ?ao3, ?ao4, ?ao5, ?ao6, ?ao7, ?ao8, trivial⟩
        case ao0 =>
          intro a wx hE hin
          have i0 : a.eval (.tmp 0) = .slice (some ad) ps.length c := hin 0 rfl
          clear hin
          have hcst : ∀ v, a.eval (.const v) = v := fun _ => rfl
          have hfnc : ∀ f, a.eval (.func f) = .func (.func f) #[] #[] := fun _ => rfl
          refine want_none rfl ?_
          unfold Oper.wp
          generalize a.eval = ρ at *
          go_simp
          try go_bits
          first | exact rel_val (Chg.refl _) | (go_simp; exact rel_val (Chg.refl _))
        case ao1 =>
          intro a wx hE hin
          have i5 : a.eval (.tmp 5) = .int .i64 k := hin 5 rfl
          clear hin
          have hcst : ∀ v, a.eval (.const v) = v := fun _ => rfl
          have hfnc : ∀ f, a.eval (.func f) = .func (.func f) #[] #[] := fun _ => rfl
          refine want_none rfl ?_
          unfold Oper.wp
          generalize a.eval = ρ at *
          go_simp
          try go_bits
          first | exact rel_val (Chg.refl _) | (go_simp; exact rel_val (Chg.refl _))
        case ao2 =>
          rintro a wx hE hin (h0 : a.eval (.tmp 17) = _) (h1 : a.eval (.tmp 18) = _)
          clear hin
          have hcst : ∀ v, a.eval (.const v) = v := fun _ => rfl
          have hfnc : ∀ f, a.eval (.func f) = .func (.func f) #[] #[] := fun _ => rfl
          refine want_none rfl ?_
          unfold Oper.wp
          generalize a.eval = ρ at *
          go_simp
          try go_bits
          first | exact rel_val (Chg.refl _) | (go_simp; exact rel_val (Chg.refl _))
        case ao3 =>
          rintro a wx hE hin (h2 : a.eval (.tmp 19) = _)
          clear hin
          have hcst : ∀ v, a.eval (.const v) = v := fun _ => rfl
          have hfnc : ∀ f, a.eval (.func f) = .func (.func f) #[] #[] := fun _ => rfl
          refine want_none rfl ?_
          exact wp_ldr2 48 _ rfl (ad.add (k * 33)) 33 (putC p) h2 (HP.out.below (Chg.belowN hE.undrew)) (by kernel_rfl) (by kernel_rfl) HPL.out (rel_val (Chg.refl _))
        case ao4 =>
          intro a wx hE hin
          have i1 : a.eval (.tmp 1) = .slice (some ad2) ps.length d := hin 1 rfl
          clear hin
          have hcst : ∀ v, a.eval (.const v) = v := fun _ => rfl
          have hfnc : ∀ f, a.eval (.func f) = .func (.func f) #[] #[] := fun _ => rfl
          refine want_none rfl ?_
          unfold Oper.wp
          generalize a.eval = ρ at *
          go_simp
          try go_bits
          first | exact rel_val (Chg.refl _) | (go_simp; exact rel_val (Chg.refl _))
        case ao5 =>
          intro a wx hE hin
          have i5 : a.eval (.tmp 5) = .int .i64 k := hin 5 rfl
          clear hin
          have hcst : ∀ v, a.eval (.const v) = v := fun _ => rfl
          have hfnc : ∀ f, a.eval (.func f) = .func (.func f) #[] #[] := fun _ => rfl
          refine want_none rfl ?_
          unfold Oper.wp
          generalize a.eval = ρ at *
          go_simp
          try go_bits
          first | exact rel_val (Chg.refl _) | (go_simp; exact rel_val (Chg.refl _))
        case ao6 =>
          rintro a wx hE hin (h4 : a.eval (.tmp 21) = _) (h5 : a.eval (.tmp 22) = _)
          clear hin
          have hcst : ∀ v, a.eval (.const v) = v := fun _ => rfl
          have hfnc : ∀ f, a.eval (.func f) = .func (.func f) #[] #[] := fun _ => rfl
          refine want_none rfl ?_
          unfold Oper.wp
          generalize a.eval = ρ at *
          go_simp
          try go_bits
          first | exact rel_val (Chg.refl _) | (go_simp; exact rel_val (Chg.refl _))
        case ao7 =>
          rintro a wx hE hin (h6 : a.eval (.tmp 23) = _)
          clear hin
          have hcst : ∀ v, a.eval (.const v) = v := fun _ => rfl
          have hfnc : ∀ f, a.eval (.func f) = .func (.func f) #[] #[] := fun _ => rfl
          refine want_none rfl ?_
          exact wp_ldr2 48 _ rfl (ad2.add (k * 33)) 33 (putC q) h6 (HQ.out.below (Chg.belowN hE.undrew)) (by kernel_rfl) (by kernel_rfl) HQL.out (rel_val (Chg.refl _))
        case ao8 =>
          rintro a wx hE hin (h3 : a.eval (.tmp 20) = _) (h7 : a.eval (.tmp 24) = _)
          clear hin
          have hcst : ∀ v, a.eval (.const v) = v := fun _ => rfl
          have hfnc : ∀ f, a.eval (.func f) = .func (.func f) #[] #[] := fun _ => rfl
          refine want_none rfl ?_
          exact wp_eq_put true _ _ _ rfl p q HPD.out HQD.out (by rw [h3]) (by rw [h7]) (rel_val (Chg.refl _))
      case afin =>
        intro wx hE
        rintro _ rfl _ rfl _ rfl _ rfl _ rfl _ rfl _ rfl _ rfl _ rfl
        simp only [FinOk, List.take_succ_cons, List.take_zero, List.take_nil, List.drop_succ_cons, List.drop_zero, List.drop_nil, Act.put, List.setIfInBounds_toArray, List.set_cons_succ, List.set_cons_zero]
        have EX : Hid (Below w.heap.size w wx) := EB.out.trans (hE.undrew.below EB.out.size (fun _ _ => id))
        clear hE
        by_cases hpq : p = q
        · have HT : Hid (ps.take (k + 1) = qs.take (k + 1)) := by
            show _ = _
            rw [List.take_succ_eq_append_getElem hlt, List.take_succ_eq_append_getElem hlt2, HT0.out, HPE.out, HQE.out, hpq]
          rw [show (true ^^ decide (p = q)) = false by rw [decide_eq_true hpq]; rfl]
          clear hpq
          go_wp2_with fail
          go_roundw
          case rel => exact ⟨k + 1, by omega, by go_num, HT.out, EX.out⟩
          case measure => simp [intOf]; omega
        · have HNE : Hid (decide (ps = qs) = false) := decide_eq_false (fun h => hpq (by
            have h1 := HPE.out
            have h2 := HQE.out
            subst h
            rw [← h1, ← h2]))
          rw [show (true ^^ decide (p = q)) = true by rw [decide_eq_false hpq]; rfl]
          clear hpq
          go_wp2_with fail
          (try simp only [Exit.inBlock, Exit.then])
          go_ret
          exact ⟨by rw [HNE.out]; rfl, EX.out⟩
    · have hke : k = ps.length := by omega
      subst hke
      have hki : ¬ (((ps.length : Nat) : Int) < (ps.length : Int)) := by omega
      have HEQ : Hid (decide (ps = qs) = true) := decide_eq_true (by
        have h := HT0.out
        rwa [List.take_length, List.take_of_length_le (by rw [HLEN.out]; exact Nat.le_refl _)] at h)
      go_wp2_with fail
      (try simp only [Exit.inBlock, Exit.then])
      go_ret
      exact ⟨by rw [HEQ.out]; rfl, EB.out⟩
end Go.Proofs.Ytpldcmcldoidaaa
