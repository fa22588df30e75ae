/- Texts of this seat, merged: PutEq, KeepPuts, WalOpen, WalNil, Wakes8. -/
import Derived.Test.YtchcnkobgdbdkaaLa
import Derived.Test.YtchcnkobgdbdkaaLe
import Derived.Test.YtchcnkobgdbdkaaLd
import Derived.Test.YtchcnkobgdbdkaaLb

/- Puts, held against each other. -/
namespace Go.Proofs.Ytchcnkobgdbdkaa
open Go.RowKit
set_option linter.unusedVariables false
set_option linter.unusedSimpArgs false

/-- Structs are alike as their fields are. -/
theorem run_equalIn_parts {P : Program} {w : World} (d : Nat) (t : TypeId) (fs : Array Field) (ht : P.underlying t = some (.struct fs)) (hst : P.stoodInHeld t = false) (xs ys : List Value) (R : Field → Bool)
    (hf : ∀ f ∈ fs.toList, f.name ≠ "_" ∧ ∃ a b, (part f.type xs.toArray f.offset).run P w = .ok a w ∧ (part f.type ys.toArray f.offset).run P w = .ok b w ∧ (Op.equalIn (d + 2) f.type a b).run P w = .ok (R f) w) :
    (Op.equalIn (d + 3) t (.agg xs.toArray) (.agg ys.toArray)).run P w = .ok (fs.toList.all R) w := by
  have loop : ∀ (L : List Field), (∀ f ∈ L, f ∈ fs.toList) → (forIn L ((none : Option Bool), ()) fun (f : Field) __s =>
        if f.name ≠ "_" then do
          let a ← part f.type xs.toArray f.offset
          let b ← part f.type ys.toArray f.offset
          let r ← Op.equalIn (d + 2) f.type a b
          if (!r) = true then pure (ForInStep.done (some false, ())) else pure (ForInStep.yield (none, ()))
        else pure (ForInStep.yield (none, ()))).run P w =
      .ok (if L.all R = true then (none, ()) else (some false, ())) w := by
    intro L
    induction L with
    | nil => intro _; simp
    | cons f L ih =>
      intro hL
      obtain ⟨hn, a, b, hx, hy, key⟩ := hf f (hL f List.mem_cons_self)
      rw [List.forIn_cons, if_pos hn]
      simp only [Sem.run_bind, hx, hy, key, Result.andThen_ok]
      cases hab : R f with
      | true =>
        simp only [Bool.not_true, Bool.false_eq_true, if_false, Sem.run_pure, Result.andThen_ok]
        rw [ih (fun g hg => hL g (List.mem_cons_of_mem _ hg))]
        simp [hab]
      | false =>
        simp only [Bool.not_false, if_true, Sem.run_pure, Result.andThen_ok]
        simp [hab]
  rw [Op.equalIn.eq_def]
  simp only [Sem.run_bind, run_underlying ht, Result.andThen_ok, run_program, hst, Sem.run_pure]
  rw [if_neg (by decide), ← Array.forIn_toList, Sem.run_bind, loop fs.toList (fun f h => h)]
  cases h : fs.toList.all R <;> simp
theorem run_part_arr {P : Program} {w : World} {t e n : Nat} {x : Value} {l : List UInt8} (ht : P.underlying t = some (.array n e)) (hsz : (P.info? t).map (·.size) = some n) (hl : l.length = n) : (part t (x :: bts l).toArray 1).run P w = .ok (.agg (bts l).toArray) w := by
  obtain ⟨i0, hi, hs⟩ := Option.map_eq_some_iff.1 hsz
  simp [part, isAgg, run_underlying ht, sizeOf, typeInfo, hi, hs, Sem.run_bind, hl]
  rw [List.take_of_length_le (by rw [bts_length, hl]; exact Nat.le_refl _)]
theorem putV_eq {p q : PutV} : (p.at_ = q.at_ ∧ p.data = q.data) ↔ p = q := by
  cases p
  cases q
  simp
instance : DecidableEq PutV := fun p q => decidable_of_iff _ (putV_eq (p := p) (q := q))
/-- Two puts are alike. -/
theorem run_eq_put {w : World} (d : Nat) (p q : PutV) (hp : p.data.length = 32) (hq : q.data.length = 32) : (Op.equalIn (d + 3) 39 (.agg (putC p).toArray) (.agg (putC q).toArray)).run Try.prog w = .ok (decide (p = q)) w := by
  rw [run_equalIn_parts (P := Try.prog) d 39 _ Try.underlying39 (by kernel_rfl) (putC p) (putC q) (fun f => if f.offset = 0 then decide (p.at_ = q.at_) else decide (p.data = q.data)) ?_]
  · congr 1
    rw [Bool.eq_iff_iff, decide_eq_true_iff, ← putV_eq]
    constructor
    · intro h
      simp only [List.all_cons, List.all_nil, Bool.and_true, Bool.and_eq_true] at h
      obtain ⟨h0, h1⟩ := h
      have g0 : decide (p.at_ = q.at_) = true := h0
      have g1 : decide (p.data = q.data) = true := h1
      exact ⟨of_decide_eq_true g0, of_decide_eq_true g1⟩
    · rintro ⟨h0, h1⟩
      simp [h0, h1]
  · intro f hf
    simp only [List.mem_cons, List.not_mem_nil, or_false] at hf
    rcases hf with rfl | rfl
    · refine ⟨by decide, .int .i64 p.at_, .int .i64 q.at_, run_part_int Try.underlying3 _ _ _ rfl, run_part_int Try.underlying3 _ _ _ rfl, ?_⟩
      show (Op.equalIn (d + 2) 3 (.int .i64 p.at_) (.int .i64 q.at_)).run Try.prog w = .ok (decide (p.at_ = q.at_)) w
      simp [Op.equalIn, run_underlying (P := Try.prog) Try.underlying3]
      rfl
    · refine ⟨by decide, .agg (bts p.data).toArray, .agg (bts q.data).toArray, run_part_arr Try.underlying37 (by kernel_rfl) hp, run_part_arr Try.underlying37 (by kernel_rfl) hq, ?_⟩
      exact run_eq_bytes d 37 5 32 Try.underlying37 Try.underlying5 (by kernel_rfl) p.data q.data hp hq
/-- '==' and '!=' of puts as an operation. -/
theorem wp_eq_put {w : World} {o : Oper} {a : Act} {K : Act → World → Prop} {Q : Exit → Act → World → Prop} (neg : Bool) (ty : TypeId) (x y : Operand) (ho : o.op = .binOp (if neg then .neq else .eql) 39 x y ty)
    (k l : PutV) (hk : k.data.length = 32) (hl : l.data.length = 32) (hx : a.eval x = .agg (putC k).toArray) (hy : a.eval y = .agg (putC l).toArray)
    (h : K (a.put o.dst (.bool (neg ^^ decide (k = l)))) w) : o.wp Try.prog a w K Q := by
  have hm : Try.prog.eqGuardType Try.prog.depth 39 = false := by kernel_rfl
  have h1 : (binOp .eql 39 (.agg (putC k).toArray) (.agg (putC l).toArray)).run Try.prog w = .ok (.bool (decide (k = l))) w := by
    rw [run_eql_struct, run_eq_put 9997 k l hk hl]
    rfl
  have h2 : (binOp .neq 39 (.agg (putC k).toArray) (.agg (putC l).toArray)).run Try.prog w = .ok (.bool (!decide (k = l))) w := by
    rw [run_neq_struct, run_eq_put 9997 k l hk hl]
    rfl
  unfold Oper.wp execOp
  cases neg
  · simp only [ho, Bool.false_eq_true, if_false, hx, hy, Sem.run_bind, run_eqGuard_agg w _ _ _ _ _ _ hm, Result.andThen_ok, h1, Sem.run_pure]
    rw [Oper.upon_value]
    simpa using h
  · simp only [ho, if_true, hx, hy, Sem.run_bind, run_eqGuard_agg w _ _ _ _ _ _ hm, Result.andThen_ok, h2, Sem.run_pure]
    rw [Oper.upon_value]
    simpa using h
end Go.Proofs.Ytchcnkobgdbdkaa


/- The walk of keep.Puts. -/
namespace Go.Proofs.Ytchcnkobgdbdkaa
open Go.RowKit
set_option linter.unusedVariables false
set_option linter.unusedSimpArgs false

theorem wp_ldr2 {P : Program} {o : Oper} {a : Act} {w : World} {K : Act → World → Prop} {Q : Exit → Act → World → Prop} (ty : TypeId) (x : Operand) (ho : o.op = .load ty x) (ad : Addr) (n : Nat) (vs : List Value) (hx : a.eval x = .pointer (some ad)) (hr : Rd w (some ad) vs)
    (hagg : (match P.underlying ty with | some (.struct _) | some (.array _ _) => true | _ => false) = true) (hsz : (P.info? ty).map (·.size) = some n) (hn : vs.length = n)
    (h : K (a.put o.dst (.agg vs.toArray)) w) : o.wp P a w K Q := by
  subst hn
  unfold Oper.wp execOp
  simp only [ho, hx, Instr.loadAt, Instr.sureAddr, Sem.run_bind, Sem.run_pure, Result.andThen_ok, run_loadVar_rd2 w ty ad vs hr hagg hsz]
  exact h
theorem Chg.belowN {w w' : World} (h : Chg NoS w w') : Below w.heap.size w w' := h.below (Nat.le_refl _) (fun _ _ => id)
def KPRel (w : World) (ps qs : List PutV) (v : Value) (wr : World) : Prop := ∃ k : Nat, k ≤ ps.length ∧ v = .int .i64 k ∧ ps.take k = qs.take k ∧ Below w.heap.size w wr
set_option maxRecDepth 100000 in
set_option maxHeartbeats 4000000 in
theorem keepPuts_calls (ps qs : List PutV) (A B : Option Addr) (n m c d : Nat) (w : World) (hl : ps.length = n) (hm : qs.length = m) (hnn : n ≤ 9223372036854775807) (hr : Rd w A (ps.flatMap putC)) (hr2 : Rd w B (qs.flatMap putC)) (ho : PutsOk ps) (ho2 : PutsOk qs) :
    Calls Try.prog 18 #[.slice A n c, .slice B m d] w fun e w' => e = .returned (.bool (decide (ps = qs))) ∧ Below w.heap.size w w' := by
  subst hl hm
  by_cases hlen : ps.length = qs.length
  case neg =>
    have HNE : Hid (decide (ps = qs) = false) := decide_eq_false (fun h => hlen (by rw [h]))
    have hne : ¬ ((ps.length : Int) = (qs.length : Int)) := by omega
    clear hlen hr hr2 ho ho2
    go_enter Try.func18, Try.ntmps18
    go_wp2_with fail
    (try simp only [Exit.inBlock, Exit.then])
    go_ret
    exact ⟨by rw [HNE.out]; rfl, Below.refl _ _⟩
  have HR := Lib.hid hr
  have HR2 := Lib.hid hr2
  have HO := Lib.hid ho
  have HO2 := Lib.hid ho2
  have HLEN := Lib.hid hlen
  clear hr hr2 ho ho2
  rw [← hlen]
  clear hlen
  go_enter Try.func18, Try.ntmps18
  go_wp2_with fail
  go_loopw [5] (fun v5 wr => KPRel w ps qs v5 wr) (fun v5 _ => ps.length - (intOf v5).toNat)
  case atStart => exact ⟨0, Nat.zero_le _, rfl, rfl, Below.refl _ _⟩
  case round =>
    obtain ⟨k, hk, rfl, ht, hb⟩ := hrel
    have HT0 := Lib.hid ht
    have EB := Lib.hid hb
    clear ht hb
    by_cases hlt : k < ps.length
    · have hki : (k : Int) < (ps.length : Int) := by omega
      have hlt2 : k < qs.length := by have := HLEN.out; omega
      obtain ⟨ad, rfl⟩ := puts_some HR.out hlt
      obtain ⟨ad2, rfl⟩ := puts_some HR2.out hlt2
      have HP := Lib.hid (put_rd (HR.out.below EB.out) HO.out hlt)
      have HQ := Lib.hid (put_rd (HR2.out.below EB.out) HO2.out hlt2)
      have HPD := Lib.hid (HO.out _ (List.getElem_mem hlt)).1
      have HQD := Lib.hid (HO2.out _ (List.getElem_mem hlt2)).1
      obtain ⟨p, hp⟩ : ∃ p, ps[k] = p := ⟨_, rfl⟩
      obtain ⟨q, hq⟩ : ∃ q, qs[k] = q := ⟨_, rfl⟩
      have HPE := Lib.hid hp
      have HQE := Lib.hid hq
      rw [hp] at HP HPD
      rw [hq] at HQ HQD
      have HPL := Lib.hid (putC_len HPD.out)
      have HQL := Lib.hid (putC_len HQD.out)
      clear hp hq
      go_wp2_with fail
      apply wp_region_rel 9 (Chg NoS) [(Veq _), (Veq _), (Veq _), (Veq _), (Veq _), (Veq _), (Veq _), (Veq _), (Veq _)] [[], [], [0, 1], [2], [], [], [4, 5], [6], [3, 7]] [17, 18, 19, 20, 21, 22, 23, 24, 25] (by kernel_rfl) (by kernel_rfl) rfl rfl rfl Chg.refl (fun _ _ _ => Chg.trans) ⟨Veq.lasts, Veq.lasts, Veq.lasts, Veq.lasts, Veq.lasts, Veq.lasts, Veq.lasts, Veq.lasts, Veq.lasts, trivial⟩ ?aops ?afin
      case aops =>
        refine ⟨?ao0, ?ao1, ?ao2, ?ao3, ?ao4, ?ao5, ?ao6, ?ao7, ?ao8, trivial⟩
        case ao0 =>
          intro a wx hE hin
          have i0 : a.eval (.tmp 0) = .slice (some ad) ps.length c := hin 0 rfl
          clear hin
          have hcst : ∀ v, a.eval (.const v) = v := fun _ => rfl
          have hfnc : ∀ f, a.eval (.func f) = .func (.func f) #[] #[] := fun _ => rfl
          refine want_none rfl ?_
          unfold Oper.wp
          generalize a.eval = ρ at *
          go_simp
          try go_bits
          first | exact rel_val (Chg.refl _) | (go_simp; exact rel_val (Chg.refl _))
        case ao1 =>
          intro a wx hE hin
          have i5 : a.eval (.tmp 5) = .int .i64 k := hin 5 rfl
          clear hin
          have hcst : ∀ v, a.eval (.const v) = v := fun _ => rfl
          have hfnc : ∀ f, a.eval (.func f) = .func (.func f) #[] #[] := fun _ => rfl
          refine want_none rfl ?_
          unfold Oper.wp
          generalize a.eval = ρ at *
          go_simp
          try go_bits
          first | exact rel_val (Chg.refl _) | (go_simp; exact rel_val (Chg.refl _))
        case ao2 =>
          rintro a wx hE hin (h0 : a.eval (.tmp 17) = _) (h1 : a.eval (.tmp 18) = _)
          clear hin
          have hcst : ∀ v, a.eval (.const v) = v := fun _ => rfl
          have hfnc : ∀ f, a.eval (.func f) = .func (.func f) #[] #[] := fun _ => rfl
          refine want_none rfl ?_
          unfold Oper.wp
          generalize a.eval = ρ at *
          go_simp
          try go_bits
          first | exact rel_val (Chg.refl _) | (go_simp; exact rel_val (Chg.refl _))
        case ao3 =>
          rintro a wx hE hin (h2 : a.eval (.tmp 19) = _)
          clear hin
          have hcst : ∀ v, a.eval (.const v) = v := fun _ => rfl
          have hfnc : ∀ f, a.eval (.func f) = .func (.func f) #[] #[] := fun _ => rfl
          refine want_none rfl ?_
          exact wp_ldr2 39 _ rfl (ad.add (k * 33)) 33 (putC p) h2 (HP.out.below (Chg.belowN hE.undrew)) (by kernel_rfl) (by kernel_rfl) HPL.out (rel_val (Chg.refl _))
        case ao4 =>
          intro a wx hE hin
          have i1 : a.eval (.tmp 1) = .slice (some ad2) ps.length d := hin 1 rfl
          clear hin
          have hcst : ∀ v, a.eval (.const v) = v := fun _ => rfl
          have hfnc : ∀ f, a.eval (.func f) = .func (.func f) #[] #[] := fun _ => rfl
          refine want_none rfl ?_
          unfold Oper.wp
          generalize a.eval = ρ at *
          go_simp
          try go_bits
          first | exact rel_val (Chg.refl _) | (go_simp; exact rel_val (Chg.refl _))
        case ao5 =>
          intro a wx hE hin
          have i5 : a.eval (.tmp 5) = .int .i64 k := hin 5 rfl
          clear hin
          have hcst : ∀ v, a.eval (.const v) = v := fun _ => rfl
          have hfnc : ∀ f, a.eval (.func f) = .func (.func f) #[] #[] := fun _ => rfl
          refine want_none rfl ?_
          unfold Oper.wp
          generalize a.eval = ρ at *
          go_simp
          try go_bits
          first | exact rel_val (Chg.refl _) | (go_simp; exact rel_val (Chg.refl _))
        case ao6 =>
          rintro a wx hE hin (h4 : a.eval (.tmp 21) = _) (h5 : a.eval (.tmp 22) = _)
          clear hin
          have hcst : ∀ v, a.eval (.const v) = v := fun _ => rfl
          have hfnc : ∀ f, a.eval (.func f) = .func (.func f) #[] #[] := fun _ => rfl
          refine want_none rfl ?_
          unfold Oper.wp
          generalize a.eval = ρ at *
          go_simp
          try go_bits
          first | exact rel_val (Chg.refl _) | (go_simp; exact rel_val (Chg.refl _))
        case ao7 =>
          rintro a wx hE hin (h6 : a.eval (.tmp 23) = _)
          clear hin
          have hcst : ∀ v, a.eval (.const v) = v := fun _ => rfl
          have hfnc : ∀ f, a.eval (.func f) = .func (.func f) #[] #[] := fun _ => rfl
          refine want_none rfl ?_
          exact wp_ldr2 39 _ rfl (ad2.add (k * 33)) 33 (putC q) h6 (HQ.out.below (Chg.belowN hE.undrew)) (by kernel_rfl) (by kernel_rfl) HQL.out (rel_val (Chg.refl _))
        case ao8 =>
          rintro a wx hE hin (h3 : a.eval (.tmp 20) = _) (h7 : a.eval (.tmp 24) = _)
          clear hin
          have hcst : ∀ v, a.eval (.const v) = v := fun _ => rfl
          have hfnc : ∀ f, a.eval (.func f) = .func (.func f) #[] #[] := fun _ => rfl
          refine want_none rfl ?_
          exact wp_eq_put true _ _ _ rfl p q HPD.out HQD.out (by rw [h3]) (by rw [h7]) (rel_val (Chg.refl _))
      case afin =>
        intro wx hE
        rintro _ rfl _ rfl _ rfl _ rfl _ rfl _ rfl _ rfl _ rfl _ rfl
        simp only [FinOk, List.take_succ_cons, List.take_zero, List.take_nil, List.drop_succ_cons, List.drop_zero, List.drop_nil, Act.put, List.setIfInBounds_toArray, List.set_cons_succ, List.set_cons_zero]
        have EX : Hid (Below w.heap.size w wx) := EB.out.trans (hE.undrew.below EB.out.size (fun _ _ => id))
        clear hE
        by_cases hpq : p = q
        · have HT : Hid (ps.take (k + 1) = qs.take (k + 1)) := by
            show _ = _
            rw [List.take_succ_eq_append_getElem hlt, List.take_succ_eq_append_getElem hlt2, HT0.out, HPE.out, HQE.out, hpq]
          rw [show (true ^^ decide (p = q)) = false by rw [decide_eq_true hpq]; rfl]
          clear hpq
          go_wp2_with fail
          go_roundw
          case rel => exact ⟨k + 1, by omega, by go_num, HT.out, EX.out⟩
          case measure => simp [intOf]; omega
        · have HNE : Hid (decide (ps = qs) = false) := decide_eq_false (fun h => hpq (by
            have h1 := HPE.out
            have h2 := HQE.out
            subst h
            rw [← h1, ← h2]))
          rw [show (true ^^ decide (p = q)) = true by rw [decide_eq_false hpq]; rfl]
          clear hpq
          go_wp2_with fail
          (try simp only [Exit.inBlock, Exit.then])
          go_ret
          exact ⟨by rw [HNE.out]; rfl, EX.out⟩
    · have hke : k = ps.length := by omega
      subst hke
      have hki : ¬ (((ps.length : Nat) : Int) < (ps.length : Int)) := by omega
      have HEQ : Hid (decide (ps = qs) = true) := decide_eq_true (by
        have h := HT0.out
        rwa [List.take_length, List.take_of_length_le (by rw [HLEN.out]; exact Nat.le_refl _)] at h)
      go_wp2_with fail
      (try simp only [Exit.inBlock, Exit.then])
      go_ret
      exact ⟨by rw [HEQ.out]; rfl, EB.out⟩
end Go.Proofs.Ytchcnkobgdbdkaa


/- Records, how they are read out of the arguments. -/
namespace Go.Proofs.Ytchcnkobgdbdkaa
open Go.ChangeShapes Go.WideShapes Go.RowKit Go.Deep
set_option linter.unusedVariables false
set_option linter.unusedSimpArgs false

/-- A record among the arguments. -/
structure RecV where
  e : UInt32
  q : UInt32
  A : Option Addr
  n : Nat
  c : Nat
  ps : List PutV
def recC (r : RecV) : List Value := [vu32 r.e, vu32 r.q, .slice r.A r.n r.c]
structure RecOk (W : World) (r : RecV) : Prop where
  len : r.ps.length = r.n
  cap : r.n ≤ r.c
  max : r.c ≤ 9223372036854775807
  rd : Rd W r.A (r.ps.flatMap putC)
  ok : PutsOk r.ps
theorem RecOk.below {w w' : World} {r : RecV} (h : RecOk w r) (hb : Below w.heap.size w w') : RecOk w' r := ⟨h.len, h.cap, h.max, h.rd.below hb, h.ok⟩
theorem one_recC (r : RecV) : ∀ u ∈ recC r, u.oneCell' = true := one_rec _ _ _ _ _
section
variable {H : Type} {enc : TypeId × Value → H} {W : World} {P : Program}
theorem TC.u32w {t : TypeId} {cs : List Value} (h : TC enc P W t cs) (ht : P.underlying t = some (.int .u32)) : ∃ x : UInt32, cs = [vu32 x] := by
  obtain ⟨n, rfl, hw⟩ := h.int ht
  have hb : 0 ≤ n ∧ n ≤ 4294967295 := by
    simp [Lit.wf, IntKind.min, IntKind.max, IntKind.signed, IntKind.bits] at hw
    omega
  refine ⟨UInt32.ofNat n.toNat, ?_⟩
  rw [vu32, UInt32.toNat_ofNat_of_lt' (by show n.toNat < 4294967296; omega)]
  congr 2
  omega
theorem recCells : Try.prog.cellsOf 25 = 3 := by kernel_rfl
set_option maxRecDepth 100000 in
theorem TC.rec {cs : List Value} (h : TC enc Try.prog W 25 cs) : ∃ r, cs = recC r ∧ RecOk W r := by
  obtain ⟨hl, hf⟩ := h.struct Try.underlying25
  rw [recCells] at hl
  match cs, hl with
  | [a, b, c], _ =>
    have f0 : TC enc Try.prog W 22 (([a, b, c].drop 0).take (Try.prog.cellsOf 22)) := hf 0 _ rfl
    have f1 : TC enc Try.prog W 22 (([a, b, c].drop 1).take (Try.prog.cellsOf 22)) := hf 1 _ rfl
    have f2 : TC enc Try.prog W 23 (([a, b, c].drop 2).take (Try.prog.cellsOf 23)) := hf 2 _ rfl
    rw [show Try.prog.cellsOf 22 = 1 by kernel_rfl] at f0 f1
    rw [show Try.prog.cellsOf 23 = 1 by kernel_rfl] at f2
    obtain ⟨x0, hx0⟩ := f0.u32w Try.underlying22
    obtain ⟨x1, hx1⟩ := f1.u32w Try.underlying22
    obtain ⟨A, n, c3, ps, hx3, hl3, hc3, hm3, hr3, ho3⟩ := f2.puts
    simp at hx0 hx1 hx3
    exact ⟨⟨x0, x1, A, n, c3, ps⟩, by simp [recC, hx0, hx1, hx3], ⟨hl3, hc3, hm3, hr3, ho3⟩⟩
end
/-- Get's answer is the record. -/
theorem put_len {ps : List PutV} {n c : Nat} (h : ps.length = n) (hc : n ≤ c) (hm : c ≤ 9223372036854775807) : (ps.length : Int) ≤ 9223372036854775807 := by omega
end Go.Proofs.Ytchcnkobgdbdkaa


/- The log of no disk. -/
namespace Go.Proofs.Ytchcnkobgdbdkaa
open Go.RowKit
set_option linter.unusedVariables false
set_option linter.unusedSimpArgs false

set_option maxRecDepth 100000 in
set_option maxHeartbeats 4000000 in
theorem walGet_nil (w : World) (fr : Int) : Calls Try.prog 10 #[.pointer none, .int .i64 fr] w (GetPost w Rec.no 1) := by
  go_enter Try.func10, Try.ntmps10
  go_wp2_with (refine wpList_al rfl 25 rfl zR (by kernel_rfl) ?_)
  intro g0 w1 hg hb hc hs
  subst hg
  have K1 := Lib.hid hb
  have E1 : Hid (Below w.heap.size w w1) := hc.below (Nat.le_refl _) (fun _ _ => id)
  clear hb hc hs
  go_wp2_with fail
  refine (may_nil w1 fr).mono ?_
  rintro en w' ⟨rfl, rfl⟩
  go_wp2_with (first
    | (refine wpList_bld rfl 25 [] rfl zR [] zR (by kernel_rfl) (by kernel_rfl) trivial rfl ?_)
    | (refine wpList_st rfl 25 (.tmp 4) (.tmp 18) rfl w.heap.size 0 3 zR zR rfl rfl K1.out (by kernel_rfl) rfl (by decide) one_zR ?_))
  intro wz hbz hcz
  rw [splice_whole zR zR rfl] at hbz
  have HEZ : Hid (Below w.heap.size w wz) := E1.out.trans (hcz.below E1.out.size (fun k hk he => by omega))
  have HBZ := Lib.hid hbz
  clear hbz hcz
  go_wp2_with fail
  (try simp only [Exit.inBlock, Exit.then])
  refine bodyPost_ret (res_cell_tmp rfl _ _ w.heap.size 3 zR rfl HBZ.out (by kernel_rfl) (by kernel_rfl) rfl) rfl ?_
  exact no_post HEZ.out _
set_option maxRecDepth 100000 in
set_option maxHeartbeats 4000000 in
theorem walPut_nil (w : World) (fr : Int) (bx : List Value) : Calls Try.prog 11 #[.pointer none, .int .i64 fr, .agg bx.toArray] w fun e w' => e = .returned (.int .i64 1) ∧ Below w.heap.size w w' := by
  go_enter Try.func11, Try.ntmps11
  go_wp2_with fail
  refine calls_at fun w1 hw1 => ?_
  have E1 : Hid (Below w.heap.size w w1) := by rw [← hw1]; exact (Below.refl _ _).alloc (Nat.le_refl _) _
  clear hw1
  refine (may_nil w1 fr).mono ?_
  rintro en w' ⟨rfl, rfl⟩
  go_wp2_with fail
  (try simp only [Exit.inBlock, Exit.then])
  go_ret
  exact ⟨rfl, E1.out⟩
set_option maxRecDepth 100000 in
set_option maxHeartbeats 4000000 in
theorem refGet_nil (w : World) (fr : Int) : Calls Try.prog 17 #[.pointer none, .int .i64 fr] w (RGetPost w Rec.no 1) := by
  go_enter Try.func17, Try.ntmps17
  go_wp2_with (refine wpList_al rfl 53 rfl zQ (by kernel_rfl) ?_)
  intro g0 w1 hg hb hc hs
  subst hg
  have K1 := Lib.hid hb
  have E1 : Hid (Below w.heap.size w w1) := hc.below (Nat.le_refl _) (fun _ _ => id)
  clear hb hc hs
  go_wp2_with fail
  refine (refMay_nil w1 fr).mono ?_
  rintro en w' ⟨rfl, rfl⟩
  go_wp2_with (first
    | (refine wpList_bld rfl 53 [(3, .const (.int .i64 1))] rfl zQ [(3, [.int .i64 1])] (zQe 1) (by kernel_rfl) (by kernel_rfl) ?f1 rfl ?_)
    | (refine wpList_st rfl 53 (.tmp 4) (.tmp 19) rfl w.heap.size 0 4 zQ (zQe 1) rfl rfl K1.out (by kernel_rfl) rfl (by decide) (one_zQe _) ?_))
  case f1 => exact ⟨rfl, ⟨1, rfl, by kernel_rfl, by decide⟩, trivial⟩
  intro wz hbz hcz
  rw [splice_whole zQ (zQe 1) rfl] at hbz
  have HEZ : Hid (Below w.heap.size w wz) := E1.out.trans (hcz.below E1.out.size (fun k hk he => by omega))
  have HBZ := Lib.hid hbz
  clear hbz hcz
  go_wp2_with fail
  (try simp only [Exit.inBlock, Exit.then])
  refine bodyPost_ret (res_cell rfl _ _ w.heap.size 4 (zQe 1) rfl HBZ.out (by kernel_rfl) (by kernel_rfl) rfl) rfl ?_
  exact rno_post HEZ.out _
set_option maxRecDepth 100000 in
set_option maxHeartbeats 4000000 in
theorem refPut_nil (w : World) (fr : Int) (bx : List Value) : Calls Try.prog 15 #[.pointer none, .int .i64 fr, .agg bx.toArray] w fun e w' => e = .returned (.int .i64 1) ∧ Below w.heap.size w w' := by
  go_enter Try.func15, Try.ntmps15
  go_wp2_with fail
  refine calls_at fun w1 hw1 => ?_
  have E1 : Hid (Below w.heap.size w w1) := by rw [← hw1]; exact (Below.refl _ _).alloc (Nat.le_refl _) _
  clear hw1
  refine (refMay_nil w1 fr).mono ?_
  rintro en w' ⟨rfl, rfl⟩
  go_wp2_with fail
  (try simp only [Exit.inBlock, Exit.then])
  go_ret
  exact ⟨rfl, E1.out⟩
end Go.Proofs.Ytchcnkobgdbdkaa


/- The walk of the statements' own trial of the log. -/
namespace Go.Proofs.Ytchcnkobgdbdkaa
open Go.RowKit
set_option linter.unusedVariables false
set_option linter.unusedSimpArgs false

def pw5 : PutV := ⟨5, List.replicate 32 7⟩
def pw0 : PutV := ⟨0, List.replicate 32 8⟩
def pws : List PutV := [pw5, pw0]
theorem wkFlat : pws.flatMap putC = putC pw5 ++ putC pw0 := by simp [pws]
theorem wkFlat2 : [pw5, pw5].flatMap putC = putC pw5 ++ putC pw5 := by simp
theorem wkPuts : PutsOk pws := by
  intro p hp
  simp only [pws, List.mem_cons, List.not_mem_nil, or_false] at hp
  rcases hp with rfl | rfl
  · exact ⟨by decide +kernel, by decide, by decide⟩
  · exact ⟨by decide +kernel, by decide, by decide⟩
theorem wkPuts2 : PutsOk [pw5, pw5] := by
  intro p hp
  simp only [List.mem_cons, List.not_mem_nil, or_false] at hp
  rcases hp with rfl | rfl
  · exact ⟨by decide +kernel, by decide, by decide⟩
  · exact ⟨by decide +kernel, by decide, by decide⟩
theorem wkPuts3 : PutsOk [] := fun p hp => by cases hp
theorem wkGood : goodB pws = true := by decide +kernel
theorem wkGood2 : goodB [pw5, pw5] = false := by decide +kernel
theorem wkGood3 : goodB [] = false := by decide +kernel
def wa0 : Dst := Dst.new 9
def wa1 : Dst := ⟨putS (Dst.new 9).S 2 3 4 pws, [], -1, false⟩
theorem wkG0 : wa0.walGet 2 = (Rec.no, 11) := walGet_c (x := List.replicate 32 0) (by decide +kernel) (by decide +kernel) (by decide +kernel) (by decide +kernel)
theorem wkP0 : wa0.walPut 2 3 4 pws = (wa1, 0) := put_all (S := (Dst.new 9).S) (fr := 2) (f := -1) (by decide) wkGood (by decide)
theorem wkP1 : wa1.walPut 4 3 4 pws = (wa1, 1) := Dst.walPut_no (fun h => by
  have h1 := mayB_at h.1
  have h2 : wa1.S.length = 9 := putS_length _ _ _ _ _
  omega)
theorem wkG1 : wa1.walGet 2 = (⟨3, 4, pws⟩, 0) := by
  obtain ⟨r, h1, _, _, _, h5⟩ := get_hdr (S := putS (Dst.new 9).S 2 3 4 pws) (fr := 2) (f := -1) (e := 3) (q := 4) (ps := pws) (by rw [putS_length]; decide) wkGood (putS_hdr (by decide))
  rw [← h5 (fun i hi => putS_img (S := (Dst.new 9).S) (fr := 2) (by decide) hi)]
  exact h1
theorem wkOk0 : DOk (-1) 0 wa0 := ⟨by decide, by decide, by decide⟩
theorem wkOk1 : DOk (-1) 0 wa1 := ⟨Nat.le_refl _, Int.le_refl _, by decide⟩
set_option maxRecDepth 100000 in
set_option maxHeartbeats 8000000 in
theorem wakes8_calls (w : World) : Calls Try.prog 8 #[] w fun e w' => e = .returned (.bool true) ∧ Below w.heap.size w w' := by
  go_enter Try.func8, Try.ntmps8
  go_wp2_with fail
  refine (diskNew_yes 9 w (by decide) (by decide)).mono ?_
  intro en w1 hp
  obtain ⟨gd, gsd, rfl, hd⟩ := DSes.new (wT := 99) (by decide) (Below.refl _ _) hp
  have hb : Below w.heap.size w w1 := hp.bel
  have Ew1 : Hid (Below w.heap.size w w1) := hb
  have Ddw1 : Hid (DSes 99 w w1 gd gsd (.slice none 0 0) wa0) := hd
  clear hp hb hd
  go_wp2_with fail
  refine (walGet_calls w1 gd gsd (.slice none 0 0) wa0 2 Ddw1.out.at_).mono ?_
  intro en w2 hp
  rw [wkG0] at hp
  obtain ⟨Aw2, cw2, he, hR, hncw2, hcmw2, hb⟩ := hp
  have he' : en = .returned (.tuple #[.agg #[vu32 0, vu32 0, .slice Aw2 0 cw2], .int .i64 11]) := he
  subst he'
  have hR' : Rd w2 Aw2 ([].flatMap putC) := hR
  have Ew2 : Hid (Below w.heap.size w w2) := Ew1.out.trans (hb.mono Ew1.out.size)
  have Ddw2 : Hid (DSes 99 w w2 gd gsd (.slice none 0 0) wa0) := Ddw1.out.below hb
  clear Ew1 Ddw1
  have Rw2w2 := Lib.hid hR'
  clear he hb hR hR'
  go_wp2_with (refine wpList_al rfl 25 rfl zR (by kernel_rfl) ?_)
  intro ga w3 hg hb hc hs
  have HQa : Hid (Below w2.heap.size w2 w3) := hc.below (Nat.le_refl _) (fun _ _ => id)
  have HGa : Hid (ga = w2.heap.size) := hg
  have KZa := Lib.hid hb
  clear hg hb hc hs
  go_wp2_with (refine wpList_st rfl 25 (.tmp 3) (.tmp 15) rfl ga 0 3 zR [vu32 0, vu32 0, .slice Aw2 0 cw2] rfl rfl KZa.out (by kernel_rfl) rfl (by decide) (one_rec _ _ _ _ _) ?_)
  intro w4 hbk hc
  rw [splice_whole zR [vu32 0, vu32 0, .slice Aw2 0 cw2] rfl] at hbk
  have hb : Below w2.heap.size w2 w4 := HQa.out.trans (hc.below HQa.out.size (fun q hq he => by have := HGa.out; omega))
  have Ew4 : Hid (Below w.heap.size w w4) := Ew2.out.trans (hb.mono Ew2.out.size)
  have Rw2w4 : Hid (Rd w4 Aw2 ([].flatMap putC)) := Rw2w2.out.below hb
  have Ddw4 : Hid (DSes 99 w w4 gd gsd (.slice none 0 0) wa0) := Ddw2.out.below hb
  clear Ew2 Rw2w2 Ddw2
  have Kaw4 : Hid (Bk w4 ga [vu32 0, vu32 0, .slice Aw2 0 cw2]) := hbk
  have Kaw4 : Hid (Bk w4 ga [vu32 0, vu32 0, .slice Aw2 0 cw2]) := hbk
  clear hbk hb hc KZa HQa HGa
  go_wp2_with fail
  refine (fill_calls 7 w4).mono ?_
  rintro en w5 ⟨rfl, hb⟩
  have Ew5 : Hid (Below w.heap.size w w5) := Ew4.out.trans (hb.mono Ew4.out.size)
  have Kaw5 : Hid (Bk w5 ga [vu32 0, vu32 0, .slice Aw2 0 cw2]) := Kaw4.out.below hb
  have Ddw5 : Hid (DSes 99 w w5 gd gsd (.slice none 0 0) wa0) := Ddw4.out.below hb
  clear Ew4 Kaw4 Ddw4
  clear hb
  go_wp2_with (refine wpList_bld rfl 39 [(0, .const (.int .i64 5)), (1, .tmp 17)] rfl (.int .i64 0 :: bts (List.replicate 32 0)) [(0, [.int .i64 5]), (1, bts (List.replicate 32 7))] (putC pw5) (by kernel_rfl) (by kernel_rfl) ⟨rfl, ⟨1, rfl, by kernel_rfl, by decide⟩, rfl, ⟨32, by rw [bts_length, List.length_replicate], by kernel_rfl, by decide⟩, trivial⟩ rfl ?_)
  refine (fill_calls 8 w5).mono ?_
  rintro en w6 ⟨rfl, hb⟩
  have Ew6 : Hid (Below w.heap.size w w6) := Ew5.out.trans (hb.mono Ew5.out.size)
  have Kaw6 : Hid (Bk w6 ga [vu32 0, vu32 0, .slice Aw2 0 cw2]) := Kaw5.out.below hb
  have Ddw6 : Hid (DSes 99 w w6 gd gsd (.slice none 0 0) wa0) := Ddw5.out.below hb
  clear Ew5 Kaw5 Ddw5
  clear hb
  go_wp2_with (first
    | (refine wpList_bld rfl 39 [(0, .const (.int .i64 0)), (1, .tmp 19)] rfl (.int .i64 0 :: bts (List.replicate 32 0)) [(0, [.int .i64 0]), (1, bts (List.replicate 32 8))] (putC pw0) (by kernel_rfl) (by kernel_rfl) ⟨rfl, ⟨1, rfl, by kernel_rfl, by decide⟩, rfl, ⟨32, by rw [bts_length, List.length_replicate], by kernel_rfl, by decide⟩, trivial⟩ rfl ?_)
    | (refine wpList_bs2 rfl 23 39 (.tmp 18) (.tmp 20) rfl zPut 33 (putC pw5) (putC pw0) Try.underlying23 infoPut rfl (by decide) (by decide) rfl rfl rfl rfl ?_))
  intro gr w7 hg hbk hc
  have hb : Below w6.heap.size w6 w7 := hc.below (Nat.le_refl _) (fun _ _ => id)
  have Fdr : Hid (¬ footD gd gsd (.slice none 0 0) gr) := fun hj => by have := DiskAt.lt Ddw6.out.at_ _ hj; omega
  have Aar : Hid (ga < gr) := by show _ < _; have := Kaw6.out.lt; omega
  have Ew7 : Hid (Below w.heap.size w w7) := Ew6.out.trans (hb.mono Ew6.out.size)
  have Kaw7 : Hid (Bk w7 ga [vu32 0, vu32 0, .slice Aw2 0 cw2]) := Kaw6.out.below hb
  have Ddw7 : Hid (DSes 99 w w7 gd gsd (.slice none 0 0) wa0) := Ddw6.out.below hb
  clear Ew6 Kaw6 Ddw6
  have Krw7 : Hid (Bk w7 gr (putC pw5 ++ putC pw0)) := hbk
  clear hbk hb hc hg
  go_wp2_with (first
    | (refine wpList_bld rfl 25 [(0, .const (.int .u32 3)), (1, .const (.int .u32 4)), (2, .tmp 21)] rfl zR [(0, [vu32 3]), (1, [vu32 4]), (2, [.slice (some ⟨gr, 0, none⟩) 2 2])] [vu32 3, vu32 4, .slice (some ⟨gr, 0, none⟩) 2 2] (by kernel_rfl) (by kernel_rfl) ⟨rfl, ⟨1, rfl, by kernel_rfl, by decide⟩, rfl, ⟨1, rfl, by kernel_rfl, by decide⟩, rfl, ⟨1, rfl, by kernel_rfl, by decide⟩, trivial⟩ rfl ?_)
    | (refine wpList_al rfl 25 rfl zR (by kernel_rfl) ?_))
  intro gb w8 hg hb hc hs
  have HQb : Hid (Below w7.heap.size w7 w8) := hc.below (Nat.le_refl _) (fun _ _ => id)
  have HGb : Hid (gb = w7.heap.size) := hg
  have KZb := Lib.hid hb
  clear hg hb hc hs
  go_wp2_with (refine wpList_st rfl 25 (.tmp 5) (.tmp 22) rfl gb 0 3 zR [vu32 3, vu32 4, .slice (some ⟨gr, 0, none⟩) 2 2] rfl rfl KZb.out (by kernel_rfl) rfl (by decide) (one_rec _ _ _ _ _) ?_)
  intro w9 hbk hc
  rw [splice_whole zR [vu32 3, vu32 4, .slice (some ⟨gr, 0, none⟩) 2 2] rfl] at hbk
  have hb : Below w7.heap.size w7 w9 := HQb.out.trans (hc.below HQb.out.size (fun q hq he => by have := HGb.out; omega))
  have Fdb : Hid (¬ footD gd gsd (.slice none 0 0) gb) := fun hj => by have := DiskAt.lt Ddw7.out.at_ _ hj; have := HGb.out; omega
  have Aab : Hid (ga < gb) := by show _ < _; have := Kaw7.out.lt; have := HGb.out; omega
  have Arb : Hid (gr < gb) := by show _ < _; have := Krw7.out.lt; have := HGb.out; omega
  have Ew9 : Hid (Below w.heap.size w w9) := Ew7.out.trans (hb.mono Ew7.out.size)
  have Kaw9 : Hid (Bk w9 ga [vu32 0, vu32 0, .slice Aw2 0 cw2]) := Kaw7.out.below hb
  have Krw9 : Hid (Bk w9 gr (putC pw5 ++ putC pw0)) := Krw7.out.below hb
  have Ddw9 : Hid (DSes 99 w w9 gd gsd (.slice none 0 0) wa0) := Ddw7.out.below hb
  clear Ew7 Kaw7 Krw7 Ddw7
  have Kbw9 : Hid (Bk w9 gb [vu32 3, vu32 4, .slice (some ⟨gr, 0, none⟩) 2 2]) := hbk
  have Kbw9 : Hid (Bk w9 gb [vu32 3, vu32 4, .slice (some ⟨gr, 0, none⟩) 2 2]) := hbk
  clear hbk hb hc KZb HQb HGb
  clear Kaw9
  go_wp2_with (refine wpList_ld rfl 25 (.tmp 5) rfl gb 0 3 [vu32 3, vu32 4, .slice (some ⟨gr, 0, none⟩) 2 2] [vu32 3, vu32 4, .slice (some ⟨gr, 0, none⟩) 2 2] rfl Kbw9.out (by kernel_rfl) (by kernel_rfl) (Nat.le_refl 3) rfl ?_)
  refine (walPut_calls w9 gd gsd (.slice none 0 0) wa0 2 3 4 pws (some ⟨gr, 0, none⟩) 2 2 0 rfl Ddw9.out.at_ wkOk0 (by decide) (fun w' hc => by have h := (Krw9.out.chg hc Fdr.out).rd; rwa [← wkFlat] at h) wkPuts).mono ?_
  intro en w10 hp
  rw [wkP0] at hp
  have hch := DPost.chgF hp
  obtain ⟨rfl, lvdw10, hd, hft⟩ := DSes.post2 Ddw9.out hp
  have Ddw10 : Hid (DSes 99 w w10 gd gsd lvdw10 wa1) := hd
  have Ew10 : Hid (Below w.heap.size w w10) := hd.bel
  have Krw10 : Hid (Bk w10 gr (putC pw5 ++ putC pw0)) := Krw9.out.chg hch Fdr.out
  have Fdr : Hid (¬ footD gd gsd lvdw10 gr) := fun hj => (hft _ hj).elim Fdr.out (fun h => by have := Krw9.out.lt; omega)
  have Kbw10 : Hid (Bk w10 gb [vu32 3, vu32 4, .slice (some ⟨gr, 0, none⟩) 2 2]) := Kbw9.out.chg hch Fdb.out
  have Fdb : Hid (¬ footD gd gsd lvdw10 gb) := fun hj => (hft _ hj).elim Fdb.out (fun h => by have := Kbw9.out.lt; omega)
  clear hp hd hft hch Krw9 Kbw9 Ddw9 Ew9
  go_wp2_with (refine wpList_ld rfl 25 (.tmp 5) rfl gb 0 3 [vu32 3, vu32 4, .slice (some ⟨gr, 0, none⟩) 2 2] [vu32 3, vu32 4, .slice (some ⟨gr, 0, none⟩) 2 2] rfl Kbw10.out (by kernel_rfl) (by kernel_rfl) (Nat.le_refl 3) rfl ?_)
  refine (walPut_calls w10 gd gsd lvdw10 wa1 4 3 4 pws (some ⟨gr, 0, none⟩) 2 2 0 rfl Ddw10.out.at_ wkOk1 (by decide) (fun w' hc => by have h := (Krw10.out.chg hc Fdr.out).rd; rwa [← wkFlat] at h) wkPuts).mono ?_
  intro en w11 hp
  rw [wkP1] at hp
  have hch := DPost.chgF hp
  obtain ⟨rfl, lvdw11, hd, hft⟩ := DSes.post2 Ddw10.out hp
  have Ddw11 : Hid (DSes 99 w w11 gd gsd lvdw11 wa1) := hd
  have Ew11 : Hid (Below w.heap.size w w11) := hd.bel
  have Krw11 : Hid (Bk w11 gr (putC pw5 ++ putC pw0)) := Krw10.out.chg hch Fdr.out
  have Fdr : Hid (¬ footD gd gsd lvdw11 gr) := fun hj => (hft _ hj).elim Fdr.out (fun h => by have := Krw10.out.lt; omega)
  have Kbw11 : Hid (Bk w11 gb [vu32 3, vu32 4, .slice (some ⟨gr, 0, none⟩) 2 2]) := Kbw10.out.chg hch Fdb.out
  have Fdb : Hid (¬ footD gd gsd lvdw11 gb) := fun hj => (hft _ hj).elim Fdb.out (fun h => by have := Kbw10.out.lt; omega)
  clear hp hd hft hch Krw10 Kbw10 Ddw10 Ew10
  go_wp2_with fail
  refine (diskUp_at w11 gd gsd lvdw11 wa1 none 0 0 [] Ddw11.out.at_ rfl (fun w' _ => Rd.nil _ _)).mono ?_
  intro en w12 hp
  have hch := DPost.chgF hp
  obtain ⟨rfl, lvdw12, hd, hft⟩ := DSes.post2 Ddw11.out hp
  have Ddw12 : Hid (DSes 99 w w12 gd gsd lvdw12 wa1) := hd
  have Ew12 : Hid (Below w.heap.size w w12) := hd.bel
  have Krw12 : Hid (Bk w12 gr (putC pw5 ++ putC pw0)) := Krw11.out.chg hch Fdr.out
  have Fdr : Hid (¬ footD gd gsd lvdw12 gr) := fun hj => (hft _ hj).elim Fdr.out (fun h => by have := Krw11.out.lt; omega)
  have Kbw12 : Hid (Bk w12 gb [vu32 3, vu32 4, .slice (some ⟨gr, 0, none⟩) 2 2]) := Kbw11.out.chg hch Fdb.out
  have Fdb : Hid (¬ footD gd gsd lvdw12 gb) := fun hj => (hft _ hj).elim Fdb.out (fun h => by have := Kbw11.out.lt; omega)
  clear hp hd hft hch Krw11 Kbw11 Ddw11 Ew11
  go_wp2_with fail
  refine (walGet_calls w12 gd gsd lvdw12 wa1 2 Ddw12.out.at_).mono ?_
  intro en w13 hp
  rw [wkG1] at hp
  obtain ⟨Aw13, cw13, he, hR, hncw13, hcmw13, hb⟩ := hp
  have he' : en = .returned (.tuple #[.agg #[vu32 3, vu32 4, .slice Aw13 2 cw13], .int .i64 0]) := he
  subst he'
  have hR' : Rd w13 Aw13 (pws.flatMap putC) := hR
  have Ew13 : Hid (Below w.heap.size w w13) := Ew12.out.trans (hb.mono Ew12.out.size)
  have Krw13 : Hid (Bk w13 gr (putC pw5 ++ putC pw0)) := Krw12.out.below hb
  have Kbw13 : Hid (Bk w13 gb [vu32 3, vu32 4, .slice (some ⟨gr, 0, none⟩) 2 2]) := Kbw12.out.below hb
  have Ddw13 : Hid (DSes 99 w w13 gd gsd lvdw12 wa1) := Ddw12.out.below hb
  clear Ew12 Krw12 Kbw12 Ddw12
  have Rw13w13 := Lib.hid hR'
  clear he hb hR hR'
  go_wp2_with (refine wpList_al rfl 25 rfl zR (by kernel_rfl) ?_)
  intro ge w14 hg hb hc hs
  have HQe : Hid (Below w13.heap.size w13 w14) := hc.below (Nat.le_refl _) (fun _ _ => id)
  have HGe : Hid (ge = w13.heap.size) := hg
  have KZe := Lib.hid hb
  clear hg hb hc hs
  go_wp2_with (refine wpList_st rfl 25 (.tmp 6) (.tmp 46) rfl ge 0 3 zR [vu32 3, vu32 4, .slice Aw13 2 cw13] rfl rfl KZe.out (by kernel_rfl) rfl (by decide) (one_rec _ _ _ _ _) ?_)
  intro w15 hbk hc
  rw [splice_whole zR [vu32 3, vu32 4, .slice Aw13 2 cw13] rfl] at hbk
  have hb : Below w13.heap.size w13 w15 := HQe.out.trans (hc.below HQe.out.size (fun q hq he => by have := HGe.out; omega))
  have Are : Hid (gr < ge) := by show _ < _; have := Krw13.out.lt; have := HGe.out; omega
  have Abe : Hid (gb < ge) := by show _ < _; have := Kbw13.out.lt; have := HGe.out; omega
  have Ew15 : Hid (Below w.heap.size w w15) := Ew13.out.trans (hb.mono Ew13.out.size)
  have Krw15 : Hid (Bk w15 gr (putC pw5 ++ putC pw0)) := Krw13.out.below hb
  have Kbw15 : Hid (Bk w15 gb [vu32 3, vu32 4, .slice (some ⟨gr, 0, none⟩) 2 2]) := Kbw13.out.below hb
  have Rw13w15 : Hid (Rd w15 Aw13 (pws.flatMap putC)) := Rw13w13.out.below hb
  have Ddw15 : Hid (DSes 99 w w15 gd gsd lvdw12 wa1) := Ddw13.out.below hb
  clear Ew13 Krw13 Kbw13 Rw13w13 Ddw13
  have Kew15 : Hid (Bk w15 ge [vu32 3, vu32 4, .slice Aw13 2 cw13]) := hbk
  have Kew15 : Hid (Bk w15 ge [vu32 3, vu32 4, .slice Aw13 2 cw13]) := hbk
  clear hbk hb hc KZe HQe HGe
  go_wp2_with fail
  apply wp_region_rel 41 (Chg NoS) [(Veq _), (Veq _), (Veq _), (Veq _), (Veq _), (Veq _), (Veq _), (Veq _), (Veq _), (Veq _), (Veq _), (Veq _), (Veq _), (Veq _), (Veq _), (Veq _), (Veq _), (Veq _), (Veq _), (Veq _), (Veq _), (Veq _), (Veq _), (Veq _), (Veq _), (Veq _), (Veq _), (Veq _), (Veq _), (Veq _), (Veq _), (Veq _), (Veq _), (RowAt NoS 2 (putC pw5 ++ putC pw5)), (Veq _), (Veq _), (Veq _), (Veq _), (Veq _), (Veq _), (Veq _)] [[], [0], [1], [2], [2, 3], [2, 4], [2, 5], [6], [7], [7, 8], [7, 9], [7, 10], [11], [12], [12, 13], [12], [12, 15], [12, 14, 16], [12, 17], [18], [19], [19, 20], [19, 21], [19, 22], [23], [24], [24, 25], [24, 26], [24, 27], [24], [24, 29], [24, 30], [24, 31], [24, 28, 32], [24, 33], [24, 34], [24, 35], [36], [37], [37, 38], [37, 39]] [48, 49, 50, 51, 52, 53, 54, 55, 56, 57, 58, 59, 60, 61, 62, 63, 64, 65, 66, 67, 68, 69, 70, 71, 72, 73, 74, 75, 76, 77, 78, 79, 80, 81, 82, 83, 84, 85, 86, 87, 88] (by kernel_rfl) (by kernel_rfl) rfl rfl rfl Chg.refl (fun _ _ _ => Chg.trans) ⟨Veq.lasts, Veq.lasts, Veq.lasts, Veq.lasts, Veq.lasts, Veq.lasts, Veq.lasts, Veq.lasts, Veq.lasts, Veq.lasts, Veq.lasts, Veq.lasts, Veq.lasts, Veq.lasts, Veq.lasts, Veq.lasts, Veq.lasts, Veq.lasts, Veq.lasts, Veq.lasts, Veq.lasts, Veq.lasts, Veq.lasts, Veq.lasts, Veq.lasts, Veq.lasts, Veq.lasts, Veq.lasts, Veq.lasts, Veq.lasts, Veq.lasts, Veq.lasts, Veq.lasts, RowAt.lasts, Veq.lasts, Veq.lasts, Veq.lasts, Veq.lasts, Veq.lasts, Veq.lasts, Veq.lasts, trivial⟩ ?aops ?afin
  case aops =>
    refine ⟨?ao0, ?ao1, ?ao2, ?ao3, ?ao4, ?ao5, ?ao6, ?ao7, ?ao8, ?ao9, ?ao10, ?ao11, ?ao12, ?ao13, ?ao14, ?ao15, ?ao16, ?ao17, ?ao18, ?ao19, ?ao20, ?ao21, ?ao22, ?ao23, ?ao24, ?ao25, ?ao26, ?ao27, ?ao28, ?ao29, ?ao30, ?ao31, ?ao32, ?ao33, ?ao34, ?ao35, ?ao36, ?ao37, ?ao38, ?ao39, ?ao40, trivial⟩
    case ao0 =>
      intro a wx hE hin
      have i7 : a.eval (.tmp 7) = .int .i64 0 := hin 7 rfl
      clear hin
      have hcst : ∀ v, a.eval (.const v) = v := fun _ => rfl
      have hfnc : ∀ f, a.eval (.func f) = .func (.func f) #[] #[] := fun _ => rfl
      refine want_none rfl ?_
      unfold Oper.wp
      generalize a.eval = ρ at *
      go_simp
      try go_bits
      first | exact rel_val (Chg.refl _) | (go_simp; exact rel_val (Chg.refl _))
    case ao1 =>
      rintro a wx hE hin (h0 : a.eval (.tmp 48) = _)
      clear hin
      have hcst : ∀ v, a.eval (.const v) = v := fun _ => rfl
      have hfnc : ∀ f, a.eval (.func f) = .func (.func f) #[] #[] := fun _ => rfl
      refine want_none rfl ?_
      unfold Oper.wp
      generalize a.eval = ρ at *
      go_simp
      try go_bits
      first | exact rel_val (Chg.refl _) | (go_simp; exact rel_val (Chg.refl _))
    case ao2 =>
      rintro a wx hE hin (h1 : a.eval (.tmp 49) = _)
      clear hin
      have hcst : ∀ v, a.eval (.const v) = v := fun _ => rfl
      have hfnc : ∀ f, a.eval (.func f) = .func (.func f) #[] #[] := fun _ => rfl
      refine want_none rfl ?_
      unfold Oper.wp
      generalize a.eval = ρ at *
      go_simp
      try go_bits
      first | exact rel_val (Chg.refl _) | (go_simp; exact rel_val (Chg.refl _))
    case ao3 =>
      rintro a wx hE hin (h2 : a.eval (.tmp 50) = _)
      have i6 : a.eval (.tmp 6) = .pointer (some ⟨ge, 0, none⟩) := hin 6 rfl
      clear hin
      have hcst : ∀ v, a.eval (.const v) = v := fun _ => rfl
      have hfnc : ∀ f, a.eval (.func f) = .func (.func f) #[] #[] := fun _ => rfl
      refine want_yes rfl rfl h2 ?_
      unfold Oper.wp
      generalize a.eval = ρ at *
      go_simp
      try go_bits
      first | exact rel_val (Chg.refl _) | (go_simp; exact rel_val (Chg.refl _))
    case ao4 =>
      rintro a wx hE hin (h2 : a.eval (.tmp 50) = _) (h3 : a.eval (.tmp 51) = _)
      clear hin
      have hcst : ∀ v, a.eval (.const v) = v := fun _ => rfl
      have hfnc : ∀ f, a.eval (.func f) = .func (.func f) #[] #[] := fun _ => rfl
      refine want_yes rfl rfl h2 ?_
      unfold Oper.wp
      generalize a.eval = ρ at *
      have c := Bk.cell (j := 0) (Kew15.out.drew.chg hE id) rfl
      go_simp
      try go_bits
      first | exact rel_val (Chg.refl _) | (go_simp; exact rel_val (Chg.refl _))
    case ao5 =>
      rintro a wx hE hin (h2 : a.eval (.tmp 50) = _) (h4 : a.eval (.tmp 52) = _)
      clear hin
      have hcst : ∀ v, a.eval (.const v) = v := fun _ => rfl
      have hfnc : ∀ f, a.eval (.func f) = .func (.func f) #[] #[] := fun _ => rfl
      refine want_yes rfl rfl h2 ?_
      unfold Oper.wp
      generalize a.eval = ρ at *
      go_simp
      try go_bits
      first | exact rel_val (Chg.refl _) | (go_simp; exact rel_val (Chg.refl _))
    case ao6 =>
      rintro a wx hE hin (h2 : a.eval (.tmp 50) = _) (h5 : a.eval (.tmp 53) = _)
      clear hin
      have hcst : ∀ v, a.eval (.const v) = v := fun _ => rfl
      have hfnc : ∀ f, a.eval (.func f) = .func (.func f) #[] #[] := fun _ => rfl
      refine want_none rfl ?_
      unfold Oper.wp
      generalize a.eval = ρ at *
      go_simp
      try go_bits
      first | exact rel_val (Chg.refl _) | (go_simp; exact rel_val (Chg.refl _))
    case ao7 =>
      rintro a wx hE hin (h6 : a.eval (.tmp 54) = _)
      clear hin
      have hcst : ∀ v, a.eval (.const v) = v := fun _ => rfl
      have hfnc : ∀ f, a.eval (.func f) = .func (.func f) #[] #[] := fun _ => rfl
      refine want_none rfl ?_
      unfold Oper.wp
      generalize a.eval = ρ at *
      go_simp
      try go_bits
      first | exact rel_val (Chg.refl _) | (go_simp; exact rel_val (Chg.refl _))
    case ao8 =>
      rintro a wx hE hin (h7 : a.eval (.tmp 55) = _)
      have i6 : a.eval (.tmp 6) = .pointer (some ⟨ge, 0, none⟩) := hin 6 rfl
      clear hin
      have hcst : ∀ v, a.eval (.const v) = v := fun _ => rfl
      have hfnc : ∀ f, a.eval (.func f) = .func (.func f) #[] #[] := fun _ => rfl
      refine want_yes rfl rfl h7 ?_
      unfold Oper.wp
      generalize a.eval = ρ at *
      go_simp
      try go_bits
      first | exact rel_val (Chg.refl _) | (go_simp; exact rel_val (Chg.refl _))
    case ao9 =>
      rintro a wx hE hin (h7 : a.eval (.tmp 55) = _) (h8 : a.eval (.tmp 56) = _)
      clear hin
      have hcst : ∀ v, a.eval (.const v) = v := fun _ => rfl
      have hfnc : ∀ f, a.eval (.func f) = .func (.func f) #[] #[] := fun _ => rfl
      refine want_yes rfl rfl h7 ?_
      unfold Oper.wp
      generalize a.eval = ρ at *
      have c := Bk.cell (j := 1) (Kew15.out.drew.chg hE id) rfl
      go_simp
      try go_bits
      first | exact rel_val (Chg.refl _) | (go_simp; exact rel_val (Chg.refl _))
    case ao10 =>
      rintro a wx hE hin (h7 : a.eval (.tmp 55) = _) (h9 : a.eval (.tmp 57) = _)
      clear hin
      have hcst : ∀ v, a.eval (.const v) = v := fun _ => rfl
      have hfnc : ∀ f, a.eval (.func f) = .func (.func f) #[] #[] := fun _ => rfl
      refine want_yes rfl rfl h7 ?_
      unfold Oper.wp
      generalize a.eval = ρ at *
      go_simp
      try go_bits
      first | exact rel_val (Chg.refl _) | (go_simp; exact rel_val (Chg.refl _))
    case ao11 =>
      rintro a wx hE hin (h7 : a.eval (.tmp 55) = _) (h10 : a.eval (.tmp 58) = _)
      clear hin
      have hcst : ∀ v, a.eval (.const v) = v := fun _ => rfl
      have hfnc : ∀ f, a.eval (.func f) = .func (.func f) #[] #[] := fun _ => rfl
      refine want_none rfl ?_
      unfold Oper.wp
      generalize a.eval = ρ at *
      go_simp
      try go_bits
      first | exact rel_val (Chg.refl _) | (go_simp; exact rel_val (Chg.refl _))
    case ao12 =>
      rintro a wx hE hin (h11 : a.eval (.tmp 59) = _)
      clear hin
      have hcst : ∀ v, a.eval (.const v) = v := fun _ => rfl
      have hfnc : ∀ f, a.eval (.func f) = .func (.func f) #[] #[] := fun _ => rfl
      refine want_none rfl ?_
      unfold Oper.wp
      generalize a.eval = ρ at *
      go_simp
      try go_bits
      first | exact rel_val (Chg.refl _) | (go_simp; exact rel_val (Chg.refl _))
    case ao13 =>
      rintro a wx hE hin (h12 : a.eval (.tmp 60) = _)
      have i6 : a.eval (.tmp 6) = .pointer (some ⟨ge, 0, none⟩) := hin 6 rfl
      clear hin
      have hcst : ∀ v, a.eval (.const v) = v := fun _ => rfl
      have hfnc : ∀ f, a.eval (.func f) = .func (.func f) #[] #[] := fun _ => rfl
      refine want_yes rfl rfl h12 ?_
      unfold Oper.wp
      generalize a.eval = ρ at *
      go_simp
      try go_bits
      first | exact rel_val (Chg.refl _) | (go_simp; exact rel_val (Chg.refl _))
    case ao14 =>
      rintro a wx hE hin (h12 : a.eval (.tmp 60) = _) (h13 : a.eval (.tmp 61) = _)
      clear hin
      have hcst : ∀ v, a.eval (.const v) = v := fun _ => rfl
      have hfnc : ∀ f, a.eval (.func f) = .func (.func f) #[] #[] := fun _ => rfl
      refine want_yes rfl rfl h12 ?_
      unfold Oper.wp
      generalize a.eval = ρ at *
      have c := Bk.cell (j := 2) (Kew15.out.drew.chg hE id) rfl
      go_simp
      try go_bits
      first | exact rel_val (Chg.refl _) | (go_simp; exact rel_val (Chg.refl _))
    case ao15 =>
      rintro a wx hE hin (h12 : a.eval (.tmp 60) = _)
      have i5 : a.eval (.tmp 5) = .pointer (some ⟨gb, 0, none⟩) := hin 5 rfl
      clear hin
      have hcst : ∀ v, a.eval (.const v) = v := fun _ => rfl
      have hfnc : ∀ f, a.eval (.func f) = .func (.func f) #[] #[] := fun _ => rfl
      refine want_yes rfl rfl h12 ?_
      unfold Oper.wp
      generalize a.eval = ρ at *
      go_simp
      try go_bits
      first | exact rel_val (Chg.refl _) | (go_simp; exact rel_val (Chg.refl _))
    case ao16 =>
      rintro a wx hE hin (h12 : a.eval (.tmp 60) = _) (h15 : a.eval (.tmp 63) = _)
      clear hin
      have hcst : ∀ v, a.eval (.const v) = v := fun _ => rfl
      have hfnc : ∀ f, a.eval (.func f) = .func (.func f) #[] #[] := fun _ => rfl
      refine want_yes rfl rfl h12 ?_
      unfold Oper.wp
      generalize a.eval = ρ at *
      have c := Bk.cell (j := 2) (Kbw15.out.drew.chg hE id) rfl
      go_simp
      try go_bits
      first | exact rel_val (Chg.refl _) | (go_simp; exact rel_val (Chg.refl _))
    case ao17 =>
      rintro a wx hE hin (h12 : a.eval (.tmp 60) = _) (h14 : a.eval (.tmp 62) = _) (h16 : a.eval (.tmp 64) = _)
      clear hin
      have hcst : ∀ v, a.eval (.const v) = v := fun _ => rfl
      have hfnc : ∀ f, a.eval (.func f) = .func (.func f) #[] #[] := fun _ => rfl
      refine want_yes rfl rfl h12 ?_
      unfold Oper.wp
      generalize a.eval = ρ at *
      go_simp
      refine (keepPuts_calls pws pws Aw13 (some ⟨gr, 0, none⟩) 2 2 cw13 2 wx rfl rfl (by decide) (Rw13w15.out.chg hE.undrew) (by have h := (Krw15.out.drew.chg hE id).rd; rwa [← wkFlat] at h) wkPuts wkPuts).mono ?_
      rintro e w' ⟨rfl, hb⟩
      rw [decide_eq_true rfl]
      exact rel_val (.of_below hb)
    case ao18 =>
      rintro a wx hE hin (h12 : a.eval (.tmp 60) = _) (h17 : a.eval (.tmp 65) = _)
      clear hin
      have hcst : ∀ v, a.eval (.const v) = v := fun _ => rfl
      have hfnc : ∀ f, a.eval (.func f) = .func (.func f) #[] #[] := fun _ => rfl
      refine want_none rfl ?_
      unfold Oper.wp
      generalize a.eval = ρ at *
      go_simp
      try go_bits
      first | exact rel_val (Chg.refl _) | (go_simp; exact rel_val (Chg.refl _))
    case ao19 =>
      rintro a wx hE hin (h18 : a.eval (.tmp 66) = _)
      clear hin
      have hcst : ∀ v, a.eval (.const v) = v := fun _ => rfl
      have hfnc : ∀ f, a.eval (.func f) = .func (.func f) #[] #[] := fun _ => rfl
      refine want_none rfl ?_
      unfold Oper.wp
      generalize a.eval = ρ at *
      go_simp
      try go_bits
      first | exact rel_val (Chg.refl _) | (go_simp; exact rel_val (Chg.refl _))
    case ao20 =>
      rintro a wx hE hin (h19 : a.eval (.tmp 67) = _)
      have i5 : a.eval (.tmp 5) = .pointer (some ⟨gb, 0, none⟩) := hin 5 rfl
      clear hin
      have hcst : ∀ v, a.eval (.const v) = v := fun _ => rfl
      have hfnc : ∀ f, a.eval (.func f) = .func (.func f) #[] #[] := fun _ => rfl
      refine want_yes rfl rfl h19 ?_
      unfold Oper.wp
      generalize a.eval = ρ at *
      go_simp
      try go_bits
      first | exact rel_val (Chg.refl _) | (go_simp; exact rel_val (Chg.refl _))
    case ao21 =>
      rintro a wx hE hin (h19 : a.eval (.tmp 67) = _) (h20 : a.eval (.tmp 68) = _)
      clear hin
      have hcst : ∀ v, a.eval (.const v) = v := fun _ => rfl
      have hfnc : ∀ f, a.eval (.func f) = .func (.func f) #[] #[] := fun _ => rfl
      refine want_yes rfl rfl h19 ?_
      unfold Oper.wp
      generalize a.eval = ρ at *
      have c := Bk.cell (j := 2) (Kbw15.out.drew.chg hE id) rfl
      go_simp
      try go_bits
      first | exact rel_val (Chg.refl _) | (go_simp; exact rel_val (Chg.refl _))
    case ao22 =>
      rintro a wx hE hin (h19 : a.eval (.tmp 67) = _) (h21 : a.eval (.tmp 69) = _)
      clear hin
      have hcst : ∀ v, a.eval (.const v) = v := fun _ => rfl
      have hfnc : ∀ f, a.eval (.func f) = .func (.func f) #[] #[] := fun _ => rfl
      refine want_yes rfl rfl h19 ?_
      unfold Oper.wp
      generalize a.eval = ρ at *
      go_simp
      refine (good_calls pws (some ⟨gr, 0, none⟩) 2 2 wx rfl (by have h := (Krw15.out.drew.chg hE id).rd; rwa [← wkFlat] at h) wkPuts).mono ?_
      rintro e w' ⟨rfl, hb⟩
      rw [wkGood]
      exact rel_val (.of_below hb)
    case ao23 =>
      rintro a wx hE hin (h19 : a.eval (.tmp 67) = _) (h22 : a.eval (.tmp 70) = _)
      clear hin
      have hcst : ∀ v, a.eval (.const v) = v := fun _ => rfl
      have hfnc : ∀ f, a.eval (.func f) = .func (.func f) #[] #[] := fun _ => rfl
      refine want_none rfl ?_
      unfold Oper.wp
      generalize a.eval = ρ at *
      go_simp
      try go_bits
      first | exact rel_val (Chg.refl _) | (go_simp; exact rel_val (Chg.refl _))
    case ao24 =>
      rintro a wx hE hin (h23 : a.eval (.tmp 71) = _)
      clear hin
      have hcst : ∀ v, a.eval (.const v) = v := fun _ => rfl
      have hfnc : ∀ f, a.eval (.func f) = .func (.func f) #[] #[] := fun _ => rfl
      refine want_none rfl ?_
      unfold Oper.wp
      generalize a.eval = ρ at *
      go_simp
      try go_bits
      first | exact rel_val (Chg.refl _) | (go_simp; exact rel_val (Chg.refl _))
    case ao25 =>
      rintro a wx hE hin (h24 : a.eval (.tmp 72) = _)
      have i5 : a.eval (.tmp 5) = .pointer (some ⟨gb, 0, none⟩) := hin 5 rfl
      clear hin
      have hcst : ∀ v, a.eval (.const v) = v := fun _ => rfl
      have hfnc : ∀ f, a.eval (.func f) = .func (.func f) #[] #[] := fun _ => rfl
      refine want_yes rfl rfl h24 ?_
      unfold Oper.wp
      generalize a.eval = ρ at *
      go_simp
      try go_bits
      first | exact rel_val (Chg.refl _) | (go_simp; exact rel_val (Chg.refl _))
    case ao26 =>
      rintro a wx hE hin (h24 : a.eval (.tmp 72) = _) (h25 : a.eval (.tmp 73) = _)
      clear hin
      have hcst : ∀ v, a.eval (.const v) = v := fun _ => rfl
      have hfnc : ∀ f, a.eval (.func f) = .func (.func f) #[] #[] := fun _ => rfl
      refine want_yes rfl rfl h24 ?_
      unfold Oper.wp
      generalize a.eval = ρ at *
      have c := Bk.cell (j := 2) (Kbw15.out.drew.chg hE id) rfl
      go_simp
      try go_bits
      first | exact rel_val (Chg.refl _) | (go_simp; exact rel_val (Chg.refl _))
    case ao27 =>
      rintro a wx hE hin (h24 : a.eval (.tmp 72) = _) (h26 : a.eval (.tmp 74) = _)
      clear hin
      have hcst : ∀ v, a.eval (.const v) = v := fun _ => rfl
      have hfnc : ∀ f, a.eval (.func f) = .func (.func f) #[] #[] := fun _ => rfl
      refine want_yes rfl rfl h24 ?_
      unfold Oper.wp
      generalize a.eval = ρ at *
      go_simp
      try go_bits
      first | exact rel_val (Chg.refl _) | (go_simp; exact rel_val (Chg.refl _))
    case ao28 =>
      rintro a wx hE hin (h24 : a.eval (.tmp 72) = _) (h27 : a.eval (.tmp 75) = _)
      clear hin
      have hcst : ∀ v, a.eval (.const v) = v := fun _ => rfl
      have hfnc : ∀ f, a.eval (.func f) = .func (.func f) #[] #[] := fun _ => rfl
      refine want_yes rfl rfl h24 ?_
      exact wp_ld 39 _ rfl gr 0 33 (putC pw5 ++ putC pw0) (putC pw5) h27 (Krw15.out.drew.chg hE id) (by kernel_rfl) (by kernel_rfl) (by decide) rfl (rel_val (Chg.refl _))
    case ao29 =>
      rintro a wx hE hin (h24 : a.eval (.tmp 72) = _)
      have i5 : a.eval (.tmp 5) = .pointer (some ⟨gb, 0, none⟩) := hin 5 rfl
      clear hin
      have hcst : ∀ v, a.eval (.const v) = v := fun _ => rfl
      have hfnc : ∀ f, a.eval (.func f) = .func (.func f) #[] #[] := fun _ => rfl
      refine want_yes rfl rfl h24 ?_
      unfold Oper.wp
      generalize a.eval = ρ at *
      go_simp
      try go_bits
      first | exact rel_val (Chg.refl _) | (go_simp; exact rel_val (Chg.refl _))
    case ao30 =>
      rintro a wx hE hin (h24 : a.eval (.tmp 72) = _) (h29 : a.eval (.tmp 77) = _)
      clear hin
      have hcst : ∀ v, a.eval (.const v) = v := fun _ => rfl
      have hfnc : ∀ f, a.eval (.func f) = .func (.func f) #[] #[] := fun _ => rfl
      refine want_yes rfl rfl h24 ?_
      unfold Oper.wp
      generalize a.eval = ρ at *
      have c := Bk.cell (j := 2) (Kbw15.out.drew.chg hE id) rfl
      go_simp
      try go_bits
      first | exact rel_val (Chg.refl _) | (go_simp; exact rel_val (Chg.refl _))
    case ao31 =>
      rintro a wx hE hin (h24 : a.eval (.tmp 72) = _) (h30 : a.eval (.tmp 78) = _)
      clear hin
      have hcst : ∀ v, a.eval (.const v) = v := fun _ => rfl
      have hfnc : ∀ f, a.eval (.func f) = .func (.func f) #[] #[] := fun _ => rfl
      refine want_yes rfl rfl h24 ?_
      unfold Oper.wp
      generalize a.eval = ρ at *
      go_simp
      try go_bits
      first | exact rel_val (Chg.refl _) | (go_simp; exact rel_val (Chg.refl _))
    case ao32 =>
      rintro a wx hE hin (h24 : a.eval (.tmp 72) = _) (h31 : a.eval (.tmp 79) = _)
      clear hin
      have hcst : ∀ v, a.eval (.const v) = v := fun _ => rfl
      have hfnc : ∀ f, a.eval (.func f) = .func (.func f) #[] #[] := fun _ => rfl
      refine want_yes rfl rfl h24 ?_
      exact wp_ld 39 _ rfl gr 0 33 (putC pw5 ++ putC pw0) (putC pw5) h31 (Krw15.out.drew.chg hE id) (by kernel_rfl) (by kernel_rfl) (by decide) rfl (rel_val (Chg.refl _))
    case ao33 =>
      rintro a wx hE hin (h24 : a.eval (.tmp 72) = _) (h28 : a.eval (.tmp 76) = _) (h32 : a.eval (.tmp 80) = _)
      clear hin
      have hcst : ∀ v, a.eval (.const v) = v := fun _ => rfl
      have hfnc : ∀ f, a.eval (.func f) = .func (.func f) #[] #[] := fun _ => rfl
      refine want_yes rfl rfl h24 ?_
      exact wp_bs2 23 39 _ _ rfl zPut 33 (putC pw5) (putC pw5) Try.underlying23 infoPut rfl (by decide) (by decide) (by rw [h28]; rfl) rfl (by rw [h32]; rfl) rfl (rel_row id)
    case ao34 =>
      rintro a wx hE hin (h24 : a.eval (.tmp 72) = _) ⟨g33, h33, s33, t33, f33, c33⟩
      clear hin
      have hcst : ∀ v, a.eval (.const v) = v := fun _ => rfl
      have hfnc : ∀ f, a.eval (.func f) = .func (.func f) #[] #[] := fun _ => rfl
      refine want_yes rfl rfl h24 ?_
      unfold Oper.wp
      generalize a.eval = ρ at *
      go_simp
      have hrd : Rd wx (some ⟨g33, 0, none⟩) ([pw5, pw5].flatMap putC) := by have h : Rd wx (some ⟨g33, 0, none⟩) (putC pw5 ++ putC pw5) := Rd.row (S := NoS) c33; rwa [← wkFlat2] at h
      refine (good_calls [pw5, pw5] (some ⟨g33, 0, none⟩) 2 2 wx rfl hrd wkPuts2).mono ?_
      rintro e w' ⟨rfl, hb⟩
      rw [wkGood2]
      exact rel_val (.of_below hb)
    case ao35 =>
      rintro a wx hE hin (h24 : a.eval (.tmp 72) = _) (h34 : a.eval (.tmp 82) = _)
      clear hin
      have hcst : ∀ v, a.eval (.const v) = v := fun _ => rfl
      have hfnc : ∀ f, a.eval (.func f) = .func (.func f) #[] #[] := fun _ => rfl
      refine want_yes rfl rfl h24 ?_
      unfold Oper.wp
      generalize a.eval = ρ at *
      go_simp
      try go_bits
      first | exact rel_val (Chg.refl _) | (go_simp; exact rel_val (Chg.refl _))
    case ao36 =>
      rintro a wx hE hin (h24 : a.eval (.tmp 72) = _) (h35 : a.eval (.tmp 83) = _)
      clear hin
      have hcst : ∀ v, a.eval (.const v) = v := fun _ => rfl
      have hfnc : ∀ f, a.eval (.func f) = .func (.func f) #[] #[] := fun _ => rfl
      refine want_none rfl ?_
      unfold Oper.wp
      generalize a.eval = ρ at *
      go_simp
      try go_bits
      first | exact rel_val (Chg.refl _) | (go_simp; exact rel_val (Chg.refl _))
    case ao37 =>
      rintro a wx hE hin (h36 : a.eval (.tmp 84) = _)
      clear hin
      have hcst : ∀ v, a.eval (.const v) = v := fun _ => rfl
      have hfnc : ∀ f, a.eval (.func f) = .func (.func f) #[] #[] := fun _ => rfl
      refine want_none rfl ?_
      unfold Oper.wp
      generalize a.eval = ρ at *
      go_simp
      try go_bits
      first | exact rel_val (Chg.refl _) | (go_simp; exact rel_val (Chg.refl _))
    case ao38 =>
      rintro a wx hE hin (h37 : a.eval (.tmp 85) = _)
      clear hin
      have hcst : ∀ v, a.eval (.const v) = v := fun _ => rfl
      have hfnc : ∀ f, a.eval (.func f) = .func (.func f) #[] #[] := fun _ => rfl
      refine want_yes rfl rfl h37 ?_
      unfold Oper.wp
      generalize a.eval = ρ at *
      go_simp
      refine (good_calls [] none 0 0 wx rfl (Rd.nil _ _) wkPuts3).mono ?_
      rintro e w' ⟨rfl, hb⟩
      rw [wkGood3]
      exact rel_val (.of_below hb)
    case ao39 =>
      rintro a wx hE hin (h37 : a.eval (.tmp 85) = _) (h38 : a.eval (.tmp 86) = _)
      clear hin
      have hcst : ∀ v, a.eval (.const v) = v := fun _ => rfl
      have hfnc : ∀ f, a.eval (.func f) = .func (.func f) #[] #[] := fun _ => rfl
      refine want_yes rfl rfl h37 ?_
      unfold Oper.wp
      generalize a.eval = ρ at *
      go_simp
      try go_bits
      first | exact rel_val (Chg.refl _) | (go_simp; exact rel_val (Chg.refl _))
    case ao40 =>
      rintro a wx hE hin (h37 : a.eval (.tmp 85) = _) (h39 : a.eval (.tmp 87) = _)
      clear hin
      have hcst : ∀ v, a.eval (.const v) = v := fun _ => rfl
      have hfnc : ∀ f, a.eval (.func f) = .func (.func f) #[] #[] := fun _ => rfl
      refine want_none rfl ?_
      unfold Oper.wp
      generalize a.eval = ρ at *
      go_simp
      try go_bits
      first | exact rel_val (Chg.refl _) | (go_simp; exact rel_val (Chg.refl _))
  case afin =>
    intro wx hE
    rintro _ rfl _ rfl _ rfl _ rfl _ rfl _ rfl _ rfl _ rfl _ rfl _ rfl _ rfl _ rfl _ rfl _ rfl _ rfl _ rfl _ rfl _ rfl _ rfl _ rfl _ rfl _ rfl _ rfl _ rfl _ rfl _ rfl _ rfl _ rfl _ rfl _ rfl _ rfl _ rfl _ rfl _ ⟨g33, rfl, s33, t33, f33, c33⟩ _ rfl _ rfl _ rfl _ rfl _ rfl _ rfl _ rfl
    simp only [FinOk, List.take_succ_cons, List.take_zero, List.take_nil, List.drop_succ_cons, List.drop_zero, List.drop_nil, Act.put, List.setIfInBounds_toArray, List.set_cons_succ, List.set_cons_zero]
    have HE : Hid (Below w.heap.size w wx) := Ew15.out.trans ((hE.undrew).below (B := w.heap.size) Ew15.out.size (fun _ _ => id))
    clear hE
    go_wp2
    go_ret
    exact ⟨rfl, HE.out⟩
end Go.Proofs.Ytchcnkobgdbdkaa
