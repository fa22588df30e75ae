
/- Puts, held against each other. -/
import Derived.Test.YtpldcmcldoidaaaPuts
namespace Go.Proofs.Ytpldcmcldoidaaa
open Go.RowKit
set_option linter.unusedVariables false
set_option linter.unusedSimpArgs false

/-- Structs are alike as their fields are. -/
theorem run_equalIn_parts {P : Program} {w : World} (d : Nat) (t : TypeId) (fs : Array Field) (ht : P.underlying t = some (.struct fs)) (hst : P.stoodInHeld t = false) (xs ys : List Value) (R : Field → Bool)
    (hf : ∀ f ∈ fs.toList, f.name ≠ "_" ∧ ∃ a b, (part f.type xs.toArray f.offset).run P w = .ok a w ∧ (part f.type ys.toArray f.offset).run P w = .ok b w ∧ (Op.equalIn (d + 2) f.type a b).run P w = .ok (R f) w) :
    (Op.equalIn (d + 3) t (.agg xs.toArray) (.agg ys.toArray)).run P w = .ok (fs.toList.all R) w := by
  have loop : ∀ (L : List Field), (∀ f ∈ L, f ∈ fs.toList) → (forIn L ((none : Option Bool), ()) fun (f : Field) __s =>
        if f.name ≠ "_" then do
          let a ← part f.type xs.toArray f.offset
          let b ← part f.type ys.toArray f.offset
          let r ← Op.equalIn (d + 2) f.type a b
          if (!r) = true then pure (ForInStep.done (some false, ())) else pure (ForInStep.yield (none, ()))
        else pure (ForInStep.yield (none, ()))).run P w =
      .ok (if L.all R = true then (none, ()) else (some false, ())) w := by
    intro L
    induction L with
    | nil => intro _; simp
    | cons f L ih =>
      intro hL
      obtain ⟨hn, a, b, hx, hy, key⟩ := hf f (hL f List.mem_cons_self)
      rw [List.forIn_cons, if_pos hn]
      simp only [Sem.run_bind, hx, hy, key, Result.andThen_ok]
      cases hab : R f with
      | true =>
        simp only [Bool.not_true, Bool.false_eq_true, if_false, Sem.run_pure, Result.andThen_ok]
        rw [ih (fun g hg => hL g (List.mem_cons_of_mem _ hg))]
        simp [hab]
      | false =>
        simp only [Bool.not_false, if_true, Sem.run_pure, Result.andThen_ok]
        simp [hab]
  rw [Op.equalIn.eq_def]
  simp only [Sem.run_bind, run_underlying ht, Result.andThen_ok, run_program, hst, Sem.run_pure]
  rw [if_neg (by decide), ← Array.forIn_toList, Sem.run_bind, loop fs.toList (fun f h => h)]
  cases h : fs.toList.all R <;> simp
theorem run_part_arr {P : Program} {w : World} {t e n : Nat} {x : Value} {l : List UInt8} (ht : P.underlying t = some (.array n e)) (hsz : (P.info? t).map (·.size) = some n) (hl : l.length = n) : (part t (x :: bts l).toArray 1).run P w = .ok (.agg (bts l).toArray) w := by
  obtain ⟨i0, hi, hs⟩ := Option.map_eq_some_iff.1 hsz
  simp [part, isAgg, run_underlying ht, sizeOf, typeInfo, hi, hs, Sem.run_bind, hl]
  rw [List.take_of_length_le (by rw [bts_length, hl]; exact Nat.le_refl _)]
theorem putV_eq {p q : PutV} : (p.at_ = q.at_ ∧ p.data = q.data) ↔ p = q := by
  cases p
  cases q
  simp
instance : DecidableEq PutV := fun p q => decidable_of_iff _ (putV_eq (p := p) (q := q))
/-- Two puts are alike. -/
theorem run_eq_put {w : World} (d : Nat) (p q : PutV) (hp : p.data.length = 32) (hq : q.data.length = 32) : (Op.equalIn (d + 3) 48 (.agg (putC p).toArray) (.agg (putC q).toArray)).run Try.prog w = .ok (decide (p = q)) w := by
  rw [run_equalIn_parts (P := Try.prog) d 48 _ Try.underlying48 (by kernel_rfl) (putC p) (putC q) (fun f => if f.offset = 0 then decide (p.at_ = q.at_) else decide (p.data = q.data)) ?_]
  · congr 1
    rw [Bool.eq_iff_iff, decide_eq_true_iff, ← putV_eq]
    constructor
    · intro h
      simp only [List.all_cons, List.all_nil, Bool.and_true, Bool.and_eq_true] at h
      obtain ⟨h0, h1⟩ := h
      have g0 : decide (p.at_ = q.at_) = true := h0
      have g1 : decide (p.data = q.data) = true := h1
      exact ⟨of_decide_eq_true g0, of_decide_eq_true g1⟩
    · rintro ⟨h0, h1⟩
      simp [h0, h1]
  · intro f hf
    simp only [List.mem_cons, List.not_mem_nil, or_false] at hf
    rcases hf with rfl | rfl
    · refine ⟨by decide, .int .i64 p.at_, .int .i64 q.at_, run_part_int Try.underlying3 _ _ _ rfl, run_part_int Try.underlying3 _ _ _ rfl, ?_⟩
      show (Op.equalIn (d + 2) 3 (.int .i64 p.at_) (.int .i64 q.at_)).run Try.prog w = .ok (decide (p.at_ = q.at_)) w
      simp [Op.equalIn, run_underlying (P := Try.prog) Try.underlying3]
      rfl
    · refine ⟨by decide, .agg (bts p.data).toArray, .agg (bts q.data).toArray, run_part_arr Try.underlying46 (by kernel_rfl) hp, run_part_arr Try.underlying46 (by kernel_rfl) hq, ?_⟩
      exact run_eq_bytes d 46 5 32 Try.underlying46 Try.underlying5 (by kernel_rfl) p.data q.data hp hq
/-- '==' and '!=' of puts as an operation. -/
theorem wp_eq_put {w : World} {o : Oper} {a : Act} {K : Act → World → Prop} {Q : Exit → Act → World → Prop} (neg : Bool) (ty : TypeId) (x y : Operand) (ho : o.op = .binOp (if neg then .neq else .eql) 48 x y ty)
    (k l : PutV) (hk : k.data.length = 32) (hl : l.data.length = 32) (hx : a.eval x = .agg (putC k).toArray) (hy : a.eval y = .agg (putC l).toArray)
    (h : K (a.put o.dst (.bool (neg ^^ decide (k = l)))) w) : o.wp Try.prog a w K Q := by
  have hm : Try.prog.eqGuardType Try.prog.depth 48 = false := by kernel_rfl
  have h1 : (binOp .eql 48 (.agg (putC k).toArray) (.agg (putC l).toArray)).run Try.prog w = .ok (.bool (decide (k = l))) w := by
    rw [run_eql_struct, run_eq_put 9997 k l hk hl]
    rfl
  have h2 : (binOp .neq 48 (.agg (putC k).toArray) (.agg (putC l).toArray)).run Try.prog w = .ok (.bool (!decide (k = l))) w := by
    rw [run_neq_struct, run_eq_put 9997 k l hk hl]
    rfl
  unfold Oper.wp execOp
  cases neg
  · simp only [ho, Bool.false_eq_true, if_false, hx, hy, Sem.run_bind, run_eqGuard_agg w _ _ _ _ _ _ hm, Result.andThen_ok, h1, Sem.run_pure]
    rw [Oper.upon_value]
    simpa using h
  · simp only [ho, if_true, hx, hy, Sem.run_bind, run_eqGuard_agg w _ _ _ _ _ _ hm, Result.andThen_ok, h2, Sem.run_pure]
    rw [Oper.upon_value]
    simpa using h
end Go.Proofs.Ytpldcmcldoidaaa
