/- Labels, held against each other. -/
import Derived.Test.YtnpcehlbboeadaaLabBits
namespace Go.Proofs.Ytnpcehlbboeadaa
open Go.RowKit
set_option linter.unusedVariables false
set_option linter.unusedSimpArgs false

theorem run_equalIn_struct {P : Program} {w : World} (d : Nat) (t : TypeId) (fs : Array Field) (ht : P.underlying t = some (.struct fs)) (hst : P.stoodInHeld t = false) (xs ys : List Value) (R : Field → Bool)
    (hf : ∀ f ∈ fs.toList, f.name ≠ "_" ∧ ∃ k a b, P.underlying f.type = some (.int k) ∧ xs[f.offset]? = some (.int k a) ∧ ys[f.offset]? = some (.int k b) ∧ R f = (a == b)) :
    (Op.equalIn (d + 2) t (.agg xs.toArray) (.agg ys.toArray)).run P w = .ok (fs.toList.all R) w := by
  have loop : ∀ (L : List Field), (∀ f ∈ L, f ∈ fs.toList) → (forIn L ((none : Option Bool), ()) fun (f : Field) __s =>
        if f.name ≠ "_" then do
          let a ← part f.type xs.toArray f.offset
          let b ← part f.type ys.toArray f.offset
          let r ← Op.equalIn (d + 1) f.type a b
          if (!r) = true then pure (ForInStep.done (some false, ())) else pure (ForInStep.yield (none, ()))
        else pure (ForInStep.yield (none, ()))).run P w =
      .ok (if L.all R = true then (none, ()) else (some false, ())) w := by
    intro L
    induction L with
    | nil => intro _; simp
    | cons f L ih =>
      intro hL
      obtain ⟨hn, k, a, b, hu, hx, hy, hR⟩ := hf f (hL f List.mem_cons_self)
      have key : (Op.equalIn (d + 1) f.type (.int k a) (.int k b)).run P w = .ok (a == b) w := by simp [Op.equalIn, run_underlying hu]
      have hx' : xs.toArray[f.offset]? = some (.int k a) := by simpa using hx
      have hy' : ys.toArray[f.offset]? = some (.int k b) := by simpa using hy
      rw [List.forIn_cons, if_pos hn]
      simp only [Sem.run_bind, run_part_int hu _ _ _ hx', run_part_int hu _ _ _ hy', key, Result.andThen_ok]
      cases hab : (a == b) with
      | true =>
        simp only [Bool.not_true, Bool.false_eq_true, if_false, Sem.run_pure, Result.andThen_ok]
        rw [ih (fun g hg => hL g (List.mem_cons_of_mem _ hg))]
        simp [hR, hab]
      | false =>
        simp only [Bool.not_false, if_true, Sem.run_pure, Result.andThen_ok]
        simp [hR, hab]
  rw [Op.equalIn.eq_def]
  simp only [Sem.run_bind, run_underlying ht, Result.andThen_ok, run_program, hst, Sem.run_pure]
  rw [if_neg (by decide), ← Array.forIn_toList, Sem.run_bind, loop fs.toList (fun f h => h)]
  cases h : fs.toList.all R <;> simp
/-- Two labels are alike. -/
theorem run_eq_lab {w : World} (d : Nat) (k l : Lab) : (Op.equalIn (d + 2) 63 (.agg (labC k).toArray) (.agg (labC l).toArray)).run Try.prog w = .ok (decide (k = l)) w := by
  rw [run_equalIn_struct (P := Try.prog) d 63 _ Try.underlying63 (by kernel_rfl) (labC k) (labC l) (fun f =>
    if f.offset = 0 then ((k.e.toNat : Int) == (l.e.toNat : Int)) else if f.offset = 1 then ((k.s.toNat : Int) == (l.s.toNat : Int)) else if f.offset = 2 then ((k.n.toNat : Int) == (l.n.toNat : Int)) else if f.offset = 3 then ((k.d.toNat : Int) == (l.d.toNat : Int)) else ((k.la.toNat : Int) == (l.la.toNat : Int))) ?_]
  · congr 1
    rw [Bool.eq_iff_iff, decide_eq_true_iff]
    constructor
    · intro h
      simp only [List.all_cons, List.all_nil, Bool.and_true, Bool.and_eq_true] at h
      obtain ⟨h0, h1, h2, h3, h4⟩ := h
      have g0 : ((k.e.toNat : Int) == (l.e.toNat : Int)) = true := h0
      have g1 : ((k.s.toNat : Int) == (l.s.toNat : Int)) = true := h1
      have g2 : ((k.n.toNat : Int) == (l.n.toNat : Int)) = true := h2
      have g3 : ((k.d.toNat : Int) == (l.d.toNat : Int)) = true := h3
      have g4 : ((k.la.toNat : Int) == (l.la.toNat : Int)) = true := h4
      rw [beq_iff_eq] at g0 g1 g2 g3 g4
      have e0 := UInt32.toNat_inj.1 (show k.e.toNat = l.e.toNat by omega)
      have e1 := UInt32.toNat_inj.1 (show k.s.toNat = l.s.toNat by omega)
      have e2 := UInt32.toNat_inj.1 (show k.n.toNat = l.n.toNat by omega)
      have e3 := UInt16.toNat_inj.1 (show k.d.toNat = l.d.toNat by omega)
      have e4 := UInt16.toNat_inj.1 (show k.la.toNat = l.la.toNat by omega)
      cases k
      cases l
      simp_all
    · rintro rfl
      simp
  · intro f hf
    simp only [List.mem_cons, List.not_mem_nil, or_false] at hf
    rcases hf with rfl | rfl | rfl | rfl | rfl
    · exact ⟨by decide, .u32, _, _, Try.underlying60, rfl, rfl, rfl⟩
    · exact ⟨by decide, .u32, _, _, Try.underlying60, rfl, rfl, rfl⟩
    · exact ⟨by decide, .u32, _, _, Try.underlying60, rfl, rfl, rfl⟩
    · exact ⟨by decide, .u16, _, _, Try.underlying61, rfl, rfl, rfl⟩
    · exact ⟨by decide, .u16, _, _, Try.underlying61, rfl, rfl, rfl⟩
/-- '==' and '!=' of labels as an operation. -/
theorem wp_eq_lab {w : World} {o : Oper} {a : Act} {K : Act → World → Prop} {Q : Exit → Act → World → Prop} (neg : Bool) (ty : TypeId) (x y : Operand) (ho : o.op = .binOp (if neg then .neq else .eql) 63 x y ty)
    (k l : Lab) (hx : a.eval x = .agg (labC k).toArray) (hy : a.eval y = .agg (labC l).toArray)
    (h : K (a.put o.dst (.bool (neg ^^ decide (k = l)))) w) : o.wp Try.prog a w K Q := by
  have hm : Try.prog.eqGuardType Try.prog.depth 63 = false := by kernel_rfl
  have h1 : (binOp .eql 63 (.agg (labC k).toArray) (.agg (labC l).toArray)).run Try.prog w = .ok (.bool (decide (k = l))) w := by
    rw [run_eql_struct, run_eq_lab 9998]
    rfl
  have h2 : (binOp .neq 63 (.agg (labC k).toArray) (.agg (labC l).toArray)).run Try.prog w = .ok (.bool (!decide (k = l))) w := by
    rw [run_neq_struct, run_eq_lab 9998]
    rfl
  unfold Oper.wp execOp
  cases neg
  · simp only [ho, Bool.false_eq_true, if_false, hx, hy, Sem.run_bind, run_eqGuard_agg w _ _ _ _ _ _ hm, Result.andThen_ok, h1, Sem.run_pure]
    rw [Oper.upon_value]
    simpa using h
  · simp only [ho, if_true, hx, hy, Sem.run_bind, run_eqGuard_agg w _ _ _ _ _ _ hm, Result.andThen_ok, h2, Sem.run_pure]
    rw [Oper.upon_value]
    simpa using h
theorem wpList_eq_lab {o : Oper} {a : Act} {w : World} {Q : Exit → Act → World → Prop} {ops : Array Oper} {rest : List Oper} (hw : Region.wanted o (yielded ops a.tmps) = true) (neg : Bool) (ty : TypeId) (x y : Operand) (ho : o.op = .binOp (if neg then .neq else .eql) 63 x y ty)
    (k l : Lab) (hx : a.eval x = .agg (labC k).toArray) (hy : a.eval y = .agg (labC l).toArray) (r : Bool) (hr : (neg ^^ decide (k = l)) = r)
    (h : wpList Try.prog ops Q rest (a.put o.dst (.bool r)) w) : wpList Try.prog ops Q (o :: rest) a w := by
  subst hr
  exact wpl hw fun K hK => wp_eq_lab neg ty x y ho k l hx hy (hK _ _ h)
end Go.Proofs.Ytnpcehlbboeadaa
