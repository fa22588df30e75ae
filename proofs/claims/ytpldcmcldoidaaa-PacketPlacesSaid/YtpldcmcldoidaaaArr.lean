
/- Arrays of numbers, held against each other. -/
import Derived.Test.YtpldcmcldoidaaaMem
namespace Go.Proofs.Ytpldcmcldoidaaa
set_option linter.unusedVariables false
set_option linter.unusedSimpArgs false
open Go.RowKit
def ints (k : IntKind) (xs : List Int) : List Value := xs.map (.int k)
theorem run_part_int {P : Program} {w : World} {e : TypeId} {k : IntKind} (he : P.underlying e = some (.int k)) (cs : Array Value) (i : Nat) (v : Value) (h : cs[i]? = some v) : (part e cs i).run P w = .ok v w := by
  simp [part, isAgg, run_underlying he, h]
theorem run_equalIn_arr {P : Program} {w : World} (d : Nat) (t e n : Nat) (k : IntKind) (ht : P.underlying t = some (.array n e)) (he : P.underlying e = some (.int k)) (hsz : (P.info? e).map (·.size) = some 1) (xs ys : List Int) (hx : xs.length = n) (hy : ys.length = n) :
    (Op.equalIn (d + 2) t (.agg (ints k xs).toArray) (.agg (ints k ys).toArray)).run P w = .ok (decide (xs = ys)) w := by
  obtain ⟨i0, hi, hs⟩ := Option.map_eq_some_iff.1 hsz
  have key : ∀ (i : Nat), i < n → (Op.equalIn (d + 1) e (.int k (xs.getD i 0)) (.int k (ys.getD i 0))).run P w = .ok (xs.getD i 0 == ys.getD i 0) w := by
    intro i _
    simp [Op.equalIn, run_underlying he]
  have hgx : ∀ i, i < n → (ints k xs).toArray[i]? = some (.int k (xs.getD i 0)) := by
    intro i h
    simp [ints, List.getElem?_eq_getElem (show i < xs.length by omega)]
  have hgy : ∀ i, i < n → (ints k ys).toArray[i]? = some (.int k (ys.getD i 0)) := by
    intro i h
    simp [ints, List.getElem?_eq_getElem (show i < ys.length by omega)]
  rw [Op.equalIn.eq_def]
  simp only [Sem.run_bind, run_underlying ht, Result.andThen_ok, sizeOf, typeInfo, hi]
  simp only [hi, Sem.run_pure, Result.andThen_ok, hs, Nat.mul_one]
  simp only [Std.Legacy.Range.forIn_eq_forIn_range', Std.Legacy.Range.size, Nat.sub_zero, Nat.add_sub_cancel, Nat.div_one, Sem.run_bind]
  have loop : ∀ (L : List Nat), (∀ i ∈ L, i < n) → (forIn L ((none : Option Bool), ()) fun i __s => do
        let a ← part e (ints k xs).toArray i
        let b ← part e (ints k ys).toArray i
        let r ← Op.equalIn (d + 1) e a b
        if (!r) = true then pure (ForInStep.done (some false, ())) else pure (ForInStep.yield (none, ()))).run P w =
      .ok (if ∀ i ∈ L, xs.getD i 0 = ys.getD i 0 then (none, ()) else (some false, ())) w := by
    intro L
    induction L with
    | nil => intro _; simp
    | cons i L ih =>
      intro hL
      have hin := hL i List.mem_cons_self
      rw [List.forIn_cons]
      simp only [Sem.run_bind, run_part_int he _ _ _ (hgx i hin), run_part_int he _ _ _ (hgy i hin), key i hin, Result.andThen_ok]
      by_cases h : xs.getD i 0 = ys.getD i 0
      · have hb : (xs.getD i 0 == ys.getD i 0) = true := by rw [h]; simp
        rw [hb]
        simp only [Bool.not_true, Bool.false_eq_true, if_false, Sem.run_pure, Result.andThen_ok]
        rw [ih (fun j hj => hL j (List.mem_cons_of_mem _ hj))]
        simp only [List.mem_cons, forall_eq_or_imp, h, true_and]
      · have hb : (xs.getD i 0 == ys.getD i 0) = false := by simpa using h
        rw [hb]
        simp only [Bool.not_false, if_true, Sem.run_pure, Result.andThen_ok]
        rw [if_neg]
        intro hall
        exact h (hall i List.mem_cons_self)
  simp only [run_program, Result.andThen_ok, hi, Sem.run_pure, hs, Nat.mul_one]
  rw [loop _ (by intro i hi'; rw [List.mem_range'] at hi'; obtain ⟨j, h1, h2⟩ := hi'; omega)]
  have hiff : (∀ i ∈ List.range' 0 n, xs.getD i 0 = ys.getD i 0) ↔ xs = ys := by
    constructor
    · intro h
      apply List.ext_getElem (by omega)
      intro i h1 h2
      have := h i (by rw [List.mem_range']; exact ⟨i, by omega, by omega⟩)
      simpa [List.getElem?_eq_getElem h1, List.getElem?_eq_getElem h2] using this
    · rintro rfl i _; rfl
  by_cases h : xs = ys
  · rw [if_pos (hiff.2 h)]
    simp [h]
  · rw [if_neg (fun h' => h (hiff.1 h'))]
    simp [h]
theorem bts_ints (l : List UInt8) : bts l = ints .u8 (l.map fun x => (x.toNat : Int)) := by simp [bts, ints]
theorem nat_inj {xs ys : List UInt8} : xs.map (fun x => (x.toNat : Int)) = ys.map (fun x => (x.toNat : Int)) ↔ xs = ys := by
  constructor
  · intro h
    refine (List.map_inj_right ?_).1 h
    intro a b hab
    exact UInt8.toNat_inj.1 (by omega)
  · rintro rfl; rfl
/-- Arrays of bytes are alike. -/
theorem run_eq_bytes {P : Program} {w : World} (d : Nat) (t e n : Nat) (ht : P.underlying t = some (.array n e)) (he : P.underlying e = some (.int .u8)) (hsz : (P.info? e).map (·.size) = some 1) (xs ys : List UInt8) (hx : xs.length = n) (hy : ys.length = n) :
    (Op.equalIn (d + 2) t (.agg (bts xs).toArray) (.agg (bts ys).toArray)).run P w = .ok (decide (xs = ys)) w := by
  rw [bts_ints, bts_ints, run_equalIn_arr d t e n .u8 ht he hsz _ _ (by simpa using hx) (by simpa using hy)]
  congr 1
  rw [decide_eq_decide]
  exact nat_inj
theorem bin_eq_bytes {P : Program} {w : World} (t e n : Nat) (ht : P.underlying t = some (.array n e)) (he : P.underlying e = some (.int .u8)) (hsz : (P.info? e).map (·.size) = some 1) (xs ys : List UInt8) (hx : xs.length = n) (hy : ys.length = n) :
    (binOp .eql t (.agg (bts xs).toArray) (.agg (bts ys).toArray)).run P w = .ok (.bool (decide (xs = ys))) w ∧ (binOp .neq t (.agg (bts xs).toArray) (.agg (bts ys).toArray)).run P w = .ok (.bool (!decide (xs = ys))) w := by
  rw [run_eql_struct, run_neq_struct, run_eq_bytes 9998 t e n ht he hsz xs ys hx hy]
  exact ⟨rfl, rfl⟩
/-- '==' and '!=' of arrays of bytes as an operation. -/
theorem wp_eq_bytes {P : Program} {w : World} {o : Oper} {a : Act} {K : Act → World → Prop} {Q : Exit → Act → World → Prop} (neg : Bool) (t ty : TypeId) (x y : Operand) (ho : o.op = .binOp (if neg then .neq else .eql) t x y ty)
    (e n : Nat) (ht : P.underlying t = some (.array n e)) (he : P.underlying e = some (.int .u8)) (hsz : (P.info? e).map (·.size) = some 1) (hm : P.eqGuardType P.depth t = false) (xs ys : List UInt8)
    (hx : a.eval x = .agg (bts xs).toArray) (hy : a.eval y = .agg (bts ys).toArray) (hlx : xs.length = n) (hly : ys.length = n)
    (h : K (a.put o.dst (.bool (neg ^^ decide (xs = ys)))) w) : o.wp P a w K Q := by
  obtain ⟨h1, h2⟩ := bin_eq_bytes (w := w) t e n ht he hsz xs ys hlx hly
  unfold Oper.wp execOp
  cases neg
  · simp only [ho, Bool.false_eq_true, if_false, hx, hy, Sem.run_bind, run_eqGuard_agg w _ _ _ _ _ _ hm, Result.andThen_ok, h1, Sem.run_pure]
    rw [Oper.upon_value]
    simpa using h
  · simp only [ho, if_true, hx, hy, Sem.run_bind, run_eqGuard_agg w _ _ _ _ _ _ hm, Result.andThen_ok, h2, Sem.run_pure]
    rw [Oper.upon_value]
    simpa using h
end Go.Proofs.Ytpldcmcldoidaaa
