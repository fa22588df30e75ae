
/- Puts: a row of structs of a number and a block; how it is read; append([]T{}, x...) of it. -/
import Derived.Test.YtpldcmcldoidaaaProg
import Derived.Test.YtpldcmcldoidaaaDiskPure
import Derived.Test.YtpldcmcldoidaaaBs
import Derived.Test.YtpldcmcldoidaaaOpen
import Derived.ArgAppend
namespace Go.Proofs.Ytpldcmcldoidaaa
open Go.ChangeShapes Go.WideShapes Go.RowKit Go.Deep
set_option linter.unusedVariables false
set_option linter.unusedSimpArgs false

section
variable {P : Program} {o : Oper} {a : Act} {w : World} {Q : Exit → Act → World → Prop} {ops : Array Oper} {rest : List Oper}
theorem run_loadVar_rd2 (w : World) (ty : TypeId) (ad : Addr) (vs : List Value) (hr : Rd w (some ad) vs) (hagg : (match P.underlying ty with | some (.struct _) | some (.array _ _) => true | _ => false) = true) (hsz : (P.info? ty).map (·.size) = some vs.length) :
    (loadVar ty ad).run P w = .ok (.agg vs.toArray) w := by
  obtain ⟨i0, hi, hs⟩ := Option.map_eq_some_iff.1 hsz
  have hl : (loadCells ad vs.length).run P w = .ok vs.toArray w :=
    run_loadCells_list (P := P) w ad vs (fun j v hv => by
      obtain ⟨ad', e, hc⟩ := hr j v hv
      injection e with e
      subst e
      exact hc)
  have hag : (isAgg ty).run P w = .ok true w := by
    unfold isAgg
    cases hu : P.underlying ty with
    | none => simp [hu] at hagg
    | some d =>
      rw [Sem.run_bind, run_underlying hu w]
      cases d <;> simp_all
  simp [loadVar, Sem.run_bind, hag, sizeOf, typeInfo, hi, hs, hl]
/-- A struct is read where it may be read. -/
theorem wpList_ldr2 (hw : Region.wanted o (yielded ops a.tmps) = true) (ty : TypeId) (x : Operand) (ho : o.op = .load ty x) (ad : Addr) (n : Nat) (vs : List Value) (hx : a.eval x = .pointer (some ad)) (hr : Rd w (some ad) vs)
    (hagg : (match P.underlying ty with | some (.struct _) | some (.array _ _) => true | _ => false) = true) (hsz : (P.info? ty).map (·.size) = some n) (hn : vs.length = n)
    (h : wpList P ops Q rest (a.put o.dst (.agg vs.toArray)) w) : wpList P ops Q (o :: rest) a w := by
  subst hn
  refine wpl hw fun K hK => ?_
  unfold Oper.wp execOp
  simp only [ho, hx, Instr.loadAt, Instr.sureAddr, Sem.run_bind, Sem.run_pure, Result.andThen_ok, run_loadVar_rd2 w ty ad vs hr hagg hsz]
  exact hK _ _ h
end
/-- A put: its block's number and 32 bytes. -/
structure PutV where
  at_ : Int
  data : List UInt8
def putC (p : PutV) : List Value := .int .i64 p.at_ :: bts p.data
theorem putC_len {p : PutV} (h : p.data.length = 32) : (putC p).length = 33 := by simp [putC, h]
def PutsOk (ps : List PutV) : Prop := ∀ p ∈ ps, p.data.length = 32 ∧ -9223372036854775808 ≤ p.at_ ∧ p.at_ ≤ 9223372036854775807
theorem put_rd {w : World} {ad : Addr} {ps : List PutV} (hr : Rd w (some ad) (ps.flatMap putC)) (ho : PutsOk ps) {k : Nat} (hk : k < ps.length) : Rd w (some (ad.add (k * 33))) (putC ps[k]) := by
  have h := (hr.drop (k * 33)).take 33
  rwa [flat_piece putC 33 ps k ps[k] (fun p hp => putC_len (ho p hp).1) (List.getElem?_eq_getElem hk)] at h
theorem one_put (p : PutV) : ∀ u ∈ putC p, u.oneCell' = true := by
  intro u hu
  rcases List.mem_cons.1 hu with rfl | hu
  · rfl
  · exact one_bts _ u hu
theorem puts_some {w : World} {A : Option Addr} {ps : List PutV} (hr : Rd w A (ps.flatMap putC)) {k : Nat} (hk : k < ps.length) : ∃ ad, A = some ad := by
  obtain ⟨ad, h, _⟩ := hr.at_ 0 (by
    cases ps with
    | nil => exact absurd hk (Nat.not_lt_zero _)
    | cons p ps => simp [putC])
  exact ⟨ad, h⟩
theorem put_at {w : World} {ad : Addr} {ps : List PutV} (hr : Rd w (some ad) (ps.flatMap putC)) (ho : PutsOk ps) {k : Nat} (hk : k < ps.length) : w.cell? (ad.add (k * 33)) = some (.int .i64 ps[k].at_) := by
  obtain ⟨ad', e, hc⟩ := put_rd hr ho hk 0 _ rfl
  injection e with e
  subst e
  simpa [Addr.add] using hc
/-- append onto an empty slice without capacity. -/
theorem run_append_empty {P : Program} (w : World) (t ty e : TypeId) (z : Value) (size bytes : Nat) (ht : P.underlying t = some (.slice e)) (hinfo : (P.info? e).map (fun i => (i.zero, i.size, i.bytes)) = some (some z, size, bytes))
    (hzs : z.cells.size = size) (hsz : 0 < size) (hby : 0 < bytes) (b : Addr) (A : Option Addr) (m c : Nat) (ys : List Value) (hl : ys.length = m * size) (HR : Rd w A ys) (hbytes : m * bytes ≤ 140737488355328) :
    ∃ A1 c1 w', (Builtin.append_ #[t, t] ty #[.slice (some b) 0 0, .slice A m c]).run P w = .ok (.slice A1 m c1) w' ∧ Rd w' A1 ys ∧ Chg NoS w w' := by
  obtain ⟨i0, hi, hzz⟩ := Option.map_eq_some_iff.1 hinfo
  simp only [Prod.mk.injEq] at hzz
  obtain ⟨hz0, hz1, hz2⟩ := hzz
  rcases Nat.eq_zero_or_pos m with h0 | h0
  · subst h0
    have hy : ys = [] := List.eq_nil_of_length_eq_zero (by omega)
    subst hy
    refine ⟨some b, 0, w, ?_, Rd.nil _ _, Chg.refl w⟩
    cases A with
    | none => simp [Builtin.append_, run_underlying ht, sizeOf, typeInfo, hi, Builtin.lenOf, Builtin.firstCells, storeCells]
    | some ad =>
      have hl0 := run_loadCells_list (P := P) w ad [] (fun j v h => by simp at h)
      simp only [List.length_nil] at hl0
      simp [Builtin.append_, run_underlying ht, sizeOf, typeInfo, hi, Builtin.lenOf, Builtin.firstCells, storeCells, hl0]
  · obtain ⟨ad, rfl, _⟩ := HR.at_ 0 (by rw [hl]; exact Nat.mul_pos h0 hsz)
    have hm : m ≤ 140737488355328 := Nat.le_trans (Nat.le_mul_of_pos_right _ hby) hbytes
    obtain ⟨v', w', hr, ho, hg⟩ := run_append_arg_grows (P := P) w t ty e i0 z size bytes ht hi hz0 hz1 hz2 hzs hsz b 0 0 [] (by simp) (fun j u h => by simp at h) ad m c ys hl
      (fun j u hu => by obtain ⟨ad', e', hc⟩ := HR j u hu; injection e' with e'; subst e'; exact hc) (by omega) (by simp only [maxLen]; omega) (by simpa using hbytes)
    rw [Nat.zero_add, List.nil_append] at ho
    obtain ⟨A1, c1, rfl, hrd, _, _⟩ := own_rd ho
    exact ⟨A1, c1, w', hr, hrd, ⟨hg.os, hg.tape, hg.output, hg.size, fun k hk _ => hg.block k hk (fun h => by cases h)⟩⟩
theorem wp_append_empty {P : Program} {o : Oper} {a : Act} {w : World} {K : Act → World → Prop} {Q : Exit → Act → World → Prop} (s x : Operand) (t : TypeId) (ho : o.op = .call { callee := .builtin .append, args := #[s, x], argTypes := #[t, t] }) (e : TypeId) (z : Value) (size bytes : Nat) (ht : P.underlying t = some (.slice e)) (hinfo : (P.info? e).map (fun i => (i.zero, i.size, i.bytes)) = some (some z, size, bytes))
    (hzs : z.cells.size = size) (hsz : 0 < size) (hby : 0 < bytes) (b : Addr) (hs : a.eval s = .slice (some b) 0 0) (A : Option Addr) (m c : Nat) (ys : List Value) (hx : a.eval x = .slice A m c) (hl : ys.length = m * size) (HR : Rd w A ys) (hbytes : m * bytes ≤ 140737488355328)
    (h : ∀ A1 c1 w', Rd w' A1 ys → Chg NoS w w' → K (a.put o.dst (.slice A1 m c1)) w') : o.wp P a w K Q := by
  obtain ⟨A1, c1, w', hr, h1, h2⟩ := run_append_empty (P := P) w t o.type e z size bytes ht hinfo hzs hsz hby b A m c ys hl HR hbytes
  unfold Oper.wp execOp
  simp only [ho, resolve, invoke, builtin, Sem.run_bind, Sem.run_pure, Result.andThen_ok, List.map_toArray, List.map_cons, List.map_nil, hs, hx, hr]
  exact h A1 c1 w' h1 h2
section
variable {H : Type} {enc : TypeId × Value → H} {W : World}
theorem cInt : Try.prog.cellsOf 3 = 1 := by kernel_rfl
theorem cU8 : Try.prog.cellsOf 5 = 1 := by kernel_rfl
theorem cBlk : Try.prog.cellsOf 46 = 32 := by kernel_rfl
theorem cPut : Try.prog.cellsOf 48 = 33 := by kernel_rfl
set_option maxRecDepth 100000 in
theorem TC.put {cs : List Value} (h : TC enc Try.prog W 48 cs) : ∃ p, cs = putC p ∧ p.data.length = 32 ∧ -9223372036854775808 ≤ p.at_ ∧ p.at_ ≤ 9223372036854775807 := by
  obtain ⟨hl, hf⟩ := h.struct Try.underlying48
  rw [cPut] at hl
  match cs, hl with
  | a :: cs, hl =>
    have f0 : TC enc Try.prog W 3 (((a :: cs).drop 0).take (Try.prog.cellsOf 3)) := hf 0 _ rfl
    have f1 : TC enc Try.prog W 46 (((a :: cs).drop 1).take (Try.prog.cellsOf 46)) := hf 1 _ rfl
    rw [cInt] at f0
    rw [cBlk, List.drop_succ_cons, List.drop_zero, List.take_of_length_le (by simp at hl; omega)] at f1
    obtain ⟨x0, h0, b0⟩ := f0.int Try.underlying3
    obtain ⟨l1, hl1, h1⟩ := f1.arr_bytes Try.underlying46 Try.underlying5 cU8 cBlk
    have B0 := Go.bounds_i64 b0
    simp at h0
    exact ⟨⟨x0, l1⟩, by rw [putC, h0, h1], hl1, B0.1, B0.2⟩
theorem puts_of : ∀ (n : Nat) (vs : List Value), vs.length = n * 33 → (∀ i, i < n → TC enc Try.prog W 48 ((vs.drop (i * 33)).take 33)) → ∃ ps : List PutV, ps.length = n ∧ vs = ps.flatMap putC ∧ PutsOk ps
  | 0, vs, hl, _ => ⟨[], rfl, List.eq_nil_of_length_eq_zero (by omega), fun s hs => by cases hs⟩
  | n + 1, vs, hl, h => by
    obtain ⟨p, hp, hok⟩ := (h 0 (by omega)).put
    obtain ⟨ps, h1, h2, h3⟩ := puts_of n (vs.drop 33) (by rw [List.length_drop]; omega) (fun i hi => by
      have := h (i + 1) (by omega)
      rwa [show (i + 1) * 33 = 33 + i * 33 by omega, ← List.drop_drop] at this)
    refine ⟨p :: ps, by simp [h1], ?_, ?_⟩
    · rw [List.flatMap_cons, ← h2, ← hp, Nat.zero_mul, List.drop_zero, List.take_append_drop]
    · intro x hx
      rcases List.mem_cons.1 hx with rfl | hx
      · exact hok
      · exact h3 x hx
theorem TC.puts {cs : List Value} (h : TC enc Try.prog W 23 cs) :
    ∃ (A : Option Addr) (n cap : Nat) (ps : List PutV), cs = [.slice A n cap] ∧ ps.length = n ∧ n ≤ cap ∧ cap ≤ 9223372036854775807 ∧ Rd W A (ps.flatMap putC) ∧ PutsOk ps := by
  obtain ⟨A, n, cap, vs, h0, h1, h2, h3, h4, h5⟩ := h.slice Try.underlying23
  rw [cPut] at h3 h5
  obtain ⟨ps, hl, rfl, hk⟩ := puts_of n vs h3 h5
  exact ⟨A, n, cap, ps, h0, hl, h1, h2, h4, hk⟩
end
def zPut : Value := .agg (.int .i64 0 :: bts (List.replicate 32 0)).toArray
theorem infoPut : (Try.prog.info? 48).map (fun i => (i.zero, i.size)) = some (some zPut, 33) := by kernel_rfl
end Go.Proofs.Ytpldcmcldoidaaa
