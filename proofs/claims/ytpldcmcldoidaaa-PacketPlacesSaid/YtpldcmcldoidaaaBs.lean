
/- A slice of one element of many cells, built. -/
import Derived.Test.YtpldcmcldoidaaaBlk
namespace Go.Proofs.Ytpldcmcldoidaaa
open Go.RowKit
set_option linter.unusedVariables false
set_option linter.unusedSimpArgs false

theorem run_bs1 {P : Program} (w : World) (t elem : TypeId) (z : Value) (n : Nat) (v : Value) (us : List Value) (hu : P.underlying t = some (.slice elem)) (hinfo : (P.info? elem).map (fun i => (i.zero, i.size)) = some (some z, n))
    (hz : z.cells.size = n) (hn : 0 < n) (hn2 : n ≤ 1000) (hx : v.cells.toList = us) (hl : us.length = n) :
    (Instr.buildSlice t 1 #[(0, v)]).run P w = .ok (.slice (some ⟨w.heap.size, 0, none⟩) 1 1) (w.alloc (.cells us.toArray elem)) := by
  obtain ⟨i0, hi, hzz⟩ := Option.map_eq_some_iff.1 hinfo
  simp only [Prod.mk.injEq] at hzz
  obtain ⟨hz0, hz1⟩ := hzz
  have hbig : ¬ (1 * n > 2 ^ 24) := by omega
  have hne : ¬ (1 * n = 0) := by omega
  obtain ⟨zs, hzs⟩ : ∃ zs : List Value, zs.toArray = (Array.range (1 * n)).map (z.cells[· % z.cells.size]!) := ⟨_, Array.toArray_toList⟩
  have hzl : zs.length = n := by
    have := congrArg Array.size hzs
    simpa using this
  have hf : Instr.fill (fun i => some (i * n, n)) zs.toArray [(0, v)] = some us.toArray := by
    rw [fill_step (place := fun i => some (i * n, n)) (off := 0) hx (by simp [hl]) (by omega), Instr.fill, splice_whole zs us (by omega)]
  rw [hzs] at hf
  simp only [Instr.buildSlice, Sem.run_bind, run_underlying hu, Result.andThen_ok, sizeOf, typeInfo, run_program, hi, Sem.run_pure, hz1, if_neg hbig, if_neg hne, zeroValue, hz0, hf]
  simp [newRow]
theorem wp_bs1 {P : Program} {o : Oper} {a : Act} {w : World} {K : Act → World → Prop} {Q : Exit → Act → World → Prop} (t elem : TypeId) (x : Operand) (ho : o.op = .buildSlice t 1 #[(0, x)]) (z : Value) (n : Nat) (us : List Value) (hu : P.underlying t = some (.slice elem)) (hinfo : (P.info? elem).map (fun i => (i.zero, i.size)) = some (some z, n))
    (hz : z.cells.size = n) (hn : 0 < n) (hn2 : n ≤ 1000) (hx : (a.eval x).cells.toList = us) (hl : us.length = n)
    (h : K (a.put o.dst (.slice (some ⟨w.heap.size, 0, none⟩) 1 1)) (w.alloc (.cells us.toArray elem))) : o.wp P a w K Q := by
  unfold Oper.wp execOp
  simp only [ho, Sem.run_bind, List.map_toArray, List.map_cons, List.map_nil, run_bs1 w t elem z n _ us hu hinfo hz hn hn2 hx hl, Result.andThen_ok]
  exact h
end Go.Proofs.Ytpldcmcldoidaaa
