/- How labels, numbers and puts are read. -/
import Derived.Test.YtnpcehlbboeadaaWakes7
import Derived.Test.YtnpcehlbboeadaaOpen
namespace Go.Proofs.Ytnpcehlbboeadaa
open Go.ChangeShapes Go.WideShapes Go.RowKit Go.Deep
set_option linter.unusedVariables false
set_option linter.unusedSimpArgs false

section
variable {H : Type} {enc : TypeId × Value → H} {P : Program} {W : World}
theorem TC.u32 {t : TypeId} {cs : List Value} (h : TC enc P W t cs) (ht : P.underlying t = some (.int .u32)) : ∃ x : UInt32, cs = [vu32 x] := by
  obtain ⟨n, rfl, hw⟩ := h.int ht
  have hb : 0 ≤ n ∧ n ≤ 4294967295 := by
    simp [Lit.wf, IntKind.min, IntKind.max, IntKind.signed, IntKind.bits] at hw
    omega
  refine ⟨UInt32.ofNat n.toNat, ?_⟩
  rw [vu32, UInt32.toNat_ofNat_of_lt' (by show n.toNat < 4294967296; omega)]
  congr 2
  omega
theorem u32s_of {e : TypeId} (he : P.underlying e = some (.int .u32)) : ∀ (n : Nat) (vs : List Value), vs.length = n → (∀ i, i < n → TC enc P W e ((vs.drop i).take 1)) → ∃ l : List UInt32, l.length = n ∧ vs = l.map vu32
  | 0, vs, hl, _ => ⟨[], rfl, by simpa using hl⟩
  | n + 1, [], hl, _ => by simp at hl
  | n + 1, v :: vs, hl, h => by
    obtain ⟨x, hx⟩ := (h 0 (by omega)).u32 he
    obtain ⟨l, h1, h2⟩ := u32s_of he n vs (by simpa using hl) (fun i hi => by have := h (i + 1) (by omega); simpa using this)
    refine ⟨x :: l, by simpa using h1, ?_⟩
    rw [h2]
    simp at hx
    rw [hx]
    rfl
theorem TC.arr_u32 {t e : TypeId} {n : Nat} {cs : List Value} (h : TC enc P W t cs) (ht : P.underlying t = some (.array n e)) (he : P.underlying e = some (.int .u32)) (hc : P.cellsOf e = 1) (hn : P.cellsOf t = n) :
    ∃ l : List UInt32, l.length = n ∧ cs = l.map vu32 := by
  obtain ⟨h1, h2⟩ := h.arr ht
  rw [hc] at h2
  exact u32s_of he n cs (by omega) (fun i hi => by have := h2 i hi; rwa [Nat.mul_one] at this)
theorem six_of {α : Type} {l : List α} (h : l.length = 6) : ∃ a b c d e f, l = [a, b, c, d, e, f] := by
  match l, h with
  | [a, b, c, d, e, f], _ => exact ⟨a, b, c, d, e, f, rfl⟩
theorem four_of {α : Type} {l : List α} (h : l.length = 4) : ∃ a b c d, l = [a, b, c, d] := by
  match l, h with
  | [a, b, c, d], _ => exact ⟨a, b, c, d, rfl⟩
end
section
variable {H : Type} {enc : TypeId × Value → H} {W : World}
theorem c32 : Try.prog.cellsOf 60 = 1 := by kernel_rfl
theorem c16 : Try.prog.cellsOf 61 = 1 := by kernel_rfl
theorem cInt : Try.prog.cellsOf 3 = 1 := by kernel_rfl
theorem cU8 : Try.prog.cellsOf 5 = 1 := by kernel_rfl
theorem cBlk : Try.prog.cellsOf 37 = 32 := by kernel_rfl
theorem cPut : Try.prog.cellsOf 84 = 33 := by kernel_rfl
theorem cLab : Try.prog.cellsOf 63 = 5 := by kernel_rfl
set_option maxRecDepth 100000 in
theorem TC.lab {cs : List Value} (h : TC enc Try.prog W 63 cs) : ∃ l, cs = labC l := by
  obtain ⟨hl, hf⟩ := h.struct Try.underlying63
  rw [cLab] at hl
  match cs, hl with
  | [a, b, c, d, e], _ =>
    have f0 : TC enc Try.prog W 60 (([a, b, c, d, e].drop 0).take (Try.prog.cellsOf 60)) := hf 0 _ rfl
    have f1 : TC enc Try.prog W 60 (([a, b, c, d, e].drop 1).take (Try.prog.cellsOf 60)) := hf 1 _ rfl
    have f2 : TC enc Try.prog W 60 (([a, b, c, d, e].drop 2).take (Try.prog.cellsOf 60)) := hf 2 _ rfl
    have f3 : TC enc Try.prog W 61 (([a, b, c, d, e].drop 3).take (Try.prog.cellsOf 61)) := hf 3 _ rfl
    have f4 : TC enc Try.prog W 61 (([a, b, c, d, e].drop 4).take (Try.prog.cellsOf 61)) := hf 4 _ rfl
    rw [c32] at f0 f1 f2
    rw [c16] at f3 f4
    obtain ⟨x0, h0⟩ := f0.u32 Try.underlying60
    obtain ⟨x1, h1⟩ := f1.u32 Try.underlying60
    obtain ⟨x2, h2⟩ := f2.u32 Try.underlying60
    obtain ⟨x3, h3⟩ := f3.u16 Try.underlying61
    obtain ⟨x4, h4⟩ := f4.u16 Try.underlying61
    simp at h0 h1 h2 h3 h4
    exact ⟨⟨x0, x1, x2, x3, x4⟩, by simp [labC, h0, h1, h2, h3, h4]⟩
set_option maxRecDepth 100000 in
theorem TC.put {cs : List Value} (h : TC enc Try.prog W 84 cs) : ∃ p, cs = putC p ∧ p.data.length = 32 ∧ -9223372036854775808 ≤ p.at_ ∧ p.at_ ≤ 9223372036854775807 := by
  obtain ⟨hl, hf⟩ := h.struct Try.underlying84
  rw [cPut] at hl
  match cs, hl with
  | a :: cs, hl =>
    have f0 : TC enc Try.prog W 3 (((a :: cs).drop 0).take (Try.prog.cellsOf 3)) := hf 0 _ rfl
    have f1 : TC enc Try.prog W 37 (((a :: cs).drop 1).take (Try.prog.cellsOf 37)) := hf 1 _ rfl
    rw [cInt] at f0
    rw [cBlk, List.drop_succ_cons, List.drop_zero, List.take_of_length_le (by simp at hl; omega)] at f1
    obtain ⟨x0, h0, b0⟩ := f0.int Try.underlying3
    obtain ⟨l1, hl1, h1⟩ := f1.arr_bytes Try.underlying37 Try.underlying5 cU8 cBlk
    have B0 := Go.bounds_i64 b0
    simp at h0
    exact ⟨⟨x0, l1⟩, by rw [putC, h0, h1], hl1, B0.1, B0.2⟩
theorem puts_of : ∀ (n : Nat) (vs : List Value), vs.length = n * 33 → (∀ i, i < n → TC enc Try.prog W 84 ((vs.drop (i * 33)).take 33)) → ∃ ps : List PutV, ps.length = n ∧ vs = ps.flatMap putC ∧ PutsOk ps
  | 0, vs, hl, _ => ⟨[], rfl, List.eq_nil_of_length_eq_zero (by omega), fun s hs => by cases hs⟩
  | n + 1, vs, hl, h => by
    obtain ⟨p, hp, hok⟩ := (h 0 (by omega)).put
    obtain ⟨ps, h1, h2, h3⟩ := puts_of n (vs.drop 33) (by rw [List.length_drop]; omega) (fun i hi => by
      have := h (i + 1) (by omega)
      rwa [show (i + 1) * 33 = 33 + i * 33 by omega, ← List.drop_drop] at this)
    refine ⟨p :: ps, by simp [h1], ?_, ?_⟩
    · rw [List.flatMap_cons, ← h2, ← hp, Nat.zero_mul, List.drop_zero, List.take_append_drop]
    · intro x hx
      rcases List.mem_cons.1 hx with rfl | hx
      · exact hok
      · exact h3 x hx
theorem TC.puts {cs : List Value} (h : TC enc Try.prog W 65 cs) :
    ∃ (A : Option Addr) (n cap : Nat) (ps : List PutV), cs = [.slice A n cap] ∧ ps.length = n ∧ n ≤ cap ∧ cap ≤ 9223372036854775807 ∧ Rd W A (ps.flatMap putC) ∧ PutsOk ps := by
  obtain ⟨A, n, cap, vs, h0, h1, h2, h3, h4, h5⟩ := h.slice Try.underlying65
  rw [cPut] at h3 h5
  obtain ⟨ps, hl, rfl, hk⟩ := puts_of n vs h3 h5
  exact ⟨A, n, cap, ps, h0, hl, h1, h2, h4, hk⟩
end
end Go.Proofs.Ytnpcehlbboeadaa
