
/- How the arguments of a statement are read: from data to the cells that the walks speak of. -/
import Derived.Test.YtpldcmcldoidaaaMem
import Derived.ProofKit
import Derived.OpenShut
import Derived.ChangeOld
import Derived.Deep.Slices
namespace Go.Proofs.Ytpldcmcldoidaaa
open Go.ChangeShapes Go.WideShapes Go.RowKit Go.Deep
set_option linter.unusedVariables false
set_option linter.unusedSimpArgs false

section
variable {H : Type} {enc : TypeId × Value → H} {P : Program} {W : World}
/-- The cells cs read as data of type t. -/
def TC (enc : TypeId × Value → H) (P : Program) (W : World) (t : TypeId) (cs : List Value) : Prop := ∃ fuel x, DataW.trod enc P W 0 (fun _ => true) true fuel t cs = some x
theorem TC.of {t : TypeId} {v : Value} {d : DataW H} {p : List MemPlace} (h : DataW.Trod enc P W 0 (fun _ => true) true t v d p) : TC enc P W t v.cells.toList := by
  obtain ⟨fuel, hf⟩ := h
  exact ⟨fuel, _, hf⟩
theorem TC.int {t : TypeId} {cs : List Value} {k : IntKind} (h : TC enc P W t cs) (ht : P.underlying t = some (.int k)) : ∃ n, cs = [.int k n] ∧ (Lit.int k n).wf = true := by
  obtain ⟨fuel, x, hf⟩ := h
  obtain ⟨n, h1, _, h2⟩ := DataW.trod_int ht hf
  exact ⟨n, h1, h2⟩
theorem TC.u8 {t : TypeId} {cs : List Value} (h : TC enc P W t cs) (ht : P.underlying t = some (.int .u8)) : ∃ x : UInt8, cs = [vu8 x] := by
  obtain ⟨n, rfl, hw⟩ := h.int ht
  have hb := Go.bounds_u8 hw
  refine ⟨UInt8.ofNat n.toNat, ?_⟩
  rw [vu8, UInt8.toNat_ofNat_of_lt' (by show n.toNat < 256; omega)]
  congr 2
  omega
theorem TC.u16 {t : TypeId} {cs : List Value} (h : TC enc P W t cs) (ht : P.underlying t = some (.int .u16)) : ∃ x : UInt16, cs = [vu16 x] := by
  obtain ⟨n, rfl, hw⟩ := h.int ht
  have hb : 0 ≤ n ∧ n ≤ 65535 := by
    simp [Lit.wf, IntKind.min, IntKind.max, IntKind.signed, IntKind.bits] at hw
    omega
  refine ⟨UInt16.ofNat n.toNat, ?_⟩
  rw [vu16, UInt16.toNat_ofNat_of_lt' (by show n.toNat < 65536; omega)]
  congr 2
  omega
theorem TC.bool {t : TypeId} {cs : List Value} (h : TC enc P W t cs) (ht : P.underlying t = some .bool) : ∃ b, cs = [.bool b] := by
  obtain ⟨fuel, x, hf⟩ := h
  cases fuel with
  | zero => simp [DataW.trod] at hf
  | succ m =>
    unfold DataW.trod at hf
    rw [ht] at hf
    split at hf <;> simp_all
/-- One cell after the other of equal pieces. -/
theorem rows_flat {a : Addr} {C : Nat} {T : List Value → Prop} : ∀ (n : Nat), (∀ i, i < n → ∃ cs : List Value, cs.length = C ∧ (∀ j v, cs[j]? = some v → W.cell? (a.add (i * C + j)) = some v) ∧ T cs) →
    ∃ vs : List Value, vs.length = n * C ∧ Rd W (some a) vs ∧ ∀ i, i < n → T ((vs.drop (i * C)).take C)
  | 0, _ => ⟨[], by simp, Rd.nil _ _, fun i h => absurd h (by omega)⟩
  | n + 1, h => by
    obtain ⟨vs, hl, hr, ht⟩ := rows_flat n (fun i hi => h i (by omega))
    obtain ⟨cs, hc, hcell, hT⟩ := h n (by omega)
    refine ⟨vs ++ cs, by rw [List.length_append, hl, hc, Nat.succ_mul], fun j v hj => ?_, fun i hi => ?_⟩
    · by_cases hjl : j < vs.length
      · rw [List.getElem?_append_left hjl] at hj
        exact hr j v hj
      · rw [List.getElem?_append_right (by omega)] at hj
        refine ⟨a, rfl, ?_⟩
        have := hcell _ v hj
        rwa [hl, show n * C + (j - n * C) = j by omega] at this
    · by_cases hin : i = n
      · subst hin
        rw [← hl, List.drop_left, ← hc, List.take_length]
        exact hT
      · have h1 : i * C + C ≤ vs.length := by rw [hl, ← Nat.succ_mul]; exact Nat.mul_le_mul_right _ (by omega)
        rw [List.drop_append_of_le_length (by omega), List.take_append_of_le_length (by rw [List.length_drop]; omega)]
        exact ht i (by omega)
theorem TC.slice {t e : TypeId} {cs : List Value} (h : TC enc P W t cs) (ht : P.underlying t = some (.slice e)) :
    ∃ (A : Option Addr) (n cap : Nat) (vs : List Value), cs = [.slice A n cap] ∧ n ≤ cap ∧ cap ≤ 9223372036854775807 ∧ vs.length = n * P.cellsOf e ∧ Rd W A vs ∧ ∀ i, i < n → TC enc P W e ((vs.drop (i * P.cellsOf e)).take (P.cellsOf e)) := by
  obtain ⟨fuel, x, hf⟩ := h
  rcases open_slice ht hf with ⟨h0, _⟩ | ⟨a, len, cap, m, n, D, Pl, hcs, hb, hl, hm, hmm, hx, hi⟩
  · exact ⟨none, 0, 0, [], h0, by omega, by omega, by simp, Rd.nil _ _, fun i hi => absurd hi (by omega)⟩
  · have hmc : m = cap := by simpa using hmm
    obtain ⟨vs, h1, h2, h3⟩ := rows_flat (W := W) (a := a) (C := P.cellsOf e) (T := TC enc P W e) len (fun i hil => by
      obtain ⟨cs', hc, htr⟩ := hi i (by omega)
      obtain ⟨_, hcl, hat⟩ := World.cells?_some hc
      refine ⟨cs', hcl, fun j v hj => ?_, ⟨_, _, htr⟩⟩
      have hjl : j < P.cellsOf e := by have := (List.getElem?_eq_some_iff.1 hj).1; omega
      have := hat j hjl
      rw [add_add] at this
      rw [this, hj])
    exact ⟨some a, len, cap, vs, hcs, hl, by simpa [maxLen] using hm, h1, h2, h3⟩
theorem TC.arr {t e : TypeId} {n : Nat} {cs : List Value} (h : TC enc P W t cs) (ht : P.underlying t = some (.array n e)) :
    cs.length = P.cellsOf t ∧ ∀ i, i < n → TC enc P W e ((cs.drop (i * P.cellsOf e)).take (P.cellsOf e)) := by
  obtain ⟨fuel, x, hf⟩ := h
  obtain ⟨xs, m, _, _, hl, hn, hi⟩ := DataW.trod_array ht hf
  refine ⟨hl, fun i hin => ⟨m, xs[i]'(by omega), ?_⟩⟩
  rw [hi i hin, List.getElem?_eq_getElem]
theorem TC.struct {t : TypeId} {fs : Array Field} {cs : List Value} (h : TC enc P W t cs) (ht : P.underlying t = some (.struct fs)) :
    cs.length = P.cellsOf t ∧ ∀ (i : Nat) (f : Field), fs[i]? = some f → TC enc P W f.type ((cs.drop f.offset).take (P.cellsOf f.type)) := by
  obtain ⟨fuel, x, hf⟩ := h
  obtain ⟨xs, m, _, _, hl, hn, hi⟩ := DataW.trod_struct ht hf
  refine ⟨hl, fun i f hfi => ⟨m, xs[i]'(by have := (Array.getElem?_eq_some_iff.1 hfi).1; omega), ?_⟩⟩
  rw [hi i f hfi, List.getElem?_eq_getElem]
/-- A row of bytes. -/
theorem bytes_of {e : TypeId} (he : P.underlying e = some (.int .u8)) : ∀ (n : Nat) (vs : List Value), vs.length = n → (∀ i, i < n → TC enc P W e ((vs.drop i).take 1)) → ∃ l : List UInt8, l.length = n ∧ vs = bts l
  | 0, vs, hl, _ => ⟨[], rfl, by simpa [bts] using hl⟩
  | n + 1, [], hl, _ => by simp at hl
  | n + 1, v :: vs, hl, h => by
    obtain ⟨x, hx⟩ := (h 0 (by omega)).u8 he
    obtain ⟨l, h1, h2⟩ := bytes_of he n vs (by simpa using hl) (fun i hi => by have := h (i + 1) (by omega); simpa using this)
    refine ⟨x :: l, by simpa using h1, ?_⟩
    rw [h2]
    simp at hx
    rw [hx]
    rfl
theorem TC.bytes {t e : TypeId} {cs : List Value} (h : TC enc P W t cs) (ht : P.underlying t = some (.slice e)) (he : P.underlying e = some (.int .u8)) (hc : P.cellsOf e = 1) :
    ∃ (A : Option Addr) (n cap : Nat) (l : List UInt8), cs = [.slice A n cap] ∧ l.length = n ∧ n ≤ cap ∧ cap ≤ 9223372036854775807 ∧ Rd W A (bts l) := by
  obtain ⟨A, n, cap, vs, h0, h1, h2, h3, h4, h5⟩ := h.slice ht
  rw [hc] at h3 h5
  obtain ⟨l, hl, rfl⟩ := bytes_of he n vs (by omega) (fun i hi => by have := h5 i hi; rwa [Nat.mul_one] at this)
  exact ⟨A, n, cap, l, h0, hl, h1, h2, h4⟩
theorem TC.arr_bytes {t e : TypeId} {n : Nat} {cs : List Value} (h : TC enc P W t cs) (ht : P.underlying t = some (.array n e)) (he : P.underlying e = some (.int .u8)) (hc : P.cellsOf e = 1) (hn : P.cellsOf t = n) :
    ∃ l : List UInt8, l.length = n ∧ cs = bts l := by
  obtain ⟨h1, h2⟩ := h.arr ht
  rw [hc] at h2
  exact bytes_of he n cs (by omega) (fun i hi => by have := h2 i hi; rwa [Nat.mul_one] at this)
theorem TC.arr2_u16 {t e : TypeId} {cs : List Value} (h : TC enc P W t cs) (ht : P.underlying t = some (.array 2 e)) (he : P.underlying e = some (.int .u16)) (hc : P.cellsOf e = 1) (hn : P.cellsOf t = 2) :
    ∃ x y : UInt16, cs = [vu16 x, vu16 y] := by
  obtain ⟨h1, h2⟩ := h.arr ht
  rw [hc] at h2
  rw [hn] at h1
  match cs, h1 with
  | [a, b], _ =>
    obtain ⟨x, hx⟩ := (h2 0 (by omega)).u16 he
    obtain ⟨y, hy⟩ := (h2 1 (by omega)).u16 he
    simp at hx hy
    exact ⟨x, y, by rw [hx, hy]⟩
theorem two_of {α : Type} {l : List α} (h : l.length = 2) : ∃ x y, l = [x, y] := by
  match l, h with
  | [x, y], _ => exact ⟨x, y, rfl⟩
theorem three_of {α : Type} {l : List α} (h : l.length = 3) : ∃ x y z, l = [x, y, z] := by
  match l, h with
  | [x, y, z], _ => exact ⟨x, y, z, rfl⟩
/-- The argument's own shape. -/
theorem cells_one {v u : Value} (hv : ∀ cs, v ≠ .agg cs) (h : v.cells.toList = [u]) : v = u := by
  cases v <;> first | (simp [Value.cells] at h; exact h) | exact absurd rfl (hv _)
theorem okWide_agg {r : Reach} {b0 : Nat} {t : TypeId} {v : Value} (ht : (match P.underlying t with | some (.struct _) | some (.array _ _) => true | _ => false) = true) (hv : Value.okWide P W r b0 t v) : ∃ cs, v = .agg cs := by
  unfold Value.okWide at hv
  split at hv
  · obtain ⟨cs, h, _⟩ := hv; exact ⟨cs, h⟩
  · obtain ⟨cs, h, _⟩ := hv; exact ⟨cs, h⟩
  · split at ht <;> simp_all
theorem okWide_cell {r : Reach} {b0 : Nat} {t : TypeId} {v : Value} (ht : (match P.underlying t with | some (.struct _) | some (.array _ _) => false | _ => true) = true) (hv : Value.okWide P W r b0 t v) : ∀ cs, v ≠ .agg cs := by
  intro cs he
  subst he
  unfold Value.okWide at hv
  split at hv
  · simp_all
  · simp_all
  · unfold Cell.okWide at hv
    split at hv <;> simp_all [Cell.ok]
end
end Go.Proofs.Ytpldcmcldoidaaa
