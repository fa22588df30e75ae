/- Texts of this seat, merged: Recs. -/
import Derived.Test.YtcmfkdfegfablaaG4
import Derived.Test.YtcmfkdfegfablaaG3

/- Rows of records, labels, how they are read out of the arguments; the reference's Later. -/
namespace Go.Proofs.Ytcmfkdfegfablaa
open Go.ChangeShapes Go.WideShapes Go.RowKit Go.Deep
set_option linter.unusedVariables false
set_option linter.unusedSimpArgs false

section
variable {H : Type} {enc : TypeId × Value → H} {W : World}
theorem recs_of : ∀ (n : Nat) (vs : List Value), vs.length = n * 3 → (∀ i, i < n → TC enc Try.prog W 25 ((vs.drop (i * 3)).take 3)) → ∃ l : List RecV, l.length = n ∧ vs = l.flatMap recC ∧ ∀ s ∈ l, RecOk W s
  | 0, vs, hl, _ => ⟨[], rfl, List.eq_nil_of_length_eq_zero (by omega), fun s hs => by cases hs⟩
  | n + 1, vs, hl, h => by
    obtain ⟨s, hs, hok⟩ := (h 0 (by omega)).rec
    obtain ⟨l, h1, h2, h3⟩ := recs_of n (vs.drop 3) (by rw [List.length_drop]; omega) (fun i hi => by
      have := h (i + 1) (by omega)
      rwa [show (i + 1) * 3 = 3 + i * 3 by omega, ← List.drop_drop] at this)
    refine ⟨s :: l, by simp [h1], ?_, ?_⟩
    · rw [List.flatMap_cons, ← h2, ← hs, Nat.zero_mul, List.drop_zero, List.take_append_drop]
    · intro x hx
      rcases List.mem_cons.1 hx with rfl | hx
      · exact hok
      · exact h3 x hx
theorem TC.recs {cs : List Value} (h : TC enc Try.prog W 45 cs) :
    ∃ (A : Option Addr) (n cap : Nat) (l : List RecV), cs = [.slice A n cap] ∧ l.length = n ∧ n ≤ cap ∧ cap ≤ 9223372036854775807 ∧ Rd W A (l.flatMap recC) ∧ ∀ s ∈ l, RecOk W s := by
  obtain ⟨A, n, cap, vs, h0, h1, h2, h3, h4, h5⟩ := h.slice Try.underlying45
  rw [recCells] at h3 h5
  obtain ⟨l, hl, rfl, hk⟩ := recs_of n vs h3 h5
  exact ⟨A, n, cap, l, h0, hl, h1, h2, h4, hk⟩
end
theorem rec_get {l : List RecV} {k : Nat} (hk : k < l.length) (j : Nat) (hj : j < 3) : (l.flatMap recC)[k * 3 + j]? = (recC l[k])[j]? := by
  have h := flat_piece recC 3 l k l[k] (fun _ _ => rfl) (List.getElem?_eq_getElem hk)
  have h2 := congrArg (·[j]?) h
  simp only [List.getElem?_take, List.getElem?_drop] at h2
  rwa [if_pos hj] at h2
theorem rec_some {w : World} {A : Option Addr} {l : List RecV} (hr : Rd w A (l.flatMap recC)) {k : Nat} (hk : k < l.length) : ∃ ad, A = some ad := by
  obtain ⟨ad, hA, _⟩ := hr _ _ (rec_get hk 0 (by decide))
  exact ⟨ad, hA⟩
theorem rec_at0 {w : World} {ad : Addr} {l : List RecV} (hr : Rd w (some ad) (l.flatMap recC)) {k : Nat} (hk : k < l.length) : w.cell? (ad.add (k * 3)) = some (vu32 l[k].e) := by
  obtain ⟨ad', hA, h⟩ := hr _ _ (rec_get hk 0 (by decide))
  injection hA with hA
  subst hA
  exact h
theorem rec_at1 {w : World} {ad : Addr} {l : List RecV} (hr : Rd w (some ad) (l.flatMap recC)) {k : Nat} (hk : k < l.length) : w.cell? ⟨(ad.add (k * 3)).block, (ad.add (k * 3)).off + 1, none⟩ = some (vu32 l[k].q) := by
  obtain ⟨ad', hA, h⟩ := hr _ _ (rec_get hk 1 (by decide))
  injection hA with hA
  subst hA
  rw [← add_add] at h
  exact h
theorem rec_at2 {w : World} {ad : Addr} {l : List RecV} (hr : Rd w (some ad) (l.flatMap recC)) {k : Nat} (hk : k < l.length) : w.cell? ⟨(ad.add (k * 3)).block, (ad.add (k * 3)).off + 2, none⟩ = some (.slice l[k].A l[k].n l[k].c) := by
  obtain ⟨ad', hA, h⟩ := hr _ _ (rec_get hk 2 (by decide))
  injection hA with hA
  subst hA
  rw [← add_add] at h
  exact h
theorem rec_rd {w : World} {ad : Addr} {l : List RecV} (hr : Rd w (some ad) (l.flatMap recC)) {k : Nat} (hk : k < l.length) : Rd w (some (ad.add (k * 3))) (recC l[k]) := by
  have h := (hr.drop (k * 3)).take 3
  rwa [flat_piece recC 3 l k l[k] (fun _ _ => rfl) (List.getElem?_eq_getElem hk)] at h
section
variable {H : Type} {enc : TypeId × Value → H} {W : World}
theorem c32 : Try.prog.cellsOf 22 = 1 := by kernel_rfl
theorem c16 : Try.prog.cellsOf 38 = 1 := by kernel_rfl
theorem cLab : Try.prog.cellsOf 40 = 5 := by kernel_rfl
set_option maxRecDepth 100000 in
theorem TC.lab {cs : List Value} (h : TC enc Try.prog W 40 cs) : ∃ l, cs = labC l := by
  obtain ⟨hl, hf⟩ := h.struct Try.underlying40
  rw [cLab] at hl
  match cs, hl with
  | [a, b, c, d, e], _ =>
    have f0 : TC enc Try.prog W 22 (([a, b, c, d, e].drop 0).take (Try.prog.cellsOf 22)) := hf 0 _ rfl
    have f1 : TC enc Try.prog W 22 (([a, b, c, d, e].drop 1).take (Try.prog.cellsOf 22)) := hf 1 _ rfl
    have f2 : TC enc Try.prog W 22 (([a, b, c, d, e].drop 2).take (Try.prog.cellsOf 22)) := hf 2 _ rfl
    have f3 : TC enc Try.prog W 38 (([a, b, c, d, e].drop 3).take (Try.prog.cellsOf 38)) := hf 3 _ rfl
    have f4 : TC enc Try.prog W 38 (([a, b, c, d, e].drop 4).take (Try.prog.cellsOf 38)) := hf 4 _ rfl
    rw [c32] at f0 f1 f2
    rw [c16] at f3 f4
    obtain ⟨x0, h0⟩ := f0.u32w Try.underlying22
    obtain ⟨x1, h1⟩ := f1.u32w Try.underlying22
    obtain ⟨x2, h2⟩ := f2.u32w Try.underlying22
    obtain ⟨x3, h3⟩ := f3.u16 Try.underlying38
    obtain ⟨x4, h4⟩ := f4.u16 Try.underlying38
    simp at h0 h1 h2 h3 h4
    exact ⟨⟨x0, x1, x2, x3, x4⟩, by simp [labC, h0, h1, h2, h3, h4]⟩
end
set_option maxHeartbeats 1000000 in
theorem refLater_calls (e s t n : UInt32) (w : World) :
    Calls Try.prog 20 #[vu32 e, vu32 s, vu32 t, vu32 n] w fun en w' => en = .returned (.bool (laterB e s t n)) ∧ w = w' := by
  unfold laterB vu32
  generalize e.toNat = a
  generalize s.toNat = b
  generalize t.toNat = c
  generalize n.toNat = d
  by_cases h1 : c < a
  · have h1i : (c : Int) < (a : Int) := by omega
    go_enter Try.func20, Try.ntmps20
    go_wp2
    go_ret
    exact ⟨by simp [h1], rfl⟩
  · have h1i : ¬ ((c : Int) < (a : Int)) := by omega
    by_cases h2 : a = c
    · subst h2
      go_enter Try.func20, Try.ntmps20
      go_wp2
      go_ret
      exact ⟨by simp, rfl⟩
    · have h2i : ((a : Int) == (c : Int)) = false := by rw [beq_eq_false_iff_ne]; omega
      go_enter Try.func20, Try.ntmps20
      go_wp2
      go_ret
      exact ⟨by simp [h1, h2], rfl⟩
def SameW (a b : World) : Prop := a = b
/-- The same, and the walk stops. -/
theorem wpList_eq_labU {o : Oper} {a : Act} {w : World} {Q : Exit → Act → World → Prop} {ops : Array Oper} {rest : List Oper} (hw : Region.wanted o (yielded ops a.tmps) = true) (neg : Bool) (ty : TypeId) (x y : Operand) (ho : o.op = .binOp (if neg then .neq else .eql) 40 x y ty)
    (k l : Lab) (hx : a.eval x = .agg (labC k).toArray) (hy : a.eval y = .agg (labC l).toArray) (r : Bool) (hr : (neg ^^ decide (k = l)) = r)
    (h : ∀ w', SameW w w' → wpList Try.prog ops Q rest (a.put o.dst (.bool r)) w') : wpList Try.prog ops Q (o :: rest) a w := wpList_eq_lab hw neg ty x y ho k l hx hy r hr (h _ rfl)
/-! ### numbers below a thousand -/
theorem mod1000 (x : UInt32) : (.int .u32 ((x.toNat : Int) % 1000) : Value) = vu32 (x % 1000) := by
  rw [vu32, UInt32.toNat_mod]
  rfl
theorem mod1000_lt (x : UInt32) : (x % 1000).toNat < 1000 := by
  rw [UInt32.toNat_mod]
  exact Nat.mod_lt _ (by decide)
end Go.Proofs.Ytcmfkdfegfablaa
