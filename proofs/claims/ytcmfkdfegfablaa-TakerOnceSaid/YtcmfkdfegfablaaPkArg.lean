
import Derived.Test.YtcmfkdfegfablaaTakeLaw
import Derived.Test.YtcmfkdfegfablaaG4

/- Packets, rows of packets: how they are read out of the arguments. -/
namespace Go.Proofs.Ytcmfkdfegfablaa
open Go.ChangeShapes Go.WideShapes Go.RowKit Go.Deep
set_option linter.unusedVariables false
set_option linter.unusedSimpArgs false

structure PktV where
  k : Int
  e : UInt32
  q : UInt32
  A : Option Addr
  n : Nat
  c : Nat
  ps : List PutV
def pvC (p : PktV) : List Value := pktC p.k p.e p.q p.A p.n p.c
structure PktOk (W : World) (p : PktV) : Prop where
  len : p.ps.length = p.n
  cap : p.n ≤ p.c
  max : p.c ≤ 9223372036854775807
  rd : Rd W p.A (p.ps.flatMap putC)
  ok : PutsOk p.ps
theorem PktOk.below {w w' : World} {p : PktV} (h : PktOk w p) (hb : Below w.heap.size w w') : PktOk w' p := ⟨h.len, h.cap, h.max, h.rd.below hb, h.ok⟩
section
variable {H : Type} {enc : TypeId × Value → H} {W : World}
theorem pktCells : Try.prog.cellsOf 67 = 4 := by kernel_rfl
set_option maxRecDepth 100000 in
theorem TC.pktV {cs : List Value} (h : TC enc Try.prog W 67 cs) : ∃ p, cs = pvC p ∧ PktOk W p := by
  obtain ⟨hl, hf⟩ := h.struct Try.underlying67
  rw [pktCells] at hl
  match cs, hl with
  | [a, b, c, d], _ =>
    have f0 : TC enc Try.prog W 3 (([a, b, c, d].drop 0).take (Try.prog.cellsOf 3)) := hf 0 _ rfl
    have f1 : TC enc Try.prog W 22 (([a, b, c, d].drop 1).take (Try.prog.cellsOf 22)) := hf 1 _ rfl
    have f2 : TC enc Try.prog W 22 (([a, b, c, d].drop 2).take (Try.prog.cellsOf 22)) := hf 2 _ rfl
    have f3 : TC enc Try.prog W 23 (([a, b, c, d].drop 3).take (Try.prog.cellsOf 23)) := hf 3 _ rfl
    rw [show Try.prog.cellsOf 3 = 1 by kernel_rfl] at f0
    rw [show Try.prog.cellsOf 22 = 1 by kernel_rfl] at f1 f2
    rw [show Try.prog.cellsOf 23 = 1 by kernel_rfl] at f3
    obtain ⟨x0, hx0, b0⟩ := f0.int Try.underlying3
    obtain ⟨x1, hx1⟩ := f1.u32w Try.underlying22
    obtain ⟨x2, hx2⟩ := f2.u32w Try.underlying22
    obtain ⟨A, n, c3, ps, hx3, hl3, hc3, hm3, hr3, ho3⟩ := f3.puts
    simp at hx0 hx1 hx2 hx3
    exact ⟨⟨x0, x1, x2, A, n, c3, ps⟩, by simp [pvC, pktC, hx0, hx1, hx2, hx3], ⟨hl3, hc3, hm3, hr3, ho3⟩⟩
theorem pkts_of : ∀ (n : Nat) (vs : List Value), vs.length = n * 4 → (∀ i, i < n → TC enc Try.prog W 67 ((vs.drop (i * 4)).take 4)) → ∃ l : List PktV, l.length = n ∧ vs = l.flatMap pvC ∧ ∀ s ∈ l, PktOk W s
  | 0, vs, hl, _ => ⟨[], rfl, List.eq_nil_of_length_eq_zero (by omega), fun s hs => by cases hs⟩
  | n + 1, vs, hl, h => by
    obtain ⟨s, hs, hok⟩ := (h 0 (by omega)).pktV
    obtain ⟨l, h1, h2, h3⟩ := pkts_of n (vs.drop 4) (by rw [List.length_drop]; omega) (fun i hi => by
      have := h (i + 1) (by omega)
      rwa [show (i + 1) * 4 = 4 + i * 4 by omega, ← List.drop_drop] at this)
    refine ⟨s :: l, by simp [h1], ?_, ?_⟩
    · rw [List.flatMap_cons, ← h2, ← hs, Nat.zero_mul, List.drop_zero, List.take_append_drop]
    · intro x hx
      rcases List.mem_cons.1 hx with rfl | hx
      · exact hok
      · exact h3 x hx
theorem TC.pkts {cs : List Value} (h : TC enc Try.prog W 65 cs) :
    ∃ (A : Option Addr) (n cap : Nat) (l : List PktV), cs = [.slice A n cap] ∧ l.length = n ∧ n ≤ cap ∧ cap ≤ 9223372036854775807 ∧ Rd W A (l.flatMap pvC) ∧ ∀ s ∈ l, PktOk W s := by
  obtain ⟨A, n, cap, vs, h0, h1, h2, h3, h4, h5⟩ := h.slice Try.underlying65
  rw [pktCells] at h3 h5
  obtain ⟨l, hl, rfl, hk⟩ := pkts_of n vs h3 h5
  exact ⟨A, n, cap, l, h0, hl, h1, h2, h4, hk⟩
end
theorem pk_get {l : List PktV} {k : Nat} (hk : k < l.length) (j : Nat) (hj : j < 4) : (l.flatMap pvC)[k * 4 + j]? = (pvC l[k])[j]? := by
  have h := flat_piece pvC 4 l k l[k] (fun _ _ => rfl) (List.getElem?_eq_getElem hk)
  have h2 := congrArg (·[j]?) h
  simp only [List.getElem?_take, List.getElem?_drop] at h2
  rwa [if_pos hj] at h2
theorem pk_some {w : World} {A : Option Addr} {l : List PktV} (hr : Rd w A (l.flatMap pvC)) {k : Nat} (hk : k < l.length) : ∃ ad, A = some ad := by
  obtain ⟨ad, hA, _⟩ := hr _ _ (pk_get hk 0 (by decide))
  exact ⟨ad, hA⟩
theorem pk_at3 {w : World} {ad : Addr} {l : List PktV} (hr : Rd w (some ad) (l.flatMap pvC)) {k : Nat} (hk : k < l.length) : w.cell? ⟨(ad.add (k * 4)).block, (ad.add (k * 4)).off + 3, none⟩ = some (.slice l[k].A l[k].n l[k].c) := by
  obtain ⟨ad', hA, h⟩ := hr _ _ (pk_get hk 3 (by decide))
  injection hA with hA
  subst hA
  rw [← add_add] at h
  exact h
theorem pk_put_some {w : World} {r : PktV} (h : PktOk w r) {j : Nat} (hj : j < r.ps.length) : ∃ ad, r.A = some ad := puts_some h.rd hj
theorem pk_put_at {w : World} {r : PktV} (h : PktOk w r) {j : Nat} (hj : j < r.ps.length) : (∀ w', Below w.heap.size w w' → ∀ ad, r.A = some ad → w'.cell? (ad.add (j * 33)) = some (.int .i64 r.ps[j].at_)) ∧ ∀ w', Below w.heap.size w w' → ∀ ad, r.A = some ad → Rd w' (some (ad.add (j * 33))) (putC r.ps[j]) :=
  ⟨fun w' hb ad hA => put_at (by have := h.rd.below hb; rwa [hA] at this) h.ok hj, fun w' hb ad hA => put_rd (by have := h.rd.below hb; rwa [hA] at this) h.ok hj⟩
end Go.Proofs.Ytcmfkdfegfablaa
