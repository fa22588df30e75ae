/- append([]byte{}, x...): a row of one's own. -/
import Derived.Test.YtnpcehlbboeadaaDiskReadsWalk
namespace Go.Proofs.Ytnpcehlbboeadaa
open Go.RowKit
set_option linter.unusedVariables false
set_option linter.unusedSimpArgs false

theorem empty_own' {W : World} {g : Nat} (e : TypeId) (size : Nat) (hg : g = W.heap.size) : (W.alloc (.cells #[] e)).ownsRow g e size (.slice (some ⟨g, 0, none⟩) 0 0) 0 [] := by
  subst hg
  exact ⟨by simp, .inr ⟨W.heap.size, 0, #[], rfl, Nat.le_refl _, hal_new rfl, Nat.le_refl _, by simp [maxLen], by simp, by simp⟩⟩
theorem info_u8d : (Try.prog.info? 5).map (fun i => (i.zero, i.size, i.bytes)) = some (some (.int .u8 0), 1, 1) := by kernel_rfl
theorem copied {w w1 : World} {e : TypeId} {v1 : Value} {n : Nat} {ks : List UInt8} (ho : w1.ownsRow w.heap.size e 1 v1 n (bts ks)) (hg : (w.alloc (.cells #[] e)).grownBy w1 (Value.slice (some ⟨w.heap.size, 0, none⟩) 0 0).ownBlock) :
    ∃ A1 c1, v1 = .slice A1 n c1 ∧ Below w.heap.size w w1 ∧ ∀ g gs, g < w.heap.size → gs < w.heap.size → ∀ w', Chg (fun j => j = g ∨ j = gs) w1 w' → Rd w' A1 (bts ks) := by
  obtain ⟨A1, c1, rfl, _, _, _⟩ := own_rd ho
  refine ⟨A1, c1, rfl, ((Below.refl _ _).alloc (Nat.le_refl _) _).trans (below_grown hg (by simp) (by intro k hk; simp [Value.ownBlock] at hk; omega)), fun g gs h1 h2 w' hc => ?_⟩
  obtain ⟨A2, c2, hv, hr, _⟩ := own_rd (own_chg ho hc (fun k hk => by
    have := (ho.lt _ hk).1
    rintro (rfl | rfl) <;> omega))
  injection hv with hA _ _
  subst hA
  exact hr
end Go.Proofs.Ytnpcehlbboeadaa
