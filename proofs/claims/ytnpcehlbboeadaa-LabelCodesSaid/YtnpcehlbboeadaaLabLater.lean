/- The walks of Later and of Bits. -/
import Derived.Test.YtnpcehlbboeadaaLabDec
namespace Go.Proofs.Ytnpcehlbboeadaa
open Go.RowKit
set_option linter.unusedVariables false
set_option linter.unusedSimpArgs false

def laterB (e s t n : UInt32) : Bool := decide (t.toNat < e.toNat) || (decide (e.toNat = t.toNat) && decide (n.toNat < s.toNat))
set_option maxHeartbeats 1000000 in
theorem later_calls (e s t n : UInt32) (w : World) :
    Calls Try.prog 36 #[vu32 e, vu32 s, vu32 t, vu32 n] w fun en w' => en = .returned (.bool (laterB e s t n)) ∧ w = w' := by
  unfold laterB vu32
  generalize e.toNat = a
  generalize s.toNat = b
  generalize t.toNat = c
  generalize n.toNat = d
  by_cases h1 : c < a
  · have h1i : (c : Int) < (a : Int) := by omega
    go_enter Try.func36, Try.ntmps36
    go_wp2
    go_ret
    exact ⟨by simp [h1], rfl⟩
  · have h1i : ¬ ((c : Int) < (a : Int)) := by omega
    by_cases h2 : a = c
    · subst h2
      go_enter Try.func36, Try.ntmps36
      go_wp2
      go_ret
      exact ⟨by simp, rfl⟩
    · have h2i : ((a : Int) == (c : Int)) = false := by rw [beq_eq_false_iff_ne]; omega
      go_enter Try.func36, Try.ntmps36
      go_wp2
      go_ret
      exact ⟨by simp [h1, h2], rfl⟩
end Go.Proofs.Ytnpcehlbboeadaa
