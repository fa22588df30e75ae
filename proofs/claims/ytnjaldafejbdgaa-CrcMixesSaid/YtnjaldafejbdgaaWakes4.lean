/- The trial of the program that the statements on the check make. -/
import Derived.Test.YtnjaldafejbdgaaCheck
namespace Go.Proofs.Ytnjaldafejbdgaa
open Go.RowKit
set_option linter.unusedVariables false
set_option linter.unusedSimpArgs false

set_option maxHeartbeats 400000 in
theorem wakes4_calls (w : World) :
    Calls Try.prog 12 #[] w fun e w' => e = .returned (.bool true) ∧ Below w.heap.size w w' := by
  have kc := conv_bytes (P := Try.prog) 26 5 Try.underlying26 Try.underlying5
  go_enter Try.func12, Try.ntmps12
  go_wp2_with fail
  refine (check_one (A := some ⟨w.heap.size, 0, none⟩) (n := 9) (c := 9) (l := [49,50,51,52,53,54,55,56,57]) ?_ rfl (by decide) (by decide) ?_).mono ?_
  · exact Rd.of_block (hal_new (by simp))
  · exact Rd.of_block (hal_old (hal_new rfl))
  rintro e w' ⟨rfl, rfl⟩
  rw [check_w1]
  go_wp2_with fail
  refine (check_two (A := some ⟨w.heap.size + 2, 0, none⟩) (n := 4) (c := 4) (B := some ⟨w.heap.size + 3, 0, none⟩) (m := 5) (d := 5) (l := [49,50,51,52]) (k := [53,54,55,56,57]) ?_ rfl (by decide) (by decide) ?_ rfl (by decide) (by decide) ?_).mono ?_
  · exact Rd.of_block (hal_new (by simp))
  · exact Rd.of_block (hal_old (hal_old (hal_new (by simp))))
  · exact Rd.of_block (hal_old (hal_new (by simp)))
  rintro e w' ⟨rfl, rfl⟩
  rw [show [49,50,51,52] ++ [53,54,55,56,57] = ([49,50,51,52,53,54,55,56,57] : List UInt8) from rfl, check_w1]
  go_wp2_with fail
  refine check_none.mono ?_
  rintro e w' ⟨rfl, rfl⟩
  go_wp2_with fail
  refine (more_calls 0xffff none 0 0 [] _ rfl (by decide) (Rd.nil _ _)).mono ?_
  rintro e w' ⟨rfl, rfl⟩
  go_wp2
  go_ret
  exact ⟨rfl, (((((Below.refl _ _).alloc (by simp) _).alloc (by simp) _).alloc (by simp; omega) _).alloc (by simp; omega) _).alloc (by simp; omega) _⟩
end Go.Proofs.Ytnjaldafejbdgaa
