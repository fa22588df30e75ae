
/- The remainder that the statements take of a number. -/
import Derived.Test.YtpldcmcldoidaaaProg
import Derived.Test.YtpldcmcldoidaaaMem
namespace Go.Proofs.Ytpldcmcldoidaaa
open Go.RowKit
set_option linter.unusedVariables false
set_option linter.unusedSimpArgs false

theorem emod_of (k : Int) (n : Nat) (hn : 1 ≤ n) : (k.tmod n + n) % n = k % n := by
  have h1 : (0:Int) < n := by omega
  have h3 := Int.lt_tmod_of_pos k h1
  rw [Int.add_emod_right]
  have h4 : (k.tmod n) % n = k % n := by
    rw [Int.tmod_eq_emod]
    split
    · simp
    · rw [Int.sub_emod]; simp
  exact h4
set_option maxHeartbeats 400000 in
theorem mod_calls (k : Int) (n : Int) (w : World) (hn : 1 ≤ n) (hm : n ≤ 4611686018427387904) (h1 : -9223372036854775808 ≤ k) (h2 : k ≤ 9223372036854775807) :
    Calls Try.prog 15 #[.int .i64 k, .int .i64 n] w fun e w' => e = .returned (.int .i64 (k % n)) ∧ w = w' := by
  obtain ⟨m, rfl⟩ := Int.eq_ofNat_of_zero_le (show 0 ≤ n by omega)
  have he := Lib.hid (emod_of k m (by omega))
  have h0 : (0:Int) < (m : Int) := by omega
  have h3 := Int.tmod_lt_of_pos k h0
  have h4 := Int.lt_tmod_of_pos k h0
  go_enter Try.func15, Try.ntmps15
  go_wp2
  go_ret
  exact ⟨by rw [← he.out]; rfl, rfl⟩
end Go.Proofs.Ytpldcmcldoidaaa
