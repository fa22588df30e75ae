
/- Numbers as bytes, the lowest one first. -/
import Derived.Test.YtpldcmcldoidaaaCheck
namespace Go.Proofs.Ytpldcmcldoidaaa
open Go.RowKit
set_option linter.unusedVariables false
set_option linter.unusedSimpArgs false

def le (n : Nat) : Nat → List UInt8
  | 0 => []
  | k + 1 => UInt8.ofNat n :: le (n / 256) k
theorem le_length : ∀ (k n : Nat), (le n k).length = k
  | 0, _ => rfl
  | k + 1, n => by rw [le, List.length_cons, le_length k]
theorem le_snoc : ∀ (k n : Nat), le n (k + 1) = le n k ++ [UInt8.ofNat (n / 256 ^ k)]
  | 0, n => by simp [le]
  | k + 1, n => by
    rw [le, le_snoc k (n / 256), le, List.cons_append, Nat.div_div_eq_div_mul, Nat.pow_succ, Nat.mul_comm 256]
def num : List UInt8 → Nat
  | [] => 0
  | b :: l => b.toNat + 256 * num l
theorem num_lt : ∀ (l : List UInt8), num l < 256 ^ l.length
  | [] => by simp [num]
  | b :: l => by
    have h1 := num_lt l
    have h2 := b.toNat_lt
    rw [num, List.length_cons, Nat.pow_succ]
    omega
theorem num_snoc : ∀ (l : List UInt8) (b : UInt8), num (l ++ [b]) = num l + b.toNat * 256 ^ l.length
  | [], b => by simp [num]
  | a :: l, b => by
    rw [List.cons_append, num, num_snoc l b, num, List.length_cons, Nat.pow_succ, Nat.mul_add, Nat.add_assoc]
    congr 2
    rw [Nat.mul_comm (256 ^ l.length) 256, Nat.mul_left_comm]
theorem num_le : ∀ (k n : Nat), n < 256 ^ k → num (le n k) = n
  | 0, n, h => by have : n = 0 := by simpa using h
                  subst this; rfl
  | k + 1, n, h => by
    rw [le, num, num_le k (n / 256) (by rw [Nat.pow_succ] at h; omega)]
    show (UInt8.ofNat n).toNat + 256 * (n / 256) = n
    rw [UInt8.toNat_ofNat']
    show n % 256 + 256 * (n / 256) = n
    omega
end Go.Proofs.Ytpldcmcldoidaaa
