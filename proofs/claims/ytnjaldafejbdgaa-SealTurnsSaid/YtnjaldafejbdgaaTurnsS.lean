/- The plain law of SealTurns. -/
import Derived.Test.YtnjaldafejbdgaaPlaces
namespace Go.Proofs.Ytnjaldafejbdgaa
open Go.RowKit
set_option linter.unusedVariables false
set_option linter.unusedSimpArgs false


theorem secOf_zero (m : UInt8) (b : List UInt8) : (secOf m b).getD 0 0 = m := by simp [secOf]
theorem secOf_body (m : UInt8) (b : List UInt8) (h : b.length = 29) : bodyOf (secOf m b) = b := by
  unfold bodyOf secOf
  rw [List.cons_append, List.drop_succ_cons, List.drop_zero, List.take_append_of_le_length (by omega), List.take_of_length_le (by omega)]
theorem decR_sec (m : UInt8) (b : List UInt8) (h : b.length = 29) (h0 : ¬ m = 0) : decR (secOf m b) = (m :: b, 0) := by
  unfold decR
  rw [secOf_zero, secOf_body m b h, if_neg (fun h => h.elim h0 (fun h => h rfl))]
theorem decR_length (x : List UInt8) (h : x.length = 32) : (decR x).1.length = 30 := by
  unfold decR
  split
  · simp
  · simp [bodyOf, h]
theorem secOf_rest (m : UInt8) (b : List UInt8) : crcMore 0xffff (secOf m b) = 0xf0b8 := by
  unfold secOf
  rw [crcMore_append]
  exact crcMore_rest (crcMore 0xffff (m :: b))
/-- A sector of which two neighboring bytes were turned is none, but where nothing was turned. -/
theorem decR_turned (m : UInt8) (b : List UInt8) (h : b.length = 29) (h0 : ¬ m = 0) (k : Nat) (hk : k + 1 < 32) (y z : UInt8) :
    (decR (((secOf m b).set k ((secOf m b).getD k 0 ^^^ y)).set (k + 1) ((secOf m b).getD (k + 1) 0 ^^^ z))).2 = if y = 0 ∧ z = 0 then 0 else 11 := by
  have hl : k + 1 < (secOf m b).length := by rw [secOf_length h]; exact hk
  by_cases hz : y = 0 ∧ z = 0
  · rw [if_pos hz]
    obtain ⟨rfl, rfl⟩ := hz
    rw [UInt8.xor_zero, UInt8.xor_zero, set_two _ k hl, ← split_two _ k hl, decR_sec m b h h0]
  · rw [if_neg hz]
    unfold decR
    rw [if_pos]
    refine .inr fun hs => hz ?_
    have h1 := secOf_rest m b
    have h2 := secOf_rest (((((secOf m b).set k ((secOf m b).getD k 0 ^^^ y)).set (k + 1) ((secOf m b).getD (k + 1) 0 ^^^ z))).getD 0 0) (bodyOf (((secOf m b).set k ((secOf m b).getD k 0 ^^^ y)).set (k + 1) ((secOf m b).getD (k + 1) 0 ^^^ z)))
    rw [hs] at h2
    have h3 := h2.trans h1.symm
    rw [set_two _ k hl] at h3
    have h4 : secOf m b = (secOf m b).take k ++ (secOf m b).getD k 0 :: (secOf m b).getD (k+1) 0 :: (secOf m b).drop (k+2) := split_two _ k hl
    generalize (secOf m b).getD k 0 = u at h3 h4
    generalize (secOf m b).getD (k + 1) 0 = v at h3 h4
    have h5 : crcMore 0xffff (secOf m b) = crcMore 0xffff ((secOf m b).take k ++ u :: v :: (secOf m b).drop (k+2)) := congrArg _ h4
    rw [h5, crcMore_turn, xor_zero_iff, xor_zero_iff] at h3
    exact h3
theorem splice_one (l : List UInt8) (k : Nat) (z : UInt8) (h : k < l.length) : splice (bts l) k [vu8 z] = bts (l.set k z) := by
  rw [← bts_set]
  have hk : k < (bts l).length := by simpa using h
  simp only [splice, List.length_singleton]
  rw [List.set_eq_take_append_cons_drop, if_pos hk]
  simp
theorem padB_take (l : List UInt8) {n : Nat} (h : l.length = n) : (padB l).take n = l := by
  unfold padB
  rw [List.take_append_of_le_length (by omega), List.take_of_length_le (by omega)]
theorem dec_body (m : UInt8) (l : List UInt8) {n : Nat} (h : l.length = n) (hn : n ≤ 29) : ((bts (m :: padB l)).drop 1).take n = bts l := by
  rw [bts_cons, List.drop_succ_cons, List.drop_zero, bts_take, padB_take l h]
theorem dec_zero (m : UInt8) (l : List UInt8) {n : Nat} (h : l.length = n) (k : Nat) (hn : n ≤ k) (hk : k < 29) : (bts (m :: padB l))[1 + k]? = some (.int .u8 0) := by
  have hl : k < (padB l).length := by unfold padB; simp; omega
  rw [Nat.add_comm, bts_cons, List.getElem?_cons_succ, bts_get hl, padB_get, if_neg (by omega)]
  rfl
end Go.Proofs.Ytnjaldafejbdgaa
