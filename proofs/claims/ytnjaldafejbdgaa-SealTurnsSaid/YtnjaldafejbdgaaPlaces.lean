/- The plain law of SealPlaces. -/
import Derived.Test.YtnjaldafejbdgaaWakes6
namespace Go.Proofs.Ytnjaldafejbdgaa
open Go.RowKit
set_option linter.unusedVariables false
set_option linter.unusedSimpArgs false


theorem padB_get (l : List UInt8) (k : Nat) : (padB l).getD k 0 = if k < l.length then l.getD k 0 else 0 := by
  unfold padB
  by_cases h : k < l.length
  · rw [if_pos h]
    simp [List.getElem?_append_left h]
  · rw [if_neg h]
    simp only [List.getD_eq_getElem?_getD]
    rw [List.getElem?_append_right (by omega), List.getElem?_replicate]
    split <;> rfl
theorem secOf_take (m : UInt8) (b : List UInt8) (h : b.length = 29) : (secOf m b).take 30 = m :: b := by
  unfold secOf
  rw [List.take_append_of_le_length (by simp [h]), List.take_of_length_le (by simp [h])]
theorem secOf_lo (m : UInt8) (b : List UInt8) (h : b.length = 29) : (bts (secOf m b))[30]? = some (vu8 (crcCheck (m :: b)).toUInt8) := by
  unfold secOf
  rw [bts_append, List.getElem?_append_right (by simp [h])]
  simp [h, bts]
theorem secOf_hi (m : UInt8) (b : List UInt8) (h : b.length = 29) : (bts (secOf m b))[31]? = some (vu8 (crcCheck (m :: b) >>> 8).toUInt8) := by
  unfold secOf
  rw [bts_append, List.getElem?_append_right (by simp [h])]
  simp [h, bts]
theorem secOf_at (m : UInt8) (b : List UInt8) (h : b.length = 29) (k : Nat) (hk : k < 29) : (bts (secOf m b))[k + 1]? = some (vu8 (b.getD k 0)) := by
  unfold secOf
  rw [bts_append, List.getElem?_append_left (by simp [h]; omega), bts_cons, List.getElem?_cons_succ, bts_get (by omega)]
theorem secOf_inj (m : UInt8) (a b : List UInt8) (ha : a.length = 29) (hb : b.length = 29) : secOf m a = secOf m b ↔ a = b := by
  constructor
  · intro h
    have := congrArg (List.take 30) h
    rw [secOf_take m a ha, secOf_take m b hb] at this
    injection this
  · rintro rfl; rfl
theorem eqb8 (u v : UInt8) : (((u.toNat : Int)) == ((v.toNat : Int))) = decide (u = v) := by
  rw [Bool.eq_iff_iff, beq_iff_eq, decide_eq_true_iff]
  constructor
  · intro h; exact UInt8.toNat_inj.1 (by omega)
  · rintro rfl; rfl
theorem take_step (a b : List UInt8) (k : Nat) (ha : k < a.length) (hb : k < b.length) : decide (a.take (k + 1) = b.take (k + 1)) = (decide (a.take k = b.take k) && decide (a.getD k 0 = b.getD k 0)) := by
  rw [List.take_succ_eq_append_getElem ha, List.take_succ_eq_append_getElem hb, ← Bool.decide_and]
  rw [decide_eq_decide]
  have e1 : a.getD k 0 = a[k] := by simp [List.getElem?_eq_getElem ha]
  have e2 : b.getD k 0 = b[k] := by simp [List.getElem?_eq_getElem hb]
  rw [e1, e2]
  constructor
  · intro h
    have := List.append_inj h (by simp; omega)
    exact ⟨this.1, by injection this.2⟩
  · rintro ⟨h1, h2⟩; rw [h1, h2]
end Go.Proofs.Ytnjaldafejbdgaa
