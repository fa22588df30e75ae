/- Plain laws of labels' sectors. -/
import Derived.Test.YtnpcehlbboeadaaLabOpen
namespace Go.Proofs.Ytnpcehlbboeadaa
open Go.RowKit
set_option linter.unusedVariables false
set_option linter.unusedSimpArgs false

theorem want_undef {o : Oper} {ops : Array Oper} {a : Act} {A B : Prop} {j : Nat} {d : Tmp} {b : Bool} (hg : o.guard = some (j, b)) (hd : (ops[j]?).bind (·.dst) = some d) (hv : a.eval (.tmp d) = undef) (h : B) :
    if Region.wanted o (yielded ops a.tmps) = true then A else B := by
  have hy : yielded ops a.tmps j = none := by
    unfold yielded
    rw [hd]
    simp only [Option.bind_some]
    simp only [Act.eval, Array.getD_eq_getD_getElem?] at hv
    cases ht : a.tmps[d]? with
    | none => rfl
    | some v =>
      rw [ht] at hv
      simp only [Option.getD_some] at hv
      rw [hv]
      rfl
  rw [if_neg (by simp [Region.wanted, hg, hy])]
  exact h
theorem body_of_sec (m : UInt8) (b : List UInt8) (h : b.length = 29) : bodyOf (secOf m b) = b := by
  rw [bodyOf, secOf, List.cons_append, List.drop_succ_cons, List.drop_zero, List.take_append_of_le_length (by omega), List.take_of_length_le (by omega)]
theorem decR_sec (m : UInt8) (b : List UInt8) (h : b.length = 29) (hm : m ≠ 0) : decR (secOf m b) = (m :: b, 0) := by
  have h0 : (secOf m b).getD 0 0 = m := rfl
  rw [decR, h0, body_of_sec m b h, if_neg]
  rintro (hh | hh)
  · exact hm hh
  · exact hh rfl
theorem le4 (n : Nat) : le n 4 = [UInt8.ofNat n, UInt8.ofNat (n / 256), UInt8.ofNat (n / 256 / 256), UInt8.ofNat (n / 256 / 256 / 256)] := rfl
theorem le2 (n : Nat) : le n 2 = [UInt8.ofNat n, UInt8.ofNat (n / 256)] := rfl
theorem body_list (l : Lab) : padB (bodyB l) = le l.e.toNat 4 ++ (le l.s.toNat 4 ++ (le l.n.toNat 4 ++ (le l.d.toNat 2 ++ (le l.la.toNat 2 ++ List.replicate 13 0)))) := by
  rw [padB, bodyB_length, bodyB]
  simp [List.append_assoc]
theorem labOf_body (l : Lab) : labOf (padB (bodyB l)) = l := by
  have h0 : ((padB (bodyB l)).drop 0).take 4 = le l.e.toNat 4 := by rw [body_list]; rfl
  have h1 : ((padB (bodyB l)).drop 4).take 4 = le l.s.toNat 4 := by rw [body_list]; rfl
  have h2 : ((padB (bodyB l)).drop 8).take 4 = le l.n.toNat 4 := by rw [body_list]; rfl
  have h3 : ((padB (bodyB l)).drop 12).take 2 = le l.d.toNat 2 := by rw [body_list]; rfl
  have h4 : ((padB (bodyB l)).drop 14).take 2 = le l.la.toNat 2 := by rw [body_list]; rfl
  rw [labOf, h0, h1, h2, h3, h4, num_le 4 _ (by have := l.e.toNat_lt; omega), num_le 4 _ (by have := l.s.toNat_lt; omega), num_le 4 _ (by have := l.n.toNat_lt; omega), num_le 2 _ (by have := l.d.toNat_lt; omega), num_le 2 _ (by have := l.la.toNat_lt; omega)]
  simp
theorem enc_not_zero (l : Lab) : labEnc l ≠ List.replicate 32 0 := by
  intro h
  have h1 : (labEnc l).getD 0 0 = 76 := rfl
  rw [h] at h1
  exact absurd h1 (by decide)
theorem lab_back (l : Lab) : labDec (labEnc l) = (l, 0) := by
  have hp : (padB (bodyB l)).length = 29 := padB_length (by rw [bodyB_length]; decide)
  have hd : decR (labEnc l) = (76 :: padB (bodyB l), 0) := decR_sec 76 _ hp (by decide)
  have hb : bodyOf (labEnc l) = padB (bodyB l) := body_of_sec 76 _ hp
  rw [labDec, if_neg (enc_not_zero l), hd, hb, labOf_body, if_neg]
  rintro (hh | hh)
  · exact hh rfl
  · exact hh rfl
theorem enc_inj (k l : Lab) : labEnc k = labEnc l ↔ l = k := by
  constructor
  · intro h
    have := lab_back k
    rw [h, lab_back] at this
    injection this
  · rintro rfl; rfl
/-- A sector that is a label's is that one's, or zeros. -/
theorem dec_ok (b : List UInt8) : ((labDec b).2 ≠ 0) ∨ ((labDec b).2 = 0 ∧ labEnc (labDec b).1 = b) ∨ ((labDec b).2 = 0 ∧ b = List.replicate 32 0 ∧ (labDec b).1 = zLab) := by
  unfold labDec
  split
  · rename_i h
    exact .inr (.inr ⟨rfl, h, rfl⟩)
  · split
    · exact .inl (by decide)
    · rename_i h
      refine .inr (.inl ⟨rfl, ?_⟩)
      exact Decidable.byContradiction fun hh => h (.inr hh)
end Go.Proofs.Ytnpcehlbboeadaa
