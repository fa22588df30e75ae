
/- Rows of equal pieces: one piece read, one piece written. -/
import Derived.Test.YtpldcmcldoidaaaBlk
namespace Go.Proofs.Ytpldcmcldoidaaa
open Go.RowKit
set_option linter.unusedVariables false
set_option linter.unusedSimpArgs false

theorem flat_length {α : Type} (f : α → List Value) (C : Nat) : ∀ (l : List α), (∀ x ∈ l, (f x).length = C) → (l.flatMap f).length = l.length * C
  | [], _ => by simp
  | x :: l, h => by
    rw [List.flatMap_cons, List.length_append, h x List.mem_cons_self, flat_length f C l (fun y hy => h y (List.mem_cons_of_mem _ hy)), List.length_cons, Nat.add_mul]
    omega
theorem flat_piece {α : Type} (f : α → List Value) (C : Nat) : ∀ (l : List α) (i : Nat) (x : α), (∀ x ∈ l, (f x).length = C) → l[i]? = some x → ((l.flatMap f).drop (i * C)).take C = f x
  | [], i, x, _, h => by simp at h
  | y :: l, 0, x, h, hx => by
    have : y = x := by simpa using hx
    subst this
    rw [Nat.zero_mul, List.drop_zero, List.flatMap_cons, List.take_append_of_le_length (by rw [h y List.mem_cons_self]; exact Nat.le_refl _), List.take_of_length_le (by rw [h y List.mem_cons_self]; exact Nat.le_refl _)]
  | y :: l, i + 1, x, h, hx => by
    have hl := h y List.mem_cons_self
    rw [List.flatMap_cons, List.drop_append, List.drop_eq_nil_of_le (by rw [hl, Nat.add_mul]; omega), List.nil_append, hl, show (i + 1) * C - C = i * C by rw [Nat.add_mul]; omega]
    exact flat_piece f C l i x (fun z hz => h z (List.mem_cons_of_mem _ hz)) (by simpa using hx)
theorem flat_set {α : Type} (f : α → List Value) (C : Nat) : ∀ (l : List α) (i : Nat) (x : α), (∀ x ∈ l, (f x).length = C) → (f x).length = C → i < l.length → splice (l.flatMap f) (i * C) (f x) = (l.set i x).flatMap f
  | [], i, x, _, _, h => by simp at h
  | y :: l, 0, x, h, hx, _ => by
    have hl := h y List.mem_cons_self
    simp only [splice, List.set_cons_zero, List.flatMap_cons, Nat.zero_mul, List.take_zero, List.nil_append, Nat.zero_add, hx]
    rw [List.drop_append, List.drop_eq_nil_of_le (by omega), hl, Nat.sub_self, List.drop_zero, List.nil_append]
  | y :: l, i + 1, x, h, hx, hi => by
    have hl := h y List.mem_cons_self
    have ih := flat_set f C l i x (fun z hz => h z (List.mem_cons_of_mem _ hz)) hx (by simpa using hi)
    simp only [splice, List.set_cons_succ, List.flatMap_cons] at ih ⊢
    rw [← ih, List.take_append, List.drop_append, List.take_of_length_le (by rw [hl, Nat.add_mul]; omega), List.drop_eq_nil_of_le (by rw [hl, Nat.add_mul]; omega), hl, show (i + 1) * C - C = i * C by rw [Nat.add_mul]; omega, show (i + 1) * C + (f x).length - C = i * C + (f x).length by rw [Nat.add_mul]; omega]
    simp
/-- An own row's block: the row, and what is spare. -/
theorem own_bkr {w : World} {base n : Nat} {e : TypeId} {size : Nat} {v : Value} {xs : List Value} (h : w.ownsRow base e size v n xs) (hn : 0 < n) : ∃ g cap rest, v = .slice (some ⟨g, 0, none⟩) n cap ∧ Bk w g (xs ++ rest) ∧ v.ownBlock = some g := by
  obtain ⟨hl, h2⟩ := h
  rcases h2 with ⟨_, h0⟩ | ⟨g, cap, cur, rfl, _, hh, _, _, hs, ht⟩
  · omega
  · refine ⟨g, cap, cur.toList.drop (n * size), rfl, ⟨e, ?_⟩, rfl⟩
    have : xs ++ cur.toList.drop (n * size) = cur.toList := by
      rw [← ht]
      exact List.take_append_drop _ _
    rw [this]
    exact hh
/-- What a sector is: the last loose write of it, else the sector. -/
def nowS (S : List (List UInt8)) (L : List (Nat × List UInt8)) (i : Nat) : List UInt8 := L.foldl (fun b p => if p.1 = i then p.2 else b) (S.getD i [])
theorem nowS_take (S : List (List UInt8)) (L : List (Nat × List UInt8)) (i k : Nat) (h : k < L.length) : nowS S (L.take (k + 1)) i = if L[k].1 = i then L[k].2 else nowS S (L.take k) i := by
  rw [nowS, nowS, List.take_succ_eq_append_getElem h, List.foldl_append]
  rfl
/-- What a flush leaves. -/
def doneS (S : List (List UInt8)) (L : List (Nat × List UInt8)) : List (List UInt8) := L.foldl (fun s p => s.set p.1 p.2) S
theorem doneS_take (S : List (List UInt8)) (L : List (Nat × List UInt8)) (k : Nat) (h : k < L.length) : doneS S (L.take (k + 1)) = (doneS S (L.take k)).set L[k].1 L[k].2 := by
  rw [doneS, doneS, List.take_succ_eq_append_getElem h, List.foldl_append]
  rfl
theorem doneS_length (S : List (List UInt8)) : ∀ (L : List (Nat × List UInt8)), (doneS S L).length = S.length := by
  intro L
  unfold doneS
  induction L generalizing S with
  | nil => rfl
  | cons p L ih => rw [List.foldl_cons, ih]; simp
end Go.Proofs.Ytpldcmcldoidaaa
