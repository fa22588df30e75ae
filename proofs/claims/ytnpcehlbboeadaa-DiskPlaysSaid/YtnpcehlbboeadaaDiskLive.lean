/- Plain laws of a disk's state. -/
import Derived.Test.YtnpcehlbboeadaaSteps
namespace Go.Proofs.Ytnpcehlbboeadaa
open Go.RowKit
set_option linter.unusedVariables false
set_option linter.unusedSimpArgs false

theorem nowS_snoc (S : List (List UInt8)) (L : List (Nat × List UInt8)) (i : Nat) (b : List UInt8) (j : Nat) : nowS S (L ++ [(i, b)]) j = if i = j then b else nowS S L j := by
  rw [nowS, nowS, List.foldl_append]
  rfl
theorem nowS_cons (S : List (List UInt8)) (L : List (Nat × List UInt8)) (p : Nat × List UInt8) (j : Nat) (hj : j < S.length) : nowS S (p :: L) j = nowS (S.set p.1 p.2) L j := by
  rw [nowS, nowS, List.foldl_cons]
  congr 1
  simp only [List.getD_eq_getElem?_getD, List.getElem?_set]
  by_cases h : p.1 = j
  · subst h
    rw [if_pos rfl, if_pos rfl, if_pos hj]
    rfl
  · rw [if_neg h, if_neg h]
theorem nowS_done (L : List (Nat × List UInt8)) : ∀ (S : List (List UInt8)) (j : Nat), j < S.length → nowS (doneS S L) [] j = nowS S L j := by
  induction L with
  | nil => intro S j _; rfl
  | cons p L ih =>
    intro S j hj
    rw [nowS_cons S L p j hj, ← ih (S.set p.1 p.2) j (by simpa using hj)]
    rfl
theorem nowS_nil (S : List (List UInt8)) (j : Nat) : nowS S [] j = S.getD j [] := rfl
theorem live_lo : (-1 : Int) ≤ -1 := Int.le_refl _
theorem live_hi : (-1 : Int) ≤ 9223372036854775807 := by decide
theorem passD_live : passD (-1) false = false := by decide
theorem passF_live : passF (-1) false = -1 := by decide
theorem write_live (S : List (List UInt8)) (L : List (Nat × List UInt8)) (i : Nat) (b : List UInt8) (h : i < S.length) : (Dst.mk S L (-1) false).write (i : Int) b = ⟨S, L ++ [(i, b)], -1, false⟩ ∧ (Dst.mk S L (-1) false).writeE (i : Int) = 0 := by
  have hh : (Dst.mk S L (-1) false).has (i : Int) := ⟨by omega, by show (i : Int) < (S.length : Int); omega⟩
  constructor
  · rw [Dst.write, if_pos hh]
    show (if passD (-1) false = true then _ else _) = _
    rw [passD_live, if_neg (by decide)]
    rfl
  · rw [Dst.writeE, if_pos hh]
    show (if passD (-1) false = true then _ else _) = _
    rw [passD_live, if_neg (by decide)]
theorem flush_live (S : List (List UInt8)) (L : List (Nat × List UInt8)) : (Dst.mk S L (-1) false).flush = ⟨doneS S L, [], -1, false⟩ ∧ (Dst.mk S L (-1) false).flushE = 0 := by
  constructor
  · rw [Dst.flush]
    show (if passD (-1) false = true then _ else _) = _
    rw [passD_live, if_neg (by decide)]
    rfl
  · rw [Dst.flushE]
    show (if passD (-1) false = true then _ else _) = _
    rw [passD_live, if_neg (by decide)]
theorem read_live (S : List (List UInt8)) (L : List (Nat × List UInt8)) (f : Int) (i : Nat) (h : i < S.length) : (Dst.mk S L f false).readB (i : Int) = nowS S L i ∧ (Dst.mk S L f false).readE (i : Int) = 0 := by
  constructor
  · exact readB_in S L i h
  · show readE S false (i : Int) = 0
    rw [readE_in S false i (by omega) (by omega)]
    rfl
theorem nowS_new (n j : Nat) (hj : j < n) : nowS (Dst.new n).S [] j = List.replicate 32 0 := by
  show (List.replicate n (List.replicate 32 (0 : UInt8))).getD j [] = _
  rw [List.getD_eq_getElem?_getD, List.getElem?_replicate, if_pos hj]
  rfl
/-- Beside a disk another block lies. -/
theorem DPost.beside {wT : TypeId} {w w' : World} {g gs x : Nat} {lv : Value} {s' : Dst} {r : Value} {e : Ending} {vs : List Value} (hp : DPost wT w g gs lv s' r e w') {w0 : World} {s : Dst} (hs : DSes wT w0 w g gs lv s) (hx : ¬ footD g gs lv x) (hb : Bk w x vs) :
    e = .returned r ∧ ∃ lv', DSes wT w0 w' g gs lv' s' ∧ ¬ footD g gs lv' x ∧ Bk w' x vs ∧ Below w0.heap.size w0 w' := by
  obtain ⟨he, lv', h1, h2, h3⟩ := hp
  have hlt := hb.lt
  obtain ⟨_, hbel⟩ : True ∧ Below w0.heap.size w0 w' := ⟨trivial, hs.bel.trans (h3.below hs.bel.size (fun k hk hf => by have := hs.fr k hf; omega))⟩
  refine ⟨he, lv', ⟨h1, fun j hj => ?_, hbel⟩, fun hj => ?_, hb.chg h3 hx, hbel⟩
  · rcases h2 j hj with h4 | h4
    · exact hs.fr j h4
    · exact Nat.le_trans hs.bel.size h4
  · rcases h2 x hj with h4 | h4
    · exact hx h4
    · omega
end Go.Proofs.Ytnpcehlbboeadaa
