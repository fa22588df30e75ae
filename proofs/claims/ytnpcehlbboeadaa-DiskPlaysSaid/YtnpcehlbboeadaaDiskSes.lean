/- A disk through a row of calls: what lies ahead of it stays. -/
import Derived.Test.YtnpcehlbboeadaaDiskApi
namespace Go.Proofs.Ytnpcehlbboeadaa
open Go.RowKit
set_option linter.unusedVariables false
set_option linter.unusedSimpArgs false

structure DSes (wT : TypeId) (w0 w : World) (g gs : Nat) (lv : Value) (s : Dst) : Prop where
  at_ : DAt wT w g gs lv s
  fr : ∀ j, footD g gs lv j → w0.heap.size ≤ j
  bel : Below w0.heap.size w0 w
section
variable {wT : TypeId} {w0 w w' : World} {g gs : Nat} {lv : Value} {s s' : Dst}
theorem DSes.post (h : DSes wT w0 w g gs lv s) {r : Value} {e : Ending} (hp : DPost wT w g gs lv s' r e w') : e = .returned r ∧ ∃ lv', DSes wT w0 w' g gs lv' s' := by
  obtain ⟨he, lv', h1, h2, h3⟩ := hp
  refine ⟨he, lv', h1, fun j hj => ?_, h.bel.trans (h3.below h.bel.size (fun k hk hf => by have := h.fr k hf; omega))⟩
  rcases h2 j hj with h4 | h4
  · exact h.fr j h4
  · exact Nat.le_trans h.bel.size h4
theorem DSes.below (h : DSes wT w0 w g gs lv s) (hb : Below w.heap.size w w') : DSes wT w0 w' g gs lv s := ⟨DiskAt.below h.at_ hb, h.fr, h.bel.trans (hb.mono h.bel.size)⟩
theorem DSes.chgN (h : DSes wT w0 w g gs lv s) (hb : Chg NoS w w') : DSes wT w0 w' g gs lv s := h.below (hb.below (Nat.le_refl _) (fun _ _ => id))
theorem DSes.drew (h : DSes wT w0 w g gs lv s) : DSes wT w0 w.drew g gs lv s := ⟨DiskAt.drew h.at_, h.fr, h.bel.trans ⟨rfl, rfl, rfl, Nat.le_refl _, fun _ _ => rfl⟩⟩
theorem DSes.new {n : Nat} {e : Ending} (h2 : n ≤ 1024) (hb : Below w0.heap.size w0 w) (h : NewPost w n e w') : ∃ g gs, e = .returned (.tuple #[.pointer (some ⟨g, 0, none⟩), .int .i64 0]) ∧ DSes wT w0 w' g gs (.slice none 0 0) (Dst.new n) := by
  obtain ⟨g, gs, rfl, h3, h4, h5⟩ := h.at_ (wT := wT) h2
  exact ⟨g, gs, rfl, h3, fun j hj => Nat.le_trans hb.size (h4 j hj), hb.trans (h5.mono hb.size)⟩
end
theorem diskLoose_at (w : World) (g gs : Nat) (lv : Value) (s : Dst) (h : DAt 91 w g gs lv s) : Calls Try.prog 27 #[.pointer (some ⟨g, 0, none⟩)] w fun e w' => e = .returned (.int .i64 s.L.length) ∧ w = w' := by
  obtain ⟨A, c, rfl, _⟩ := own_rd h.own
  exact diskLoose_calls w g _ A s.L.length c s.f s.dn h.dk
theorem diskDown_at (w : World) (g gs : Nat) (lv : Value) (s : Dst) (h : DAt 91 w g gs lv s) : Calls Try.prog 28 #[.pointer (some ⟨g, 0, none⟩)] w fun e w' => e = .returned (.bool s.dn) ∧ w = w' :=
  diskDown_calls w g _ lv s.f s.dn h.dk
theorem diskLen_at (w : World) (g gs : Nat) (lv : Value) (s : Dst) (h : DAt 91 w g gs lv s) : Calls Try.prog 29 #[.pointer (some ⟨g, 0, none⟩)] w fun e w' => e = .returned (.int .i64 s.S.length) ∧ w = w' :=
  diskLen_calls w g _ s.S.length _ lv s.f s.dn h.dk
def Dst.readB (s : Dst) (i : Int) : List UInt8 := Go.Proofs.Ytnpcehlbboeadaa.readB s.S s.L s.dn i
def Dst.readE (s : Dst) (i : Int) : Int := Go.Proofs.Ytnpcehlbboeadaa.readE s.S s.dn i
theorem diskRead_at (w : World) (g gs : Nat) (lv : Value) (s : Dst) (i : Int) (h : DAt 91 w g gs lv s) : Calls Try.prog 20 #[.pointer (some ⟨g, 0, none⟩), .int .i64 i] w fun e w' => e = .returned (.tuple #[.agg (bts (s.readB i)).toArray, .int .i64 (s.readE i)]) ∧ Below w.heap.size w w' :=
  diskRead_calls w g gs lv s.S s.L s.f s.dn i h
theorem refRead_at (w : World) (g gs : Nat) (lv : Value) (s : Dst) (i : Int) (h : DAt 93 w g gs lv s) : Calls Try.prog 21 #[.pointer (some ⟨g, 0, none⟩), .int .i64 i] w fun e w' => e = .returned (.tuple #[.agg (bts (s.readB i)).toArray, .int .i64 (s.readE i)]) ∧ Below w.heap.size w w' :=
  refRead_calls w g gs lv s.S s.L s.f s.dn i h
theorem DAt.readB_len {wT : TypeId} {w : World} {g gs : Nat} {lv : Value} {s : Dst} (h : DAt wT w g gs lv s) (i : Int) : (s.readB i).length = 32 := by
  unfold Dst.readB Go.Proofs.Ytnpcehlbboeadaa.readB
  split
  · rename_i hh
    have := DiskAt.now32 h i.toNat (by omega) s.L.length (Nat.le_refl _)
    rwa [List.take_length] at this
  · rw [List.length_replicate]
/-- Two disks side by side. -/
structure Two (w0 w : World) (wT : TypeId) (g gs : Nat) (lv : Value) (s : Dst) (vT : TypeId) (q qs : Nat) (mv : Value) (t : Dst) : Prop where
  a : DSes wT w0 w g gs lv s
  b : DSes vT w0 w q qs mv t
  ap : ∀ j, footD g gs lv j → ¬ footD q qs mv j
section
variable {wT vT : TypeId} {w0 w w' : World} {g gs q qs : Nat} {lv mv : Value} {s s' t t' : Dst}
theorem Two.below (h : Two w0 w wT g gs lv s vT q qs mv t) (hb : Below w.heap.size w w') : Two w0 w' wT g gs lv s vT q qs mv t := ⟨h.a.below hb, h.b.below hb, h.ap⟩
theorem Two.drew (h : Two w0 w wT g gs lv s vT q qs mv t) : Two w0 w.drew wT g gs lv s vT q qs mv t := ⟨h.a.drew, h.b.drew, h.ap⟩
theorem Two.swap (h : Two w0 w wT g gs lv s vT q qs mv t) : Two w0 w vT q qs mv t wT g gs lv s := ⟨h.b, h.a, fun j hj hk => h.ap j hk hj⟩
theorem Two.post (h : Two w0 w wT g gs lv s vT q qs mv t) {r : Value} {e : Ending} (hp : DPost wT w g gs lv s' r e w') : e = .returned r ∧ ∃ lv', Two w0 w' wT g gs lv' s' vT q qs mv t := by
  obtain ⟨he, lv', h1⟩ := h.a.post hp
  obtain ⟨_, lv2, h2, h3, h4⟩ := hp
  obtain ⟨he', lv'', hs⟩ := h.a.post ⟨he, lv2, h2, h3, h4⟩
  have hq : DAt vT w' q qs mv t := DiskAt.chg h.b.at_ h4 (fun j hj hk => h.ap j hk hj)
  refine ⟨he, lv2, ⟨h2, fun j hj => ?_, hs.bel⟩, ⟨hq, h.b.fr, hs.bel⟩, fun j hj hk => ?_⟩
  · rcases h3 j hj with h5 | h5
    · exact h.a.fr j h5
    · exact Nat.le_trans h.a.bel.size h5
  · rcases h3 j hj with h5 | h5
    · exact h.ap j h5 hk
    · have := DiskAt.lt h.b.at_ j hk
      omega
theorem Two.post2 (h : Two w0 w wT g gs lv s vT q qs mv t) {r : Value} {e : Ending} (hp : DPost vT w q qs mv t' r e w') : e = .returned r ∧ ∃ mv', Two w0 w' wT g gs lv s vT q qs mv' t' := by
  obtain ⟨he, mv', h1⟩ := h.swap.post hp
  exact ⟨he, mv', h1.swap⟩
end
end Go.Proofs.Ytnpcehlbboeadaa
