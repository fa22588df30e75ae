import Derived.Test.YtcmfkdfegfablaaNodeLaw

/- Twelve blocks that are wanted; rows of puts. -/
namespace Go.Proofs.Ytcmfkdfegfablaa
open Go.ChangeShapes Go.WideShapes Go.RowKit Go.Deep
set_option linter.unusedVariables false
set_option linter.unusedSimpArgs false

/-- A row of puts among rows. -/
structure RowV where
  A : Option Addr
  n : Nat
  c : Nat
  ps : List PutV
def rowC (r : RowV) : Value := .slice r.A r.n r.c
structure RowOk (W : World) (r : RowV) : Prop where
  len : r.ps.length = r.n
  cap : r.n ≤ r.c
  max : r.c ≤ 9223372036854775807
  rd : Rd W r.A (r.ps.flatMap putC)
  ok : PutsOk r.ps
section
variable {H : Type} {enc : TypeId × Value → H} {W : World}
theorem putRows_of : ∀ (n : Nat) (vs : List Value), vs.length = n → (∀ i, i < n → TC enc Try.prog W 23 ((vs.drop i).take 1)) → ∃ l : List RowV, l.length = n ∧ vs = l.map rowC ∧ ∀ r ∈ l, RowOk W r
  | 0, vs, hl, _ => ⟨[], rfl, List.eq_nil_of_length_eq_zero (by omega), fun s hs => by cases hs⟩
  | n + 1, [], hl, _ => by simp at hl
  | n + 1, v :: vs, hl, h => by
    obtain ⟨A, m, c, ps, h1, h2, h3, h4, h5, h6⟩ := (h 0 (by omega)).puts
    obtain ⟨l, hl1, hl2, hl3⟩ := putRows_of n vs (by simpa using hl) (fun i hi => by have := h (i + 1) (by omega); simpa using this)
    simp at h1
    refine ⟨⟨A, m, c, ps⟩ :: l, by simp [hl1], by rw [h1, hl2]; rfl, ?_⟩
    intro x hx
    rcases List.mem_cons.1 hx with rfl | hx
    · exact ⟨h2, h3, h4, h5, h6⟩
    · exact hl3 x hx
theorem TC.putRows {cs : List Value} (h : TC enc Try.prog W 60 cs) :
    ∃ (A : Option Addr) (n cap : Nat) (l : List RowV), cs = [.slice A n cap] ∧ l.length = n ∧ n ≤ cap ∧ cap ≤ 9223372036854775807 ∧ Rd W A (l.map rowC) ∧ ∀ r ∈ l, RowOk W r := by
  obtain ⟨A, n, cap, vs, h0, h1, h2, h3, h4, h5⟩ := h.slice Try.underlying60
  rw [show Try.prog.cellsOf 23 = 1 by kernel_rfl] at h3 h5
  obtain ⟨l, hl, rfl, hk⟩ := putRows_of n vs (by omega) (fun i hi => by have := h5 i hi; rwa [Nat.mul_one] at this)
  exact ⟨A, n, cap, l, h0, hl, h1, h2, h4, hk⟩
end
theorem row_some {w : World} {A : Option Addr} {l : List RowV} (hr : Rd w A (l.map rowC)) {k : Nat} (hk : k < l.length) : ∃ ad, A = some ad := by
  obtain ⟨ad, hA, _⟩ := hr.at_ k (by simpa using hk)
  exact ⟨ad, hA⟩
theorem row_at {w : World} {ad : Addr} {l : List RowV} (hr : Rd w (some ad) (l.map rowC)) {k : Nat} (hk : k < l.length) : w.cell? (ad.add k) = some (.slice l[k].A l[k].n l[k].c) := by
  obtain ⟨ad', hA, h⟩ := hr.at_ k (by simpa using hk)
  injection hA with hA
  subst hA
  rw [h, List.getElem_map]
  rfl
theorem put_some_ps {w : World} {r : RowV} (h : RowOk w r) {j : Nat} (hj : j < r.ps.length) : ∃ ad, r.A = some ad := puts_some h.rd hj
theorem put_at_ps {w : World} {r : RowV} (h : RowOk w r) {j : Nat} (hj : j < r.ps.length) : (∀ w', Below w.heap.size w w' → ∀ ad, r.A = some ad → w'.cell? (ad.add (j * 33)) = some (.int .i64 r.ps[j].at_)) ∧ ∀ w', Below w.heap.size w w' → ∀ ad, r.A = some ad → Rd w' (some (ad.add (j * 33))) (putC r.ps[j]) :=
  ⟨fun w' hb ad hA => put_at (by have := h.rd.below hb; rwa [hA] at this) h.ok hj, fun w' hb ad hA => put_rd (by have := h.rd.below hb; rwa [hA] at this) h.ok hj⟩
/-! ### the blocks that are wanted -/
def wantS (W : List (List UInt8)) (ps : List PutV) : List (List UInt8) := ps.foldl (fun W p => W.set p.at_.toNat p.data) W
theorem wantS_len : ∀ (ps : List PutV) (W : List (List UInt8)), (wantS W ps).length = W.length
  | [], W => rfl
  | p :: ps, W => by
    show (wantS (W.set p.at_.toNat p.data) ps).length = _
    rw [wantS_len ps, List.length_set]
theorem wantS_take (W : List (List UInt8)) (ps : List PutV) (j : Nat) (hj : j < ps.length) : wantS W (ps.take (j + 1)) = (wantS W (ps.take j)).set ps[j].at_.toNat ps[j].data := by
  rw [wantS, wantS, List.take_succ_eq_append_getElem hj, List.foldl_append]
  rfl
theorem wantS_at : ∀ (ps : List PutV) (W : List (List UInt8)) (b : Nat), W.length = 12 → AtsOk ps → b < 12 → (wantS W ps).getD b [] = wupd (fun b => W.getD b []) ps b
  | [], W, b, _, _, _ => rfl
  | p :: ps, W, b, h, ha, hb => by
    have hp := ha p List.mem_cons_self
    show (wantS (W.set p.at_.toNat p.data) ps).getD b [] = wupd _ ps b
    rw [wantS_at ps _ b (by rw [List.length_set]; exact h) (fun x hx => ha x (List.mem_cons_of_mem _ hx)) hb]
    apply wupd_congr
    show (W.set p.at_.toNat p.data).getD b [] = (if p.at_.toNat = b then p.data else W.getD b [])
    by_cases hpb : p.at_.toNat = b
    · rw [if_pos hpb, hpb, getD_set_same (by omega)]
    · rw [if_neg hpb, getD_set_other (by omega)]
theorem set_32 {W : List (List UInt8)} {i : Nat} {d : List UInt8} (h : ∀ b, b < 12 → (W.getD b []).length = 32) (hd : d.length = 32) (h12 : W.length = 12) : ∀ b, b < 12 → ((W.set i d).getD b []).length = 32 := by
  intro b hb
  by_cases hi : i = b
  · subst hi
    rw [getD_set_same (by omega)]
    exact hd
  · rw [getD_set_other (by omega)]
    exact h b hb
theorem wantS_32 (W : List (List UInt8)) : ∀ (ps : List PutV), W.length = 12 → (∀ b, b < 12 → (W.getD b []).length = 32) → (∀ p ∈ ps, p.data.length = 32) → ∀ b, b < 12 → ((wantS W ps).getD b []).length = 32 := by
  intro ps
  induction ps generalizing W with
  | nil => intro _ h _; exact h
  | cons p ps ih =>
    intro h1 h2 h3
    exact ih (W.set p.at_.toNat p.data) (by rw [List.length_set]; exact h1) (set_32 h2 (h3 p List.mem_cons_self) h1) (fun x hx => h3 x (List.mem_cons_of_mem _ hx))
theorem all32 {W : List (List UInt8)} (h : W.length = 12) (h2 : ∀ b, b < 12 → (W.getD b []).length = 32) : ∀ x ∈ W, (bts x).length = 32 := by
  intro x hx
  obtain ⟨i, hi, rfl⟩ := List.getElem_of_mem hx
  have := h2 i (by omega)
  rw [List.getD_eq_getElem?_getD, List.getElem?_eq_getElem hi] at this
  rw [bts_length]
  exact this
theorem secs_len12 {W : List (List UInt8)} (h : W.length = 12) (h2 : ∀ b, b < 12 → (W.getD b []).length = 32) : (secs W).length = 384 := by
  have := flat_length bts 32 W (all32 h h2)
  rw [h] at this
  exact this
theorem secs_at {W : List (List UInt8)} (h : W.length = 12) (h2 : ∀ b, b < 12 → (W.getD b []).length = 32) {k : Nat} (hk : k < 12) : ((secs W).drop (k * 32)).take 32 = bts (W.getD k []) :=
  flat_piece bts 32 W k (W.getD k []) (all32 h h2) (by rw [List.getD_eq_getElem?_getD, List.getElem?_eq_getElem (by omega)]; rfl)
theorem secs_set {W : List (List UInt8)} (h : W.length = 12) (h2 : ∀ b, b < 12 → (W.getD b []).length = 32) {i : Nat} {d : List UInt8} (hd : d.length = 32) (hi : i < 12) : splice (secs W) (i * 32) (bts d) = secs (W.set i d) :=
  flat_set bts 32 W i d (all32 h h2) (by rw [bts_length]; exact hd) (by omega)
theorem later_next {L : Lab} {k : Nat} {kq : UInt32} (h1 : L.e.toNat ≤ 1) (h2 : L.s.toNat ≤ k) (h3 : kq.toNat = k + 1) : laterB 1 kq L.e L.s = true := by
  simp only [laterB, Bool.or_eq_true, Bool.and_eq_true, decide_eq_true_eq]
  have : (1 : UInt32).toNat = 1 := rfl
  omega
/-- A loop that holds block after block against what is wanted. -/
def CmpRel (w : World) (gd gsd : Nat) (lv : Value) (s : Dst) (B : World → Prop) (v : Value) (wr : World) : Prop := ∃ (k : Nat), k ≤ 12 ∧ v = .int .i64 k ∧ DSes 92 w wr gd gsd lv s ∧ B wr
end Go.Proofs.Ytcmfkdfegfablaa
