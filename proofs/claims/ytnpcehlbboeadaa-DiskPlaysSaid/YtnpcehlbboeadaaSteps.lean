/- Steps: how they are read; whether they are not too many. -/
import Derived.Test.YtnpcehlbboeadaaWakes5
import Derived.Test.YtnpcehlbboeadaaOpen
namespace Go.Proofs.Ytnpcehlbboeadaa
open Go.ChangeShapes Go.WideShapes Go.RowKit Go.Deep
set_option linter.unusedVariables false
set_option linter.unusedSimpArgs false

structure Stp where
  k : Int
  i : Int
  v : UInt8
  A : Option Addr
  n : Nat
  c : Nat
  ks : List UInt8
def stpC (s : Stp) : List Value := [.int .i64 s.k, .int .i64 s.i, vu8 s.v, .slice s.A s.n s.c]
structure StpOk (W : World) (s : Stp) : Prop where
  k1 : -9223372036854775808 ≤ s.k
  k2 : s.k ≤ 9223372036854775807
  i1 : -9223372036854775808 ≤ s.i
  i2 : s.i ≤ 9223372036854775807
  len : s.ks.length = s.n
  cap : s.n ≤ s.c
  max : s.c ≤ 9223372036854775807
  rd : Rd W s.A (bts s.ks)
theorem StpOk.below {w w' : World} {s : Stp} (h : StpOk w s) (hb : Below w.heap.size w w') : StpOk w' s := ⟨h.k1, h.k2, h.i1, h.i2, h.len, h.cap, h.max, h.rd.below hb⟩
section
variable {H : Type} {enc : TypeId × Value → H} {W : World}
theorem stepCells : Try.prog.cellsOf 34 = 4 := by kernel_rfl
set_option maxRecDepth 100000 in
theorem TC.step {cs : List Value} (h : TC enc Try.prog W 34 cs) : ∃ s, cs = stpC s ∧ StpOk W s := by
  obtain ⟨hl, hf⟩ := h.struct Try.underlying34
  rw [stepCells] at hl
  match cs, hl with
  | [a, b, c, d], _ =>
    have f0 : TC enc Try.prog W 3 (([a, b, c, d].drop 0).take (Try.prog.cellsOf 3)) := hf 0 _ rfl
    have f1 : TC enc Try.prog W 3 (([a, b, c, d].drop 1).take (Try.prog.cellsOf 3)) := hf 1 _ rfl
    have f2 : TC enc Try.prog W 5 (([a, b, c, d].drop 2).take (Try.prog.cellsOf 5)) := hf 2 _ rfl
    have f3 : TC enc Try.prog W 32 (([a, b, c, d].drop 3).take (Try.prog.cellsOf 32)) := hf 3 _ rfl
    rw [show Try.prog.cellsOf 3 = 1 by kernel_rfl] at f0 f1
    rw [show Try.prog.cellsOf 5 = 1 by kernel_rfl] at f2
    rw [show Try.prog.cellsOf 32 = 1 by kernel_rfl] at f3
    obtain ⟨x0, hx0, b0⟩ := f0.int Try.underlying3
    obtain ⟨x1, hx1, b1⟩ := f1.int Try.underlying3
    obtain ⟨x2, hx2⟩ := f2.u8 Try.underlying5
    obtain ⟨A, n, c3, l, hx3, hl3, hc3, hm3, hr3⟩ := f3.bytes Try.underlying32 Try.underlying5 (by kernel_rfl)
    simp at hx0 hx1 hx2 hx3
    have B0 := Go.bounds_i64 b0
    have B1 := Go.bounds_i64 b1
    exact ⟨⟨x0, x1, x2, A, n, c3, l⟩, by simp [stpC, hx0, hx1, hx2, hx3], ⟨B0.1, B0.2, B1.1, B1.2, hl3, hc3, hm3, hr3⟩⟩
theorem steps_of : ∀ (n : Nat) (vs : List Value), vs.length = n * 4 → (∀ i, i < n → TC enc Try.prog W 34 ((vs.drop (i * 4)).take 4)) → ∃ l : List Stp, l.length = n ∧ vs = l.flatMap stpC ∧ ∀ s ∈ l, StpOk W s
  | 0, vs, hl, _ => ⟨[], rfl, List.eq_nil_of_length_eq_zero (by omega), fun s hs => by cases hs⟩
  | n + 1, vs, hl, h => by
    obtain ⟨s, hs, hok⟩ := (h 0 (by omega)).step
    obtain ⟨l, h1, h2, h3⟩ := steps_of n (vs.drop 4) (by rw [List.length_drop]; omega) (fun i hi => by
      have := h (i + 1) (by omega)
      rwa [show (i + 1) * 4 = 4 + i * 4 by omega, ← List.drop_drop] at this)
    refine ⟨s :: l, by simp [h1], ?_, ?_⟩
    · rw [List.flatMap_cons, ← h2, ← hs, Nat.zero_mul, List.drop_zero, List.take_append_drop]
    · intro x hx
      rcases List.mem_cons.1 hx with rfl | hx
      · exact hok
      · exact h3 x hx
theorem TC.steps {cs : List Value} (h : TC enc Try.prog W 22 cs) :
    ∃ (A : Option Addr) (n cap : Nat) (l : List Stp), cs = [.slice A n cap] ∧ l.length = n ∧ n ≤ cap ∧ cap ≤ 9223372036854775807 ∧ Rd W A (l.flatMap stpC) ∧ ∀ s ∈ l, StpOk W s := by
  obtain ⟨A, n, cap, vs, h0, h1, h2, h3, h4, h5⟩ := h.slice Try.underlying22
  rw [stepCells] at h3 h5
  obtain ⟨l, hl, rfl, hk⟩ := steps_of n vs h3 h5
  exact ⟨A, n, cap, l, h0, hl, h1, h2, h4, hk⟩
end
theorem stp_get {l : List Stp} {k : Nat} (hk : k < l.length) (j : Nat) (hj : j < 4) : (l.flatMap stpC)[k * 4 + j]? = (stpC l[k])[j]? := by
  have h := flat_piece stpC 4 l k l[k] (fun _ _ => rfl) (List.getElem?_eq_getElem hk)
  have h2 := congrArg (·[j]?) h
  simp only [List.getElem?_take, List.getElem?_drop] at h2
  rwa [if_pos hj] at h2
/-- The cells of the k-th step. -/
theorem stp_cells {w : World} {A : Option Addr} {l : List Stp} (hr : Rd w A (l.flatMap stpC)) {k : Nat} (hk : k < l.length) : ∃ ad, A = some ad ∧ w.cell? (ad.add (k * 4)) = some (.int .i64 l[k].k) ∧ w.cell? ⟨(ad.add (k * 4)).block, (ad.add (k * 4)).off + 1, none⟩ = some (.int .i64 l[k].i) ∧ w.cell? ⟨(ad.add (k * 4)).block, (ad.add (k * 4)).off + 2, none⟩ = some (vu8 l[k].v) ∧ w.cell? ⟨(ad.add (k * 4)).block, (ad.add (k * 4)).off + 3, none⟩ = some (.slice l[k].A l[k].n l[k].c) := by
  obtain ⟨ad, hA, h0⟩ := hr _ _ (stp_get hk 0 (by decide))
  obtain ⟨ad1, hA1, h1⟩ := hr _ _ (stp_get hk 1 (by decide))
  obtain ⟨ad2, hA2, h2⟩ := hr _ _ (stp_get hk 2 (by decide))
  obtain ⟨ad3, hA3, h3⟩ := hr _ _ (stp_get hk 3 (by decide))
  subst hA
  injection hA1 with e1
  injection hA2 with e2
  injection hA3 with e3
  subst e1 e2 e3
  rw [← add_add] at h1 h2 h3
  exact ⟨_, rfl, h0, h1, h2, h3⟩
def fairB (l : List Stp) : Bool := l.all (fun s => decide (s.n ≤ 300)) && decide (l.length ≤ 200)
theorem fairB_no {l : List Stp} {k : Nat} (hk : k < l.length) (h : ¬ l[k].n ≤ 300) : fairB l = false := by
  rw [fairB, Bool.and_eq_false_iff]
  left
  rw [List.all_eq_false]
  exact ⟨l[k], List.getElem_mem hk, by simpa using h⟩
theorem fairB_yes {l : List Stp} (h : ∀ j (hj : j < l.length), l[j].n ≤ 300) : fairB l = decide (l.length ≤ 200) := by
  rw [fairB, List.all_eq_true.2, Bool.true_and]
  intro s hs
  obtain ⟨j, hj, rfl⟩ := List.getElem_of_mem hs
  simpa using h j hj
set_option maxHeartbeats 1000000 in
theorem fair_calls (w : World) (A : Option Addr) (n c : Nat) (l : List Stp) (hl : l.length = n) (hm : n ≤ 9223372036854775807) (hr : Rd w A (l.flatMap stpC)) :
    Calls Try.prog 13 #[.slice A n c] w fun e w' => e = .returned (.bool (fairB l)) ∧ w = w' := by
  subst hl
  have HR := Lib.hid hr
  clear hr
  go_enter Try.func13, Try.ntmps13
  go_wp2_with fail
  go_loop [3] (fun v => ∃ k : Nat, k ≤ l.length ∧ v = .int .i64 k ∧ ∀ j (hj : j < l.length), j < k → l[j].n ≤ 300) (fun v => l.length - (intOf v).toNat)
  case atStart => exact ⟨0, by omega, rfl, fun j _ h => by omega⟩
  case round =>
    obtain ⟨k, hk, rfl, hall⟩ := hrel
    have HA := Lib.hid hall
    clear hall
    by_cases hlt : k < l.length
    · have hki : (k : Int) < (l.length : Int) := by omega
      obtain ⟨ad, hA, _, _, _, h3⟩ := stp_cells HR.out hlt
      subst hA
      by_cases hn : l[k].n ≤ 300
      · have hni : ¬ ((300 : Int) < (l[k].n : Int)) := by omega
        have HN := Lib.hid hn
        clear hn
        go_wp2
        go_round
        case rel => exact ⟨k + 1, by omega, by go_num, fun j hj hjk => by
          rcases Nat.lt_or_ge j k with h | h
          · exact HA.out j hj h
          · obtain rfl : j = k := by omega
            exact HN.out⟩
        case measure => simp [intOf]; omega
      · have hni : ((300 : Int) < (l[k].n : Int)) := by omega
        have HN := Lib.hid (fairB_no hlt hn)
        clear hn
        go_wp2
        go_ret
        exact ⟨by rw [HN.out]; rfl, rfl⟩
    · have hki : ¬ ((k : Int) < (l.length : Int)) := by omega
      have HN := Lib.hid (fairB_yes (l := l) (fun j hj => HA.out j hj (by omega)))
      go_wp2
      go_ret
      refine ⟨?_, rfl⟩
      rw [HN.out]
      show Ending.returned (.bool (decide ((l.length : Int) ≤ 200))) = _
      congr 2
      rw [decide_eq_decide]
      omega
end Go.Proofs.Ytnpcehlbboeadaa
