/- The walks of the reference's New, has, through; of Fuse. -/
import Derived.Test.YtnpcehlbboeadaaDiskNew
namespace Go.Proofs.Ytnpcehlbboeadaa
open Go.RowKit
set_option linter.unusedVariables false
set_option linter.unusedSimpArgs false

set_option maxHeartbeats 1000000 in
theorem refNew_no (n : Int) (w : World) (h : n < 1 ∨ 1024 < n) :
    Calls Try.prog 16 #[.int .i64 n] w fun e w' => e = .returned (.tuple #[.pointer none, .int .i64 1]) ∧ w = w' := by
  by_cases h1 : n < 1
  · go_enter Try.func16, Try.ntmps16
    go_wp2
    go_ret2
    exact ⟨rfl, rfl⟩
  · have h2 : 1024 < n := h.resolve_left h1
    go_enter Try.func16, Try.ntmps16
    go_wp2
    go_ret2
    exact ⟨rfl, rfl⟩
set_option maxRecDepth 20000 in
set_option maxHeartbeats 1000000 in
theorem refNew_yes (n : Nat) (w : World) (h1 : 1 ≤ n) (h2 : n ≤ 1024) :
    Calls Try.prog 16 #[.int .i64 n] w (NewPost w n) := by
  obtain ⟨i0, hi, hzz⟩ := Option.map_eq_some_iff.1 infoBlk
  simp only [Prod.mk.injEq] at hzz
  obtain ⟨hz0, hz1, hz2⟩ := hzz
  have hM : ∀ m, (madeCells (bts (List.replicate 32 0)).toArray m).toList = bts (List.replicate m 0) := fun m => made_zero 32 m (by decide)
  generalize (bts (List.replicate 32 0)).toArray = zc at hM hz0
  have HM := Lib.hid hM
  clear hM
  have hi1 : ¬ ((n : Int) < 1) := by omega
  have hi2 : ¬ ((1024 : Int) < (n : Int)) := by omega
  go_enter Try.func16, Try.ntmps16
  go_wp2_with (at_make; refine wpList_make_full w rfl _ _ 49 rfl w.heap.size 37 i0 (.agg zc) 32 Try.underlying49 hi hz0 hz1 .i64 .i64 n n n rfl rfl rfl rfl (by rw [hz2]; omega) (by simp only [maxLen]; omega) (Nat.le_refl _) ?_)
  intro w1 hown hg
  have hb := own_bk hown
  rw [HM.out] at hb
  have HB := Lib.hid hb
  have HE : Hid (Below w.heap.size w w1) := below_grown hg (Nat.le_refl _) (fun k hk => by cases hk)
  clear hown hg hb hz0 hz1 hz2 hi
  go_wp2
  go_ret2
  refine ⟨w1.heap.size, w.heap.size, rfl, Bk.new_at rfl rfl, HB.out.alloc _, Nat.le_refl _, HB.out.lt, HE.out.alloc HE.out.size _⟩

set_option maxHeartbeats 400000 in
theorem refHas_calls (w : World) (g : Nat) (A : Option Addr) (n c : Nat) (lv : Value) (f : Int) (dn : Bool) (i : Int) (h : Dk w g (.slice A n c) lv f dn) :
    Calls Try.prog 42 #[.pointer (some ⟨g, 0, none⟩), .int .i64 i] w fun e w' => e = .returned (.bool (decide (0 ≤ i) && decide (i < n))) ∧ w = w' := by
  have h0 := h.cell (j := 0) rfl
  by_cases hi : 0 ≤ i
  · go_enter Try.func42, Try.ntmps42
    go_wp2
    go_ret
    exact ⟨by simp [hi], rfl⟩
  · go_enter Try.func42, Try.ntmps42
    go_wp2
    go_ret
    exact ⟨by rw [show decide (0 ≤ i) = false by simpa using hi]; rfl, rfl⟩
set_option maxHeartbeats 1000000 in
theorem refThrough_calls (w : World) (g : Nat) (sv lv : Value) (f : Int) (dn : Bool) (h : Dk w g sv lv f dn) (hf : -9223372036854775808 ≤ f) (hf2 : f ≤ 9223372036854775807) :
    Calls Try.prog 43 #[.pointer (some ⟨g, 0, none⟩)] w fun e w' => e = .returned (.bool (!passD f dn)) ∧ Dk w' g sv lv (passF f dn) (passD f dn) ∧ Chg (· = g) w w' := by
  have h2 := h.cell (j := 2) rfl
  have h3 := h.cell (j := 3) rfl
  have H := Lib.hid h
  clear h
  cases dn with
  | true =>
    go_enter Try.func43, Try.ntmps43
    go_wp2_with (refine wpList_st rfl 4 _ _ rfl g 3 1 [sv, lv, .int .i64 f, .bool true] [.bool true] rfl rfl H.out (by kernel_rfl) rfl (Nat.le_refl _) (one_b _) ?_)
    intro w1 hb hc
    have hb' : Bk w1 g [sv, lv, .int .i64 f, .bool true] := hb
    clear h2 h3 hb
    go_wp2
    go_ret
    exact ⟨rfl, by simpa [Dk, passF, passD] using hb', hc⟩
  | false =>
    by_cases hf0 : f = 0
    · subst hf0
      go_enter Try.func43, Try.ntmps43
      go_wp2_with (refine wpList_st rfl 4 _ _ rfl g 3 1 [sv, lv, .int .i64 0, .bool false] [.bool true] rfl rfl H.out (by kernel_rfl) rfl (Nat.le_refl _) (one_b _) ?_)
      intro w1 hb hc
      have hb' : Bk w1 g [sv, lv, .int .i64 0, .bool true] := hb
      clear h2 h3 hb
      go_wp2
      go_ret
      exact ⟨by simp [passD], by simpa [Dk, passF, passD] using hb', hc⟩
    · have hfb : (f == 0) = false := by simpa using hf0
      go_enter Try.func43, Try.ntmps43
      by_cases hp : 0 < f
      · go_wp2_with (refine wpList_st rfl 3 _ _ rfl g 2 1 [sv, lv, .int .i64 f, .bool false] [.int .i64 (f - 1)] rfl rfl H.out (by kernel_rfl) rfl (Nat.le_succ _) (one_i _) ?_)
        intro w2 hb2 hc2
        have hb3 : Bk w2 g [sv, lv, .int .i64 (f - 1), .bool false] := hb2
        clear h2 h3 hb2
        go_wp2
        go_ret
        exact ⟨by simp [passD, hf0], by simpa [Dk, passF, passD, hf0, hp] using hb3, hc2⟩
      · go_wp2
        go_ret
        have hp' : ¬ 0 < f := by omega
        exact ⟨by simp [passD, hf0], by simpa [Dk, passF, passD, hf0, hp'] using H.out, Chg.refl _⟩
end Go.Proofs.Ytnpcehlbboeadaa
