/- The walk of Fuse. -/
import Derived.Test.YtnpcehlbboeadaaDiskRef
namespace Go.Proofs.Ytnpcehlbboeadaa
open Go.RowKit
set_option linter.unusedVariables false
set_option linter.unusedSimpArgs false

theorem results_none {P : Program} {fn : Func} (h : fn.results = #[]) (tmps : Array Value) (w : World) : (results fn tmps).run P w = .ok (.tuple #[]) w := by simp [results, h]
set_option maxHeartbeats 1000000 in
theorem diskFuse_calls (w : World) (g : Nat) (sv lv : Value) (f : Int) (dn : Bool) (n : Int) (h : Dk w g sv lv f dn) :
    Calls Try.prog 26 #[.pointer (some ⟨g, 0, none⟩), .int .i64 n] w fun e w' => e = .returned (.tuple #[]) ∧ Dk w' g sv lv (max n (-1)) dn ∧ Chg (· = g) w w' := by
  have H := Lib.hid h
  clear h
  rcases Int.lt_or_le n (-1) with hn | hn
  · have e : max n (-1) = -1 := by omega
    rw [e]
    go_enter Try.func26, Try.ntmps26
    go_wp2_with (refine wpList_st rfl 3 _ _ rfl g 2 1 [sv, lv, .int .i64 f, .bool dn] [.int .i64 (-1)] rfl rfl H.out (by kernel_rfl) rfl (Nat.le_succ _) (one_i _) ?_)
    all_goals intro w1 hb hc
    have hb3 : Bk w1 g [sv, lv, .int .i64 (-1), .bool dn] := hb
    clear hb
    go_wp2
    exact bodyPost_end (results_none rfl _ _) rfl ⟨rfl, hb3, hc⟩
  · have e : max n (-1) = n := by omega
    rw [e]
    go_enter Try.func26, Try.ntmps26
    go_wp2_with (refine wpList_st rfl 3 _ _ rfl g 2 1 [sv, lv, .int .i64 f, .bool dn] [.int .i64 n] rfl rfl H.out (by kernel_rfl) rfl (Nat.le_succ _) (one_i _) ?_)
    intro w1 hb hc
    have hb3 : Bk w1 g [sv, lv, .int .i64 n, .bool dn] := hb
    clear hb
    go_wp2
    exact bodyPost_end (results_none rfl _ _) rfl ⟨rfl, hb3, hc⟩
end Go.Proofs.Ytnpcehlbboeadaa
