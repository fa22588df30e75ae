/- The walks of disk.New and Fuse. -/
import Derived.Test.YtnpcehlbboeadaaDisk
import Derived.OwnWalk
namespace Go.Proofs.Ytnpcehlbboeadaa
open Go.RowKit
set_option linter.unusedVariables false
set_option linter.unusedSimpArgs false

theorem own_bk {w : World} {base n g : Nat} {e : TypeId} {size : Nat} {xs : List Value} (h : w.ownsRow base e size (.slice (some ⟨g, 0, none⟩) n n) n xs) : Bk w g xs := by
  obtain ⟨hl, h2⟩ := h
  rcases h2 with ⟨hv, _⟩ | ⟨g', cap, cur, hv, _, hh, h1, _, hs, ht⟩
  · cases hv
  · injection hv with h3 h4 h5
    injection h3 with h3
    injection h3 with h3
    subst h3
    subst h5
    refine ⟨e, ?_⟩
    have : cur.toList = xs := by
      rw [← ht, List.take_of_length_le]
      rw [Array.length_toList]
      omega
    rw [← this]
    exact hh
theorem made_zero (q m : Nat) (hq : 0 < q) : (madeCells (bts (List.replicate q 0)).toArray m).toList = bts (List.replicate m 0) := by
  apply List.ext_getElem?
  intro i
  have hm : i % q < q := Nat.mod_lt _ hq
  by_cases h : i < m
  · simp [madeCells, bts, h, List.getElem?_replicate, hm]
  · simp [madeCells, bts, h, List.getElem?_replicate]
theorem infoBlk : (Try.prog.info? 37).map (fun i => (i.zero, i.size, i.bytes)) = some (some (.agg (bts (List.replicate 32 0)).toArray), 32, 32) := by kernel_rfl
/-- A new disk. -/
def NewPost (w : World) (n : Nat) (e : Ending) (w' : World) : Prop :=
  ∃ g gs, e = .returned (.tuple #[.pointer (some ⟨g, 0, none⟩), .int .i64 0]) ∧ Dk w' g (.slice (some ⟨gs, 0, none⟩) n n) (.slice none 0 0) (-1) false ∧ Bk w' gs (bts (List.replicate (n * 32) 0)) ∧
    w.heap.size ≤ gs ∧ gs < g ∧ Below w.heap.size w w'
set_option maxHeartbeats 1000000 in
theorem diskNew_no (n : Int) (w : World) (h : n < 1 ∨ 1024 < n) :
    Calls Try.prog 15 #[.int .i64 n] w fun e w' => e = .returned (.tuple #[.pointer none, .int .i64 1]) ∧ w = w' := by
  by_cases h1 : n < 1
  · go_enter Try.func15, Try.ntmps15
    go_wp2
    go_ret2
    exact ⟨rfl, rfl⟩
  · have h2 : 1024 < n := h.resolve_left h1
    go_enter Try.func15, Try.ntmps15
    go_wp2
    go_ret2
    exact ⟨rfl, rfl⟩
set_option maxRecDepth 20000 in
set_option maxHeartbeats 1000000 in
theorem diskNew_yes (n : Nat) (w : World) (h1 : 1 ≤ n) (h2 : n ≤ 1024) :
    Calls Try.prog 15 #[.int .i64 n] w (NewPost w n) := by
  obtain ⟨i0, hi, hzz⟩ := Option.map_eq_some_iff.1 infoBlk
  simp only [Prod.mk.injEq] at hzz
  obtain ⟨hz0, hz1, hz2⟩ := hzz
  have hM : ∀ m, (madeCells (bts (List.replicate 32 0)).toArray m).toList = bts (List.replicate m 0) := fun m => made_zero 32 m (by decide)
  generalize (bts (List.replicate 32 0)).toArray = zc at hM hz0
  have HM := Lib.hid hM
  clear hM
  have hi1 : ¬ ((n : Int) < 1) := by omega
  have hi2 : ¬ ((1024 : Int) < (n : Int)) := by omega
  go_enter Try.func15, Try.ntmps15
  go_wp2_with (at_make; refine wpList_make_full w rfl _ _ 49 rfl w.heap.size 37 i0 (.agg zc) 32 Try.underlying49 hi hz0 hz1 .i64 .i64 n n n rfl rfl rfl rfl (by rw [hz2]; omega) (by simp only [maxLen]; omega) (Nat.le_refl _) ?_)
  intro w1 hown hg
  have hb := own_bk hown
  rw [HM.out] at hb
  have HB := Lib.hid hb
  have HE : Hid (Below w.heap.size w w1) := below_grown hg (Nat.le_refl _) (fun k hk => by cases hk)
  clear hown hg hb hz0 hz1 hz2 hi
  go_wp2
  go_ret2
  refine ⟨w1.heap.size, w.heap.size, rfl, Bk.new_at rfl rfl, HB.out.alloc _, Nat.le_refl _, HB.out.lt, HE.out.alloc HE.out.size _⟩
end Go.Proofs.Ytnpcehlbboeadaa
