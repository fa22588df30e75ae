/- Texts of this seat, merged: Disk, DiskNew, DiskRef, DiskFuse, DiskWrite, DiskWrite2, DiskWriteR, DiskWriteR2, DiskAt, DiskRead, DiskFlush, DiskUp, DiskReadR, DiskUpR, DiskFlushR, DiskApi, DiskSes. -/
import Derived.Test.YtcmfkdfegfablaaG1
import Derived.Test.YtcmfkdfegfablaaProg
import Derived.OwnWalk

/- The walks of the disk's small functions: what they read and turn in the disk's own block. -/
namespace Go.Proofs.Ytcmfkdfegfablaa
open Go.RowKit
set_option linter.unusedVariables false
set_option linter.unusedSimpArgs false

/-- The disk's own block: its sectors' slice, its loose writes' slice, its fuse, whether it is down. -/
def Dk (w : World) (g : Nat) (sv lv : Value) (f : Int) (dn : Bool) : Prop := Bk w g [sv, lv, .int .i64 f, .bool dn]
theorem one_b (b : Bool) : ∀ u ∈ [Value.bool b], u.oneCell' = true := by intro u hu; obtain rfl := List.mem_singleton.1 hu; rfl
theorem one_i (z : Int) : ∀ u ∈ [Value.int .i64 z], u.oneCell' = true := by intro u hu; obtain rfl := List.mem_singleton.1 hu; rfl
/-- What pass answers, and what it leaves of the fuse and of 'down'. -/
def passE (f : Int) (dn : Bool) : Int := if dn = true ∨ f = 0 then 20 else 0
def passF (f : Int) (dn : Bool) : Int := if dn = true ∨ f = 0 then f else if 0 < f then f - 1 else f
def passD (f : Int) (dn : Bool) : Bool := dn || decide (f = 0)

set_option maxHeartbeats 400000 in
theorem diskLen_calls (w : World) (g : Nat) (A : Option Addr) (n c : Nat) (lv : Value) (f : Int) (dn : Bool) (h : Dk w g (.slice A n c) lv f dn) :
    Calls Try.prog 29 #[.pointer (some ⟨g, 0, none⟩)] w fun e w' => e = .returned (.int .i64 n) ∧ w = w' := by
  have h0 := h.cell (j := 0) rfl
  go_enter Try.func29, Try.ntmps29
  go_wp2
  go_ret
  exact ⟨rfl, rfl⟩
set_option maxHeartbeats 400000 in
theorem diskLen_nil (w : World) : Calls Try.prog 29 #[.pointer none] w fun e w' => e = .returned (.int .i64 0) ∧ w = w' := by
  go_enter Try.func29, Try.ntmps29
  go_wp2
  go_ret
  exact ⟨rfl, rfl⟩
set_option maxHeartbeats 400000 in
theorem diskLoose_calls (w : World) (g : Nat) (sv : Value) (A : Option Addr) (n c : Nat) (f : Int) (dn : Bool) (h : Dk w g sv (.slice A n c) f dn) :
    Calls Try.prog 24 #[.pointer (some ⟨g, 0, none⟩)] w fun e w' => e = .returned (.int .i64 n) ∧ w = w' := by
  have h0 := h.cell (j := 1) rfl
  go_enter Try.func24, Try.ntmps24
  go_wp2
  go_ret
  exact ⟨rfl, rfl⟩
set_option maxHeartbeats 400000 in
theorem diskHas_calls (w : World) (g : Nat) (A : Option Addr) (n c : Nat) (lv : Value) (f : Int) (dn : Bool) (i : Int) (h : Dk w g (.slice A n c) lv f dn) :
    Calls Try.prog 43 #[.pointer (some ⟨g, 0, none⟩), .int .i64 i] w fun e w' => e = .returned (.bool (decide (0 ≤ i) && decide (i < n))) ∧ w = w' := by
  by_cases hi : 0 ≤ i
  · go_enter Try.func43, Try.ntmps43
    go_wp2_with (go_at_call 29; refine (diskLen_calls w g A n c lv f dn h).mono ?_; rintro e w' ⟨rfl, rfl⟩)
    go_ret
    exact ⟨by simp [hi], rfl⟩
  · go_enter Try.func43, Try.ntmps43
    go_wp2
    go_ret
    exact ⟨by rw [show decide (0 ≤ i) = false by simpa using hi]; rfl, rfl⟩
set_option maxHeartbeats 1000000 in
theorem diskPass_calls (w : World) (g : Nat) (sv lv : Value) (f : Int) (dn : Bool) (h : Dk w g sv lv f dn) (hs1 : sv.oneCell' = true) (hl1 : lv.oneCell' = true) (hf : -1 ≤ f) (hf2 : f ≤ 9223372036854775807) :
    Calls Try.prog 50 #[.pointer (some ⟨g, 0, none⟩)] w fun e w' => e = .returned (.int .i64 (passE f dn)) ∧ Dk w' g sv lv (passF f dn) (passD f dn) ∧ Chg (· = g) w w' := by
  have h2 := h.cell (j := 2) rfl
  have h3 := h.cell (j := 3) rfl
  have H := Lib.hid h
  clear h
  have hz : ∀ w1, Bk w1 g [sv, lv, .int .i64 f, .bool true] → w1.cell? ⟨g, 3, none⟩ = some (.bool true) := fun w1 h => h.cell rfl
  cases dn with
  | true =>
    go_enter Try.func50, Try.ntmps50
    go_wp2_with (refine wpList_st rfl 4 _ _ rfl g 3 1 [sv, lv, .int .i64 f, .bool true] [.bool true] rfl rfl H.out (by kernel_rfl) rfl (Nat.le_refl _) (one_b _) ?_)
    intro w1 hb hc
    have hb' : Bk w1 g [sv, lv, .int .i64 f, .bool true] := hb
    have c3 := hb'.cell (j := 3) rfl
    clear h2 h3 hb
    go_wp2
    go_ret
    exact ⟨by simp [passE], by simpa [Dk, passF, passD] using hb', hc⟩
  | false =>
    by_cases hf0 : f = 0
    · subst hf0
      go_enter Try.func50, Try.ntmps50
      go_wp2_with (refine wpList_st rfl 4 _ _ rfl g 3 1 [sv, lv, .int .i64 0, .bool false] [.bool true] rfl rfl H.out (by kernel_rfl) rfl (Nat.le_refl _) (one_b _) ?_)
      intro w1 hb hc
      have hb' : Bk w1 g [sv, lv, .int .i64 0, .bool true] := hb
      have c3 := hb'.cell (j := 3) rfl
      clear h2 h3 hb
      go_wp2
      go_ret
      exact ⟨by simp [passE], by simpa [Dk, passF, passD] using hb', hc⟩
    · have hfb : (f == 0) = false := by simpa using hf0
      go_enter Try.func50, Try.ntmps50
      go_wp2_with (refine wpList_st rfl 4 _ _ rfl g 3 1 [sv, lv, .int .i64 f, .bool false] [.bool false] rfl rfl H.out (by kernel_rfl) rfl (Nat.le_refl _) (one_b _) ?_)
      intro w1 hb hc
      have hb' : Bk w1 g [sv, lv, .int .i64 f, .bool false] := hb
      have c3 := hb'.cell (j := 3) rfl
      have c2 := hb'.cell (j := 2) rfl
      have HB := Lib.hid hb'
      clear h2 h3 hb hb'
      by_cases hp : 0 < f
      · go_wp2_with (refine wpList_st rfl 3 _ _ rfl g 2 1 [sv, lv, .int .i64 f, .bool false] [.int .i64 (f - 1)] rfl rfl HB.out (by kernel_rfl) rfl (Nat.le_succ _) (one_i _) ?_)
        intro w2 hb2 hc2
        have hb3 : Bk w2 g [sv, lv, .int .i64 (f - 1), .bool false] := hb2
        clear c2 c3 hb2
        go_wp2
        go_ret
        exact ⟨by simp [passE, hf0], by simpa [Dk, passF, passD, hf0, hp] using hb3, hc.trans hc2⟩
      · go_wp2
        go_ret
        have hp' : ¬ 0 < f := by omega
        exact ⟨by simp [passE, hf0], by simpa [Dk, passF, passD, hf0, hp'] using HB.out, hc⟩

theorem fill_step2 (l : List UInt8) (k : Nat) (v : UInt8) (hk : k < 32) (hl : bts l = bts (List.replicate k v ++ List.replicate (32 - k) 0)) : splice (bts l) k [vu8 v] = bts (List.replicate (k + 1) v ++ List.replicate (32 - (k + 1)) 0) := by
  rw [hl]
  obtain ⟨j, hj⟩ : ∃ j, 32 - k = j + 1 := ⟨32 - k - 1, by omega⟩
  rw [hj, show 32 - (k + 1) = j by omega]
  simp only [splice, bts_append, List.length_singleton]
  rw [List.take_left' (by simp), List.drop_append, List.drop_eq_nil_of_le (by simp), List.nil_append, bts_length, List.length_replicate, show k + 1 - k = 1 by omega, bts_drop, List.drop_replicate, show j + 1 - 1 = j by omega, List.replicate_succ', bts_append, List.append_assoc]
  rfl
def FillRel (w : World) (g : Nat) (v : UInt8) (v4 : Value) (wr : World) : Prop := ∃ k : Nat, k ≤ 32 ∧ v4 = .int .i64 k ∧ Bk wr (g + 1) (bts (List.replicate k v ++ List.replicate (32 - k) 0)) ∧ Bk wr g (bts (List.replicate 32 0)) ∧ Below w.heap.size w wr
set_option maxHeartbeats 1000000 in
theorem fill_calls (v : UInt8) (w : World) :
    Calls Try.prog 28 #[vu8 v] w fun e w' => e = .returned (.agg (bts (List.replicate 32 v)).toArray) ∧ Below w.heap.size w w' := by
  go_enter Try.func28, Try.ntmps28
  go_wp2_with (refine wpList_al rfl 35 rfl (bts (List.replicate 32 0)) (by kernel_rfl) ?_)
  intro g w1 hg hb hc hs
  subst hg
  go_wp2_with (refine wpList_al rfl 35 rfl (bts (List.replicate 32 0)) (by kernel_rfl) ?_)
  intro g2 w2 hg hb2 hc2 hs2
  (try rw [hs] at hg)
  subst hg
  have hrel0 : FillRel w w.heap.size v (.int .i64 0) w2 := ⟨0, by omega, rfl, hb2, hb.chg hc2 id, (hc.below (Nat.le_refl _) (fun _ _ => id)).trans (hc2.below (by omega) (fun _ _ => id))⟩
  have H0 := Lib.hid hrel0
  clear hb hc hs hb2 hc2 hs2 hrel0
  go_wp2_with fail
  go_loopw [4] (fun v4 wr => FillRel w w.heap.size v v4 wr) (fun v4 _ => 32 - (intOf v4).toNat)
  case atStart => exact H0.out
  case round =>
    obtain ⟨k, hk, rfl, hb, hz, he⟩ := hrel
    have HB := Lib.hid hb
    have HZ := Lib.hid hz
    have HE := Lib.hid he
    clear hb hz he H0
    by_cases hlt : k < 32
    · have hki : (k : Int) < 32 := by omega
      go_wp2_with (refine wpList_st rfl 5 _ _ rfl (w.heap.size + 1) k 1 _ [vu8 v] rfl rfl HB.out (by kernel_rfl) rfl (by simp; omega) (fun u hu => by obtain rfl := List.mem_singleton.1 hu; rfl) ?_)
      intro w3 hb3 hc3
      rw [fill_step2 _ k v hlt rfl] at hb3
      have HB3 := Lib.hid hb3
      have HZ3 : Hid (Bk wr w.heap.size (bts (List.replicate 32 0)) → Bk w3 w.heap.size (bts (List.replicate 32 0))) := fun h => h.chg hc3 (by omega)
      have HE3 : Hid (Below w.heap.size w w3) := HE.out.trans (hc3.below HE.out.size (fun k hk he => by omega))
      clear hb3 hc3
      go_wp2_with fail
      go_roundw
      case rel => exact ⟨k + 1, by omega, by go_num, HB3.out, HZ3.out HZ.out, HE3.out⟩
      case measure => simp [intOf]; omega
    · have hk32 : k = 32 := by omega
      have hki : ¬ ((k : Int) < 32) := by omega
      have hB : Bk wr (w.heap.size + 1) (bts (List.replicate 32 v)) := by
        have := HB.out
        rw [hk32] at this
        rwa [show List.replicate (32 - 32) (0 : UInt8) = [] from rfl, List.append_nil] at this
      have HN : Hid ((bts (List.replicate 32 v)).length = 32) := by show _ = _; rw [bts_length, List.length_replicate]
      have HN0 : Hid ((bts (List.replicate 32 0)).length = 32) := by show _ = _; rw [bts_length, List.length_replicate]
      have HO := Lib.hid (one_bts (List.replicate 32 v))
      have HB2 := Lib.hid hB
      clear hB HB hk32
      obtain ⟨vv, hvv⟩ : ∃ vv, bts (List.replicate 32 v) = vv := ⟨_, rfl⟩
      rw [hvv] at HN HO HB2
      have HVV := Lib.hid hvv
      clear hvv
      generalize bts (List.replicate 32 0) = zz at HN0 HZ
      go_wp2_with (first
        | (refine wpList_ld rfl 35 (.tmp 3) rfl (w.heap.size + 1) 0 32 vv vv rfl HB2.out (by kernel_rfl) (by kernel_rfl) (by rw [HN.out]; decide) (by rw [List.drop_zero, List.take_of_length_le (by rw [HN.out]; decide)]) ?_)
        | (refine wpList_st rfl 35 (.tmp 2) (.tmp 12) rfl w.heap.size 0 32 zz vv rfl rfl HZ.out (by kernel_rfl) HN.out (by rw [HN0.out]; decide) HO.out ?_))
      intro w3 hb3 hc3
      rw [splice_whole zz vv (by rw [HN.out, HN0.out])] at hb3
      have HE3 : Hid (Below w.heap.size w w3) := HE.out.trans (hc3.below HE.out.size (fun k hk he => by omega))
      go_wp2_with fail
      (try simp only [Exit.inBlock, Exit.then])
      refine bodyPost_ret (res_cell rfl _ _ w.heap.size 32 vv rfl hb3 (by kernel_rfl) (by kernel_rfl) HN.out) rfl ?_
      exact ⟨by rw [HVV.out], HE3.out⟩
end Go.Proofs.Ytcmfkdfegfablaa


/- The walks of disk.New and Fuse. -/
namespace Go.Proofs.Ytcmfkdfegfablaa
open Go.RowKit
set_option linter.unusedVariables false
set_option linter.unusedSimpArgs false

theorem own_bk {w : World} {base n g : Nat} {e : TypeId} {size : Nat} {xs : List Value} (h : w.ownsRow base e size (.slice (some ⟨g, 0, none⟩) n n) n xs) : Bk w g xs := by
  obtain ⟨hl, h2⟩ := h
  rcases h2 with ⟨hv, _⟩ | ⟨g', cap, cur, hv, _, hh, h1, _, hs, ht⟩
  · cases hv
  · injection hv with h3 h4 h5
    injection h3 with h3
    injection h3 with h3
    subst h3
    subst h5
    refine ⟨e, ?_⟩
    have : cur.toList = xs := by
      rw [← ht, List.take_of_length_le]
      rw [Array.length_toList]
      omega
    rw [← this]
    exact hh
theorem made_zero (q m : Nat) (hq : 0 < q) : (madeCells (bts (List.replicate q 0)).toArray m).toList = bts (List.replicate m 0) := by
  apply List.ext_getElem?
  intro i
  have hm : i % q < q := Nat.mod_lt _ hq
  by_cases h : i < m
  · simp [madeCells, bts, h, List.getElem?_replicate, hm]
  · simp [madeCells, bts, h, List.getElem?_replicate]
theorem infoBlk : (Try.prog.info? 35).map (fun i => (i.zero, i.size, i.bytes)) = some (some (.agg (bts (List.replicate 32 0)).toArray), 32, 32) := by kernel_rfl
/-- A new disk. -/
def NewPost (w : World) (n : Nat) (e : Ending) (w' : World) : Prop :=
  ∃ g gs, e = .returned (.tuple #[.pointer (some ⟨g, 0, none⟩), .int .i64 0]) ∧ Dk w' g (.slice (some ⟨gs, 0, none⟩) n n) (.slice none 0 0) (-1) false ∧ Bk w' gs (bts (List.replicate (n * 32) 0)) ∧
    w.heap.size ≤ gs ∧ gs < g ∧ Below w.heap.size w w'
set_option maxHeartbeats 1000000 in
theorem diskNew_no (n : Int) (w : World) (h : n < 1 ∨ 1024 < n) :
    Calls Try.prog 13 #[.int .i64 n] w fun e w' => e = .returned (.tuple #[.pointer none, .int .i64 1]) ∧ w = w' := by
  by_cases h1 : n < 1
  · go_enter Try.func13, Try.ntmps13
    go_wp2
    go_ret2
    exact ⟨rfl, rfl⟩
  · have h2 : 1024 < n := h.resolve_left h1
    go_enter Try.func13, Try.ntmps13
    go_wp2
    go_ret2
    exact ⟨rfl, rfl⟩
set_option maxRecDepth 20000 in
set_option maxHeartbeats 1000000 in
theorem diskNew_yes (n : Nat) (w : World) (h1 : 1 ≤ n) (h2 : n ≤ 1024) :
    Calls Try.prog 13 #[.int .i64 n] w (NewPost w n) := by
  obtain ⟨i0, hi, hzz⟩ := Option.map_eq_some_iff.1 infoBlk
  simp only [Prod.mk.injEq] at hzz
  obtain ⟨hz0, hz1, hz2⟩ := hzz
  have hM : ∀ m, (madeCells (bts (List.replicate 32 0)).toArray m).toList = bts (List.replicate m 0) := fun m => made_zero 32 m (by decide)
  generalize (bts (List.replicate 32 0)).toArray = zc at hM hz0
  have HM := Lib.hid hM
  clear hM
  have hi1 : ¬ ((n : Int) < 1) := by omega
  have hi2 : ¬ ((1024 : Int) < (n : Int)) := by omega
  go_enter Try.func13, Try.ntmps13
  go_wp2_with (at_make; refine wpList_make_full w rfl _ _ 82 rfl w.heap.size 35 i0 (.agg zc) 32 Try.underlying82 hi hz0 hz1 .i64 .i64 n n n rfl rfl rfl rfl (by rw [hz2]; omega) (by simp only [maxLen]; omega) (Nat.le_refl _) ?_)
  intro w1 hown hg
  have hb := own_bk hown
  rw [HM.out] at hb
  have HB := Lib.hid hb
  have HE : Hid (Below w.heap.size w w1) := below_grown hg (Nat.le_refl _) (fun k hk => by cases hk)
  clear hown hg hb hz0 hz1 hz2 hi
  go_wp2
  go_ret2
  refine ⟨w1.heap.size, w.heap.size, rfl, Bk.new_at rfl rfl, HB.out.alloc _, Nat.le_refl _, HB.out.lt, HE.out.alloc HE.out.size _⟩
end Go.Proofs.Ytcmfkdfegfablaa


/- The walks of the reference's New, has, through; of Fuse. -/
namespace Go.Proofs.Ytcmfkdfegfablaa
open Go.RowKit
set_option linter.unusedVariables false
set_option linter.unusedSimpArgs false

end Go.Proofs.Ytcmfkdfegfablaa


/- The walk of Fuse. -/
namespace Go.Proofs.Ytcmfkdfegfablaa
open Go.RowKit
set_option linter.unusedVariables false
set_option linter.unusedSimpArgs false

theorem results_none {P : Program} {fn : Func} (h : fn.results = #[]) (tmps : Array Value) (w : World) : (results fn tmps).run P w = .ok (.tuple #[]) w := by simp [results, h]
set_option maxHeartbeats 1000000 in
theorem diskFuse_calls (w : World) (g : Nat) (sv lv : Value) (f : Int) (dn : Bool) (n : Int) (h : Dk w g sv lv f dn) :
    Calls Try.prog 21 #[.pointer (some ⟨g, 0, none⟩), .int .i64 n] w fun e w' => e = .returned (.tuple #[]) ∧ Dk w' g sv lv (max n (-1)) dn ∧ Chg (· = g) w w' := by
  have H := Lib.hid h
  clear h
  rcases Int.lt_or_le n (-1) with hn | hn
  · have e : max n (-1) = -1 := by omega
    rw [e]
    go_enter Try.func21, Try.ntmps21
    go_wp2_with (refine wpList_st rfl 3 _ _ rfl g 2 1 [sv, lv, .int .i64 f, .bool dn] [.int .i64 (-1)] rfl rfl H.out (by kernel_rfl) rfl (Nat.le_succ _) (one_i _) ?_)
    all_goals intro w1 hb hc
    have hb3 : Bk w1 g [sv, lv, .int .i64 (-1), .bool dn] := hb
    clear hb
    go_wp2
    exact bodyPost_end (results_none rfl _ _) rfl ⟨rfl, hb3, hc⟩
  · have e : max n (-1) = n := by omega
    rw [e]
    go_enter Try.func21, Try.ntmps21
    go_wp2_with (refine wpList_st rfl 3 _ _ rfl g 2 1 [sv, lv, .int .i64 f, .bool dn] [.int .i64 n] rfl rfl H.out (by kernel_rfl) rfl (Nat.le_succ _) (one_i _) ?_)
    intro w1 hb hc
    have hb3 : Bk w1 g [sv, lv, .int .i64 n, .bool dn] := hb
    clear hb
    go_wp2
    exact bodyPost_end (results_none rfl _ _) rfl ⟨rfl, hb3, hc⟩
end Go.Proofs.Ytcmfkdfegfablaa


/- The walk of disk.Write, where it goes through. -/
namespace Go.Proofs.Ytcmfkdfegfablaa
open Go.RowKit
set_option linter.unusedVariables false
set_option linter.unusedSimpArgs false

def zW : Value := .agg (.int .i64 0 :: bts (List.replicate 32 0)).toArray
theorem infoW : (Try.prog.info? 92).map (fun i => (i.zero, i.size)) = some (some zW, 33) := by kernel_rfl
theorem infoW2 : (Try.prog.info? 92).map (fun i => (i.zero, i.size, i.bytes)) = some (some zW, 33, 40) := by kernel_rfl
def rowW (i : Int) (b : List UInt8) : List Value := .int .i64 i :: bts b
def OwnAt (base n : Nat) (xs : List Value) (lv : Value) : Fact := fun w v => w.ownsRow base 92 33 v n xs
theorem OwnAt.lasts {base n : Nat} {xs : List Value} {lv : Value} : ∀ w w' v, Chg NoS w w' → OwnAt base n xs lv w v → OwnAt base n xs lv w' v := fun _ _ _ h ho => own_chg ho h (fun _ _ => id)
def LvS (lv : Value) : Nat → Prop := fun j => lv.ownBlock = some j

def OwnTo (base n : Nat) (xs : List Value) (lv : Value) (m : Nat) : Fact := fun w v => w.ownsRow base 92 33 v n xs ∧ (v.ownBlock = lv.ownBlock ∨ ∃ j, v.ownBlock = some j ∧ m ≤ j)
theorem OwnTo.lasts {base n m : Nat} {xs : List Value} {lv : Value} : ∀ w w' v, Chg NoS w w' → OwnTo base n xs lv m w v → OwnTo base n xs lv m w' v := fun _ _ _ h ho => ⟨own_chg ho.1 h (fun _ _ => id), ho.2⟩
theorem one_w8 (i : Int) (b : List UInt8) : ∀ u ∈ rowW i b, u.oneCell' = true := by
  intro u hu
  rcases List.mem_cons.1 hu with rfl | hu
  · rfl
  · exact one_bts b u hu
set_option maxRecDepth 100000 in
set_option maxHeartbeats 2000000 in
theorem diskWrite_yes (w : World) (base g : Nat) (A : Option Addr) (n c : Nat) (lv : Value) (f : Int) (dn : Bool) (i : Int) (b : List UInt8) (k : Nat) (xs : List Value)
    (hd : Dk w g (.slice A n c) lv f dn) (ho : w.ownsRow base 92 33 lv k xs) (hb : b.length = 32) (h0 : 0 ≤ i) (hi : i < n) (hp : passD f dn = false) (hng : lv.ownBlock ≠ some g) (hk : k ≤ 1000) (hbase : base ≤ w.heap.size) (hf : -1 ≤ f) (hf2 : f ≤ 9223372036854775807) (hl1 : lv.oneCell' = true) :
    Calls Try.prog 35 #[.pointer (some ⟨g, 0, none⟩), .int .i64 i, .agg (bts b).toArray] w fun e w' => e = .returned (.int .i64 0) ∧
      ∃ lv', Dk w' g (.slice A n c) lv' (passF f dn) false ∧ w'.ownsRow base 92 33 lv' (k + 1) (xs ++ rowW i b) ∧ (lv'.ownBlock = lv.ownBlock ∨ ∃ j, lv'.ownBlock = some j ∧ w.heap.size ≤ j) ∧ Chg (fun j => j = g ∨ lv.ownBlock = some j) w w' := by
  have hnb : lv.ownBlock ≠ some w.heap.size := fun h => by have := (ho.lt _ h).2; omega
  have HNX : Hid (∀ q, w.heap.size ≤ q → ¬ LvS lv q) := fun q hq h => by have := (ho.lt _ h).2; omega
  have hpe : passE f dn = 0 := by
    unfold passE passD at *
    cases dn <;> simp_all
  have HB := Lib.hid hb
  have HO := Lib.hid ho
  have HD := Lib.hid hd
  clear hb ho hd
  obtain ⟨vx, hvx⟩ : ∃ vx, bts b = vx := ⟨_, rfl⟩
  have HVX := Lib.hid hvx
  rw [hvx]
  clear hvx
  go_enter Try.func35, Try.ntmps35
  go_wp2_with fail
  refine calls_at fun w1 hw1 => ?_
  have HD1 : Hid (Dk w1 g (.slice A n c) lv f dn) := by rw [← hw1]; exact HD.out.alloc _
  have HX1 : Hid (Bk w1 w.heap.size (bts b)) := by rw [← hw1, HVX.out]; exact Bk.new w vx _
  have HO1 : Hid (w1.ownsRow base 92 33 lv k xs) := by rw [← hw1]; exact own_chg HO.out ((Chg.refl (S := NoS) w).alloc _) (fun _ _ => id)
  have HC1 : Hid (Chg NoS w w1) := by rw [← hw1]; exact (Chg.refl _).alloc _
  clear hw1
  refine (diskHas_calls w1 g A n c lv f dn i HD1.out).mono ?_
  rintro e w' ⟨rfl, rfl⟩
  rw [show (decide (0 ≤ i) && decide (i < (n : Int))) = true by simp [h0, hi]]
  go_wp2_with fail
  refine (diskPass_calls w1 g _ lv f dn HD1.out rfl hl1 hf hf2).mono ?_
  rintro e w2 ⟨rfl, hd2, hc2⟩
  rw [hpe]
  rw [hp] at hd2
  have HD2 := Lib.hid hd2
  have hgx : w.heap.size ≠ g := fun h => by have := HD.out.lt; omega
  have HX2 : Hid (Bk w2 w.heap.size (bts b)) := HX1.out.chg hc2 hgx
  have HO2 : Hid (w2.ownsRow base 92 33 lv k xs) := own_chg HO1.out hc2 (fun j hj he => hng (by rw [hj, he]))
  have HC2 : Hid (Chg (· = g) w w2) := (HC1.out.mono (fun _ h => h.elim)).trans hc2
  have HBS : Hid (base ≤ w2.heap.size) := Nat.le_trans hbase HC2.out.size
  clear hd2 hc2
  go_wp2_with fail
  apply wp_region_relt 10 9 26 (OwnTo base (k + 1) (xs ++ rowW i b) lv w.heap.size) (Chg (LvS lv)) (Chg NoS) (Chg (LvS lv)) [(Veq _), (Veq _), (Veq _), (Veq _), (Veq _), (Veq _), (Veq _), (Veq _), (RowAt (LvS lv) 1 (rowW i b)), (fun _ _ => True)] [[], [], [1], [2], [3], [], [], [5, 6], [7], [4, 8]] [17, 18, 19, 20, 21, 22, 23, 24, 25, 26] (by kernel_rfl) (by kernel_rfl) rfl rfl rfl (by kernel_rfl) Chg.refl (fun _ _ _ => Chg.trans) (fun _ _ _ => Chg.trans) (fun _ _ h => h.mono (fun _ hk => hk.elim)) (fun _ _ h => h) ⟨Veq.lasts, Veq.lasts, Veq.lasts, Veq.lasts, Veq.lasts, Veq.lasts, Veq.lasts, Veq.lasts, (fun w w' v h => RowAt.lasts w w' v (h.mono (fun _ hk => hk.elim))), (fun _ _ _ _ _ => trivial), trivial⟩ ⟨Veq.lasts, Veq.lasts, Veq.lasts, Veq.lasts, Veq.lasts, Veq.lasts, Veq.lasts, Veq.lasts, RowAt.lasts, (fun _ _ _ _ _ => trivial), trivial⟩ OwnTo.lasts (fun F h w v => by cases h; trivial) ?aops ?afin
  case aops =>
    refine ⟨?ao0, ?ao1, ?ao2, ?ao3, ?ao4, ?ao5, ?ao6, ?ao7, ?ao8, ?ao9, trivial⟩
    case ao0 =>
      rw [if_neg (by decide)]
      intro a wx hE hin
      have i0 : a.eval (.tmp 0) = .pointer (some ⟨g, 0, none⟩) := hin 0 rfl
      clear hin
      have hcst : ∀ v, a.eval (.const v) = v := fun _ => rfl
      have hfnc : ∀ f, a.eval (.func f) = .func (.func f) #[] #[] := fun _ => rfl
      refine want_none rfl ?_
      unfold Oper.wp
      generalize a.eval = ρ at *
      go_simp
      try go_bits
      first | exact rel_val (Chg.refl _) | (go_simp; exact rel_val (Chg.refl _))
    case ao1 =>
      rw [if_neg (by decide)]
      intro a wx hE hin
      have i0 : a.eval (.tmp 0) = .pointer (some ⟨g, 0, none⟩) := hin 0 rfl
      clear hin
      have hcst : ∀ v, a.eval (.const v) = v := fun _ => rfl
      have hfnc : ∀ f, a.eval (.func f) = .func (.func f) #[] #[] := fun _ => rfl
      refine want_none rfl ?_
      unfold Oper.wp
      generalize a.eval = ρ at *
      go_simp
      try go_bits
      first | exact rel_val (Chg.refl _) | (go_simp; exact rel_val (Chg.refl _))
    case ao2 =>
      rw [if_neg (by decide)]
      rintro a wx hE hin (h1 : a.eval (.tmp 18) = _)
      clear hin
      have hcst : ∀ v, a.eval (.const v) = v := fun _ => rfl
      have hfnc : ∀ f, a.eval (.func f) = .func (.func f) #[] #[] := fun _ => rfl
      refine want_none rfl ?_
      unfold Oper.wp
      generalize a.eval = ρ at *
      go_simp
      try go_bits
      first | exact rel_val (Chg.refl _) | (go_simp; exact rel_val (Chg.refl _))
    case ao3 =>
      rw [if_neg (by decide)]
      rintro a wx hE hin (h2 : a.eval (.tmp 19) = _)
      clear hin
      have hcst : ∀ v, a.eval (.const v) = v := fun _ => rfl
      have hfnc : ∀ f, a.eval (.func f) = .func (.func f) #[] #[] := fun _ => rfl
      refine want_none rfl ?_
      unfold Oper.wp
      generalize a.eval = ρ at *
      go_simp
      try go_bits
      first | exact rel_val (Chg.refl _) | (go_simp; exact rel_val (Chg.refl _))
    case ao4 =>
      rw [if_neg (by decide)]
      rintro a wx hE hin (h3 : a.eval (.tmp 20) = _)
      clear hin
      have hcst : ∀ v, a.eval (.const v) = v := fun _ => rfl
      have hfnc : ∀ f, a.eval (.func f) = .func (.func f) #[] #[] := fun _ => rfl
      refine want_none rfl ?_
      unfold Oper.wp
      generalize a.eval = ρ at *
      have c := Bk.cell (j := 1) (HD2.out.drew.chg hE (show ¬ (lv.ownBlock = some g) from hng)) rfl
      go_simp
      try go_bits
      first | exact rel_val (Chg.refl _) | (go_simp; exact rel_val (Chg.refl _))
    case ao5 =>
      rw [if_neg (by decide)]
      intro a wx hE hin
      have i1 : a.eval (.tmp 1) = .int .i64 i := hin 1 rfl
      clear hin
      have hcst : ∀ v, a.eval (.const v) = v := fun _ => rfl
      have hfnc : ∀ f, a.eval (.func f) = .func (.func f) #[] #[] := fun _ => rfl
      refine want_none rfl ?_
      unfold Oper.wp
      generalize a.eval = ρ at *
      go_simp
      try go_bits
      first | exact rel_val (Chg.refl _) | (go_simp; exact rel_val (Chg.refl _))
    case ao6 =>
      rw [if_neg (by decide)]
      intro a wx hE hin
      have i5 : a.eval (.tmp 5) = .pointer (some ⟨w.heap.size, 0, none⟩) := hin 5 rfl
      clear hin
      have hcst : ∀ v, a.eval (.const v) = v := fun _ => rfl
      have hfnc : ∀ f, a.eval (.func f) = .func (.func f) #[] #[] := fun _ => rfl
      refine want_none rfl ?_
      exact wp_ld 35 _ rfl w.heap.size 0 32 (bts b) (bts b) i5 (HX2.out.drew.chg hE (show ¬ (lv.ownBlock = some w.heap.size) from hnb)) (by kernel_rfl) (by kernel_rfl) (by rw [bts_length, HB.out]; decide) (by rw [List.drop_zero, List.take_of_length_le (by rw [bts_length, HB.out]; decide)]) (rel_val (Chg.refl _))
    case ao7 =>
      rw [if_neg (by decide)]
      rintro a wx hE hin (h5 : a.eval (.tmp 22) = _) (h6 : a.eval (.tmp 23) = _)
      clear hin
      have hcst : ∀ v, a.eval (.const v) = v := fun _ => rfl
      have hfnc : ∀ f, a.eval (.func f) = .func (.func f) #[] #[] := fun _ => rfl
      refine want_none rfl ?_
      exact wp_bld2 92 0 1 _ _ rfl 33 (.int .i64 0 :: bts (List.replicate 32 0)) [(0, 1), (1, 32)] (by kernel_rfl) (by kernel_rfl) [.int .i64 i] (bts b) (by rw [h5]; rfl) (by rw [h6]; rfl) rfl (by rw [bts_length, HB.out]; rfl) (by rw [bts_length, HB.out]; rfl) (rel_val (Chg.refl _))
    case ao8 =>
      rw [if_neg (by decide)]
      rintro a wx hE hin (h7 : a.eval (.tmp 24) = _)
      clear hin
      have hcst : ∀ v, a.eval (.const v) = v := fun _ => rfl
      have hfnc : ∀ f, a.eval (.func f) = .func (.func f) #[] #[] := fun _ => rfl
      refine want_none rfl ?_
      exact wp_bs1 83 92 _ rfl zW 33 (rowW i b) Try.underlying83 infoW rfl (by decide) (by decide) (by rw [h7]; rfl) (by simp [rowW, HB.out]) ⟨_, rfl, ⟨wx.heap.size, rfl, HNX.out _ (Nat.le_trans HC2.out.size hE.size), _, _, heap_alloc_new wx _⟩, (Chg.refl _).alloc _⟩
    case ao9 =>
      rw [if_pos (by decide)]
      rintro a wx hE hin (h4 : a.eval (.tmp 21) = _) ⟨g8, h8, s8, t8, f8, c8⟩
      clear hin
      have hcst : ∀ v, a.eval (.const v) = v := fun _ => rfl
      have hfnc : ∀ f, a.eval (.func f) = .func (.func f) #[] #[] := fun _ => rfl
      refine step_append_rd _ _ 83 rfl base 92 zW 33 40 Try.underlying83 infoW2 rfl (by decide) (by decide) lv k xs h4 (own_chg (own_drew HO2.out) hE (fun _ _ => id)) (some ⟨g8, 0, none⟩) 1 1 (rowW i b) h8 (by simp [rowW, HB.out]) (Rd.row (S := NoS) c8) (one_w8 i b) (by omega) (Nat.le_trans HBS.out hE.size) ?_
      intro v1 w1 ho1 hg1 hat1
      refine ⟨v1, rfl, ?_, ⟨hg1.os, hg1.tape, hg1.output, hg1.size, fun j hj hne => hg1.block j hj (fun he => hne he.symm)⟩⟩
      rw [if_pos rfl]
      exact ⟨ho1, hat1.imp id (fun h => ⟨_, h, Nat.le_trans HC2.out.size hE.size⟩)⟩
  case afin =>
    intro wx hE
    rintro _ rfl _ rfl _ rfl _ rfl lv rfl _ rfl _ rfl _ rfl _ ⟨g8, rfl, s8, t8, f8, c8⟩ vsp _ hsp
    simp only [FinOk, List.take_succ_cons, List.take_zero, List.take_nil, List.drop_succ_cons, List.drop_zero, List.drop_nil, Act.put, List.setIfInBounds_toArray, List.set_cons_succ, List.set_cons_zero]
    simp only [Act.put, List.setIfInBounds_toArray, List.set_cons_succ, List.set_cons_zero] at hsp
    have hsp' : OwnTo base (k + 1) (xs ++ rowW i b) lv w.heap.size wx vsp := hsp
    clear hsp
    obtain ⟨ho3, hat3⟩ := hsp'
    obtain ⟨A2, c2, rfl, _, _, _⟩ := own_rd ho3
    have HD3 : Hid (Dk wx g (.slice A n c) lv (passF f dn) false) := HD2.out.drew.chg hE (show ¬ (lv.ownBlock = some g) from hng)
    have HO3 := Lib.hid ho3
    have HA3 := Lib.hid hat3
    have HC3 : Hid (Chg (fun j => j = g ∨ lv.ownBlock = some j) w wx) := (HC2.out.mono (fun _ h => .inl h)).trans (hE.undrew.mono (fun _ h => .inr h))
    have hne3 : (Value.slice A2 (k + 1) c2).ownBlock ≠ some g := by
      intro he
      rcases hat3 with h | ⟨j, h, hj⟩
      · exact hng (by rw [← h, he])
      · rw [he] at h
        injection h with h
        have := HD.out.lt
        omega
    clear ho3 hat3 hE c8
    go_wp2_with (refine wpList_st rfl 83 (.tmp 28) (.tmp 26) rfl g 1 1 [.slice A n c, lv, .int .i64 (passF f dn), .bool false] [.slice A2 (k + 1) c2] rfl rfl HD3.out (by kernel_rfl) rfl (by simp) (fun u hu => by obtain rfl := List.mem_singleton.1 hu; rfl) ?_)
    intro w4 hb4 hc4
    have hb5 : Dk w4 g (.slice A n c) (.slice A2 (k + 1) c2) (passF f dn) false := hb4
    have HO4 : Hid (w4.ownsRow base 92 33 (.slice A2 (k + 1) c2) (k + 1) (xs ++ rowW i b)) := own_chg HO3.out hc4 (fun j hj he => hne3 (by rw [hj, he]))
    have HC4 : Hid (Chg (fun j => j = g ∨ lv.ownBlock = some j) w w4) := HC3.out.trans (hc4.mono (fun _ h => .inl h))
    have HB5 := Lib.hid hb5
    clear hb4 hb5 hc4
    go_wp2
    go_ret
    exact ⟨rfl, _, HB5.out, HO4.out, HA3.out, HC4.out⟩
end Go.Proofs.Ytcmfkdfegfablaa


/- The walk of disk.Write, where it does not go through. -/
namespace Go.Proofs.Ytcmfkdfegfablaa
open Go.RowKit
set_option linter.unusedVariables false
set_option linter.unusedSimpArgs false

set_option maxRecDepth 100000 in
set_option maxHeartbeats 2000000 in
theorem diskWrite_arg (w : World) (g : Nat) (A : Option Addr) (n c : Nat) (lv : Value) (f : Int) (dn : Bool) (i : Int) (b : List UInt8) (hd : Dk w g (.slice A n c) lv f dn) (hi : ¬ (0 ≤ i ∧ i < n)) :
    Calls Try.prog 35 #[.pointer (some ⟨g, 0, none⟩), .int .i64 i, .agg (bts b).toArray] w fun e w' => e = .returned (.int .i64 1) ∧ Below w.heap.size w w' := by
  have HD := Lib.hid hd
  clear hd
  generalize bts b = vx
  have hz : (decide (0 ≤ i) && decide (i < (n : Int))) = false := by
    rw [← Bool.decide_and]
    exact decide_eq_false hi
  go_enter Try.func35, Try.ntmps35
  go_wp2_with fail
  refine calls_at fun w1 hw1 => ?_
  have HD1 : Hid (Dk w1 g (.slice A n c) lv f dn) := by rw [← hw1]; exact HD.out.alloc _
  have HE1 : Hid (Below w.heap.size w w1) := by rw [← hw1]; exact (Below.refl _ _).alloc (Nat.le_refl _) _
  clear hw1
  refine (diskHas_calls w1 g A n c lv f dn i HD1.out).mono ?_
  rintro e w' ⟨rfl, rfl⟩
  rw [hz]
  clear hi
  go_wp2
  go_ret
  exact ⟨rfl, HE1.out⟩
set_option maxRecDepth 100000 in
set_option maxHeartbeats 2000000 in
theorem diskWrite_down (w : World) (g : Nat) (A : Option Addr) (n c : Nat) (lv : Value) (f : Int) (dn : Bool) (i : Int) (b : List UInt8) (hd : Dk w g (.slice A n c) lv f dn) (hi : 0 ≤ i ∧ i < n) (hp : passD f dn = true) (hf : -1 ≤ f) (hf2 : f ≤ 9223372036854775807) (hl1 : lv.oneCell' = true) :
    Calls Try.prog 35 #[.pointer (some ⟨g, 0, none⟩), .int .i64 i, .agg (bts b).toArray] w fun e w' => e = .returned (.int .i64 20) ∧ Dk w' g (.slice A n c) lv (passF f dn) true ∧ Chg (· = g) w w' := by
  have HD := Lib.hid hd
  clear hd
  generalize bts b = vx
  have hz : (decide (0 ≤ i) && decide (i < (n : Int))) = true := by
    rw [← Bool.decide_and]
    exact decide_eq_true hi
  have hpe : passE f dn = 20 := by
    unfold passE passD at *
    cases dn <;> simp_all
  go_enter Try.func35, Try.ntmps35
  go_wp2_with fail
  refine calls_at fun w1 hw1 => ?_
  have HD1 : Hid (Dk w1 g (.slice A n c) lv f dn) := by rw [← hw1]; exact HD.out.alloc _
  have HC1 : Hid (Chg NoS w w1) := by rw [← hw1]; exact (Chg.refl _).alloc _
  clear hw1
  refine (diskHas_calls w1 g A n c lv f dn i HD1.out).mono ?_
  rintro e w' ⟨rfl, rfl⟩
  rw [hz]
  go_wp2_with fail
  refine (diskPass_calls w1 g _ lv f dn HD1.out rfl hl1 hf hf2).mono ?_
  rintro e w2 ⟨rfl, hd2, hc2⟩
  rw [hpe]
  rw [hp] at hd2
  have HD2 := Lib.hid hd2
  have HC2 : Hid (Chg (· = g) w w2) := (HC1.out.mono (fun _ h => h.elim)).trans hc2
  clear hd2 hc2
  go_wp2
  go_ret
  exact ⟨rfl, HD2.out, HC2.out⟩
end Go.Proofs.Ytcmfkdfegfablaa


/- The walk of disk.Write, where it goes through. -/
namespace Go.Proofs.Ytcmfkdfegfablaa
open Go.RowKit
set_option linter.unusedVariables false
set_option linter.unusedSimpArgs false

end Go.Proofs.Ytcmfkdfegfablaa


/- The walk of the reference's Write, where it does not go through. -/
namespace Go.Proofs.Ytcmfkdfegfablaa
open Go.RowKit
set_option linter.unusedVariables false
set_option linter.unusedSimpArgs false

end Go.Proofs.Ytcmfkdfegfablaa


/- A disk, all of it: sectors, loose writes, fuse, whether it is down. -/
namespace Go.Proofs.Ytcmfkdfegfablaa
open Go.RowKit
set_option linter.unusedVariables false
set_option linter.unusedSimpArgs false

theorem Chg.then_ {S T : Nat → Prop} {a b c : World} (h : Chg S a b) (k : Chg T b c) (hT : ∀ j, T j → j < a.heap.size → S j) : Chg S a c :=
  ⟨k.os.trans h.os, k.tape.trans h.tape, k.output.trans h.output, Nat.le_trans h.size k.size, fun j hj hn => (k.block j (Nat.lt_of_lt_of_le hj h.size) (fun ht => hn (hT j ht hj))).trans (h.block j hj hn)⟩
def rowsL (L : List (Nat × List UInt8)) : List Value := L.flatMap fun p => rowW p.1 p.2
def secs (S : List (List UInt8)) : List Value := S.flatMap bts
/-- The disk at g: its sectors' block gs, its loose slice lv. -/
structure DiskAt (wT : TypeId) (w : World) (g gs : Nat) (lv : Value) (S : List (List UInt8)) (L : List (Nat × List UInt8)) (f : Int) (dn : Bool) : Prop where
  dk : Dk w g (.slice (some ⟨gs, 0, none⟩) S.length S.length) lv f dn
  sb : Bk w gs (secs S)
  s32 : ∀ s ∈ S, s.length = 32
  own : w.ownsRow 0 wT 33 lv L.length (rowsL L)
  l32 : ∀ p ∈ L, p.2.length = 32 ∧ p.1 < S.length
  ne : g ≠ gs
  lg : lv.ownBlock ≠ some g
  ls : lv.ownBlock ≠ some gs
  sl : S.length ≤ 1024
/-- Its blocks. -/
def footD (g gs : Nat) (lv : Value) : Nat → Prop := fun j => j = g ∨ j = gs ∨ lv.ownBlock = some j
theorem DiskAt.chg {wT : TypeId} {w w' : World} {g gs : Nat} {lv : Value} {S : List (List UInt8)} {L : List (Nat × List UInt8)} {f : Int} {dn : Bool} {T : Nat → Prop} (h : DiskAt wT w g gs lv S L f dn) (hc : Chg T w w') (hT : ∀ j, footD g gs lv j → ¬ T j) : DiskAt wT w' g gs lv S L f dn :=
  ⟨Bk.chg h.dk hc (hT _ (.inl rfl)), h.sb.chg hc (hT _ (.inr (.inl rfl))), h.s32, own_chg h.own hc (fun k hk => hT _ (.inr (.inr hk))), h.l32, h.ne, h.lg, h.ls, h.sl⟩
theorem DiskAt.below {wT : TypeId} {w w' : World} {g gs : Nat} {lv : Value} {S : List (List UInt8)} {L : List (Nat × List UInt8)} {f : Int} {dn : Bool} (h : DiskAt wT w g gs lv S L f dn) (hc : Below w.heap.size w w') : DiskAt wT w' g gs lv S L f dn :=
  h.chg (T := NoS) (.of_below hc) (fun _ _ => id)
theorem DiskAt.lt {wT : TypeId} {w : World} {g gs : Nat} {lv : Value} {S : List (List UInt8)} {L : List (Nat × List UInt8)} {f : Int} {dn : Bool} (h : DiskAt wT w g gs lv S L f dn) : ∀ j, footD g gs lv j → j < w.heap.size := by
  rintro j (rfl | rfl | hj)
  · exact Bk.lt h.dk
  · exact h.sb.lt
  · exact (h.own.lt _ hj).2
theorem DiskAt.drew {wT : TypeId} {w : World} {g gs : Nat} {lv : Value} {S : List (List UInt8)} {L : List (Nat × List UInt8)} {f : Int} {dn : Bool} (h : DiskAt wT w g gs lv S L f dn) : DiskAt wT w.drew g gs lv S L f dn :=
  ⟨h.dk, h.sb, h.s32, own_drew h.own, h.l32, h.ne, h.lg, h.ls, h.sl⟩
theorem flat_piece_app {α : Type} (f : α → List Value) (C : Nat) (l : List α) (rest : List Value) (i : Nat) (x : α) (h : ∀ x ∈ l, (f x).length = C) (hx : l[i]? = some x) : ((l.flatMap f ++ rest).drop (i * C)).take C = f x := by
  have hi : i < l.length := (List.getElem?_eq_some_iff.1 hx).1
  have hl := flat_length f C l h
  have h1 : i * C + C ≤ l.length * C := by
    have := Nat.mul_le_mul_right C (show i + 1 ≤ l.length from hi)
    rwa [Nat.add_mul, Nat.one_mul] at this
  rw [List.drop_append_of_le_length (by omega), List.take_append_of_le_length (by rw [List.length_drop]; omega)]
  exact flat_piece f C l i x h hx
theorem rowW_length (i : Int) (b : List UInt8) (h : b.length = 32) : (rowW i b).length = 33 := by simp [rowW, h]
theorem DiskAt.row32 {wT : TypeId} {w : World} {g gs : Nat} {lv : Value} {S : List (List UInt8)} {L : List (Nat × List UInt8)} {f : Int} {dn : Bool} (h : DiskAt wT w g gs lv S L f dn) : ∀ p ∈ L, (rowW (p.1 : Int) p.2).length = 33 := fun p hp => rowW_length _ _ (h.l32 p hp).1
theorem DiskAt.sec32 {wT : TypeId} {w : World} {g gs : Nat} {lv : Value} {S : List (List UInt8)} {L : List (Nat × List UInt8)} {f : Int} {dn : Bool} (h : DiskAt wT w g gs lv S L f dn) : ∀ s ∈ S, (bts s).length = 32 := fun s hs => by rw [bts_length]; exact h.s32 s hs
theorem DiskAt.secs_len {wT : TypeId} {w : World} {g gs : Nat} {lv : Value} {S : List (List UInt8)} {L : List (Nat × List UInt8)} {f : Int} {dn : Bool} (h : DiskAt wT w g gs lv S L f dn) : (secs S).length = S.length * 32 := flat_length bts 32 S h.sec32
theorem DiskAt.sec {wT : TypeId} {w : World} {g gs : Nat} {lv : Value} {S : List (List UInt8)} {L : List (Nat × List UInt8)} {f : Int} {dn : Bool} (h : DiskAt wT w g gs lv S L f dn) (i : Nat) (hi : i < S.length) : ((secs S).drop (i * 32)).take 32 = bts (S.getD i []) :=
  flat_piece bts 32 S i _ h.sec32 (by rw [List.getD_eq_getElem?_getD, List.getElem?_eq_getElem hi]; rfl)
theorem DiskAt.now32 {wT : TypeId} {w : World} {g gs : Nat} {lv : Value} {S : List (List UInt8)} {L : List (Nat × List UInt8)} {f : Int} {dn : Bool} (h : DiskAt wT w g gs lv S L f dn) (i : Nat) (hi : i < S.length) : ∀ k, k ≤ L.length → (nowS S (L.take k) i).length = 32 := by
  intro k
  induction k with
  | zero =>
    intro _
    rw [List.take_zero, nowS, List.foldl_nil, List.getD_eq_getElem?_getD, List.getElem?_eq_getElem hi]
    exact h.s32 _ (List.getElem_mem hi)
  | succ k ih =>
    intro hk
    rw [nowS_take S L i k hk]
    split
    · exact (h.l32 _ (List.getElem_mem hk)).1
    · exact ih (by omega)
/-- The loose row's block, and the k-th write in it. -/
theorem DiskAt.loose {wT : TypeId} {w : World} {g gs : Nat} {lv : Value} {S : List (List UInt8)} {L : List (Nat × List UInt8)} {f : Int} {dn : Bool} (h : DiskAt wT w g gs lv S L f dn) (k : Nat) (hk : k < L.length) :
    ∃ gl cap vs, lv = .slice (some ⟨gl, 0, none⟩) L.length cap ∧ Bk w gl vs ∧ k * 33 + 33 ≤ vs.length ∧ (vs.drop (k * 33)).take 33 = rowW (L[k].1 : Int) L[k].2 ∧ gl ≠ g ∧ gl ≠ gs := by
  obtain ⟨gl, cap, rest, hv, hb, ho⟩ := own_bkr h.own (by omega)
  have hl := flat_length (fun p : Nat × List UInt8 => rowW p.1 p.2) 33 L h.row32
  have h1 : k * 33 + 33 ≤ L.length * 33 := by omega
  refine ⟨gl, cap, rowsL L ++ rest, hv, hb, ?_, flat_piece_app (fun p : Nat × List UInt8 => rowW p.1 p.2) 33 L rest k L[k] h.row32 (List.getElem?_eq_getElem hk), fun he => h.lg (by rw [ho, he]), fun he => h.ls (by rw [ho, he])⟩
  rw [List.length_append]
  show k * 33 + 33 ≤ (L.flatMap fun p => rowW p.1 p.2).length + rest.length
  rw [hl]
  omega
section
variable {wT : TypeId} {w w' : World} {g gs : Nat} {lv : Value} {S : List (List UInt8)} {L : List (Nat × List UInt8)} {f f' : Int} {dn dn' : Bool}
theorem DiskAt.redk (h : DiskAt wT w g gs lv S L f dn) (hc : Chg (· = g) w w') (hd : Dk w' g (.slice (some ⟨gs, 0, none⟩) S.length S.length) lv f' dn') : DiskAt wT w' g gs lv S L f' dn' :=
  ⟨hd, h.sb.chg hc h.ne.symm, h.s32, own_chg h.own hc (fun k hk he => h.lg (by rw [hk, he])), h.l32, h.ne, h.lg, h.ls, h.sl⟩
theorem DiskAt.empty (h : DiskAt wT w g gs lv S L f dn) (hc : Chg (· = g) w w') (hd : Dk w' g (.slice (some ⟨gs, 0, none⟩) S.length S.length) (.slice none 0 0) f' dn') : DiskAt wT w' g gs (.slice none 0 0) S [] f' dn' :=
  ⟨hd, h.sb.chg hc h.ne.symm, h.s32, World.ownsRow_nil w' 0 wT 33, fun p hp => (by cases hp), h.ne, fun he => (by cases he), fun he => (by cases he), h.sl⟩
theorem DiskAt.put (h : DiskAt wT w g gs lv S L f dn) (i : Nat) (b : List UInt8) (hi : i < S.length) (hb : b.length = 32) (hc : Chg (· = gs) w w') (hs : Bk w' gs (splice (secs S) (i * 32) (bts b))) : DiskAt wT w' g gs lv (S.set i b) L f dn := by
  refine ⟨by rw [List.length_set]; exact Bk.chg h.dk hc h.ne, ?_, ?_, own_chg h.own hc (fun k hk he => h.ls (by rw [hk, he])), fun p hp => by rw [List.length_set]; exact h.l32 p hp, h.ne, h.lg, h.ls, by rw [List.length_set]; exact h.sl⟩
  · rwa [secs, flat_set bts 32 S i b h.sec32 (by rw [bts_length, hb]) hi] at hs
  · intro s hs
    rcases List.mem_or_eq_of_mem_set hs with h2 | rfl
    · exact h.s32 s h2
    · exact hb
end
theorem piece_parts {vs : List Value} {off : Nat} {i : Int} {b : List UInt8} (hb : b.length = 32) (h : (vs.drop off).take 33 = rowW i b) : vs[off]? = some (.int .i64 i) ∧ (vs.drop (off + 1)).take 32 = bts b := by
  constructor
  · have h2 := congrArg (·[0]?) h
    simp only [rowW, List.getElem?_cons_zero, List.getElem?_take, List.getElem?_drop, Nat.add_zero] at h2
    rw [if_pos (by decide)] at h2
    exact h2
  · have h2 := congrArg (List.drop 1) h
    rw [List.drop_take, List.drop_drop] at h2
    simpa [rowW] using h2
end Go.Proofs.Ytcmfkdfegfablaa


/- The walk of disk.Read. -/
namespace Go.Proofs.Ytcmfkdfegfablaa
open Go.RowKit
set_option linter.unusedVariables false
set_option linter.unusedSimpArgs false

/-- What Read answers. -/
def readB (S : List (List UInt8)) (L : List (Nat × List UInt8)) (dn : Bool) (i : Int) : List UInt8 := if 0 ≤ i ∧ i < S.length ∧ dn = false then nowS S L i.toNat else List.replicate 32 0
def readE (S : List (List UInt8)) (dn : Bool) (i : Int) : Int := if 0 ≤ i ∧ i < S.length then (if dn = true then 20 else 0) else 1
theorem readB_out (S : List (List UInt8)) (L : List (Nat × List UInt8)) (dn : Bool) (i : Int) (h : ¬ (0 ≤ i ∧ i < (S.length : Int))) : readB S L dn i = List.replicate 32 0 := by rw [readB, if_neg (fun hh => h ⟨hh.1, hh.2.1⟩)]
theorem readE_out (S : List (List UInt8)) (dn : Bool) (i : Int) (h : ¬ (0 ≤ i ∧ i < (S.length : Int))) : readE S dn i = 1 := by rw [readE, if_neg h]
theorem readB_down (S : List (List UInt8)) (L : List (Nat × List UInt8)) (i : Int) : readB S L true i = List.replicate 32 0 := by rw [readB, if_neg (fun hh => by simp at hh)]
theorem readE_in (S : List (List UInt8)) (dn : Bool) (i : Int) (h : 0 ≤ i) (h2 : i < (S.length : Int)) : readE S dn i = if dn = true then 20 else 0 := by rw [readE, if_pos ⟨h, h2⟩]
theorem readB_in (S : List (List UInt8)) (L : List (Nat × List UInt8)) (i : Nat) (h2 : i < S.length) : readB S L false i = nowS S L i := by rw [readB, if_pos ⟨by omega, by omega, rfl⟩]; rfl
def ReadRel (w : World) (S : List (List UInt8)) (L : List (Nat × List UInt8)) (i : Nat) (v : Value) (wr : World) : Prop :=
  ∃ k : Nat, k ≤ L.length ∧ v = .int .i64 k ∧ Bk wr (w.heap.size + 1) (bts (nowS S (L.take k) i)) ∧ Bk wr w.heap.size (bts (List.replicate 32 0)) ∧ Below w.heap.size w wr
set_option maxRecDepth 100000 in
set_option maxHeartbeats 4000000 in
theorem diskRead_calls (w : World) (g gs : Nat) (lv : Value) (S : List (List UInt8)) (L : List (Nat × List UInt8)) (f : Int) (dn : Bool) (i : Int) (hd : DiskAt 92 w g gs lv S L f dn) :
    Calls Try.prog 30 #[.pointer (some ⟨g, 0, none⟩), .int .i64 i] w fun e w' => e = .returned (.tuple #[.agg (bts (readB S L dn i)).toArray, .int .i64 (readE S dn i)]) ∧ Below w.heap.size w w' := by
  obtain ⟨A, c, rfl, hR, hkc, hc⟩ := own_rd hd.own
  have H := Lib.hid hd
  clear hd hR
  have HN0 : Hid ((bts (List.replicate 32 0)).length = 32) := by show _ = _; rw [bts_length, List.length_replicate]
  go_enter Try.func30, Try.ntmps30
  go_wp2_with (refine wpList_al rfl 35 rfl (bts (List.replicate 32 0)) (by kernel_rfl) ?_)
  intro gr w1 hg hb hc1 hs1
  subst hg
  have HZ1 := Lib.hid hb
  have HE1 : Hid (Below w.heap.size w w1) := hc1.below (Nat.le_refl _) (fun _ _ => id)
  have HS1 := Lib.hid hs1
  clear hb hc1 hs1
  go_wp2_with fail
  refine (diskHas_calls w1 g (some ⟨gs, 0, none⟩) S.length S.length (.slice A L.length c) f dn i (H.out.below HE1.out).dk).mono ?_
  rintro e w' ⟨rfl, rfl⟩
  by_cases hi : 0 ≤ i ∧ i < (S.length : Int)
  · obtain ⟨hi0, hi1⟩ := hi
    rw [show (decide (0 ≤ i) && decide (i < (S.length : Int))) = true by simp [hi0, hi1]]
    obtain ⟨m, rfl⟩ := Int.eq_ofNat_of_zero_le hi0
    have hm : m < S.length := by omega
    have c3 := (H.out.below HE1.out).dk.cell (j := 3) rfl
    cases dn with
    | true =>
      go_wp2_with (first
        | (refine wpList_bld rfl 35 [] rfl (bts (List.replicate 32 0)) [] (bts (List.replicate 32 0)) (by kernel_rfl) (by kernel_rfl) trivial rfl ?_)
        | (refine wpList_st rfl 35 (.tmp 4) (.tmp 20) rfl w.heap.size 0 32 (bts (List.replicate 32 0)) (bts (List.replicate 32 0)) rfl rfl HZ1.out (by kernel_rfl) HN0.out (by rw [HN0.out]; decide) (one_bts _) ?_))
      intro w3 hb3 hc3
      rw [splice_whole _ _ rfl] at hb3
      have HE3 : Hid (Below w.heap.size w w3) := HE1.out.trans (hc3.below HE1.out.size (fun k hk he => by omega))
      have HB3 := Lib.hid hb3
      clear hb3 hc3
      go_wp2_with fail
      (try simp only [Exit.inBlock, Exit.then])
      refine bodyPost_ret (res_cell_tmp rfl _ _ w.heap.size 32 (bts (List.replicate 32 0)) rfl HB3.out (by kernel_rfl) (by kernel_rfl) HN0.out) rfl ?_
      exact ⟨by rw [readB_down, readE_in S true _ hi0 hi1]; rfl, HE3.out⟩
    | false =>
      have c0 := (H.out.below HE1.out).dk.cell (j := 0) rfl
      have HB1 : Hid (Bk w1 gs (secs S)) := (H.out.below HE1.out).sb
      obtain ⟨b0, hb0⟩ : ∃ b0, bts (S.getD m []) = b0 := ⟨_, rfl⟩
      have hb0l : b0.length = 32 := by rw [← hb0, bts_length]; have := H.out.now32 m hm 0 (Nat.zero_le _); simpa [nowS] using this
      have HB0L := Lib.hid hb0l
      have HB0O : Hid (∀ u ∈ b0, u.oneCell' = true) := by rw [← hb0]; exact one_bts _
      have HSL : Hid (m * 32 + 32 ≤ (secs S).length) := by show m * 32 + 32 ≤ (secs S).length; rw [H.out.secs_len]; omega
      have HSP : Hid (((secs S).drop (m * 32)).take 32 = b0) := by rw [← hb0]; exact H.out.sec m hm
      have HB00 := Lib.hid hb0
      clear hb0 hb0l
      go_wp2_with (first
        | (refine wpList_ld rfl 35 (.tmp 26) rfl gs (m * 32) 32 (secs S) b0 rfl HB1.out (by kernel_rfl) (by kernel_rfl) HSL.out HSP.out ?_)
        | (refine wpList_al rfl 35 rfl (bts (List.replicate 32 0)) (by kernel_rfl) ?_))
      intro g6 w2 hg hb2 hc2 hs2
      (try rw [HS1.out] at hg)
      subst hg
      have HE2 : Hid (Below w.heap.size w w2) := HE1.out.trans (hc2.below (by rw [HS1.out]; omega) (fun _ _ => id))
      have HZ2 : Hid (Bk w2 w.heap.size (bts (List.replicate 32 0))) := HZ1.out.chg hc2 id
      have HX2 := Lib.hid hb2
      clear hb2 hc2 hs2 c0
      go_wp2_with (refine wpList_st rfl 35 (.tmp 6) (.tmp 27) rfl (w.heap.size + 1) 0 32 (bts (List.replicate 32 0)) b0 rfl rfl HX2.out (by kernel_rfl) HB0L.out (by rw [HN0.out]; decide) HB0O.out ?_)
      intro w3 hb3 hc3
      rw [splice_whole _ _ (by rw [HB0L.out]; rfl), ← HB00.out] at hb3
      have hrel0 : ReadRel w S L m (.int .i64 0) w3 := ⟨0, by omega, rfl, hb3, HZ2.out.chg hc3 (by omega), HE2.out.trans (hc3.below HE2.out.size (fun k hk he => by omega))⟩
      have H0 := Lib.hid hrel0
      have c1 := (H.out.below hrel0.choose_spec.2.2.2.2).dk.cell (j := 1) rfl
      clear hb3 hc3 hrel0 c3
      go_wp2_with fail
      go_loopw [33] (fun v wr => ReadRel w S L m v wr) (fun v _ => L.length - (intOf v).toNat)
      case atStart => exact H0.out
      case round =>
        obtain ⟨k, hk, rfl, hb, hz, he⟩ := hrel
        have HB := Lib.hid hb
        have HZ := Lib.hid hz
        have HE := Lib.hid he
        clear hb hz he H0
        by_cases hlt : k < L.length
        · have hki : (k : Int) < (L.length : Int) := by omega
          obtain ⟨gl, cap, vs, hv, hbl, hll, hpc, _, _⟩ := (H.out.below HE.out).loose k hlt
          injection hv with hA hlx hcx
          subst hA
          clear hlx
          subst hcx
          obtain ⟨p, hp⟩ : ∃ p, L[k] = p := ⟨_, rfl⟩
          rw [hp] at hpc
          have hp32 : p.2.length = 32 := by rw [← hp]; exact (H.out.l32 _ (List.getElem_mem hlt)).1
          have HRO : Hid (∀ u ∈ rowW (p.1 : Int) p.2, u.oneCell' = true) := one_w8 _ _
          have HRL : Hid ((rowW (p.1 : Int) p.2).length = 33) := rowW_length _ _ hp32
          have HBL := Lib.hid hbl
          have HLL := Lib.hid hll
          have HPC := Lib.hid hpc
          have HP := Lib.hid hp
          have HP32 := Lib.hid hp32
          clear hbl hll hpc hp hp32 c1
          go_wp2_with (first
            | (refine wpList_ld rfl 92 (.tmp 35) rfl gl (k * 33) 33 vs (rowW (p.1 : Int) p.2) rfl HBL.out (by kernel_rfl) (by kernel_rfl) HLL.out HPC.out ?_)
            | (refine wpList_al rfl 92 rfl (.int .i64 0 :: bts (List.replicate 32 0)) (by kernel_rfl) ?_))
          intro g8 w4 hg hb4 hc4 hs4
          have HE4 : Hid (Below w.heap.size w w4) := HE.out.trans (hc4.below HE.out.size (fun _ _ => id))
          have HB4 : Hid (Bk w4 (w.heap.size + 1) _) := HB.out.chg hc4 id
          have HZ4 : Hid (Bk w4 w.heap.size _) := HZ.out.chg hc4 id
          have HG8 : Hid (w.heap.size + 1 < g8) := by show w.heap.size + 1 < g8; rw [hg]; exact HB.out.lt
          have HX4 := Lib.hid hb4
          clear hg hb4 hc4 hs4
          go_wp2_with (refine wpList_st rfl 92 (.tmp 8) (.tmp 36) rfl g8 0 33 (.int .i64 0 :: bts (List.replicate 32 0)) (rowW (p.1 : Int) p.2) rfl rfl HX4.out (by kernel_rfl) HRL.out (by decide) HRO.out ?_)
          intro w5 hb5 hc5
          rw [splice_whole _ _ (by rw [HRL.out]; rfl)] at hb5
          have HE5 : Hid (Below w.heap.size w w5) := HE4.out.trans (hc5.below HE4.out.size (fun k hk he => by have := HG8.out; omega))
          have HB5 : Hid (Bk w5 (w.heap.size + 1) _) := HB4.out.chg hc5 (by have := HG8.out; omega)
          have HZ5 : Hid (Bk w5 w.heap.size _) := HZ4.out.chg hc5 (by have := HG8.out; omega)
          have c80 := hb5.cell (j := 0) rfl
          have HX5 := Lib.hid hb5
          clear hb5 hc5
          by_cases heq : p.1 = m
          · have heq' : ((p.1 : Int) == (m : Int)) = true := by rw [heq]; exact beq_self_eq_true _
            go_wp2_with (first
              | (refine wpList_ld rfl 35 (.tmp 41) rfl g8 1 32 (rowW (p.1 : Int) p.2) (bts p.2) rfl HX5.out (by kernel_rfl) (by kernel_rfl) (by rw [HRL.out]; decide) (by rw [rowW, List.drop_succ_cons, List.drop_zero, List.take_of_length_le (by rw [bts_length, HP32.out]; decide)]) ?_)
              | (refine wpList_st rfl 35 (.tmp 6) (.tmp 42) rfl (w.heap.size + 1) 0 32 (bts (nowS S (L.take k) m)) (bts p.2) rfl rfl HB5.out (by kernel_rfl) (by rw [bts_length, HP32.out]) (by rw [bts_length, H.out.now32 m hm k hk]; decide) (one_bts _) ?_))
            intro w6 hb6 hc6
            rw [splice_whole _ _ (by rw [bts_length, bts_length, HP32.out, H.out.now32 m hm k hk])] at hb6
            have HE6 : Hid (Below w.heap.size w w6) := HE5.out.trans (hc6.below HE5.out.size (fun k hk he => by omega))
            have HZ6 : Hid (Bk w6 w.heap.size _) := HZ5.out.chg hc6 (by omega)
            have HB6 := Lib.hid hb6
            clear hb6 hc6
            go_wp2_with fail
            go_roundw
            case rel => exact ⟨k + 1, by omega, by go_num, by rw [nowS_take S L m k hlt, HP.out, if_pos heq]; exact HB6.out, HZ6.out, HE6.out⟩
            case measure => simp [intOf]; omega
          · have heq' : ((p.1 : Int) == (m : Int)) = false := by rw [beq_eq_false_iff_ne]; omega
            go_wp2_with fail
            go_roundw
            case rel => exact ⟨k + 1, by omega, by go_num, by rw [nowS_take S L m k hlt, HP.out, if_neg heq]; exact HB5.out, HZ5.out, HE5.out⟩
            case measure => simp [intOf]; omega
        · have hke : k = L.length := by omega
          have hki : ¬ ((k : Int) < (L.length : Int)) := by omega
          have hB : Bk wr (w.heap.size + 1) (bts (nowS S L m)) := by
            have := HB.out
            rw [hke, List.take_length] at this
            exact this
          have hl := H.out.now32 m hm L.length (Nat.le_refl _)
          rw [List.take_length] at hl
          have HN : Hid ((bts (nowS S L m)).length = 32) := by show _ = _; rw [bts_length, hl]
          have HO := Lib.hid (one_bts (nowS S L m))
          have HB2 := Lib.hid hB
          clear hB HB hl c1
          obtain ⟨vv, hvv⟩ : ∃ vv, bts (nowS S L m) = vv := ⟨_, rfl⟩
          rw [hvv] at HN HO HB2
          have HVV := Lib.hid hvv
          clear hvv
          go_wp2_with (first
            | (refine wpList_ld rfl 35 (.tmp 6) rfl (w.heap.size + 1) 0 32 vv vv rfl HB2.out (by kernel_rfl) (by kernel_rfl) (by rw [HN.out]; decide) (by rw [List.drop_zero, List.take_of_length_le (by rw [HN.out]; decide)]) ?_)
            | (refine wpList_st rfl 35 (.tmp 4) (.tmp 44) rfl w.heap.size 0 32 (bts (List.replicate 32 0)) vv rfl rfl HZ.out (by kernel_rfl) HN.out (by rw [HN0.out]; decide) HO.out ?_))
          intro w6 hb6 hc6
          rw [splice_whole _ vv (by rw [HN.out]; rfl)] at hb6
          have HE6 : Hid (Below w.heap.size w w6) := HE.out.trans (hc6.below HE.out.size (fun k hk he => by omega))
          have HB6 := Lib.hid hb6
          clear hb6 hc6
          go_wp2_with fail
          (try simp only [Exit.inBlock, Exit.then])
          refine bodyPost_ret (res_cell_tmp rfl _ _ w.heap.size 32 vv rfl HB6.out (by kernel_rfl) (by kernel_rfl) HN.out) rfl ?_
          exact ⟨by rw [readB_in S L m hm, readE_in S false _ hi0 hi1, HVV.out]; rfl, HE6.out⟩
  · rw [show (decide (0 ≤ i) && decide (i < (S.length : Int))) = false by simpa using hi]
    go_wp2_with (first
      | (refine wpList_bld rfl 35 [] rfl (bts (List.replicate 32 0)) [] (bts (List.replicate 32 0)) (by kernel_rfl) (by kernel_rfl) trivial rfl ?_)
      | (refine wpList_st rfl 35 (.tmp 4) (.tmp 14) rfl w.heap.size 0 32 (bts (List.replicate 32 0)) (bts (List.replicate 32 0)) rfl rfl HZ1.out (by kernel_rfl) HN0.out (by rw [HN0.out]; decide) (one_bts _) ?_))
    intro w3 hb3 hc3
    rw [splice_whole _ _ rfl] at hb3
    have HE3 : Hid (Below w.heap.size w w3) := HE1.out.trans (hc3.below HE1.out.size (fun k hk he => by omega))
    have HB3 := Lib.hid hb3
    clear hb3 hc3
    go_wp2_with fail
    (try simp only [Exit.inBlock, Exit.then])
    refine bodyPost_ret (res_cell_tmp rfl _ _ w.heap.size 32 (bts (List.replicate 32 0)) rfl HB3.out (by kernel_rfl) (by kernel_rfl) HN0.out) rfl ?_
    exact ⟨by rw [readB_out S L dn i hi, readE_out S dn i hi]; rfl, HE3.out⟩
end Go.Proofs.Ytcmfkdfegfablaa


/- The walk of disk.Flush. -/
namespace Go.Proofs.Ytcmfkdfegfablaa
open Go.RowKit
set_option linter.unusedVariables false
set_option linter.unusedSimpArgs false

theorem passE_no (f : Int) (dn : Bool) (h : passD f dn = true) : passE f dn = 20 := by
  unfold passE passD at *
  rw [if_pos]
  simpa using h
theorem passE_yes (f : Int) (dn : Bool) (h : passD f dn = false) : passE f dn = 0 := by
  unfold passE passD at *
  cases dn <;> simp_all
set_option maxRecDepth 100000 in
set_option maxHeartbeats 2000000 in
theorem diskFlush_no (w : World) (g gs : Nat) (lv : Value) (S : List (List UInt8)) (L : List (Nat × List UInt8)) (f : Int) (dn : Bool) (hd : DiskAt 92 w g gs lv S L f dn) (hp : passD f dn = true) (hf : -1 ≤ f) (hf2 : f ≤ 9223372036854775807) :
    Calls Try.prog 37 #[.pointer (some ⟨g, 0, none⟩)] w fun e w' => e = .returned (.int .i64 20) ∧ DiskAt 92 w' g gs lv S L (passF f dn) true ∧ Chg (· = g) w w' := by
  obtain ⟨A, c, rfl, hR, hkc, hc⟩ := own_rd hd.own
  clear hR
  have H := Lib.hid hd
  clear hd
  go_enter Try.func37, Try.ntmps37
  go_wp2_with fail
  refine (diskPass_calls w g _ _ f dn H.out.dk rfl rfl hf hf2).mono ?_
  rintro e w2 ⟨rfl, hd2, hc2⟩
  rw [passE_no f dn hp]
  rw [hp] at hd2
  have HD2 := Lib.hid (H.out.redk hc2 hd2)
  have HC2 := Lib.hid hc2
  clear hd2 hc2
  go_wp2
  go_ret
  exact ⟨rfl, HD2.out, HC2.out⟩
def FlushRel (wT : TypeId) (w : World) (g gs : Nat) (lv : Value) (S : List (List UInt8)) (L : List (Nat × List UInt8)) (f : Int) (v : Value) (wr : World) : Prop :=
  ∃ k : Nat, k ≤ L.length ∧ v = .int .i64 k ∧ DiskAt wT wr g gs lv (doneS S (L.take k)) L f false ∧ Chg (fun j => j = g ∨ j = gs) w wr
set_option maxRecDepth 100000 in
set_option maxHeartbeats 4000000 in
theorem diskFlush_yes (w : World) (g gs : Nat) (lv : Value) (S : List (List UInt8)) (L : List (Nat × List UInt8)) (f : Int) (dn : Bool) (hd : DiskAt 92 w g gs lv S L f dn) (hp : passD f dn = false) (hf : -1 ≤ f) (hf2 : f ≤ 9223372036854775807) :
    Calls Try.prog 37 #[.pointer (some ⟨g, 0, none⟩)] w fun e w' => e = .returned (.int .i64 0) ∧ DiskAt 92 w' g gs (.slice none 0 0) (doneS S L) [] (passF f dn) false ∧ Chg (fun j => j = g ∨ j = gs) w w' := by
  obtain ⟨A, c, rfl, hR, hkc, hc⟩ := own_rd hd.own
  clear hR
  have H := Lib.hid hd
  clear hd
  go_enter Try.func37, Try.ntmps37
  go_wp2_with fail
  refine (diskPass_calls w g _ _ f dn H.out.dk rfl rfl hf hf2).mono ?_
  rintro e w2 ⟨rfl, hd2, hc2⟩
  rw [passE_yes f dn hp]
  rw [hp] at hd2
  have hd3 := H.out.redk hc2 hd2
  have c1 := hd3.dk.cell (j := 1) rfl
  have H0 : Hid (FlushRel 92 w g gs (.slice A L.length c) S L (passF f dn) (.int .i64 0) w2) := ⟨0, by omega, rfl, hd3, hc2.mono (fun _ h => .inl h)⟩
  clear hd2 hc2 hd3
  go_wp2_with fail
  go_loopw [18] (fun v wr => FlushRel 92 w g gs (.slice A L.length c) S L (passF f dn) v wr) (fun v _ => L.length - (intOf v).toNat)
  case atStart => exact H0.out
  case round =>
    obtain ⟨k, hk, rfl, hdr, hcr⟩ := hrel
    have HD := Lib.hid hdr
    have HC := Lib.hid hcr
    clear hdr hcr H0 c1
    by_cases hlt : k < L.length
    · have hki : (k : Int) < (L.length : Int) := by omega
      obtain ⟨gl, cap, vs, hv, hbl, hll, hpc, _, _⟩ := HD.out.loose k hlt
      injection hv with hA hlx hcx
      subst hA
      clear hlx
      subst hcx
      obtain ⟨p, hpq⟩ : ∃ p, L[k] = p := ⟨_, rfl⟩
      rw [hpq] at hpc
      have hp32 : p.2.length = 32 ∧ p.1 < S.length := by rw [← hpq]; exact H.out.l32 _ (List.getElem_mem hlt)
      have HRO : Hid (∀ u ∈ rowW (p.1 : Int) p.2, u.oneCell' = true) := one_w8 _ _
      have HRL : Hid ((rowW (p.1 : Int) p.2).length = 33) := rowW_length _ _ hp32.1
      have HBL := Lib.hid hbl
      have HLL := Lib.hid hll
      have HPC := Lib.hid hpc
      have HP := Lib.hid hpq
      have HP32 := Lib.hid hp32.1
      have HPL := Lib.hid hp32.2
      have hpi : (p.1 : Int) < (S.length : Int) := by omega
      clear hbl hll hpc hpq hp32
      go_wp2_with (first
        | (refine wpList_ld rfl 92 (.tmp 20) rfl gl (k * 33) 33 vs (rowW (p.1 : Int) p.2) rfl HBL.out (by kernel_rfl) (by kernel_rfl) HLL.out HPC.out ?_)
        | (refine wpList_al rfl 92 rfl (.int .i64 0 :: bts (List.replicate 32 0)) (by kernel_rfl) ?_))
      intro g8 w4 hg hb4 hc4 hs4
      have HD4 := Lib.hid (HD.out.chg hc4 (fun _ _ => id))
      have HC4 : Hid (Chg (fun j => j = g ∨ j = gs) w w4) := HC.out.trans (hc4.mono (fun _ h => h.elim))
      have HG8 : Hid (∀ j, footD g gs (.slice (some ⟨gl, 0, none⟩) L.length c) j → j < g8) := by intro j hj; rw [hg]; exact HD.out.lt j hj
      have HW8 : Hid (w.heap.size ≤ g8) := by show w.heap.size ≤ g8; rw [hg]; exact HC.out.size
      have HX4 := Lib.hid hb4
      clear hg hb4 hc4 hs4
      go_wp2_with (refine wpList_st rfl 92 (.tmp 5) (.tmp 21) rfl g8 0 33 (.int .i64 0 :: bts (List.replicate 32 0)) (rowW (p.1 : Int) p.2) rfl rfl HX4.out (by kernel_rfl) HRL.out (by decide) HRO.out ?_)
      intro w5 hb5 hc5
      rw [splice_whole _ _ (by rw [HRL.out]; rfl)] at hb5
      have HD5 := Lib.hid (HD4.out.chg hc5 (fun j hj he => by have := HG8.out j hj; omega))
      have HC5 : Hid (Chg (fun j => j = g ∨ j = gs) w w5) := HC4.out.then_ hc5 (fun j hj hlt2 => by have := HW8.out; omega)
      have HX5 := Lib.hid hb5
      clear hb5 hc5
      go_wp2_with fail
      apply wp_region_rel 8 (Chg NoS) [(Veq _), (Veq _), (Veq _), (Veq _), (Veq _), (Veq _), (Veq _), (Veq _)] [[], [0], [1], [2], [], [4], [], [6]] [22, 23, 24, 25, 26, 27, 28, 29] (by kernel_rfl) (by kernel_rfl) rfl rfl rfl Chg.refl (fun _ _ _ => Chg.trans) ⟨Veq.lasts, Veq.lasts, Veq.lasts, Veq.lasts, Veq.lasts, Veq.lasts, Veq.lasts, Veq.lasts, trivial⟩ ?aops ?afin
      case aops =>
        refine ⟨?ao0, ?ao1, ?ao2, ?ao3, ?ao4, ?ao5, ?ao6, ?ao7, trivial⟩
        case ao0 =>
          intro a wx hE hin
          have i0 : a.eval (.tmp 0) = .pointer (some ⟨g, 0, none⟩) := hin 0 rfl
          clear hin
          have hcst : ∀ v, a.eval (.const v) = v := fun _ => rfl
          have hfnc : ∀ f, a.eval (.func f) = .func (.func f) #[] #[] := fun _ => rfl
          refine want_none rfl ?_
          unfold Oper.wp
          generalize a.eval = ρ at *
          go_simp
          try go_bits
          first | exact rel_val (Chg.refl _) | (go_simp; exact rel_val (Chg.refl _))
        case ao1 =>
          rintro a wx hE hin (h0 : a.eval (.tmp 22) = _)
          clear hin
          have hcst : ∀ v, a.eval (.const v) = v := fun _ => rfl
          have hfnc : ∀ f, a.eval (.func f) = .func (.func f) #[] #[] := fun _ => rfl
          refine want_none rfl ?_
          unfold Oper.wp
          generalize a.eval = ρ at *
          go_simp
          try go_bits
          first | exact rel_val (Chg.refl _) | (go_simp; exact rel_val (Chg.refl _))
        case ao2 =>
          rintro a wx hE hin (h1 : a.eval (.tmp 23) = _)
          clear hin
          have hcst : ∀ v, a.eval (.const v) = v := fun _ => rfl
          have hfnc : ∀ f, a.eval (.func f) = .func (.func f) #[] #[] := fun _ => rfl
          refine want_none rfl ?_
          unfold Oper.wp
          generalize a.eval = ρ at *
          go_simp
          try go_bits
          first | exact rel_val (Chg.refl _) | (go_simp; exact rel_val (Chg.refl _))
        case ao3 =>
          rintro a wx hE hin (h2 : a.eval (.tmp 24) = _)
          clear hin
          have hcst : ∀ v, a.eval (.const v) = v := fun _ => rfl
          have hfnc : ∀ f, a.eval (.func f) = .func (.func f) #[] #[] := fun _ => rfl
          refine want_none rfl ?_
          unfold Oper.wp
          generalize a.eval = ρ at *
          have c := Bk.cell (j := 0) (HD5.out.drew.chg hE (fun _ _ => id)).dk rfl
          rw [doneS_length] at c
          go_simp
          try go_bits
          first | exact rel_val (Chg.refl _) | (go_simp; exact rel_val (Chg.refl _))
        case ao4 =>
          intro a wx hE hin
          have i5 : a.eval (.tmp 5) = .pointer (some ⟨g8, 0, none⟩) := hin 5 rfl
          clear hin
          have hcst : ∀ v, a.eval (.const v) = v := fun _ => rfl
          have hfnc : ∀ f, a.eval (.func f) = .func (.func f) #[] #[] := fun _ => rfl
          refine want_none rfl ?_
          unfold Oper.wp
          generalize a.eval = ρ at *
          go_simp
          try go_bits
          first | exact rel_val (Chg.refl _) | (go_simp; exact rel_val (Chg.refl _))
        case ao5 =>
          rintro a wx hE hin (h4 : a.eval (.tmp 26) = _)
          clear hin
          have hcst : ∀ v, a.eval (.const v) = v := fun _ => rfl
          have hfnc : ∀ f, a.eval (.func f) = .func (.func f) #[] #[] := fun _ => rfl
          refine want_none rfl ?_
          unfold Oper.wp
          generalize a.eval = ρ at *
          have c := Bk.cell (j := 0) (Bk.chg HX5.out.drew hE id) rfl
          go_simp
          try go_bits
          first | exact rel_val (Chg.refl _) | (go_simp; exact rel_val (Chg.refl _))
        case ao6 =>
          intro a wx hE hin
          have i5 : a.eval (.tmp 5) = .pointer (some ⟨g8, 0, none⟩) := hin 5 rfl
          clear hin
          have hcst : ∀ v, a.eval (.const v) = v := fun _ => rfl
          have hfnc : ∀ f, a.eval (.func f) = .func (.func f) #[] #[] := fun _ => rfl
          refine want_none rfl ?_
          unfold Oper.wp
          generalize a.eval = ρ at *
          go_simp
          try go_bits
          first | exact rel_val (Chg.refl _) | (go_simp; exact rel_val (Chg.refl _))
        case ao7 =>
          rintro a wx hE hin (h6 : a.eval (.tmp 28) = _)
          clear hin
          have hcst : ∀ v, a.eval (.const v) = v := fun _ => rfl
          have hfnc : ∀ f, a.eval (.func f) = .func (.func f) #[] #[] := fun _ => rfl
          refine want_none rfl ?_
          exact wp_ld 35 _ rfl g8 1 32 (rowW (p.1 : Int) p.2) (bts p.2) h6 (Bk.chg HX5.out.drew hE id) (by kernel_rfl) (by kernel_rfl) (by rw [HRL.out]; decide) (by rw [rowW, List.drop_succ_cons, List.drop_zero, List.take_of_length_le (by rw [bts_length, HP32.out]; decide)]) (rel_val (Chg.refl _))
      case afin =>
        intro wx hE
        rintro _ rfl _ rfl _ rfl _ rfl _ rfl _ rfl _ rfl _ rfl
        simp only [FinOk, List.take_succ_cons, List.take_zero, List.take_nil, List.drop_succ_cons, List.drop_zero, List.drop_nil, Act.put, List.setIfInBounds_toArray, List.set_cons_succ, List.set_cons_zero]
        have HD6 := Lib.hid (HD5.out.drew.chg hE (fun _ _ => id))
        have HC6 : Hid (Chg (fun j => j = g ∨ j = gs) w wx) := HC5.out.trans (hE.undrew.mono (fun _ h => h.elim))
        clear hE
        go_wp2_with (refine wpList_st rfl 35 (.tmp 30) (.tmp 29) rfl gs (p.1 * 32) 32 (secs (doneS S (L.take k))) (bts p.2) rfl rfl HD6.out.sb (by kernel_rfl) (by rw [bts_length, HP32.out]) (by have := HD6.out.secs_len; rw [doneS_length] at this; have := HPL.out; omega) (one_bts _) ?_)
        intro w7 hb7 hc7
        have hd7 := HD6.out.put p.1 p.2 (by rw [doneS_length]; exact HPL.out) HP32.out hc7 hb7
        have HC7 : Hid (Chg (fun j => j = g ∨ j = gs) w w7) := HC6.out.trans (hc7.mono (fun _ h => .inr h))
        have HD7 := Lib.hid hd7
        clear hb7 hc7 hd7
        go_wp2_with fail
        go_roundw
        case rel => exact ⟨k + 1, by omega, by go_num, by rw [doneS_take S L k hlt, HP.out]; exact HD7.out, HC7.out⟩
        case measure => simp [intOf]; omega
    · have hke : k = L.length := by omega
      have hki : ¬ ((k : Int) < (L.length : Int)) := by omega
      subst hke
      have hx := HD.out
      rw [List.take_length] at hx
      have hdk := hx.dk
      rw [doneS_length] at hdk
      have HX := Lib.hid hx
      have HK := Lib.hid hdk
      clear hx hdk
      go_wp2_with (refine wpList_st rfl 83 (.tmp 34) _ rfl g 1 1 [.slice (some ⟨gs, 0, none⟩) S.length S.length, .slice A L.length c, .int .i64 (passF f dn), .bool false] [.slice none 0 0] rfl rfl HK.out (by kernel_rfl) rfl (by simp) (fun u hu => by obtain rfl := List.mem_singleton.1 hu; rfl) ?_)
      intro w4 hb4 hc4
      have hd5 : DiskAt 92 w4 g gs (.slice none 0 0) (doneS S L) [] (passF f dn) false := HX.out.empty hc4 (by rw [doneS_length]; exact hb4)
      have HD5 := Lib.hid hd5
      have HC5 : Hid (Chg (fun j => j = g ∨ j = gs) w w4) := HC.out.trans (hc4.mono (fun _ h => .inl h))
      clear hb4 hc4 hd5
      go_wp2
      go_ret
      exact ⟨rfl, HD5.out, HC5.out⟩
end Go.Proofs.Ytcmfkdfegfablaa


/- The walk of disk.Up. -/
namespace Go.Proofs.Ytcmfkdfegfablaa
open Go.RowKit
set_option linter.unusedVariables false
set_option linter.unusedSimpArgs false

/-- What an Up leaves. -/
def upS (S : List (List UInt8)) (L : List (Nat × List UInt8)) (ks : List UInt8) : List (List UInt8) := L.zipIdx.foldl (fun s p => if ks.getD p.2 0 % 2 = 1 then s.set p.1.1 p.1.2 else s) S
theorem upS_take (S : List (List UInt8)) (L : List (Nat × List UInt8)) (ks : List UInt8) (k : Nat) (h : k < L.length) : upS S (L.take (k + 1)) ks = if ks.getD k 0 % 2 = 1 then (upS S (L.take k) ks).set L[k].1 L[k].2 else upS S (L.take k) ks := by
  rw [upS, upS, List.take_succ_eq_append_getElem h, List.zipIdx_append, List.foldl_append]
  simp only [List.zipIdx_cons, List.zipIdx_nil, List.foldl_cons, List.foldl_nil, List.length_take, Nat.min_eq_left (Nat.le_of_lt h), Nat.zero_add]
theorem upS_length (S : List (List UInt8)) (L : List (Nat × List UInt8)) (ks : List UInt8) : (upS S L ks).length = S.length := by
  unfold upS
  generalize L.zipIdx = M
  induction M generalizing S with
  | nil => rfl
  | cons p M ih =>
    rw [List.foldl_cons, ih]
    split
    · simp
    · rfl
theorem upS_stop (S : List (List UInt8)) (L : List (Nat × List UInt8)) (ks : List UInt8) : ∀ (d k : Nat), L.length - k = d → k ≤ L.length → ks.length ≤ k → upS S (L.take k) ks = upS S L ks := by
  intro d
  induction d with
  | zero =>
    intro k hd hk _
    rw [List.take_of_length_le (by omega)]
  | succ d ih =>
    intro k hd hk hks
    rw [← ih (k + 1) (by omega) (by omega) (by omega), upS_take S L ks k (by omega), if_neg]
    rw [List.getD_eq_getElem?_getD, List.getElem?_eq_none hks]
    decide
def UpRel (wT : TypeId) (w : World) (g gs : Nat) (lv : Value) (S : List (List UInt8)) (L : List (Nat × List UInt8)) (ks : List UInt8) (f : Int) (dn : Bool) (v : Value) (wr : World) : Prop :=
  ∃ k : Nat, k ≤ L.length ∧ v = .int .i64 k ∧ DiskAt wT wr g gs lv (upS S (L.take k) ks) L f dn ∧ Chg (fun j => j = g ∨ j = gs) w wr
theorem odd8 (b : UInt8) : (((b.toNat : Int) % 2) == 1) = decide (b % 2 = 1) := by
  have hiff : ((b.toNat : Int) % 2 = 1) ↔ (b % 2 = 1) := by
    rw [← UInt8.toNat_inj, UInt8.toNat_mod]
    show _ ↔ b.toNat % 2 = 1
    omega
  by_cases h : b % 2 = 1
  · rw [decide_eq_true h, beq_iff_eq]
    exact hiff.2 h
  · rw [decide_eq_false h, beq_eq_false_iff_ne]
    exact fun hh => h (hiff.1 hh)
set_option maxRecDepth 100000 in
set_option maxHeartbeats 4000000 in
theorem diskUp_calls (w : World) (g gs : Nat) (lv : Value) (S : List (List UInt8)) (L : List (Nat × List UInt8)) (f : Int) (dn : Bool) (AK : Option Addr) (nK cK : Nat) (ks : List UInt8) (hd : DiskAt 92 w g gs lv S L f dn) (hnk : ks.length = nK) (hkr : ∀ w', Chg (fun j => j = g ∨ j = gs) w w' → Rd w' AK (bts ks)) :
    Calls Try.prog 23 #[.pointer (some ⟨g, 0, none⟩), .slice AK nK cK] w fun e w' => e = .returned (.tuple #[]) ∧ DiskAt 92 w' g gs (.slice none 0 0) (upS S L ks) [] (-1) false ∧ Chg (fun j => j = g ∨ j = gs) w w' := by
  subst hnk
  obtain ⟨A, c, rfl, hR, hkc, hc⟩ := own_rd hd.own
  clear hR
  have H := Lib.hid hd
  have HKR := Lib.hid hkr
  clear hkr
  have c1 := hd.dk.cell (j := 1) rfl
  have H0 : Hid (UpRel 92 w g gs (.slice A L.length c) S L ks f dn (.int .i64 0) w) := ⟨0, by omega, rfl, hd, Chg.refl w⟩
  clear hd
  go_enter Try.func23, Try.ntmps23
  go_wp2_with fail
  go_loopw [13] (fun v wr => UpRel 92 w g gs (.slice A L.length c) S L ks f dn v wr) (fun v _ => L.length - (intOf v).toNat)
  case atStart => exact H0.out
  case round =>
    obtain ⟨k, hk, rfl, hdr, hcr⟩ := hrel
    have HD := Lib.hid hdr
    have HC := Lib.hid hcr
    clear hdr hcr H0 c1
    by_cases hlt : k < L.length
    · have hki : (k : Int) < (L.length : Int) := by omega
      obtain ⟨gl, cap, vs, hv, hbl, hll, hpc, _, _⟩ := HD.out.loose k hlt
      injection hv with hA hlx hcx
      subst hA
      clear hlx
      subst hcx
      obtain ⟨p, hpq⟩ : ∃ p, L[k] = p := ⟨_, rfl⟩
      rw [hpq] at hpc
      have hp32 : p.2.length = 32 ∧ p.1 < S.length := by rw [← hpq]; exact H.out.l32 _ (List.getElem_mem hlt)
      have HRO : Hid (∀ u ∈ rowW (p.1 : Int) p.2, u.oneCell' = true) := one_w8 _ _
      have HRL : Hid ((rowW (p.1 : Int) p.2).length = 33) := rowW_length _ _ hp32.1
      have HBL := Lib.hid hbl
      have HLL := Lib.hid hll
      have HPC := Lib.hid hpc
      have HP := Lib.hid hpq
      have HP32 := Lib.hid hp32.1
      have HPL := Lib.hid hp32.2
      have hpi : (p.1 : Int) < (S.length : Int) := by omega
      clear hbl hll hpc hpq hp32
      go_wp2_with (first
        | (refine wpList_ld rfl 92 (.tmp 16) rfl gl (k * 33) 33 vs (rowW (p.1 : Int) p.2) rfl HBL.out (by kernel_rfl) (by kernel_rfl) HLL.out HPC.out ?_)
        | (refine wpList_al rfl 92 rfl (.int .i64 0 :: bts (List.replicate 32 0)) (by kernel_rfl) ?_))
      intro g8 w4 hg hb4 hc4 hs4
      have HD4 := Lib.hid (HD.out.chg hc4 (fun _ _ => id))
      have HC4 : Hid (Chg (fun j => j = g ∨ j = gs) w w4) := HC.out.trans (hc4.mono (fun _ h => h.elim))
      have HG8 : Hid (∀ j, footD g gs (.slice (some ⟨gl, 0, none⟩) L.length c) j → j < g8) := by intro j hj; rw [hg]; exact HD.out.lt j hj
      have HW8 : Hid (w.heap.size ≤ g8) := by show w.heap.size ≤ g8; rw [hg]; exact HC.out.size
      have HX4 := Lib.hid hb4
      clear hg hb4 hc4 hs4
      go_wp2_with (refine wpList_st rfl 92 (.tmp 5) (.tmp 17) rfl g8 0 33 (.int .i64 0 :: bts (List.replicate 32 0)) (rowW (p.1 : Int) p.2) rfl rfl HX4.out (by kernel_rfl) HRL.out (by decide) HRO.out ?_)
      intro w5 hb5 hc5
      rw [splice_whole _ _ (by rw [HRL.out]; rfl)] at hb5
      have HD5 := Lib.hid (HD4.out.chg hc5 (fun j hj he => by have := HG8.out j hj; omega))
      have HC5 : Hid (Chg (fun j => j = g ∨ j = gs) w w5) := HC4.out.then_ hc5 (fun j hj hlt2 => by have := HW8.out; omega)
      have HX5 := Lib.hid hb5
      clear hb5 hc5
      by_cases hkk : k < ks.length
      · have hkki : (k : Int) < (ks.length : Int) := by omega
        have hb6 := HKR.out w5 HC5.out
        obtain ⟨ad, hak, hcell⟩ := hb6.bt k hkk
        subst hak
        clear hb6
        have HKB : Hid (∀ _ : k < ks.length, ks.getD k 0 = ks.getD k 0) := fun _ => rfl
        obtain ⟨b, hb⟩ : ∃ b, ks.getD k 0 = b := ⟨_, rfl⟩
        rw [hb] at hcell
        have HKB2 := Lib.hid hb
        have ho8 := odd8 b
        by_cases hod : b % 2 = 1
        · rw [decide_eq_true hod] at ho8
          have HOD := Lib.hid hod
          clear hb hod HKB
          go_wp2_with fail
          apply wp_region_rel 8 (Chg NoS) [(Veq _), (Veq _), (Veq _), (Veq _), (Veq _), (Veq _), (Veq _), (Veq _)] [[], [0], [1], [2], [], [4], [], [6]] [30, 31, 32, 33, 34, 35, 36, 37] (by kernel_rfl) (by kernel_rfl) rfl rfl rfl Chg.refl (fun _ _ _ => Chg.trans) ⟨Veq.lasts, Veq.lasts, Veq.lasts, Veq.lasts, Veq.lasts, Veq.lasts, Veq.lasts, Veq.lasts, trivial⟩ ?aops ?afin
          case aops =>
            refine ⟨?ao0, ?ao1, ?ao2, ?ao3, ?ao4, ?ao5, ?ao6, ?ao7, trivial⟩
            case ao0 =>
              intro a wx hE hin
              have i0 : a.eval (.tmp 0) = .pointer (some ⟨g, 0, none⟩) := hin 0 rfl
              clear hin
              have hcst : ∀ v, a.eval (.const v) = v := fun _ => rfl
              have hfnc : ∀ f, a.eval (.func f) = .func (.func f) #[] #[] := fun _ => rfl
              refine want_none rfl ?_
              unfold Oper.wp
              generalize a.eval = ρ at *
              go_simp
              try go_bits
              first | exact rel_val (Chg.refl _) | (go_simp; exact rel_val (Chg.refl _))
            case ao1 =>
              rintro a wx hE hin (h0 : a.eval (.tmp 30) = _)
              clear hin
              have hcst : ∀ v, a.eval (.const v) = v := fun _ => rfl
              have hfnc : ∀ f, a.eval (.func f) = .func (.func f) #[] #[] := fun _ => rfl
              refine want_none rfl ?_
              unfold Oper.wp
              generalize a.eval = ρ at *
              go_simp
              try go_bits
              first | exact rel_val (Chg.refl _) | (go_simp; exact rel_val (Chg.refl _))
            case ao2 =>
              rintro a wx hE hin (h1 : a.eval (.tmp 31) = _)
              clear hin
              have hcst : ∀ v, a.eval (.const v) = v := fun _ => rfl
              have hfnc : ∀ f, a.eval (.func f) = .func (.func f) #[] #[] := fun _ => rfl
              refine want_none rfl ?_
              unfold Oper.wp
              generalize a.eval = ρ at *
              go_simp
              try go_bits
              first | exact rel_val (Chg.refl _) | (go_simp; exact rel_val (Chg.refl _))
            case ao3 =>
              rintro a wx hE hin (h2 : a.eval (.tmp 32) = _)
              clear hin
              have hcst : ∀ v, a.eval (.const v) = v := fun _ => rfl
              have hfnc : ∀ f, a.eval (.func f) = .func (.func f) #[] #[] := fun _ => rfl
              refine want_none rfl ?_
              unfold Oper.wp
              generalize a.eval = ρ at *
              have c := Bk.cell (j := 0) (HD5.out.drew.chg hE (fun _ _ => id)).dk rfl
              rw [upS_length] at c
              go_simp
              try go_bits
              first | exact rel_val (Chg.refl _) | (go_simp; exact rel_val (Chg.refl _))
            case ao4 =>
              intro a wx hE hin
              have i5 : a.eval (.tmp 5) = .pointer (some ⟨g8, 0, none⟩) := hin 5 rfl
              clear hin
              have hcst : ∀ v, a.eval (.const v) = v := fun _ => rfl
              have hfnc : ∀ f, a.eval (.func f) = .func (.func f) #[] #[] := fun _ => rfl
              refine want_none rfl ?_
              unfold Oper.wp
              generalize a.eval = ρ at *
              go_simp
              try go_bits
              first | exact rel_val (Chg.refl _) | (go_simp; exact rel_val (Chg.refl _))
            case ao5 =>
              rintro a wx hE hin (h4 : a.eval (.tmp 34) = _)
              clear hin
              have hcst : ∀ v, a.eval (.const v) = v := fun _ => rfl
              have hfnc : ∀ f, a.eval (.func f) = .func (.func f) #[] #[] := fun _ => rfl
              refine want_none rfl ?_
              unfold Oper.wp
              generalize a.eval = ρ at *
              have c := Bk.cell (j := 0) (Bk.chg HX5.out.drew hE id) rfl
              go_simp
              try go_bits
              first | exact rel_val (Chg.refl _) | (go_simp; exact rel_val (Chg.refl _))
            case ao6 =>
              intro a wx hE hin
              have i5 : a.eval (.tmp 5) = .pointer (some ⟨g8, 0, none⟩) := hin 5 rfl
              clear hin
              have hcst : ∀ v, a.eval (.const v) = v := fun _ => rfl
              have hfnc : ∀ f, a.eval (.func f) = .func (.func f) #[] #[] := fun _ => rfl
              refine want_none rfl ?_
              unfold Oper.wp
              generalize a.eval = ρ at *
              go_simp
              try go_bits
              first | exact rel_val (Chg.refl _) | (go_simp; exact rel_val (Chg.refl _))
            case ao7 =>
              rintro a wx hE hin (h6 : a.eval (.tmp 36) = _)
              clear hin
              have hcst : ∀ v, a.eval (.const v) = v := fun _ => rfl
              have hfnc : ∀ f, a.eval (.func f) = .func (.func f) #[] #[] := fun _ => rfl
              refine want_none rfl ?_
              exact wp_ld 35 _ rfl g8 1 32 (rowW (p.1 : Int) p.2) (bts p.2) h6 (Bk.chg HX5.out.drew hE id) (by kernel_rfl) (by kernel_rfl) (by rw [HRL.out]; decide) (by rw [rowW, List.drop_succ_cons, List.drop_zero, List.take_of_length_le (by rw [bts_length, HP32.out]; decide)]) (rel_val (Chg.refl _))
          case afin =>
            intro wx hE
            rintro _ rfl _ rfl _ rfl _ rfl _ rfl _ rfl _ rfl _ rfl
            simp only [FinOk, List.take_succ_cons, List.take_zero, List.take_nil, List.drop_succ_cons, List.drop_zero, List.drop_nil, Act.put, List.setIfInBounds_toArray, List.set_cons_succ, List.set_cons_zero]
            have HD6 := Lib.hid (HD5.out.drew.chg hE (fun _ _ => id))
            have HC6 : Hid (Chg (fun j => j = g ∨ j = gs) w wx) := HC5.out.trans (hE.undrew.mono (fun _ h => h.elim))
            clear hE
            go_wp2_with (refine wpList_st rfl 35 (.tmp 38) (.tmp 37) rfl gs (p.1 * 32) 32 (secs (upS S (L.take k) ks)) (bts p.2) rfl rfl HD6.out.sb (by kernel_rfl) (by rw [bts_length, HP32.out]) (by have := HD6.out.secs_len; rw [upS_length] at this; have := HPL.out; omega) (one_bts _) ?_)
            intro w7 hb7 hc7
            have hd7 := HD6.out.put p.1 p.2 (by rw [upS_length]; exact HPL.out) HP32.out hc7 hb7
            have HC7 : Hid (Chg (fun j => j = g ∨ j = gs) w w7) := HC6.out.trans (hc7.mono (fun _ h => .inr h))
            have HD7 := Lib.hid hd7
            clear hb7 hc7 hd7
            go_wp2_with fail
            go_roundw
            case rel => exact ⟨k + 1, by omega, by go_num, by rw [upS_take S L ks k hlt, HP.out, HKB2.out, if_pos HOD.out]; exact HD7.out, HC7.out⟩
            case measure => simp [intOf]; omega
        · rw [decide_eq_false hod] at ho8
          have HOD := Lib.hid hod
          clear hb hod HKB
          go_wp2_with fail
          go_roundw
          case rel => exact ⟨k + 1, by omega, by go_num, by rw [upS_take S L ks k hlt, HKB2.out, if_neg HOD.out]; exact HD5.out, HC5.out⟩
          case measure => simp [intOf]; omega
      · have hkki : ¬ ((k : Int) < (ks.length : Int)) := by omega
        have hno : ¬ (ks.getD k 0 % 2 = 1) := by
          rw [List.getD_eq_getElem?_getD, List.getElem?_eq_none (by omega)]
          decide
        have HNO := Lib.hid hno
        clear hno
        go_wp2_with fail
        go_roundw
        case rel => exact ⟨k + 1, by omega, by go_num, by rw [upS_take S L ks k hlt, if_neg HNO.out]; exact HD5.out, HC5.out⟩
        case measure => simp [intOf]; omega
    · have hke : k = L.length := by omega
      have hki : ¬ ((k : Int) < (L.length : Int)) := by omega
      subst hke
      have hx := HD.out
      rw [List.take_length] at hx
      have hdk := hx.dk
      rw [upS_length] at hdk
      have HX := Lib.hid hx
      have HK := Lib.hid hdk
      clear hx hdk
      go_wp2_with (refine wpList_st rfl 83 (.tmp 44) _ rfl g 1 1 [.slice (some ⟨gs, 0, none⟩) S.length S.length, .slice A L.length c, .int .i64 f, .bool dn] [.slice none 0 0] rfl rfl HK.out (by kernel_rfl) rfl (by simp) (fun u hu => by obtain rfl := List.mem_singleton.1 hu; rfl) ?_)
      intro w4 hb4 hc4
      have hb4' : Bk w4 g [.slice (some ⟨gs, 0, none⟩) S.length S.length, .slice none 0 0, .int .i64 f, .bool dn] := hb4
      have HB4 := Lib.hid hb4'
      have HC4 := Lib.hid hc4
      clear hb4 hb4' hc4
      go_wp2_with (refine wpList_st rfl 3 (.tmp 46) _ rfl g 2 1 [.slice (some ⟨gs, 0, none⟩) S.length S.length, .slice none 0 0, .int .i64 f, .bool dn] [.int .i64 (-1)] rfl rfl HB4.out (by kernel_rfl) rfl (by simp) (one_i _) ?_)
      intro w5 hb5 hc5
      have hb5' : Bk w5 g [.slice (some ⟨gs, 0, none⟩) S.length S.length, .slice none 0 0, .int .i64 (-1), .bool dn] := hb5
      have HB5 := Lib.hid hb5'
      have HC5 := Lib.hid (HC4.out.trans hc5)
      clear hb5 hb5' hc5
      go_wp2_with (refine wpList_st rfl 4 (.tmp 48) _ rfl g 3 1 [.slice (some ⟨gs, 0, none⟩) S.length S.length, .slice none 0 0, .int .i64 (-1), .bool dn] [.bool false] rfl rfl HB5.out (by kernel_rfl) rfl (by simp) (one_b _) ?_)
      intro w6 hb6 hc6
      have hb6' : Bk w6 g [.slice (some ⟨gs, 0, none⟩) S.length S.length, .slice none 0 0, .int .i64 (-1), .bool false] := hb6
      have hc7 := HC5.out.trans hc6
      have hd7 : DiskAt 92 w6 g gs (.slice none 0 0) (upS S L ks) [] (-1) false := HX.out.empty hc7 (by rw [upS_length]; exact hb6')
      have HD7 := Lib.hid hd7
      have HC7 : Hid (Chg (fun j => j = g ∨ j = gs) w w6) := HC.out.trans (hc7.mono (fun _ h => .inl h))
      clear hb6 hb6' hc6 hc7 hd7
      go_wp2
      exact bodyPost_end (results_none rfl _ _) rfl ⟨rfl, HD7.out, HC7.out⟩
end Go.Proofs.Ytcmfkdfegfablaa


/- The walk of the reference's Now and Read. -/
namespace Go.Proofs.Ytcmfkdfegfablaa
open Go.RowKit
set_option linter.unusedVariables false
set_option linter.unusedSimpArgs false

end Go.Proofs.Ytcmfkdfegfablaa


/- The walk of the reference's Up. -/
namespace Go.Proofs.Ytcmfkdfegfablaa
open Go.RowKit
set_option linter.unusedVariables false
set_option linter.unusedSimpArgs false

end Go.Proofs.Ytcmfkdfegfablaa


/- The walk of the reference's Flush. -/
namespace Go.Proofs.Ytcmfkdfegfablaa
open Go.RowKit
set_option linter.unusedVariables false
set_option linter.unusedSimpArgs false

end Go.Proofs.Ytcmfkdfegfablaa


/- The disk's functions, program's and reference's, by what they make of a disk's state; and those of a disk that nobody made. -/
namespace Go.Proofs.Ytcmfkdfegfablaa
open Go.RowKit
set_option linter.unusedVariables false
set_option linter.unusedSimpArgs false

/-- A disk's state: sectors, loose writes, fuse, down. -/
structure Dst where
  S : List (List UInt8)
  L : List (Nat × List UInt8)
  f : Int
  dn : Bool
def Dst.has (s : Dst) (i : Int) : Prop := 0 ≤ i ∧ i < (s.S.length : Int)
instance (s : Dst) (i : Int) : Decidable (s.has i) := inferInstanceAs (Decidable (_ ∧ _))
def Dst.write (s : Dst) (i : Int) (b : List UInt8) : Dst := if s.has i then (if passD s.f s.dn = true then ⟨s.S, s.L, passF s.f s.dn, true⟩ else ⟨s.S, s.L ++ [(i.toNat, b)], passF s.f s.dn, false⟩) else s
def Dst.writeE (s : Dst) (i : Int) : Int := if s.has i then (if passD s.f s.dn = true then 20 else 0) else 1
def Dst.flush (s : Dst) : Dst := if passD s.f s.dn = true then ⟨s.S, s.L, passF s.f s.dn, true⟩ else ⟨doneS s.S s.L, [], passF s.f s.dn, false⟩
def Dst.flushE (s : Dst) : Int := if passD s.f s.dn = true then 20 else 0
def Dst.up (s : Dst) (ks : List UInt8) : Dst := ⟨upS s.S s.L ks, [], -1, false⟩
def Dst.fuse (s : Dst) (n : Int) : Dst := ⟨s.S, s.L, n, s.dn⟩
def DAt (wT : TypeId) (w : World) (g gs : Nat) (lv : Value) (s : Dst) : Prop := DiskAt wT w g gs lv s.S s.L s.f s.dn
/-- What an operation that turns a disk leaves. -/
def DPost (wT : TypeId) (w : World) (g gs : Nat) (lv : Value) (s' : Dst) (r : Value) (e : Ending) (w' : World) : Prop :=
  e = .returned r ∧ ∃ lv', DAt wT w' g gs lv' s' ∧ (∀ j, footD g gs lv' j → footD g gs lv j ∨ w.heap.size ≤ j) ∧ Chg (footD g gs lv) w w'
theorem own_one {w : World} {base n : Nat} {e : TypeId} {size : Nat} {v : Value} {xs : List Value} (h : w.ownsRow base e size v n xs) : v.oneCell' = true := by
  obtain ⟨A, c, rfl, _⟩ := own_rd h
  rfl
theorem rowsL_snoc (L : List (Nat × List UInt8)) (i : Nat) (b : List UInt8) : rowsL (L ++ [(i, b)]) = rowsL L ++ rowW (i : Int) b := by simp [rowsL, List.flatMap_append]
theorem DiskAt.snoc {wT : TypeId} {w w' : World} {g gs : Nat} {lv lv' : Value} {S : List (List UInt8)} {L : List (Nat × List UInt8)} {f f' : Int} {dn dn' : Bool} (h : DiskAt wT w g gs lv S L f dn) (i : Nat) (b : List UInt8) (hb : b.length = 32) (hi : i < S.length)
    (hd : Dk w' g (.slice (some ⟨gs, 0, none⟩) S.length S.length) lv' f' dn') (ho : w'.ownsRow 0 wT 33 lv' (L.length + 1) (rowsL L ++ rowW (i : Int) b)) (hl : lv'.ownBlock = lv.ownBlock ∨ ∃ j, lv'.ownBlock = some j ∧ w.heap.size ≤ j) (hc : Chg (fun j => j = g ∨ lv.ownBlock = some j) w w') :
    DiskAt wT w' g gs lv' S (L ++ [(i, b)]) f' dn' ∧ (∀ j, footD g gs lv' j → footD g gs lv j ∨ w.heap.size ≤ j) ∧ Chg (footD g gs lv) w w' := by
  refine ⟨⟨hd, h.sb.chg hc (fun hh => hh.elim (fun e => h.ne e.symm) h.ls), h.s32, by rw [rowsL_snoc, List.length_append]; exact ho, ?_, h.ne, ?_, ?_, h.sl⟩, ?_, hc.mono (fun j hj => hj.elim .inl (fun x => .inr (.inr x)))⟩
  · intro p hp
    rcases List.mem_append.1 hp with hp | hp
    · exact h.l32 p hp
    · obtain rfl := List.mem_singleton.1 hp
      exact ⟨hb, hi⟩
  · intro he
    rcases hl with hl | ⟨j, hl, hj⟩
    · exact h.lg (by rw [← hl, he])
    · rw [hl] at he
      injection he with he
      have := h.lt g (.inl rfl)
      omega
  · intro he
    rcases hl with hl | ⟨j, hl, hj⟩
    · exact h.ls (by rw [← hl, he])
    · rw [hl] at he
      injection he with he
      have := h.lt gs (.inr (.inl rfl))
      omega
  · rintro j (hj | hj | hj)
    · exact .inl (.inl hj)
    · exact .inl (.inr (.inl hj))
    · rcases hl with hl | ⟨k, hl, hk⟩
      · exact .inl (.inr (.inr (by rw [← hl, hj])))
      · rw [hl] at hj
        injection hj with hj
        exact .inr (by omega)
section
variable {wT : TypeId} {w w' : World} {g gs : Nat} {lv : Value} {s : Dst}
theorem DAt.same (h : DAt wT w g gs lv s) (hb : Below w.heap.size w w') (r : Value) : DPost wT w g gs lv s r (.returned r) w' := ⟨rfl, lv, h.below hb, fun _ hj => .inl hj, .of_below hb⟩
theorem DAt.only (h : DAt wT w' g gs lv s) (hc : Chg (· = g) w w') (r : Value) : DPost wT w g gs lv s r (.returned r) w' := ⟨rfl, lv, h, fun _ hj => .inl hj, hc.mono fun _ hj => .inl hj⟩
theorem DAt.nil (h : DAt wT w' g gs (.slice none 0 0) s) (hc : Chg (fun j => j = g ∨ j = gs) w w') (r : Value) : DPost wT w g gs lv s r (.returned r) w' :=
  ⟨rfl, _, h, fun j hj => .inl (hj.elim .inl fun hh => hh.elim (fun x => .inr (.inl x)) (fun x => by cases x)), hc.mono fun _ hj => hj.elim .inl fun x => .inr (.inl x)⟩
end
theorem diskWrite_at (w : World) (g gs : Nat) (lv : Value) (s : Dst) (i : Int) (b : List UInt8) (hd : DAt 92 w g gs lv s) (hb : b.length = 32) (hk : s.L.length ≤ 1000) (hf : -1 ≤ s.f) (hf2 : s.f ≤ 9223372036854775807) :
    Calls Try.prog 35 #[.pointer (some ⟨g, 0, none⟩), .int .i64 i, .agg (bts b).toArray] w (DPost 92 w g gs lv (s.write i b) (.int .i64 (s.writeE i))) := by
  by_cases hi : s.has i
  · rw [Dst.write, Dst.writeE, if_pos hi, if_pos hi]
    by_cases hp : passD s.f s.dn = true
    · rw [if_pos hp, if_pos hp]
      refine (diskWrite_down w g _ _ _ lv s.f s.dn i b hd.dk hi hp hf hf2 (own_one hd.own)).mono ?_
      rintro e w' ⟨rfl, h1, h2⟩
      exact DAt.only (by exact hd.redk h2 h1) h2 _
    · rw [if_neg hp, if_neg hp]
      obtain ⟨m, rfl⟩ := Int.eq_ofNat_of_zero_le hi.1
      refine (diskWrite_yes w 0 g _ _ _ lv s.f s.dn m b s.L.length (rowsL s.L) hd.dk hd.own hb hi.1 hi.2 (by simpa using hp) hd.lg hk (Nat.zero_le _) hf hf2 (own_one hd.own)).mono ?_
      rintro e w' ⟨rfl, lv', h1, h2, h3, h4⟩
      exact ⟨rfl, lv', hd.snoc m b hb (by have := hi.2; omega) h1 h2 h3 h4⟩
  · rw [Dst.write, Dst.writeE, if_neg hi, if_neg hi]
    refine (diskWrite_arg w g _ _ _ lv s.f s.dn i b hd.dk hi).mono ?_
    rintro e w' ⟨rfl, h1⟩
    exact DAt.same hd h1 _
theorem diskFlush_at (w : World) (g gs : Nat) (lv : Value) (s : Dst) (hd : DAt 92 w g gs lv s) (hf : -1 ≤ s.f) (hf2 : s.f ≤ 9223372036854775807) :
    Calls Try.prog 37 #[.pointer (some ⟨g, 0, none⟩)] w (DPost 92 w g gs lv s.flush (.int .i64 s.flushE)) := by
  by_cases hp : passD s.f s.dn = true
  · rw [Dst.flush, Dst.flushE, if_pos hp, if_pos hp]
    refine (diskFlush_no w g gs lv s.S s.L s.f s.dn hd hp hf hf2).mono ?_
    rintro e w' ⟨rfl, h1, h2⟩
    exact DAt.only (by exact h1) h2 _
  · rw [Dst.flush, Dst.flushE, if_neg hp, if_neg hp]
    refine (diskFlush_yes w g gs lv s.S s.L s.f s.dn hd (by simpa using hp) hf hf2).mono ?_
    rintro e w' ⟨rfl, h1, h2⟩
    exact DAt.nil (by exact h1) h2 _
theorem diskUp_at (w : World) (g gs : Nat) (lv : Value) (s : Dst) (AK : Option Addr) (nK cK : Nat) (ks : List UInt8) (hd : DAt 92 w g gs lv s) (hnk : ks.length = nK) (hkr : ∀ w', Chg (fun j => j = g ∨ j = gs) w w' → Rd w' AK (bts ks)) :
    Calls Try.prog 23 #[.pointer (some ⟨g, 0, none⟩), .slice AK nK cK] w (DPost 92 w g gs lv (s.up ks) (.tuple #[])) := by
  refine (diskUp_calls w g gs lv s.S s.L s.f s.dn AK nK cK ks hd hnk hkr).mono ?_
  rintro e w' ⟨rfl, h1, h2⟩
  exact DAt.nil (by exact h1) h2 _
theorem diskFuse_at (w : World) (g gs : Nat) (lv : Value) (s : Dst) (n : Int) (hd : DAt 92 w g gs lv s) :
    Calls Try.prog 21 #[.pointer (some ⟨g, 0, none⟩), .int .i64 n] w (DPost 92 w g gs lv (s.fuse (max n (-1))) (.tuple #[])) := by
  refine (diskFuse_calls w g _ lv s.f s.dn n hd.dk).mono ?_
  rintro e w' ⟨rfl, h1, h2⟩
  exact DAt.only (by exact hd.redk h2 h1) h2 _
/-- A new disk's state. -/
def Dst.new (n : Nat) : Dst := ⟨List.replicate n (List.replicate 32 0), [], -1, false⟩
theorem secs_new (n : Nat) : secs (List.replicate n (List.replicate 32 0)) = bts (List.replicate (n * 32) 0) := by
  unfold secs
  induction n with
  | zero => rfl
  | succ n ih => rw [List.replicate_succ, List.flatMap_cons, ih, ← bts_append, List.replicate_append_replicate, Nat.add_mul, Nat.add_comm, Nat.one_mul]
theorem NewPost.at_ {wT : TypeId} {w w' : World} {n : Nat} {e : Ending} (h2 : n ≤ 1024) (h : NewPost w n e w') : ∃ g gs, e = .returned (.tuple #[.pointer (some ⟨g, 0, none⟩), .int .i64 0]) ∧ DAt wT w' g gs (.slice none 0 0) (Dst.new n) ∧ (∀ j, footD g gs (.slice none 0 0) j → w.heap.size ≤ j) ∧ Below w.heap.size w w' := by
  obtain ⟨g, gs, rfl, hd, hb, h3, h4, h5⟩ := h
  refine ⟨g, gs, rfl, ⟨by simpa [Dst.new] using hd, by show Bk w' gs (secs (List.replicate n (List.replicate 32 0))); rw [secs_new]; exact hb, ?_, World.ownsRow_nil w' 0 wT 33, fun p hp => (by cases hp), by omega, fun he => (by cases he), fun he => (by cases he), by simpa [Dst.new] using h2⟩, ?_, h5⟩
  · intro s hs
    rw [List.eq_of_mem_replicate hs, List.length_replicate]
  · rintro j (rfl | rfl | hj)
    · omega
    · exact h3
    · cases hj
/-! ### a disk that nobody made -/
set_option maxHeartbeats 1000000 in
theorem diskHas_nil (w : World) (i : Int) : Calls Try.prog 43 #[.pointer none, .int .i64 i] w fun e w' => e = .returned (.bool false) ∧ w = w' := by
  by_cases hi : 0 ≤ i
  · have hn : ¬ (i < 0) := by omega
    go_enter Try.func43, Try.ntmps43
    go_wp2_with (go_at_call 29; refine (diskLen_nil w).mono ?_; rintro e w' ⟨rfl, rfl⟩)
    go_ret
    exact ⟨by rw [show decide (i < 0) = false from decide_eq_false (Int.not_lt.2 hi)]; rfl, rfl⟩
  · go_enter Try.func43, Try.ntmps43
    go_wp2
    go_ret
    exact ⟨rfl, rfl⟩
theorem diskFuse_nil (w : World) (n : Int) : Calls Try.prog 21 #[.pointer none, .int .i64 n] w fun e w' => e = .returned (.tuple #[]) ∧ w = w' := by
  go_enter Try.func21, Try.ntmps21
  go_wp2
  exact bodyPost_end (results_none rfl _ _) rfl ⟨rfl, rfl⟩
theorem diskUp_nil (w : World) (v : Value) : Calls Try.prog 23 #[.pointer none, v] w fun e w' => e = .returned (.tuple #[]) ∧ w = w' := by
  go_enter Try.func23, Try.ntmps23
  go_wp2
  exact bodyPost_ret (results_none rfl _ _) rfl ⟨rfl, rfl⟩
theorem diskLoose_nil (w : World) : Calls Try.prog 24 #[.pointer none] w fun e w' => e = .returned (.int .i64 0) ∧ w = w' := by
  go_enter Try.func24, Try.ntmps24
  go_wp2
  go_ret
  exact ⟨rfl, rfl⟩
theorem diskFlush_nil (w : World) : Calls Try.prog 37 #[.pointer none] w fun e w' => e = .returned (.int .i64 1) ∧ w = w' := by
  go_enter Try.func37, Try.ntmps37
  go_wp2
  go_ret
  exact ⟨rfl, rfl⟩
set_option maxRecDepth 100000 in
set_option maxHeartbeats 2000000 in
theorem diskWrite_nil (w : World) (i : Int) (b : List UInt8) : Calls Try.prog 35 #[.pointer none, .int .i64 i, .agg (bts b).toArray] w fun e w' => e = .returned (.int .i64 1) ∧ Below w.heap.size w w' := by
  generalize bts b = vx
  go_enter Try.func35, Try.ntmps35
  go_wp2_with fail
  refine calls_at fun w1 hw1 => ?_
  have HE1 : Hid (Below w.heap.size w w1) := by rw [← hw1]; exact (Below.refl _ _).alloc (Nat.le_refl _) _
  clear hw1
  refine (diskHas_nil w1 i).mono ?_
  rintro e w' ⟨rfl, rfl⟩
  go_wp2
  go_ret
  exact ⟨rfl, HE1.out⟩
set_option maxRecDepth 100000 in
set_option maxHeartbeats 2000000 in
theorem diskRead_nil (w : World) (i : Int) : Calls Try.prog 30 #[.pointer none, .int .i64 i] w fun e w' => e = .returned (.tuple #[.agg (bts (List.replicate 32 0)).toArray, .int .i64 1]) ∧ Below w.heap.size w w' := by
  have HN0 : Hid ((bts (List.replicate 32 0)).length = 32) := by show _ = _; rw [bts_length, List.length_replicate]
  go_enter Try.func30, Try.ntmps30
  go_wp2_with (refine wpList_al rfl 35 rfl (bts (List.replicate 32 0)) (by kernel_rfl) ?_)
  intro gr w1 hg hb hc1 hs1
  subst hg
  have HZ1 := Lib.hid hb
  have HE1 : Hid (Below w.heap.size w w1) := hc1.below (Nat.le_refl _) (fun _ _ => id)
  clear hb hc1 hs1
  go_wp2_with fail
  refine (diskHas_nil w1 i).mono ?_
  rintro e w' ⟨rfl, rfl⟩
  go_wp2_with (first
    | (refine wpList_bld rfl 35 [] rfl (bts (List.replicate 32 0)) [] (bts (List.replicate 32 0)) (by kernel_rfl) (by kernel_rfl) trivial rfl ?_)
    | (refine wpList_st rfl 35 (.tmp 4) (.tmp 14) rfl w.heap.size 0 32 (bts (List.replicate 32 0)) (bts (List.replicate 32 0)) rfl rfl HZ1.out (by kernel_rfl) HN0.out (by rw [HN0.out]; decide) (one_bts _) ?_))
  intro w3 hb3 hc3
  rw [splice_whole _ _ rfl] at hb3
  have HE3 : Hid (Below w.heap.size w w3) := HE1.out.trans (hc3.below HE1.out.size (fun k hk he => by omega))
  have HB3 := Lib.hid hb3
  clear hb3 hc3
  go_wp2_with fail
  (try simp only [Exit.inBlock, Exit.then])
  refine bodyPost_ret (res_cell_tmp rfl _ _ w.heap.size 32 (bts (List.replicate 32 0)) rfl HB3.out (by kernel_rfl) (by kernel_rfl) HN0.out) rfl ?_
  exact ⟨rfl, HE3.out⟩
end Go.Proofs.Ytcmfkdfegfablaa


/- A disk through a row of calls: what lies ahead of it stays. -/
namespace Go.Proofs.Ytcmfkdfegfablaa
open Go.RowKit
set_option linter.unusedVariables false
set_option linter.unusedSimpArgs false

structure DSes (wT : TypeId) (w0 w : World) (g gs : Nat) (lv : Value) (s : Dst) : Prop where
  at_ : DAt wT w g gs lv s
  fr : ∀ j, footD g gs lv j → w0.heap.size ≤ j
  bel : Below w0.heap.size w0 w
section
variable {wT : TypeId} {w0 w w' : World} {g gs : Nat} {lv : Value} {s s' : Dst}
theorem DSes.post (h : DSes wT w0 w g gs lv s) {r : Value} {e : Ending} (hp : DPost wT w g gs lv s' r e w') : e = .returned r ∧ ∃ lv', DSes wT w0 w' g gs lv' s' := by
  obtain ⟨he, lv', h1, h2, h3⟩ := hp
  refine ⟨he, lv', h1, fun j hj => ?_, h.bel.trans (h3.below h.bel.size (fun k hk hf => by have := h.fr k hf; omega))⟩
  rcases h2 j hj with h4 | h4
  · exact h.fr j h4
  · exact Nat.le_trans h.bel.size h4
theorem DSes.below (h : DSes wT w0 w g gs lv s) (hb : Below w.heap.size w w') : DSes wT w0 w' g gs lv s := ⟨DiskAt.below h.at_ hb, h.fr, h.bel.trans (hb.mono h.bel.size)⟩
theorem DSes.chgN (h : DSes wT w0 w g gs lv s) (hb : Chg NoS w w') : DSes wT w0 w' g gs lv s := h.below (hb.below (Nat.le_refl _) (fun _ _ => id))
theorem DSes.drew (h : DSes wT w0 w g gs lv s) : DSes wT w0 w.drew g gs lv s := ⟨DiskAt.drew h.at_, h.fr, h.bel.trans ⟨rfl, rfl, rfl, Nat.le_refl _, fun _ _ => rfl⟩⟩
theorem DSes.new {n : Nat} {e : Ending} (h2 : n ≤ 1024) (hb : Below w0.heap.size w0 w) (h : NewPost w n e w') : ∃ g gs, e = .returned (.tuple #[.pointer (some ⟨g, 0, none⟩), .int .i64 0]) ∧ DSes wT w0 w' g gs (.slice none 0 0) (Dst.new n) := by
  obtain ⟨g, gs, rfl, h3, h4, h5⟩ := h.at_ (wT := wT) h2
  exact ⟨g, gs, rfl, h3, fun j hj => Nat.le_trans hb.size (h4 j hj), hb.trans (h5.mono hb.size)⟩
end
theorem diskLoose_at (w : World) (g gs : Nat) (lv : Value) (s : Dst) (h : DAt 92 w g gs lv s) : Calls Try.prog 24 #[.pointer (some ⟨g, 0, none⟩)] w fun e w' => e = .returned (.int .i64 s.L.length) ∧ w = w' := by
  obtain ⟨A, c, rfl, _⟩ := own_rd h.own
  exact diskLoose_calls w g _ A s.L.length c s.f s.dn h.dk
theorem diskLen_at (w : World) (g gs : Nat) (lv : Value) (s : Dst) (h : DAt 92 w g gs lv s) : Calls Try.prog 29 #[.pointer (some ⟨g, 0, none⟩)] w fun e w' => e = .returned (.int .i64 s.S.length) ∧ w = w' :=
  diskLen_calls w g _ s.S.length _ lv s.f s.dn h.dk
def Dst.readB (s : Dst) (i : Int) : List UInt8 := Go.Proofs.Ytcmfkdfegfablaa.readB s.S s.L s.dn i
def Dst.readE (s : Dst) (i : Int) : Int := Go.Proofs.Ytcmfkdfegfablaa.readE s.S s.dn i
theorem diskRead_at (w : World) (g gs : Nat) (lv : Value) (s : Dst) (i : Int) (h : DAt 92 w g gs lv s) : Calls Try.prog 30 #[.pointer (some ⟨g, 0, none⟩), .int .i64 i] w fun e w' => e = .returned (.tuple #[.agg (bts (s.readB i)).toArray, .int .i64 (s.readE i)]) ∧ Below w.heap.size w w' :=
  diskRead_calls w g gs lv s.S s.L s.f s.dn i h
theorem DAt.readB_len {wT : TypeId} {w : World} {g gs : Nat} {lv : Value} {s : Dst} (h : DAt wT w g gs lv s) (i : Int) : (s.readB i).length = 32 := by
  unfold Dst.readB Go.Proofs.Ytcmfkdfegfablaa.readB
  split
  · rename_i hh
    have := DiskAt.now32 h i.toNat (by omega) s.L.length (Nat.le_refl _)
    rwa [List.take_length] at this
  · rw [List.length_replicate]
/-- Two disks side by side. -/
structure Two (w0 w : World) (wT : TypeId) (g gs : Nat) (lv : Value) (s : Dst) (vT : TypeId) (q qs : Nat) (mv : Value) (t : Dst) : Prop where
  a : DSes wT w0 w g gs lv s
  b : DSes vT w0 w q qs mv t
  ap : ∀ j, footD g gs lv j → ¬ footD q qs mv j
section
variable {wT vT : TypeId} {w0 w w' : World} {g gs q qs : Nat} {lv mv : Value} {s s' t t' : Dst}
theorem Two.below (h : Two w0 w wT g gs lv s vT q qs mv t) (hb : Below w.heap.size w w') : Two w0 w' wT g gs lv s vT q qs mv t := ⟨h.a.below hb, h.b.below hb, h.ap⟩
theorem Two.drew (h : Two w0 w wT g gs lv s vT q qs mv t) : Two w0 w.drew wT g gs lv s vT q qs mv t := ⟨h.a.drew, h.b.drew, h.ap⟩
theorem Two.swap (h : Two w0 w wT g gs lv s vT q qs mv t) : Two w0 w vT q qs mv t wT g gs lv s := ⟨h.b, h.a, fun j hj hk => h.ap j hk hj⟩
theorem Two.post (h : Two w0 w wT g gs lv s vT q qs mv t) {r : Value} {e : Ending} (hp : DPost wT w g gs lv s' r e w') : e = .returned r ∧ ∃ lv', Two w0 w' wT g gs lv' s' vT q qs mv t := by
  obtain ⟨he, lv', h1⟩ := h.a.post hp
  obtain ⟨_, lv2, h2, h3, h4⟩ := hp
  obtain ⟨he', lv'', hs⟩ := h.a.post ⟨he, lv2, h2, h3, h4⟩
  have hq : DAt vT w' q qs mv t := DiskAt.chg h.b.at_ h4 (fun j hj hk => h.ap j hk hj)
  refine ⟨he, lv2, ⟨h2, fun j hj => ?_, hs.bel⟩, ⟨hq, h.b.fr, hs.bel⟩, fun j hj hk => ?_⟩
  · rcases h3 j hj with h5 | h5
    · exact h.a.fr j h5
    · exact Nat.le_trans h.a.bel.size h5
  · rcases h3 j hj with h5 | h5
    · exact h.ap j h5 hk
    · have := DiskAt.lt h.b.at_ j hk
      omega
theorem Two.post2 (h : Two w0 w wT g gs lv s vT q qs mv t) {r : Value} {e : Ending} (hp : DPost vT w q qs mv t' r e w') : e = .returned r ∧ ∃ mv', Two w0 w' wT g gs lv s vT q qs mv' t' := by
  obtain ⟨he, mv', h1⟩ := h.swap.post hp
  exact ⟨he, mv', h1.swap⟩
end
end Go.Proofs.Ytcmfkdfegfablaa
