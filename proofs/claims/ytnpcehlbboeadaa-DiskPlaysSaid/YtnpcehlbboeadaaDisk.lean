/- The walks of the disk's small functions: what they read and turn in the disk's own block. -/
import Derived.Test.YtnpcehlbboeadaaBlk
import Derived.Test.YtnpcehlbboeadaaProg
namespace Go.Proofs.Ytnpcehlbboeadaa
open Go.RowKit
set_option linter.unusedVariables false
set_option linter.unusedSimpArgs false

/-- The disk's own block: its sectors' slice, its loose writes' slice, its fuse, whether it is down. -/
def Dk (w : World) (g : Nat) (sv lv : Value) (f : Int) (dn : Bool) : Prop := Bk w g [sv, lv, .int .i64 f, .bool dn]
theorem one_b (b : Bool) : ∀ u ∈ [Value.bool b], u.oneCell' = true := by intro u hu; obtain rfl := List.mem_singleton.1 hu; rfl
theorem one_i (z : Int) : ∀ u ∈ [Value.int .i64 z], u.oneCell' = true := by intro u hu; obtain rfl := List.mem_singleton.1 hu; rfl
/-- What pass answers, and what it leaves of the fuse and of 'down'. -/
def passE (f : Int) (dn : Bool) : Int := if dn = true ∨ f = 0 then 20 else 0
def passF (f : Int) (dn : Bool) : Int := if dn = true ∨ f = 0 then f else if 0 < f then f - 1 else f
def passD (f : Int) (dn : Bool) : Bool := dn || decide (f = 0)

set_option maxHeartbeats 400000 in
theorem diskLen_calls (w : World) (g : Nat) (A : Option Addr) (n c : Nat) (lv : Value) (f : Int) (dn : Bool) (h : Dk w g (.slice A n c) lv f dn) :
    Calls Try.prog 29 #[.pointer (some ⟨g, 0, none⟩)] w fun e w' => e = .returned (.int .i64 n) ∧ w = w' := by
  have h0 := h.cell (j := 0) rfl
  go_enter Try.func29, Try.ntmps29
  go_wp2
  go_ret
  exact ⟨rfl, rfl⟩
set_option maxHeartbeats 400000 in
theorem diskLen_nil (w : World) : Calls Try.prog 29 #[.pointer none] w fun e w' => e = .returned (.int .i64 0) ∧ w = w' := by
  go_enter Try.func29, Try.ntmps29
  go_wp2
  go_ret
  exact ⟨rfl, rfl⟩
set_option maxHeartbeats 400000 in
theorem diskLoose_calls (w : World) (g : Nat) (sv : Value) (A : Option Addr) (n c : Nat) (f : Int) (dn : Bool) (h : Dk w g sv (.slice A n c) f dn) :
    Calls Try.prog 27 #[.pointer (some ⟨g, 0, none⟩)] w fun e w' => e = .returned (.int .i64 n) ∧ w = w' := by
  have h0 := h.cell (j := 1) rfl
  go_enter Try.func27, Try.ntmps27
  go_wp2
  go_ret
  exact ⟨rfl, rfl⟩
set_option maxHeartbeats 400000 in
theorem diskDown_calls (w : World) (g : Nat) (sv lv : Value) (f : Int) (dn : Bool) (h : Dk w g sv lv f dn) :
    Calls Try.prog 28 #[.pointer (some ⟨g, 0, none⟩)] w fun e w' => e = .returned (.bool dn) ∧ w = w' := by
  have h0 := h.cell (j := 3) rfl
  go_enter Try.func28, Try.ntmps28
  go_wp2
  go_ret
  exact ⟨rfl, rfl⟩
set_option maxHeartbeats 400000 in
theorem diskHas_calls (w : World) (g : Nat) (A : Option Addr) (n c : Nat) (lv : Value) (f : Int) (dn : Bool) (i : Int) (h : Dk w g (.slice A n c) lv f dn) :
    Calls Try.prog 40 #[.pointer (some ⟨g, 0, none⟩), .int .i64 i] w fun e w' => e = .returned (.bool (decide (0 ≤ i) && decide (i < n))) ∧ w = w' := by
  by_cases hi : 0 ≤ i
  · go_enter Try.func40, Try.ntmps40
    go_wp2_with (go_at_call 29; refine (diskLen_calls w g A n c lv f dn h).mono ?_; rintro e w' ⟨rfl, rfl⟩)
    go_ret
    exact ⟨by simp [hi], rfl⟩
  · go_enter Try.func40, Try.ntmps40
    go_wp2
    go_ret
    exact ⟨by rw [show decide (0 ≤ i) = false by simpa using hi]; rfl, rfl⟩
set_option maxHeartbeats 1000000 in
theorem diskPass_calls (w : World) (g : Nat) (sv lv : Value) (f : Int) (dn : Bool) (h : Dk w g sv lv f dn) (hs1 : sv.oneCell' = true) (hl1 : lv.oneCell' = true) (hf : -1 ≤ f) (hf2 : f ≤ 9223372036854775807) :
    Calls Try.prog 41 #[.pointer (some ⟨g, 0, none⟩)] w fun e w' => e = .returned (.int .i64 (passE f dn)) ∧ Dk w' g sv lv (passF f dn) (passD f dn) ∧ Chg (· = g) w w' := by
  have h2 := h.cell (j := 2) rfl
  have h3 := h.cell (j := 3) rfl
  have H := Lib.hid h
  clear h
  have hz : ∀ w1, Bk w1 g [sv, lv, .int .i64 f, .bool true] → w1.cell? ⟨g, 3, none⟩ = some (.bool true) := fun w1 h => h.cell rfl
  cases dn with
  | true =>
    go_enter Try.func41, Try.ntmps41
    go_wp2_with (refine wpList_st rfl 4 _ _ rfl g 3 1 [sv, lv, .int .i64 f, .bool true] [.bool true] rfl rfl H.out (by kernel_rfl) rfl (Nat.le_refl _) (one_b _) ?_)
    intro w1 hb hc
    have hb' : Bk w1 g [sv, lv, .int .i64 f, .bool true] := hb
    have c3 := hb'.cell (j := 3) rfl
    clear h2 h3 hb
    go_wp2
    go_ret
    exact ⟨by simp [passE], by simpa [Dk, passF, passD] using hb', hc⟩
  | false =>
    by_cases hf0 : f = 0
    · subst hf0
      go_enter Try.func41, Try.ntmps41
      go_wp2_with (refine wpList_st rfl 4 _ _ rfl g 3 1 [sv, lv, .int .i64 0, .bool false] [.bool true] rfl rfl H.out (by kernel_rfl) rfl (Nat.le_refl _) (one_b _) ?_)
      intro w1 hb hc
      have hb' : Bk w1 g [sv, lv, .int .i64 0, .bool true] := hb
      have c3 := hb'.cell (j := 3) rfl
      clear h2 h3 hb
      go_wp2
      go_ret
      exact ⟨by simp [passE], by simpa [Dk, passF, passD] using hb', hc⟩
    · have hfb : (f == 0) = false := by simpa using hf0
      go_enter Try.func41, Try.ntmps41
      go_wp2_with (refine wpList_st rfl 4 _ _ rfl g 3 1 [sv, lv, .int .i64 f, .bool false] [.bool false] rfl rfl H.out (by kernel_rfl) rfl (Nat.le_refl _) (one_b _) ?_)
      intro w1 hb hc
      have hb' : Bk w1 g [sv, lv, .int .i64 f, .bool false] := hb
      have c3 := hb'.cell (j := 3) rfl
      have c2 := hb'.cell (j := 2) rfl
      have HB := Lib.hid hb'
      clear h2 h3 hb hb'
      by_cases hp : 0 < f
      · go_wp2_with (refine wpList_st rfl 3 _ _ rfl g 2 1 [sv, lv, .int .i64 f, .bool false] [.int .i64 (f - 1)] rfl rfl HB.out (by kernel_rfl) rfl (Nat.le_succ _) (one_i _) ?_)
        intro w2 hb2 hc2
        have hb3 : Bk w2 g [sv, lv, .int .i64 (f - 1), .bool false] := hb2
        clear c2 c3 hb2
        go_wp2
        go_ret
        exact ⟨by simp [passE, hf0], by simpa [Dk, passF, passD, hf0, hp] using hb3, hc.trans hc2⟩
      · go_wp2
        go_ret
        have hp' : ¬ 0 < f := by omega
        exact ⟨by simp [passE, hf0], by simpa [Dk, passF, passD, hf0, hp'] using HB.out, hc⟩

theorem fill_step2 (l : List UInt8) (k : Nat) (v : UInt8) (hk : k < 32) (hl : bts l = bts (List.replicate k v ++ List.replicate (32 - k) 0)) : splice (bts l) k [vu8 v] = bts (List.replicate (k + 1) v ++ List.replicate (32 - (k + 1)) 0) := by
  rw [hl]
  obtain ⟨j, hj⟩ : ∃ j, 32 - k = j + 1 := ⟨32 - k - 1, by omega⟩
  rw [hj, show 32 - (k + 1) = j by omega]
  simp only [splice, bts_append, List.length_singleton]
  rw [List.take_left' (by simp), List.drop_append, List.drop_eq_nil_of_le (by simp), List.nil_append, bts_length, List.length_replicate, show k + 1 - k = 1 by omega, bts_drop, List.drop_replicate, show j + 1 - 1 = j by omega, List.replicate_succ', bts_append, List.append_assoc]
  rfl
def FillRel (w : World) (g : Nat) (v : UInt8) (v4 : Value) (wr : World) : Prop := ∃ k : Nat, k ≤ 32 ∧ v4 = .int .i64 k ∧ Bk wr (g + 1) (bts (List.replicate k v ++ List.replicate (32 - k) 0)) ∧ Bk wr g (bts (List.replicate 32 0)) ∧ Below w.heap.size w wr
set_option maxHeartbeats 1000000 in
theorem fill_calls (v : UInt8) (w : World) :
    Calls Try.prog 18 #[vu8 v] w fun e w' => e = .returned (.agg (bts (List.replicate 32 v)).toArray) ∧ Below w.heap.size w w' := by
  go_enter Try.func18, Try.ntmps18
  go_wp2_with (refine wpList_al rfl 37 rfl (bts (List.replicate 32 0)) (by kernel_rfl) ?_)
  intro g w1 hg hb hc hs
  subst hg
  go_wp2_with (refine wpList_al rfl 37 rfl (bts (List.replicate 32 0)) (by kernel_rfl) ?_)
  intro g2 w2 hg hb2 hc2 hs2
  (try rw [hs] at hg)
  subst hg
  have hrel0 : FillRel w w.heap.size v (.int .i64 0) w2 := ⟨0, by omega, rfl, hb2, hb.chg hc2 id, (hc.below (Nat.le_refl _) (fun _ _ => id)).trans (hc2.below (by omega) (fun _ _ => id))⟩
  have H0 := Lib.hid hrel0
  clear hb hc hs hb2 hc2 hs2 hrel0
  go_wp2_with fail
  go_loopw [4] (fun v4 wr => FillRel w w.heap.size v v4 wr) (fun v4 _ => 32 - (intOf v4).toNat)
  case atStart => exact H0.out
  case round =>
    obtain ⟨k, hk, rfl, hb, hz, he⟩ := hrel
    have HB := Lib.hid hb
    have HZ := Lib.hid hz
    have HE := Lib.hid he
    clear hb hz he H0
    by_cases hlt : k < 32
    · have hki : (k : Int) < 32 := by omega
      go_wp2_with (refine wpList_st rfl 5 _ _ rfl (w.heap.size + 1) k 1 _ [vu8 v] rfl rfl HB.out (by kernel_rfl) rfl (by simp; omega) (fun u hu => by obtain rfl := List.mem_singleton.1 hu; rfl) ?_)
      intro w3 hb3 hc3
      rw [fill_step2 _ k v hlt rfl] at hb3
      have HB3 := Lib.hid hb3
      have HZ3 : Hid (Bk wr w.heap.size (bts (List.replicate 32 0)) → Bk w3 w.heap.size (bts (List.replicate 32 0))) := fun h => h.chg hc3 (by omega)
      have HE3 : Hid (Below w.heap.size w w3) := HE.out.trans (hc3.below HE.out.size (fun k hk he => by omega))
      clear hb3 hc3
      go_wp2_with fail
      go_roundw
      case rel => exact ⟨k + 1, by omega, by go_num, HB3.out, HZ3.out HZ.out, HE3.out⟩
      case measure => simp [intOf]; omega
    · have hk32 : k = 32 := by omega
      have hki : ¬ ((k : Int) < 32) := by omega
      have hB : Bk wr (w.heap.size + 1) (bts (List.replicate 32 v)) := by
        have := HB.out
        rw [hk32] at this
        rwa [show List.replicate (32 - 32) (0 : UInt8) = [] from rfl, List.append_nil] at this
      have HN : Hid ((bts (List.replicate 32 v)).length = 32) := by show _ = _; rw [bts_length, List.length_replicate]
      have HN0 : Hid ((bts (List.replicate 32 0)).length = 32) := by show _ = _; rw [bts_length, List.length_replicate]
      have HO := Lib.hid (one_bts (List.replicate 32 v))
      have HB2 := Lib.hid hB
      clear hB HB hk32
      obtain ⟨vv, hvv⟩ : ∃ vv, bts (List.replicate 32 v) = vv := ⟨_, rfl⟩
      rw [hvv] at HN HO HB2
      have HVV := Lib.hid hvv
      clear hvv
      generalize bts (List.replicate 32 0) = zz at HN0 HZ
      go_wp2_with (first
        | (refine wpList_ld rfl 37 (.tmp 3) rfl (w.heap.size + 1) 0 32 vv vv rfl HB2.out (by kernel_rfl) (by kernel_rfl) (by rw [HN.out]; decide) (by rw [List.drop_zero, List.take_of_length_le (by rw [HN.out]; decide)]) ?_)
        | (refine wpList_st rfl 37 (.tmp 2) (.tmp 12) rfl w.heap.size 0 32 zz vv rfl rfl HZ.out (by kernel_rfl) HN.out (by rw [HN0.out]; decide) HO.out ?_))
      intro w3 hb3 hc3
      rw [splice_whole zz vv (by rw [HN.out, HN0.out])] at hb3
      have HE3 : Hid (Below w.heap.size w w3) := HE.out.trans (hc3.below HE.out.size (fun k hk he => by omega))
      go_wp2_with fail
      (try simp only [Exit.inBlock, Exit.then])
      refine bodyPost_ret (res_cell rfl _ _ w.heap.size 32 vv rfl hb3 (by kernel_rfl) (by kernel_rfl) HN.out) rfl ?_
      exact ⟨by rw [HVV.out], HE3.out⟩
end Go.Proofs.Ytnpcehlbboeadaa
