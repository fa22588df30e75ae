
/- keep.Fill. -/
import Derived.Test.YtpldcmcldoidaaaBlk
import Derived.Test.YtpldcmcldoidaaaProg
namespace Go.Proofs.Ytpldcmcldoidaaa
open Go.RowKit
set_option linter.unusedVariables false
set_option linter.unusedSimpArgs false

theorem fill_step2 (l : List UInt8) (k : Nat) (v : UInt8) (hk : k < 32) (hl : bts l = bts (List.replicate k v ++ List.replicate (32 - k) 0)) : splice (bts l) k [vu8 v] = bts (List.replicate (k + 1) v ++ List.replicate (32 - (k + 1)) 0) := by
  rw [hl]
  obtain ⟨j, hj⟩ : ∃ j, 32 - k = j + 1 := ⟨32 - k - 1, by omega⟩
  rw [hj, show 32 - (k + 1) = j by omega]
  simp only [splice, bts_append, List.length_singleton]
  rw [List.take_left' (by simp), List.drop_append, List.drop_eq_nil_of_le (by simp), List.nil_append, bts_length, List.length_replicate, show k + 1 - k = 1 by omega, bts_drop, List.drop_replicate, show j + 1 - 1 = j by omega, List.replicate_succ', bts_append, List.append_assoc]
  rfl
def FillRel (w : World) (g : Nat) (v : UInt8) (v4 : Value) (wr : World) : Prop := ∃ k : Nat, k ≤ 32 ∧ v4 = .int .i64 k ∧ Bk wr (g + 1) (bts (List.replicate k v ++ List.replicate (32 - k) 0)) ∧ Bk wr g (bts (List.replicate 32 0)) ∧ Below w.heap.size w wr
set_option maxHeartbeats 1000000 in
theorem fill_calls (v : UInt8) (w : World) :
    Calls Try.prog 17 #[vu8 v] w fun e w' => e = .returned (.agg (bts (List.replicate 32 v)).toArray) ∧ Below w.heap.size w w' := by
  go_enter Try.func17, Try.ntmps17
  go_wp2_with (refine wpList_al rfl 46 rfl (bts (List.replicate 32 0)) (by kernel_rfl) ?_)
  intro g w1 hg hb hc hs
  subst hg
  go_wp2_with (refine wpList_al rfl 46 rfl (bts (List.replicate 32 0)) (by kernel_rfl) ?_)
  intro g2 w2 hg hb2 hc2 hs2
  (try rw [hs] at hg)
  subst hg
  have hrel0 : FillRel w w.heap.size v (.int .i64 0) w2 := ⟨0, by omega, rfl, hb2, hb.chg hc2 id, (hc.below (Nat.le_refl _) (fun _ _ => id)).trans (hc2.below (by omega) (fun _ _ => id))⟩
  have H0 := Lib.hid hrel0
  clear hb hc hs hb2 hc2 hs2 hrel0
  go_wp2_with fail
  go_loopw [4] (fun v4 wr => FillRel w w.heap.size v v4 wr) (fun v4 _ => 32 - (intOf v4).toNat)
  case atStart => exact H0.out
  case round =>
    obtain ⟨k, hk, rfl, hb, hz, he⟩ := hrel
    have HB := Lib.hid hb
    have HZ := Lib.hid hz
    have HE := Lib.hid he
    clear hb hz he H0
    by_cases hlt : k < 32
    · have hki : (k : Int) < 32 := by omega
      go_wp2_with (refine wpList_st rfl 5 _ _ rfl (w.heap.size + 1) k 1 _ [vu8 v] rfl rfl HB.out (by kernel_rfl) rfl (by simp; omega) (fun u hu => by obtain rfl := List.mem_singleton.1 hu; rfl) ?_)
      intro w3 hb3 hc3
      rw [fill_step2 _ k v hlt rfl] at hb3
      have HB3 := Lib.hid hb3
      have HZ3 : Hid (Bk wr w.heap.size (bts (List.replicate 32 0)) → Bk w3 w.heap.size (bts (List.replicate 32 0))) := fun h => h.chg hc3 (by omega)
      have HE3 : Hid (Below w.heap.size w w3) := HE.out.trans (hc3.below HE.out.size (fun k hk he => by omega))
      clear hb3 hc3
      go_wp2_with fail
      go_roundw
      case rel => exact ⟨k + 1, by omega, by go_num, HB3.out, HZ3.out HZ.out, HE3.out⟩
      case measure => simp [intOf]; omega
    · have hk32 : k = 32 := by omega
      have hki : ¬ ((k : Int) < 32) := by omega
      have hB : Bk wr (w.heap.size + 1) (bts (List.replicate 32 v)) := by
        have := HB.out
        rw [hk32] at this
        rwa [show List.replicate (32 - 32) (0 : UInt8) = [] from rfl, List.append_nil] at this
      have HN : Hid ((bts (List.replicate 32 v)).length = 32) := by show _ = _; rw [bts_length, List.length_replicate]
      have HN0 : Hid ((bts (List.replicate 32 0)).length = 32) := by show _ = _; rw [bts_length, List.length_replicate]
      have HO := Lib.hid (one_bts (List.replicate 32 v))
      have HB2 := Lib.hid hB
      clear hB HB hk32
      obtain ⟨vv, hvv⟩ : ∃ vv, bts (List.replicate 32 v) = vv := ⟨_, rfl⟩
      rw [hvv] at HN HO HB2
      have HVV := Lib.hid hvv
      clear hvv
      generalize bts (List.replicate 32 0) = zz at HN0 HZ
      go_wp2_with (first
        | (refine wpList_ld rfl 46 (.tmp 3) rfl (w.heap.size + 1) 0 32 vv vv rfl HB2.out (by kernel_rfl) (by kernel_rfl) (by rw [HN.out]; decide) (by rw [List.drop_zero, List.take_of_length_le (by rw [HN.out]; decide)]) ?_)
        | (refine wpList_st rfl 46 (.tmp 2) (.tmp 12) rfl w.heap.size 0 32 zz vv rfl rfl HZ.out (by kernel_rfl) HN.out (by rw [HN0.out]; decide) HO.out ?_))
      intro w3 hb3 hc3
      rw [splice_whole zz vv (by rw [HN.out, HN0.out])] at hb3
      have HE3 : Hid (Below w.heap.size w w3) := HE.out.trans (hc3.below HE.out.size (fun k hk he => by omega))
      go_wp2_with fail
      (try simp only [Exit.inBlock, Exit.then])
      refine bodyPost_ret (res_cell rfl _ _ w.heap.size 32 vv rfl hb3 (by kernel_rfl) (by kernel_rfl) HN.out) rfl ?_
      exact ⟨by rw [HVV.out], HE3.out⟩
end Go.Proofs.Ytpldcmcldoidaaa
