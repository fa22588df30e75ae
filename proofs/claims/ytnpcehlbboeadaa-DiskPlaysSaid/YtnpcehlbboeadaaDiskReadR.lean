/- The walk of the reference's Now and Read. -/
import Derived.Test.YtnpcehlbboeadaaDiskRead
namespace Go.Proofs.Ytnpcehlbboeadaa
open Go.RowKit
set_option linter.unusedVariables false
set_option linter.unusedSimpArgs false

set_option maxRecDepth 100000 in
set_option maxHeartbeats 4000000 in
theorem refNow_calls (w : World) (g gs : Nat) (lv : Value) (S : List (List UInt8)) (L : List (Nat × List UInt8)) (f : Int) (dn : Bool) (m : Nat) (hm : m < S.length) (hd : DiskAt 93 w g gs lv S L f dn) :
    Calls Try.prog 44 #[.pointer (some ⟨g, 0, none⟩), .int .i64 m] w fun e w' => e = .returned (.agg (bts (nowS S L m)).toArray) ∧ Below w.heap.size w w' := by
  obtain ⟨A, c, rfl, hR, hkc, hc⟩ := own_rd hd.own
  have H := Lib.hid hd
  clear hd hR
  have HN0 : Hid ((bts (List.replicate 32 0)).length = 32) := by show _ = _; rw [bts_length, List.length_replicate]
  go_enter Try.func44, Try.ntmps44
  go_wp2_with (refine wpList_al rfl 37 rfl (bts (List.replicate 32 0)) (by kernel_rfl) ?_)
  intro gr w1 hg hb hc1 hs1
  subst hg
  have HZ1 := Lib.hid hb
  have HE1 : Hid (Below w.heap.size w w1) := hc1.below (Nat.le_refl _) (fun _ _ => id)
  have HS1 := Lib.hid hs1
  clear hb hc1 hs1
  have hi1 : (m : Int) < (S.length : Int) := by omega
  have c0 := (H.out.below HE1.out).dk.cell (j := 0) rfl
  have HB1 : Hid (Bk w1 gs (secs S)) := (H.out.below HE1.out).sb
  obtain ⟨b0, hb0⟩ : ∃ b0, bts (S.getD m []) = b0 := ⟨_, rfl⟩
  have hb0l : b0.length = 32 := by rw [← hb0, bts_length]; have := H.out.now32 m hm 0 (Nat.zero_le _); simpa [nowS] using this
  have HB0L := Lib.hid hb0l
  have HB0O : Hid (∀ u ∈ b0, u.oneCell' = true) := by rw [← hb0]; exact one_bts _
  have HSL : Hid (m * 32 + 32 ≤ (secs S).length) := by show m * 32 + 32 ≤ (secs S).length; rw [H.out.secs_len]; omega
  have HSP : Hid (((secs S).drop (m * 32)).take 32 = b0) := by rw [← hb0]; exact H.out.sec m hm
  have HB00 := Lib.hid hb0
  clear hb0 hb0l
  go_wp2_with (first
    | (refine wpList_ld rfl 37 (.tmp 12) rfl gs (m * 32) 32 (secs S) b0 rfl HB1.out (by kernel_rfl) (by kernel_rfl) HSL.out HSP.out ?_)
    | (refine wpList_al rfl 37 rfl (bts (List.replicate 32 0)) (by kernel_rfl) ?_))
  intro g6 w2 hg hb2 hc2 hs2
  (try rw [HS1.out] at hg)
  subst hg
  have HE2 : Hid (Below w.heap.size w w2) := HE1.out.trans (hc2.below (by rw [HS1.out]; omega) (fun _ _ => id))
  have HZ2 : Hid (Bk w2 w.heap.size (bts (List.replicate 32 0))) := HZ1.out.chg hc2 id
  have HX2 := Lib.hid hb2
  clear hb2 hc2 hs2 c0
  go_wp2_with (refine wpList_st rfl 37 (.tmp 5) (.tmp 13) rfl (w.heap.size + 1) 0 32 (bts (List.replicate 32 0)) b0 rfl rfl HX2.out (by kernel_rfl) HB0L.out (by rw [HN0.out]; decide) HB0O.out ?_)
  intro w3 hb3 hc3
  rw [splice_whole _ _ (by rw [HB0L.out]; rfl), ← HB00.out] at hb3
  have hrel0 : ReadRel w S L m (.int .i64 0) w3 := ⟨0, by omega, rfl, hb3, HZ2.out.chg hc3 (by omega), HE2.out.trans (hc3.below HE2.out.size (fun k hk he => by omega))⟩
  have H0 := Lib.hid hrel0
  clear hb3 hc3 hrel0
  go_wp2_with fail
  go_loopw [6] (fun v wr => ReadRel w S L m v wr) (fun v _ => L.length - (intOf v).toNat)
  case atStart => exact H0.out
  case round =>
    obtain ⟨k, hk, rfl, hb, hz, he⟩ := hrel
    have HB := Lib.hid hb
    have HZ := Lib.hid hz
    have HE := Lib.hid he
    clear hb hz he H0
    have c1 := (H.out.below HE.out).dk.cell (j := 1) rfl
    by_cases hlt : k < L.length
    · have hki : (k : Int) < (L.length : Int) := by omega
      obtain ⟨gl, cap, vs, hv, hbl, hll, hpc, _, _⟩ := (H.out.below HE.out).loose k hlt
      injection hv with hA hlx hcx
      subst hA
      clear hlx
      subst hcx
      obtain ⟨p, hp⟩ : ∃ p, L[k] = p := ⟨_, rfl⟩
      rw [hp] at hpc
      have hp32 : p.2.length = 32 := by rw [← hp]; exact (H.out.l32 _ (List.getElem_mem hlt)).1
      obtain ⟨hpa, hpb⟩ := piece_parts hp32 hpc
      have c80 := hbl.cell hpa
      have HBL := Lib.hid hbl
      have HLL := Lib.hid hll
      have HPC := Lib.hid hpb
      have HP := Lib.hid hp
      have HP32 := Lib.hid hp32
      clear hbl hll hpc hp hp32 hpa hpb
      by_cases heq : p.1 = m
      · have heq' : ((p.1 : Int) == (m : Int)) = true := by rw [heq]; exact beq_self_eq_true _
        go_wp2_with (first
          | (refine wpList_ld rfl 37 (.tmp 39) rfl gl (k * 33 + 1) 32 vs (bts p.2) rfl HBL.out (by kernel_rfl) (by kernel_rfl) (by have := HLL.out; omega) HPC.out ?_)
          | (refine wpList_st rfl 37 (.tmp 5) (.tmp 40) rfl (w.heap.size + 1) 0 32 (bts (nowS S (L.take k) m)) (bts p.2) rfl rfl HB.out (by kernel_rfl) (by rw [bts_length, HP32.out]) (by rw [bts_length, H.out.now32 m hm k hk]; decide) (one_bts _) ?_))
        intro w6 hb6 hc6
        rw [splice_whole _ _ (by rw [bts_length, bts_length, HP32.out, H.out.now32 m hm k hk])] at hb6
        have HE6 : Hid (Below w.heap.size w w6) := HE.out.trans (hc6.below HE.out.size (fun k hk he => by omega))
        have HZ6 : Hid (Bk w6 w.heap.size _) := HZ.out.chg hc6 (by omega)
        have HB6 := Lib.hid hb6
        clear hb6 hc6
        go_wp2_with fail
        go_roundw
        case rel => exact ⟨k + 1, by omega, by go_num, by rw [nowS_take S L m k hlt, HP.out, if_pos heq]; exact HB6.out, HZ6.out, HE6.out⟩
        case measure => simp [intOf]; omega
      · have heq' : ((p.1 : Int) == (m : Int)) = false := by rw [beq_eq_false_iff_ne]; omega
        go_wp2_with fail
        go_roundw
        case rel => exact ⟨k + 1, by omega, by go_num, by rw [nowS_take S L m k hlt, HP.out, if_neg heq]; exact HB.out, HZ.out, HE.out⟩
        case measure => simp [intOf]; omega
    · have hke : k = L.length := by omega
      have hki : ¬ ((k : Int) < (L.length : Int)) := by omega
      have hB : Bk wr (w.heap.size + 1) (bts (nowS S L m)) := by
        have := HB.out
        rw [hke, List.take_length] at this
        exact this
      have hl := H.out.now32 m hm L.length (Nat.le_refl _)
      rw [List.take_length] at hl
      have HN : Hid ((bts (nowS S L m)).length = 32) := by show _ = _; rw [bts_length, hl]
      have HO := Lib.hid (one_bts (nowS S L m))
      have HB2 := Lib.hid hB
      clear hB HB hl
      obtain ⟨vv, hvv⟩ : ∃ vv, bts (nowS S L m) = vv := ⟨_, rfl⟩
      rw [hvv] at HN HO HB2
      have HVV := Lib.hid hvv
      clear hvv
      go_wp2_with (first
        | (refine wpList_ld rfl 37 (.tmp 5) rfl (w.heap.size + 1) 0 32 vv vv rfl HB2.out (by kernel_rfl) (by kernel_rfl) (by rw [HN.out]; decide) (by rw [List.drop_zero, List.take_of_length_le (by rw [HN.out]; decide)]) ?_)
        | (refine wpList_st rfl 37 (.tmp 4) (.tmp 41) rfl w.heap.size 0 32 (bts (List.replicate 32 0)) vv rfl rfl HZ.out (by kernel_rfl) HN.out (by rw [HN0.out]; decide) HO.out ?_))
      intro w6 hb6 hc6
      rw [splice_whole _ vv (by rw [HN.out]; rfl)] at hb6
      have HE6 : Hid (Below w.heap.size w w6) := HE.out.trans (hc6.below HE.out.size (fun k hk he => by omega))
      have HB6 := Lib.hid hb6
      clear hb6 hc6
      go_wp2_with fail
      (try simp only [Exit.inBlock, Exit.then])
      refine bodyPost_ret (res_cell rfl _ _ w.heap.size 32 vv rfl HB6.out (by kernel_rfl) (by kernel_rfl) HN.out) rfl ?_
      exact ⟨by rw [HVV.out], HE6.out⟩
set_option maxRecDepth 100000 in
set_option maxHeartbeats 4000000 in
theorem refRead_calls (w : World) (g gs : Nat) (lv : Value) (S : List (List UInt8)) (L : List (Nat × List UInt8)) (f : Int) (dn : Bool) (i : Int) (hd : DiskAt 93 w g gs lv S L f dn) :
    Calls Try.prog 21 #[.pointer (some ⟨g, 0, none⟩), .int .i64 i] w fun e w' => e = .returned (.tuple #[.agg (bts (readB S L dn i)).toArray, .int .i64 (readE S dn i)]) ∧ Below w.heap.size w w' := by
  have H := Lib.hid hd
  clear hd
  have HN0 : Hid ((bts (List.replicate 32 0)).length = 32) := by show _ = _; rw [bts_length, List.length_replicate]
  go_enter Try.func21, Try.ntmps21
  go_wp2_with (refine wpList_al rfl 37 rfl (bts (List.replicate 32 0)) (by kernel_rfl) ?_)
  intro gr w1 hg hb hc1 hs1
  subst hg
  have HZ1 := Lib.hid hb
  have HE1 : Hid (Below w.heap.size w w1) := hc1.below (Nat.le_refl _) (fun _ _ => id)
  clear hb hc1 hs1
  go_wp2_with fail
  refine (refHas_calls w1 g (some ⟨gs, 0, none⟩) S.length S.length lv f dn i (H.out.below HE1.out).dk).mono ?_
  rintro e w' ⟨rfl, rfl⟩
  by_cases hi : 0 ≤ i ∧ i < (S.length : Int)
  · obtain ⟨hi0, hi1⟩ := hi
    rw [show (decide (0 ≤ i) && decide (i < (S.length : Int))) = true by simp [hi0, hi1]]
    obtain ⟨m, rfl⟩ := Int.eq_ofNat_of_zero_le hi0
    have hm : m < S.length := by omega
    have c3 := (H.out.below HE1.out).dk.cell (j := 3) rfl
    cases dn with
    | true =>
      go_wp2_with (first
        | (refine wpList_bld rfl 37 [] rfl (bts (List.replicate 32 0)) [] (bts (List.replicate 32 0)) (by kernel_rfl) (by kernel_rfl) trivial rfl ?_)
        | (refine wpList_st rfl 37 (.tmp 4) (.tmp 15) rfl w.heap.size 0 32 (bts (List.replicate 32 0)) (bts (List.replicate 32 0)) rfl rfl HZ1.out (by kernel_rfl) HN0.out (by rw [HN0.out]; decide) (one_bts _) ?_))
      intro w3 hb3 hc3
      rw [splice_whole _ _ rfl] at hb3
      have HE3 : Hid (Below w.heap.size w w3) := HE1.out.trans (hc3.below HE1.out.size (fun k hk he => by omega))
      have HB3 := Lib.hid hb3
      clear hb3 hc3
      go_wp2_with fail
      (try simp only [Exit.inBlock, Exit.then])
      refine bodyPost_ret (res_cell_tmp rfl _ _ w.heap.size 32 (bts (List.replicate 32 0)) rfl HB3.out (by kernel_rfl) (by kernel_rfl) HN0.out) rfl ?_
      exact ⟨by rw [readB_down, readE_in S true _ hi0 hi1]; rfl, HE3.out⟩
    | false =>
      go_wp2_with fail
      refine (refNow_calls w1 g gs lv S L f false m hm (H.out.below HE1.out)).mono ?_
      rintro e w2 ⟨rfl, hb⟩
      have HE2 : Hid (Below w.heap.size w w2) := HE1.out.trans (hb.mono HE1.out.size)
      have HZ2 : Hid (Bk w2 w.heap.size _) := HZ1.out.below hb
      have hl := H.out.now32 m hm L.length (Nat.le_refl _)
      rw [List.take_length] at hl
      have HN : Hid ((bts (nowS S L m)).length = 32) := by show _ = _; rw [bts_length, hl]
      have HO := Lib.hid (one_bts (nowS S L m))
      clear hb hl c3
      obtain ⟨vv, hvv⟩ : ∃ vv, bts (nowS S L m) = vv := ⟨_, rfl⟩
      rw [hvv] at HN HO ⊢
      have HVV := Lib.hid hvv
      clear hvv
      go_wp2_with (refine wpList_st rfl 37 (.tmp 4) (.tmp 18) rfl w.heap.size 0 32 (bts (List.replicate 32 0)) vv rfl rfl HZ2.out (by kernel_rfl) HN.out (by rw [HN0.out]; decide) HO.out ?_)
      intro w6 hb6 hc6
      rw [splice_whole _ vv (by rw [HN.out]; rfl)] at hb6
      have HE6 : Hid (Below w.heap.size w w6) := HE2.out.trans (hc6.below HE2.out.size (fun k hk he => by omega))
      have HB6 := Lib.hid hb6
      clear hb6 hc6
      go_wp2_with fail
      (try simp only [Exit.inBlock, Exit.then])
      refine bodyPost_ret (res_cell_tmp rfl _ _ w.heap.size 32 vv rfl HB6.out (by kernel_rfl) (by kernel_rfl) HN.out) rfl ?_
      exact ⟨by rw [readB_in S L m hm, readE_in S false _ hi0 hi1, HVV.out]; rfl, HE6.out⟩
  · rw [show (decide (0 ≤ i) && decide (i < (S.length : Int))) = false by simpa using hi]
    go_wp2_with (first
      | (refine wpList_bld rfl 37 [] rfl (bts (List.replicate 32 0)) [] (bts (List.replicate 32 0)) (by kernel_rfl) (by kernel_rfl) trivial rfl ?_)
      | (refine wpList_st rfl 37 (.tmp 4) (.tmp 10) rfl w.heap.size 0 32 (bts (List.replicate 32 0)) (bts (List.replicate 32 0)) rfl rfl HZ1.out (by kernel_rfl) HN0.out (by rw [HN0.out]; decide) (one_bts _) ?_))
    intro w3 hb3 hc3
    rw [splice_whole _ _ rfl] at hb3
    have HE3 : Hid (Below w.heap.size w w3) := HE1.out.trans (hc3.below HE1.out.size (fun k hk he => by omega))
    have HB3 := Lib.hid hb3
    clear hb3 hc3
    go_wp2_with fail
    (try simp only [Exit.inBlock, Exit.then])
    refine bodyPost_ret (res_cell_tmp rfl _ _ w.heap.size 32 (bts (List.replicate 32 0)) rfl HB3.out (by kernel_rfl) (by kernel_rfl) HN0.out) rfl ?_
    exact ⟨by rw [readB_out S L dn i hi, readE_out S dn i hi]; rfl, HE3.out⟩
end Go.Proofs.Ytnpcehlbboeadaa
