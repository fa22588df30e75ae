/- The walk of disk.Read. -/
import Derived.Test.YtnpcehlbboeadaaDiskAt
namespace Go.Proofs.Ytnpcehlbboeadaa
open Go.RowKit
set_option linter.unusedVariables false
set_option linter.unusedSimpArgs false

/-- What Read answers. -/
def readB (S : List (List UInt8)) (L : List (Nat × List UInt8)) (dn : Bool) (i : Int) : List UInt8 := if 0 ≤ i ∧ i < S.length ∧ dn = false then nowS S L i.toNat else List.replicate 32 0
def readE (S : List (List UInt8)) (dn : Bool) (i : Int) : Int := if 0 ≤ i ∧ i < S.length then (if dn = true then 20 else 0) else 1
theorem readB_out (S : List (List UInt8)) (L : List (Nat × List UInt8)) (dn : Bool) (i : Int) (h : ¬ (0 ≤ i ∧ i < (S.length : Int))) : readB S L dn i = List.replicate 32 0 := by rw [readB, if_neg (fun hh => h ⟨hh.1, hh.2.1⟩)]
theorem readE_out (S : List (List UInt8)) (dn : Bool) (i : Int) (h : ¬ (0 ≤ i ∧ i < (S.length : Int))) : readE S dn i = 1 := by rw [readE, if_neg h]
theorem readB_down (S : List (List UInt8)) (L : List (Nat × List UInt8)) (i : Int) : readB S L true i = List.replicate 32 0 := by rw [readB, if_neg (fun hh => by simp at hh)]
theorem readE_in (S : List (List UInt8)) (dn : Bool) (i : Int) (h : 0 ≤ i) (h2 : i < (S.length : Int)) : readE S dn i = if dn = true then 20 else 0 := by rw [readE, if_pos ⟨h, h2⟩]
theorem readB_in (S : List (List UInt8)) (L : List (Nat × List UInt8)) (i : Nat) (h2 : i < S.length) : readB S L false i = nowS S L i := by rw [readB, if_pos ⟨by omega, by omega, rfl⟩]; rfl
def ReadRel (w : World) (S : List (List UInt8)) (L : List (Nat × List UInt8)) (i : Nat) (v : Value) (wr : World) : Prop :=
  ∃ k : Nat, k ≤ L.length ∧ v = .int .i64 k ∧ Bk wr (w.heap.size + 1) (bts (nowS S (L.take k) i)) ∧ Bk wr w.heap.size (bts (List.replicate 32 0)) ∧ Below w.heap.size w wr
set_option maxRecDepth 100000 in
set_option maxHeartbeats 4000000 in
theorem diskRead_calls (w : World) (g gs : Nat) (lv : Value) (S : List (List UInt8)) (L : List (Nat × List UInt8)) (f : Int) (dn : Bool) (i : Int) (hd : DiskAt 91 w g gs lv S L f dn) :
    Calls Try.prog 20 #[.pointer (some ⟨g, 0, none⟩), .int .i64 i] w fun e w' => e = .returned (.tuple #[.agg (bts (readB S L dn i)).toArray, .int .i64 (readE S dn i)]) ∧ Below w.heap.size w w' := by
  obtain ⟨A, c, rfl, hR, hkc, hc⟩ := own_rd hd.own
  have H := Lib.hid hd
  clear hd hR
  have HN0 : Hid ((bts (List.replicate 32 0)).length = 32) := by show _ = _; rw [bts_length, List.length_replicate]
  go_enter Try.func20, Try.ntmps20
  go_wp2_with (refine wpList_al rfl 37 rfl (bts (List.replicate 32 0)) (by kernel_rfl) ?_)
  intro gr w1 hg hb hc1 hs1
  subst hg
  have HZ1 := Lib.hid hb
  have HE1 : Hid (Below w.heap.size w w1) := hc1.below (Nat.le_refl _) (fun _ _ => id)
  have HS1 := Lib.hid hs1
  clear hb hc1 hs1
  go_wp2_with fail
  refine (diskHas_calls w1 g (some ⟨gs, 0, none⟩) S.length S.length (.slice A L.length c) f dn i (H.out.below HE1.out).dk).mono ?_
  rintro e w' ⟨rfl, rfl⟩
  by_cases hi : 0 ≤ i ∧ i < (S.length : Int)
  · obtain ⟨hi0, hi1⟩ := hi
    rw [show (decide (0 ≤ i) && decide (i < (S.length : Int))) = true by simp [hi0, hi1]]
    obtain ⟨m, rfl⟩ := Int.eq_ofNat_of_zero_le hi0
    have hm : m < S.length := by omega
    have c3 := (H.out.below HE1.out).dk.cell (j := 3) rfl
    cases dn with
    | true =>
      go_wp2_with (first
        | (refine wpList_bld rfl 37 [] rfl (bts (List.replicate 32 0)) [] (bts (List.replicate 32 0)) (by kernel_rfl) (by kernel_rfl) trivial rfl ?_)
        | (refine wpList_st rfl 37 (.tmp 4) (.tmp 20) rfl w.heap.size 0 32 (bts (List.replicate 32 0)) (bts (List.replicate 32 0)) rfl rfl HZ1.out (by kernel_rfl) HN0.out (by rw [HN0.out]; decide) (one_bts _) ?_))
      intro w3 hb3 hc3
      rw [splice_whole _ _ rfl] at hb3
      have HE3 : Hid (Below w.heap.size w w3) := HE1.out.trans (hc3.below HE1.out.size (fun k hk he => by omega))
      have HB3 := Lib.hid hb3
      clear hb3 hc3
      go_wp2_with fail
      (try simp only [Exit.inBlock, Exit.then])
      refine bodyPost_ret (res_cell_tmp rfl _ _ w.heap.size 32 (bts (List.replicate 32 0)) rfl HB3.out (by kernel_rfl) (by kernel_rfl) HN0.out) rfl ?_
      exact ⟨by rw [readB_down, readE_in S true _ hi0 hi1]; rfl, HE3.out⟩
    | false =>
      have c0 := (H.out.below HE1.out).dk.cell (j := 0) rfl
      have HB1 : Hid (Bk w1 gs (secs S)) := (H.out.below HE1.out).sb
      obtain ⟨b0, hb0⟩ : ∃ b0, bts (S.getD m []) = b0 := ⟨_, rfl⟩
      have hb0l : b0.length = 32 := by rw [← hb0, bts_length]; have := H.out.now32 m hm 0 (Nat.zero_le _); simpa [nowS] using this
      have HB0L := Lib.hid hb0l
      have HB0O : Hid (∀ u ∈ b0, u.oneCell' = true) := by rw [← hb0]; exact one_bts _
      have HSL : Hid (m * 32 + 32 ≤ (secs S).length) := by show m * 32 + 32 ≤ (secs S).length; rw [H.out.secs_len]; omega
      have HSP : Hid (((secs S).drop (m * 32)).take 32 = b0) := by rw [← hb0]; exact H.out.sec m hm
      have HB00 := Lib.hid hb0
      clear hb0 hb0l
      go_wp2_with (first
        | (refine wpList_ld rfl 37 (.tmp 26) rfl gs (m * 32) 32 (secs S) b0 rfl HB1.out (by kernel_rfl) (by kernel_rfl) HSL.out HSP.out ?_)
        | (refine wpList_al rfl 37 rfl (bts (List.replicate 32 0)) (by kernel_rfl) ?_))
      intro g6 w2 hg hb2 hc2 hs2
      (try rw [HS1.out] at hg)
      subst hg
      have HE2 : Hid (Below w.heap.size w w2) := HE1.out.trans (hc2.below (by rw [HS1.out]; omega) (fun _ _ => id))
      have HZ2 : Hid (Bk w2 w.heap.size (bts (List.replicate 32 0))) := HZ1.out.chg hc2 id
      have HX2 := Lib.hid hb2
      clear hb2 hc2 hs2 c0
      go_wp2_with (refine wpList_st rfl 37 (.tmp 6) (.tmp 27) rfl (w.heap.size + 1) 0 32 (bts (List.replicate 32 0)) b0 rfl rfl HX2.out (by kernel_rfl) HB0L.out (by rw [HN0.out]; decide) HB0O.out ?_)
      intro w3 hb3 hc3
      rw [splice_whole _ _ (by rw [HB0L.out]; rfl), ← HB00.out] at hb3
      have hrel0 : ReadRel w S L m (.int .i64 0) w3 := ⟨0, by omega, rfl, hb3, HZ2.out.chg hc3 (by omega), HE2.out.trans (hc3.below HE2.out.size (fun k hk he => by omega))⟩
      have H0 := Lib.hid hrel0
      have c1 := (H.out.below hrel0.choose_spec.2.2.2.2).dk.cell (j := 1) rfl
      clear hb3 hc3 hrel0 c3
      go_wp2_with fail
      go_loopw [33] (fun v wr => ReadRel w S L m v wr) (fun v _ => L.length - (intOf v).toNat)
      case atStart => exact H0.out
      case round =>
        obtain ⟨k, hk, rfl, hb, hz, he⟩ := hrel
        have HB := Lib.hid hb
        have HZ := Lib.hid hz
        have HE := Lib.hid he
        clear hb hz he H0
        by_cases hlt : k < L.length
        · have hki : (k : Int) < (L.length : Int) := by omega
          obtain ⟨gl, cap, vs, hv, hbl, hll, hpc, _, _⟩ := (H.out.below HE.out).loose k hlt
          injection hv with hA hlx hcx
          subst hA
          clear hlx
          subst hcx
          obtain ⟨p, hp⟩ : ∃ p, L[k] = p := ⟨_, rfl⟩
          rw [hp] at hpc
          have hp32 : p.2.length = 32 := by rw [← hp]; exact (H.out.l32 _ (List.getElem_mem hlt)).1
          have HRO : Hid (∀ u ∈ rowW (p.1 : Int) p.2, u.oneCell' = true) := one_w8 _ _
          have HRL : Hid ((rowW (p.1 : Int) p.2).length = 33) := rowW_length _ _ hp32
          have HBL := Lib.hid hbl
          have HLL := Lib.hid hll
          have HPC := Lib.hid hpc
          have HP := Lib.hid hp
          have HP32 := Lib.hid hp32
          clear hbl hll hpc hp hp32 c1
          go_wp2_with (first
            | (refine wpList_ld rfl 91 (.tmp 35) rfl gl (k * 33) 33 vs (rowW (p.1 : Int) p.2) rfl HBL.out (by kernel_rfl) (by kernel_rfl) HLL.out HPC.out ?_)
            | (refine wpList_al rfl 91 rfl (.int .i64 0 :: bts (List.replicate 32 0)) (by kernel_rfl) ?_))
          intro g8 w4 hg hb4 hc4 hs4
          have HE4 : Hid (Below w.heap.size w w4) := HE.out.trans (hc4.below HE.out.size (fun _ _ => id))
          have HB4 : Hid (Bk w4 (w.heap.size + 1) _) := HB.out.chg hc4 id
          have HZ4 : Hid (Bk w4 w.heap.size _) := HZ.out.chg hc4 id
          have HG8 : Hid (w.heap.size + 1 < g8) := by show w.heap.size + 1 < g8; rw [hg]; exact HB.out.lt
          have HX4 := Lib.hid hb4
          clear hg hb4 hc4 hs4
          go_wp2_with (refine wpList_st rfl 91 (.tmp 8) (.tmp 36) rfl g8 0 33 (.int .i64 0 :: bts (List.replicate 32 0)) (rowW (p.1 : Int) p.2) rfl rfl HX4.out (by kernel_rfl) HRL.out (by decide) HRO.out ?_)
          intro w5 hb5 hc5
          rw [splice_whole _ _ (by rw [HRL.out]; rfl)] at hb5
          have HE5 : Hid (Below w.heap.size w w5) := HE4.out.trans (hc5.below HE4.out.size (fun k hk he => by have := HG8.out; omega))
          have HB5 : Hid (Bk w5 (w.heap.size + 1) _) := HB4.out.chg hc5 (by have := HG8.out; omega)
          have HZ5 : Hid (Bk w5 w.heap.size _) := HZ4.out.chg hc5 (by have := HG8.out; omega)
          have c80 := hb5.cell (j := 0) rfl
          have HX5 := Lib.hid hb5
          clear hb5 hc5
          by_cases heq : p.1 = m
          · have heq' : ((p.1 : Int) == (m : Int)) = true := by rw [heq]; exact beq_self_eq_true _
            go_wp2_with (first
              | (refine wpList_ld rfl 37 (.tmp 41) rfl g8 1 32 (rowW (p.1 : Int) p.2) (bts p.2) rfl HX5.out (by kernel_rfl) (by kernel_rfl) (by rw [HRL.out]; decide) (by rw [rowW, List.drop_succ_cons, List.drop_zero, List.take_of_length_le (by rw [bts_length, HP32.out]; decide)]) ?_)
              | (refine wpList_st rfl 37 (.tmp 6) (.tmp 42) rfl (w.heap.size + 1) 0 32 (bts (nowS S (L.take k) m)) (bts p.2) rfl rfl HB5.out (by kernel_rfl) (by rw [bts_length, HP32.out]) (by rw [bts_length, H.out.now32 m hm k hk]; decide) (one_bts _) ?_))
            intro w6 hb6 hc6
            rw [splice_whole _ _ (by rw [bts_length, bts_length, HP32.out, H.out.now32 m hm k hk])] at hb6
            have HE6 : Hid (Below w.heap.size w w6) := HE5.out.trans (hc6.below HE5.out.size (fun k hk he => by omega))
            have HZ6 : Hid (Bk w6 w.heap.size _) := HZ5.out.chg hc6 (by omega)
            have HB6 := Lib.hid hb6
            clear hb6 hc6
            go_wp2_with fail
            go_roundw
            case rel => exact ⟨k + 1, by omega, by go_num, by rw [nowS_take S L m k hlt, HP.out, if_pos heq]; exact HB6.out, HZ6.out, HE6.out⟩
            case measure => simp [intOf]; omega
          · have heq' : ((p.1 : Int) == (m : Int)) = false := by rw [beq_eq_false_iff_ne]; omega
            go_wp2_with fail
            go_roundw
            case rel => exact ⟨k + 1, by omega, by go_num, by rw [nowS_take S L m k hlt, HP.out, if_neg heq]; exact HB5.out, HZ5.out, HE5.out⟩
            case measure => simp [intOf]; omega
        · have hke : k = L.length := by omega
          have hki : ¬ ((k : Int) < (L.length : Int)) := by omega
          have hB : Bk wr (w.heap.size + 1) (bts (nowS S L m)) := by
            have := HB.out
            rw [hke, List.take_length] at this
            exact this
          have hl := H.out.now32 m hm L.length (Nat.le_refl _)
          rw [List.take_length] at hl
          have HN : Hid ((bts (nowS S L m)).length = 32) := by show _ = _; rw [bts_length, hl]
          have HO := Lib.hid (one_bts (nowS S L m))
          have HB2 := Lib.hid hB
          clear hB HB hl c1
          obtain ⟨vv, hvv⟩ : ∃ vv, bts (nowS S L m) = vv := ⟨_, rfl⟩
          rw [hvv] at HN HO HB2
          have HVV := Lib.hid hvv
          clear hvv
          go_wp2_with (first
            | (refine wpList_ld rfl 37 (.tmp 6) rfl (w.heap.size + 1) 0 32 vv vv rfl HB2.out (by kernel_rfl) (by kernel_rfl) (by rw [HN.out]; decide) (by rw [List.drop_zero, List.take_of_length_le (by rw [HN.out]; decide)]) ?_)
            | (refine wpList_st rfl 37 (.tmp 4) (.tmp 44) rfl w.heap.size 0 32 (bts (List.replicate 32 0)) vv rfl rfl HZ.out (by kernel_rfl) HN.out (by rw [HN0.out]; decide) HO.out ?_))
          intro w6 hb6 hc6
          rw [splice_whole _ vv (by rw [HN.out]; rfl)] at hb6
          have HE6 : Hid (Below w.heap.size w w6) := HE.out.trans (hc6.below HE.out.size (fun k hk he => by omega))
          have HB6 := Lib.hid hb6
          clear hb6 hc6
          go_wp2_with fail
          (try simp only [Exit.inBlock, Exit.then])
          refine bodyPost_ret (res_cell_tmp rfl _ _ w.heap.size 32 vv rfl HB6.out (by kernel_rfl) (by kernel_rfl) HN.out) rfl ?_
          exact ⟨by rw [readB_in S L m hm, readE_in S false _ hi0 hi1, HVV.out]; rfl, HE6.out⟩
  · rw [show (decide (0 ≤ i) && decide (i < (S.length : Int))) = false by simpa using hi]
    go_wp2_with (first
      | (refine wpList_bld rfl 37 [] rfl (bts (List.replicate 32 0)) [] (bts (List.replicate 32 0)) (by kernel_rfl) (by kernel_rfl) trivial rfl ?_)
      | (refine wpList_st rfl 37 (.tmp 4) (.tmp 14) rfl w.heap.size 0 32 (bts (List.replicate 32 0)) (bts (List.replicate 32 0)) rfl rfl HZ1.out (by kernel_rfl) HN0.out (by rw [HN0.out]; decide) (one_bts _) ?_))
    intro w3 hb3 hc3
    rw [splice_whole _ _ rfl] at hb3
    have HE3 : Hid (Below w.heap.size w w3) := HE1.out.trans (hc3.below HE1.out.size (fun k hk he => by omega))
    have HB3 := Lib.hid hb3
    clear hb3 hc3
    go_wp2_with fail
    (try simp only [Exit.inBlock, Exit.then])
    refine bodyPost_ret (res_cell_tmp rfl _ _ w.heap.size 32 (bts (List.replicate 32 0)) rfl HB3.out (by kernel_rfl) (by kernel_rfl) HN0.out) rfl ?_
    exact ⟨by rw [readB_out S L dn i hi, readE_out S dn i hi]; rfl, HE3.out⟩
end Go.Proofs.Ytnpcehlbboeadaa
