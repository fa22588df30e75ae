/- The walk of SealCodes. -/
import Derived.Test.YtnjaldafejbdgaaWakes6
import Derived.Test.YtnjaldafejbdgaaSealRc
namespace Go.Proofs.Ytnjaldafejbdgaa
open Go.RowKit
set_option linter.unusedVariables false
set_option linter.unusedSimpArgs false


theorem encR_length (m : UInt8) (l : List UInt8) : (encR m l).1.length = 32 := by
  unfold encR
  split
  · simp
  · rename_i h
    exact secOf_length (padB_length (by omega))
theorem decR_length' (x : List UInt8) (h : x.length = 32) : (decR x).1.length = 30 := by
  unfold decR
  split
  · simp
  · simp [bodyOf, h]
set_option maxHeartbeats 1000000 in
theorem SealCodes_short (m : UInt8) (A : Option Addr) (n ca : Nat) (x : List UInt8) (w : World) (h1 : n ≤ ca) (m1 : ca ≤ 9223372036854775807) (h : 300 < n) :
    Calls Try.prog 8 #[vu8 m, .slice A n ca, .agg (bts x).toArray] w fun e w' => e = .returned (.bool true) ∧ Below w.heap.size w w' := by
  have hni : (300 : Int) < (n : Int) := by omega
  generalize bts x = vx
  go_enter Try.func8, Try.ntmps8
  go_wp2_with (go_at_call 19; refine (wakes6_calls _).mono ?_; rintro e w' ⟨rfl, hb⟩)
  go_ret
  exact ⟨rfl, ((Below.refl _ _).alloc (Nat.le_refl _) _).trans (hb.mono (by simp))⟩
set_option maxHeartbeats 2000000 in
theorem SealCodes_walk (m : UInt8) (A : Option Addr) (n ca : Nat) (a x : List UInt8) (w : World) (la : a.length = n) (h1 : n ≤ ca) (m1 : ca ≤ 9223372036854775807) (ra : Rd w A (bts a)) (hx : x.length = 32) (hn : n ≤ 300) :
    Calls Try.prog 8 #[vu8 m, .slice A n ca, .agg (bts x).toArray] w fun e w' => e = .returned (.bool true) ∧ Below w.heap.size w w' := by
  have hni : ¬ ((300 : Int) < (n : Int)) := by omega
  have hlx := encR_length m a
  have hld := decR_length' x hx
  obtain ⟨⟨X, ex⟩, he⟩ : ∃ p, encR m a = p := ⟨_, rfl⟩
  obtain ⟨⟨D, ed⟩, hd⟩ : ∃ p, decR x = p := ⟨_, rfl⟩
  rw [he] at hlx
  rw [hd] at hld
  simp only at hlx hld
  obtain ⟨D1, hD1⟩ : ∃ D1, (D.drop 1).take 29 = D1 := ⟨_, rfl⟩
  have HLD1 : Hid (D1.length = 29) := by rw [← hD1]; simp [Hid, hld]
  have HPs : Hid (((bts D).drop 1).take 29 = bts D1) := by rw [← hD1, ← bts_take, ← bts_drop]; exact rfl
  have HPt : Hid (((bts D ++ [Value.int .i64 ed]).drop 1).take 29 = bts D1) := by
    show _ = _
    rw [List.drop_append_of_le_length (by simp [hld]), List.take_append_of_le_length (by simp [hld])]
    exact HPs.out
  have HS0 : Hid ((bts D)[0]? = some (vu8 (D.getD 0 0))) := bts_get (by omega)
  have HT0 : Hid ((bts D ++ [Value.int .i64 ed])[0]? = some (vu8 (D.getD 0 0))) := by
    show _ = _
    rw [List.getElem?_append_left (by simp [hld])]
    exact HS0.out
  have HTE : Hid ((bts D ++ [Value.int .i64 ed])[30]? = some (.int .i64 ed)) := by
    show _ = _
    rw [List.getElem?_append_right (by simp [hld])]
    simp [hld]
  have HLT : Hid ((bts D ++ [Value.int .i64 ed]).length = 31) := by simp [Hid, hld]
  generalize D.getD 0 0 = d0 at HS0 HT0
  have HEN := Lib.hid he
  have HDE := Lib.hid hd
  have HLX := Lib.hid hlx
  have HLD := Lib.hid hld
  have HLB := Lib.hid hx
  have LA := Lib.hid la
  have RBa := Lib.hid ra
  clear he hd hlx hld hx la ra hD1
  obtain ⟨vx, hvx⟩ : ∃ vx, bts x = vx := ⟨_, rfl⟩
  have HVX := Lib.hid hvx
  rw [hvx]
  clear hvx
  go_enter Try.func8, Try.ntmps8
  go_wp2_with (at_builtin; refine wpList_append_rd rfl _ _ 26 rfl (w.heap.size + 1) 5 (.int .u8 0) 1 1 Try.underlying26 infoU8 rfl (by decide) (by decide) (.slice (some ⟨w.heap.size + 1, 0, none⟩) 0 0) 0 [] rfl ?own A n ca (bts a) rfl ?len ?rd (one_bts _) ?bytes ?base ?_)
  case own => exact empty_own' _ _ (by simp)
  case len => simpa using LA.out
  case rd => exact (RBa.out.alloc _).alloc _
  case bytes => omega
  intro v1 w1 hown hg hat
  have E1 : Hid (Below w.heap.size w w1) := (((Below.refl _ _).alloc (Nat.le_refl _) _).alloc (by simp) _).trans (below_grown hg (by simp; omega) (by intro k hk; simp [Value.ownBlock] at hk; omega))
  have Kb1 : Hid (Bk w1 w.heap.size (bts x)) := by
    have h0 : Bk ((w.alloc (.cells vx.toArray 41)).alloc (.cells #[] 5)) w.heap.size (bts x) := by rw [HVX.out]; exact (Bk.new w vx _).alloc _
    exact h0.chg (S := fun k => k = w.heap.size + 1) ⟨hg.os, hg.tape, hg.output, hg.size, fun k hk hne => hg.block k hk (fun he => hne (by simp [Value.ownBlock] at he; omega))⟩ (by omega)
  have Ra1 : Hid (Rd w1 A (bts a)) := RBa.out.below E1.out
  obtain ⟨A1, c1, rfl, hr1, hc1, hm1⟩ := own_rd hown
  have RO := Lib.hid hr1
  clear hown hg hat hr1
  go_wp2_with fail
  refine (sealEncode_calls m A1 n c1 a w1 LA.out (by omega) (by omega) (by simpa using RO.out)).mono ?_
  rintro e w2 ⟨rfl, hb⟩
  have E2 : Hid (Below w.heap.size w w2) := E1.out.trans (hb.mono (E1.out.size))
  have Kb2 : Hid (Bk w2 w.heap.size (bts x)) := Kb1.out.below hb
  have Ra2 : Hid (Rd w2 A (bts a)) := RBa.out.below E2.out
  clear Kb1 Ra1 E1 hb
  rw [HEN.out]
  clear RO
  go_wp2_with (first | (refine wpList_al rfl 41 rfl (zb 32) (by kernel_rfl) ?_))
  intro gx w3 hg hbk hcg hsz
  have hle_gx : w.heap.size ≤ gx := by rw [hg]; exact E2.out.size
  have hlt_b_x : w.heap.size < gx := by rw [hg]; exact Kb2.out.lt
  have E3 : Hid (Below w.heap.size w w3) := E2.out.trans (hcg.below E2.out.size (fun _ _ => id))
  have Kb3 : Hid (Bk w3 w.heap.size (bts x)) := Kb2.out.chg hcg id
  have Ra3 : Hid (Rd w3 A (bts a)) := RBa.out.below E3.out
  clear Kb2 Ra2 E2
  have Kx3 := Lib.hid hbk
  clear hg hbk hcg hsz
  go_wp2_with (first | (refine wpList_st rfl 41 _ _ rfl gx 0 32 (zb 32) (bts X) rfl rfl Kx3.out (by kernel_rfl) (sized_bts _ HLX.out) (by decide) (one_bts _) ?_))
  intro w4 hbk hcg
  rw [splice_whole (zb 32) (bts X) ((sized_bts _ HLX.out).trans rfl)] at hbk
  have E4 : Hid (Below w.heap.size w w4) := E3.out.trans (hcg.below E3.out.size (fun k hk he => by omega))
  have Kb4 : Hid (Bk w4 w.heap.size (bts x)) := Kb3.out.chg hcg (by omega)
  have Ra4 : Hid (Rd w4 A (bts a)) := RBa.out.below E4.out
  clear Kb3 Kx3 Ra3 E3 hcg
  have Kx4 := Lib.hid hbk
  clear hbk
  go_wp2_with fail
  refine (refEncode_calls m A n ca a w4 LA.out h1 m1 Ra4.out).mono ?_
  rintro e w5 ⟨rfl, hb⟩
  have E5 : Hid (Below w.heap.size w w5) := E4.out.trans (hb.mono (E4.out.size))
  have Kb5 : Hid (Bk w5 w.heap.size (bts x)) := Kb4.out.below hb
  have Kx5 : Hid (Bk w5 gx (bts X)) := Kx4.out.below hb
  have Ra5 : Hid (Rd w5 A (bts a)) := RBa.out.below E5.out
  clear Kb4 Kx4 Ra4 E4 hb
  rw [HEN.out]
  go_wp2_with (first | (refine wpList_al rfl 41 rfl (zb 32) (by kernel_rfl) ?_))
  intro gy w6 hg hbk hcg hsz
  have hle_gy : w.heap.size ≤ gy := by rw [hg]; exact E5.out.size
  have hlt_b_y : w.heap.size < gy := by rw [hg]; exact Kb5.out.lt
  have hlt_x_y : gx < gy := by rw [hg]; exact Kx5.out.lt
  have E6 : Hid (Below w.heap.size w w6) := E5.out.trans (hcg.below E5.out.size (fun _ _ => id))
  have Kb6 : Hid (Bk w6 w.heap.size (bts x)) := Kb5.out.chg hcg id
  have Kx6 : Hid (Bk w6 gx (bts X)) := Kx5.out.chg hcg id
  have Ra6 : Hid (Rd w6 A (bts a)) := RBa.out.below E6.out
  clear Kb5 Kx5 Ra5 E5
  have Ky6 := Lib.hid hbk
  clear hg hbk hcg hsz
  go_wp2_with (first | (refine wpList_st rfl 41 _ _ rfl gy 0 32 (zb 32) (bts X) rfl rfl Ky6.out (by kernel_rfl) (sized_bts _ HLX.out) (by decide) (one_bts _) ?_))
  intro w7 hbk hcg
  rw [splice_whole (zb 32) (bts X) ((sized_bts _ HLX.out).trans rfl)] at hbk
  have E7 : Hid (Below w.heap.size w w7) := E6.out.trans (hcg.below E6.out.size (fun k hk he => by omega))
  have Kb7 : Hid (Bk w7 w.heap.size (bts x)) := Kb6.out.chg hcg (by omega)
  have Kx7 : Hid (Bk w7 gx (bts X)) := Kx6.out.chg hcg (by omega)
  have Ra7 : Hid (Rd w7 A (bts a)) := RBa.out.below E7.out
  clear Kb6 Kx6 Ky6 Ra6 E6 hcg
  have Ky7 := Lib.hid hbk
  clear hbk
  go_wp2_with (first | (refine wpList_ld rfl 41 _ rfl w.heap.size 0 32 (bts x) (bts x) rfl Kb7.out rfl (by kernel_rfl) (by rw [bts_length, HLB.out]; decide) (by rw [List.drop_zero, List.take_of_length_le (by rw [bts_length, HLB.out]; decide)]) ?_))
  refine (sealDecode_calls x w7 HLB.out).mono ?_
  rintro e w8 ⟨rfl, hb⟩
  have E8 : Hid (Below w.heap.size w w8) := E7.out.trans (hb.mono (E7.out.size))
  have Kb8 : Hid (Bk w8 w.heap.size (bts x)) := Kb7.out.below hb
  have Kx8 : Hid (Bk w8 gx (bts X)) := Kx7.out.below hb
  have Ky8 : Hid (Bk w8 gy (bts X)) := Ky7.out.below hb
  have Ra8 : Hid (Rd w8 A (bts a)) := RBa.out.below E8.out
  clear Kb7 Kx7 Ky7 Ra7 E7 hb
  rw [HDE.out]
  go_wp2_with (first | (refine wpList_al rfl 49 rfl (zb 30) (by kernel_rfl) ?_))
  intro gs w9 hg hbk hcg hsz
  have hle_gs : w.heap.size ≤ gs := by rw [hg]; exact E8.out.size
  have hlt_b_s : w.heap.size < gs := by rw [hg]; exact Kb8.out.lt
  have hlt_x_s : gx < gs := by rw [hg]; exact Kx8.out.lt
  have hlt_y_s : gy < gs := by rw [hg]; exact Ky8.out.lt
  have E9 : Hid (Below w.heap.size w w9) := E8.out.trans (hcg.below E8.out.size (fun _ _ => id))
  have Kb9 : Hid (Bk w9 w.heap.size (bts x)) := Kb8.out.chg hcg id
  have Kx9 : Hid (Bk w9 gx (bts X)) := Kx8.out.chg hcg id
  have Ky9 : Hid (Bk w9 gy (bts X)) := Ky8.out.chg hcg id
  have Ra9 : Hid (Rd w9 A (bts a)) := RBa.out.below E9.out
  clear Kb8 Kx8 Ky8 Ra8 E8
  have Ks9 := Lib.hid hbk
  clear hg hbk hcg hsz
  go_wp2_with (first | (refine wpList_st rfl 49 _ _ rfl gs 0 30 (zb 30) (bts D) rfl rfl Ks9.out (by kernel_rfl) (sized_bts _ HLD.out) (by decide) (one_bts _) ?_))
  intro w10 hbk hcg
  rw [splice_whole (zb 30) (bts D) ((sized_bts _ HLD.out).trans rfl)] at hbk
  have E10 : Hid (Below w.heap.size w w10) := E9.out.trans (hcg.below E9.out.size (fun k hk he => by omega))
  have Kb10 : Hid (Bk w10 w.heap.size (bts x)) := Kb9.out.chg hcg (by omega)
  have Kx10 : Hid (Bk w10 gx (bts X)) := Kx9.out.chg hcg (by omega)
  have Ky10 : Hid (Bk w10 gy (bts X)) := Ky9.out.chg hcg (by omega)
  have Ra10 : Hid (Rd w10 A (bts a)) := RBa.out.below E10.out
  clear Kb9 Kx9 Ky9 Ks9 Ra9 E9 hcg
  have Ks10 := Lib.hid hbk
  clear hbk
  go_wp2_with (first | (refine wpList_ld rfl 41 _ rfl w.heap.size 0 32 (bts x) (bts x) rfl Kb10.out rfl (by kernel_rfl) (by rw [bts_length, HLB.out]; decide) (by rw [List.drop_zero, List.take_of_length_le (by rw [bts_length, HLB.out]; decide)]) ?_))
  refine (refDecode_calls x w10 HLB.out).mono ?_
  rintro e w11 ⟨rfl, hb⟩
  have E11 : Hid (Below w.heap.size w w11) := E10.out.trans (hb.mono (E10.out.size))
  have Kb11 : Hid (Bk w11 w.heap.size (bts x)) := Kb10.out.below hb
  have Kx11 : Hid (Bk w11 gx (bts X)) := Kx10.out.below hb
  have Ky11 : Hid (Bk w11 gy (bts X)) := Ky10.out.below hb
  have Ks11 : Hid (Bk w11 gs (bts D)) := Ks10.out.below hb
  have Ra11 : Hid (Rd w11 A (bts a)) := RBa.out.below E11.out
  clear Kb10 Kx10 Ky10 Ks10 Ra10 E10 hb
  rw [HDE.out]
  go_wp2_with (first | (refine wpList_al rfl 53 rfl (zb 30 ++ [Value.int .i64 0]) (by kernel_rfl) ?_))
  intro gt w12 hg hbk hcg hsz
  have hle_gt : w.heap.size ≤ gt := by rw [hg]; exact E11.out.size
  have hlt_b_t : w.heap.size < gt := by rw [hg]; exact Kb11.out.lt
  have hlt_x_t : gx < gt := by rw [hg]; exact Kx11.out.lt
  have hlt_y_t : gy < gt := by rw [hg]; exact Ky11.out.lt
  have hlt_s_t : gs < gt := by rw [hg]; exact Ks11.out.lt
  have E12 : Hid (Below w.heap.size w w12) := E11.out.trans (hcg.below E11.out.size (fun _ _ => id))
  have Kb12 : Hid (Bk w12 w.heap.size (bts x)) := Kb11.out.chg hcg id
  have Kx12 : Hid (Bk w12 gx (bts X)) := Kx11.out.chg hcg id
  have Ky12 : Hid (Bk w12 gy (bts X)) := Ky11.out.chg hcg id
  have Ks12 : Hid (Bk w12 gs (bts D)) := Ks11.out.chg hcg id
  have Ra12 : Hid (Rd w12 A (bts a)) := RBa.out.below E12.out
  clear Kb11 Kx11 Ky11 Ks11 Ra11 E11
  have Kt12 := Lib.hid hbk
  clear hg hbk hcg hsz
  go_wp2_with (first | (refine wpList_st rfl 53 _ _ rfl gt 0 31 (zb 30 ++ [Value.int .i64 0]) (bts D ++ [Value.int .i64 ed]) rfl rfl Kt12.out (by kernel_rfl) (HLT.out) (by decide) (one_got _ _) ?_))
  intro w13 hbk hcg
  rw [splice_whole (zb 30 ++ [Value.int .i64 0]) (bts D ++ [Value.int .i64 ed]) ((HLT.out).trans rfl)] at hbk
  have E13 : Hid (Below w.heap.size w w13) := E12.out.trans (hcg.below E12.out.size (fun k hk he => by omega))
  have Kb13 : Hid (Bk w13 w.heap.size (bts x)) := Kb12.out.chg hcg (by omega)
  have Kx13 : Hid (Bk w13 gx (bts X)) := Kx12.out.chg hcg (by omega)
  have Ky13 : Hid (Bk w13 gy (bts X)) := Ky12.out.chg hcg (by omega)
  have Ks13 : Hid (Bk w13 gs (bts D)) := Ks12.out.chg hcg (by omega)
  have Ra13 : Hid (Rd w13 A (bts a)) := RBa.out.below E13.out
  clear Kb12 Kx12 Ky12 Ks12 Kt12 Ra12 E12 hcg
  have Kt13 := Lib.hid hbk
  clear hbk
  have cs := Ks13.out.cell HS0.out
  have ct := Kt13.out.cell HT0.out
  have ce := Kt13.out.cell HTE.out
  go_wp2_with (first | (refine wpList_ld rfl 41 _ rfl gx 0 32 (bts X) (bts X) rfl Kx13.out rfl (by kernel_rfl) (by rw [bts_length, HLX.out]; decide) (by rw [List.drop_zero, List.take_of_length_le (by rw [bts_length, HLX.out]; decide)]) ?_) | (refine wpList_ld rfl 41 _ rfl gy 0 32 (bts X) (bts X) rfl Ky13.out rfl (by kernel_rfl) (by rw [bts_length, HLX.out]; decide) (by rw [List.drop_zero, List.take_of_length_le (by rw [bts_length, HLX.out]; decide)]) ?_) | (refine wpList_eq_bytes rfl false 41 _ _ _ rfl 5 32 (by kernel_rfl) Try.underlying5 (by kernel_rfl) (by kernel_rfl) X X rfl rfl HLX.out HLX.out true (by simp) ?_) | (refine wpList_ld rfl 47 _ rfl gs 1 29 (bts D) (bts D1) rfl Ks13.out rfl (by kernel_rfl) (by rw [bts_length, HLD.out]; decide) (HPs.out) ?_) | (refine wpList_ld rfl 47 _ rfl gt 1 29 (bts D ++ [Value.int .i64 ed]) (bts D1) rfl Kt13.out rfl (by kernel_rfl) (by rw [HLT.out]; decide) (HPt.out) ?_) | (refine wpList_eq_bytes rfl false 47 _ _ _ rfl 5 29 (by kernel_rfl) Try.underlying5 (by kernel_rfl) (by kernel_rfl) D1 D1 rfl rfl HLD1.out HLD1.out true (by simp) ?_) | (go_at_call 19; refine (wakes6_calls _).mono ?_; rintro e w' ⟨rfl, hb⟩))
  go_ret
  exact ⟨rfl, E13.out.trans (hb.mono E13.out.size)⟩
theorem SealCodes_all (m : UInt8) (A : Option Addr) (n ca : Nat) (a x : List UInt8) (w : World) (la : a.length = n) (h1 : n ≤ ca) (m1 : ca ≤ 9223372036854775807) (ra : Rd w A (bts a)) (hx : x.length = 32) :
    Calls Try.prog 8 #[vu8 m, .slice A n ca, .agg (bts x).toArray] w fun e w' => e = .returned (.bool true) ∧ Below w.heap.size w w' := by
  by_cases h : 300 < n
  · exact SealCodes_short m A n ca x w h1 m1 h
  · exact SealCodes_walk m A n ca a x w la h1 m1 ra hx (by omega)
end Go.Proofs.Ytnjaldafejbdgaa
