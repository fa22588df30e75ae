/- The walk of SealPlaces. -/
import Derived.Test.YtnjaldafejbdgaaPlaces
namespace Go.Proofs.Ytnjaldafejbdgaa
open Go.RowKit
set_option linter.unusedVariables false
set_option linter.unusedSimpArgs false


set_option maxHeartbeats 4000000 in
theorem SealPlaces_short (m : UInt8) (A B : Option Addr) (n p ca cb : Nat) (w : World) (h1 : n ≤ ca) (h2 : p ≤ cb) (m1 : ca ≤ 9223372036854775807) (m2 : cb ≤ 9223372036854775807) (h : m = 0 ∨ 29 < n ∨ 29 < p) :
    Calls Try.prog 10 #[vu8 m, .slice A n ca, .slice B p cb] w fun e w' => e = .returned (.bool true) ∧ Below w.heap.size w w' := by
  by_cases h0 : m = 0
  · subst h0
    go_enter Try.func10, Try.ntmps10
    go_wp2_with (go_at_call 19; refine (wakes6_calls _).mono ?_; rintro e w' ⟨rfl, hb⟩)
    go_ret
    exact ⟨rfl, hb⟩
  have h0i : ¬ ((m.toNat : Int) = 0) := by intro h; exact h0 (UInt8.toNat_inj.1 (by simpa using h))
  have h0b : ((m.toNat : Int) == 0) = false := by simpa using h0i
  by_cases hn : 29 < n
  · have hni : (29 : Int) < (n : Int) := by omega
    go_enter Try.func10, Try.ntmps10
    go_wp2_with (go_at_call 19; refine (wakes6_calls _).mono ?_; rintro e w' ⟨rfl, hb⟩)
    go_ret
    exact ⟨rfl, hb⟩
  have hni : ¬ ((29 : Int) < (n : Int)) := by omega
  have hp : 29 < p := by rcases h with h | h | h <;> first | exact absurd h h0 | exact absurd h hn | exact h
  have hpi : (29 : Int) < (p : Int) := by omega
  go_enter Try.func10, Try.ntmps10
  go_wp2_with (go_at_call 19; refine (wakes6_calls _).mono ?_; rintro e w' ⟨rfl, hb⟩)
  go_ret
  exact ⟨rfl, hb⟩
set_option maxHeartbeats 4000000 in
theorem SealPlaces_walk (m : UInt8) (A B : Option Addr) (n p ca cb : Nat) (a b : List UInt8) (w : World) (la : a.length = n) (lb : b.length = p) (h1 : n ≤ ca) (h2 : p ≤ cb) (m1 : ca ≤ 9223372036854775807) (m2 : cb ≤ 9223372036854775807) (ra : Rd w A (bts a)) (rb : Rd w B (bts b))
    (h0 : ¬ m = 0) (hn : n ≤ 29) (hp : p ≤ 29) :
    Calls Try.prog 10 #[vu8 m, .slice A n ca, .slice B p cb] w fun e w' => e = .returned (.bool true) ∧ Below w.heap.size w w' := by
  have HXA := Lib.hid (encR_yes (m := m) (l := a) (by rw [la]; exact fun h => h.elim h0 (by omega)))
  have HYA := Lib.hid (encR_yes (m := m) (l := b) (by rw [lb]; exact fun h => h.elim h0 (by omega)))
  have hpa := padB_length (l := a) (by omega)
  have hpb := padB_length (l := b) (by omega)
  have HGA := Lib.hid (padB_get a)
  have HGB := Lib.hid (padB_get b)
  have hinj := secOf_inj m (padB a) (padB b) hpa hpb
  generalize hq : decide (padB a = padB b) = q
  have hq2 : decide (secOf m (padB a) = secOf m (padB b)) = q := by rw [← hq, decide_eq_decide]; exact hinj
  have HLX := Lib.hid (secOf_length (m := m) hpa)
  have HLY := Lib.hid (secOf_length (m := m) hpb)
  have HTK := Lib.hid (secOf_take m (padB a) hpa)
  have HLO := Lib.hid (secOf_lo m (padB a) hpa)
  have HHI := Lib.hid (secOf_hi m (padB a) hpa)
  have HAT := Lib.hid (secOf_at m (padB a) hpa)
  have H0 : Hid ((bts (secOf m (padB a)))[0]? = some (vu8 m)) := rfl
  have HQ := Lib.hid hq
  have HQ2 := Lib.hid hq2
  have HPA := Lib.hid hpa
  have HPB := Lib.hid hpb
  clear hq hq2 hinj hpa hpb
  generalize secOf m (padB a) = X at HXA HLX HTK HLO HHI HAT HQ2 H0
  generalize secOf m (padB b) = Y at HYA HLY HQ2
  generalize padB a = pa at *
  generalize padB b = pb at *
  generalize hcc : crcCheck (m :: pa) = c at HLO HHI
  have HCC := Lib.hid hcc
  clear hcc
  have h0i : ¬ ((m.toNat : Int) = 0) := by intro h; exact h0 (UInt8.toNat_inj.1 (by simpa using h))
  have h0b : ((m.toNat : Int) == 0) = false := by simpa using h0i
  have hni : ¬ ((29 : Int) < (n : Int)) := by omega
  have hpi : ¬ ((29 : Int) < (p : Int)) := by omega
  have LA := Lib.hid la
  have LB := Lib.hid lb
  have RBa := Lib.hid ra
  have RBb := Lib.hid rb
  clear la lb ra rb h0
  go_enter Try.func10, Try.ntmps10
  go_wp2_with fail
  refine (sealEncode_calls m A n ca a w LA.out h1 m1 RBa.out).mono ?_
  rintro e w1 ⟨rfl, hb⟩
  have E1 : Hid (Below w.heap.size w w1) := (Below.refl w.heap.size w).trans (hb.mono ((Below.refl w.heap.size w).size))
  have Ra1 : Hid (Rd w1 A (bts a)) := RBa.out.below E1.out
  have Rb1 : Hid (Rd w1 B (bts b)) := RBb.out.below E1.out
  clear hb
  rw [HXA.out]
  go_wp2_with (first | (refine wpList_al rfl 41 rfl (zb 32) (by kernel_rfl) ?_))
  intro gx w2 hg hbk hcg hsz
  have hle_gx : w.heap.size ≤ gx := by rw [hg]; exact E1.out.size
  have E2 : Hid (Below w.heap.size w w2) := E1.out.trans (hcg.below E1.out.size (fun _ _ => id))
  have Ra2 : Hid (Rd w2 A (bts a)) := RBa.out.below E2.out
  have Rb2 : Hid (Rd w2 B (bts b)) := RBb.out.below E2.out
  clear Ra1 Rb1 E1
  have Kx2 := Lib.hid hbk
  clear hg hbk hcg hsz
  go_wp2_with (first | (refine wpList_st rfl 41 _ _ rfl gx 0 32 (zb 32) (bts X) rfl rfl Kx2.out (by kernel_rfl) (sized_bts _ HLX.out) (by decide) (one_bts _) ?_))
  intro w3 hbk hcg
  rw [splice_whole (zb 32) (bts X) ((sized_bts _ HLX.out).trans rfl)] at hbk
  have E3 : Hid (Below w.heap.size w w3) := E2.out.trans (hcg.below E2.out.size (fun k hk he => by omega))
  have Ra3 : Hid (Rd w3 A (bts a)) := RBa.out.below E3.out
  have Rb3 : Hid (Rd w3 B (bts b)) := RBb.out.below E3.out
  clear Kx2 Ra2 Rb2 E2 hcg
  have Kx3 := Lib.hid hbk
  clear hbk
  go_wp2_with fail
  refine (sealEncode_calls m B p cb b w3 LB.out h2 m2 Rb3.out).mono ?_
  rintro e w4 ⟨rfl, hb⟩
  have E4 : Hid (Below w.heap.size w w4) := E3.out.trans (hb.mono (E3.out.size))
  have Kx4 : Hid (Bk w4 gx (bts X)) := Kx3.out.below hb
  have Ra4 : Hid (Rd w4 A (bts a)) := RBa.out.below E4.out
  have Rb4 : Hid (Rd w4 B (bts b)) := RBb.out.below E4.out
  clear Kx3 Ra3 Rb3 E3 hb
  rw [HYA.out]
  go_wp2_with (first | (refine wpList_al rfl 41 rfl (zb 32) (by kernel_rfl) ?_))
  intro gy w5 hg hbk hcg hsz
  have hle_gy : w.heap.size ≤ gy := by rw [hg]; exact E4.out.size
  have hlt_x_y : gx < gy := by rw [hg]; exact Kx4.out.lt
  have E5 : Hid (Below w.heap.size w w5) := E4.out.trans (hcg.below E4.out.size (fun _ _ => id))
  have Kx5 : Hid (Bk w5 gx (bts X)) := Kx4.out.chg hcg id
  have Ra5 : Hid (Rd w5 A (bts a)) := RBa.out.below E5.out
  have Rb5 : Hid (Rd w5 B (bts b)) := RBb.out.below E5.out
  clear Kx4 Ra4 Rb4 E4
  have Ky5 := Lib.hid hbk
  clear hg hbk hcg hsz
  go_wp2_with (first | (refine wpList_st rfl 41 _ _ rfl gy 0 32 (zb 32) (bts Y) rfl rfl Ky5.out (by kernel_rfl) (sized_bts _ HLY.out) (by decide) (one_bts _) ?_))
  intro w6 hbk hcg
  rw [splice_whole (zb 32) (bts Y) ((sized_bts _ HLY.out).trans rfl)] at hbk
  have E6 : Hid (Below w.heap.size w w6) := E5.out.trans (hcg.below E5.out.size (fun k hk he => by omega))
  have Kx6 : Hid (Bk w6 gx (bts X)) := Kx5.out.chg hcg (by omega)
  have Ra6 : Hid (Rd w6 A (bts a)) := RBa.out.below E6.out
  have Rb6 : Hid (Rd w6 B (bts b)) := RBb.out.below E6.out
  clear Kx5 Ky5 Ra5 Rb5 E5 hcg
  have Ky6 := Lib.hid hbk
  clear hbk
  have hx0 := Kx6.out.cell H0.out
  go_wp2_with fail
  clear hx0
  go_loop [11, 12, 13, 14] (fun v11 v12 v13 v14 => ∃ k : Nat, k ≤ 29 ∧ v12 = .int .i64 k ∧ v11 = .bool (decide (pa.take k = pb.take k))) (fun _ v12 _ _ => 29 - (intOf v12).toNat)
  case atStart => exact ⟨0, by omega, rfl, by simp⟩
  case round =>
    obtain ⟨k, hk, rfl, rfl⟩ := hrel
    by_cases hlt : k < 29
    · have hstep := take_step pa pb k (by rw [HPA.out]; exact hlt) (by rw [HPB.out]; exact hlt)
      have hcx := Kx6.out.cell (HAT.out k hlt)
      have hga := HGA.out k
      have hgb := HGB.out k
      generalize pa.getD k 0 = u at hstep hcx hga
      generalize pb.getD k 0 = v at hstep hgb
      generalize hq : decide (pa.take k = pb.take k) = q at hstep
      have HST := Lib.hid hstep
      clear hstep hq
      have hcx' : w6.cell? ⟨gx, 1 + k, none⟩ = some (vu8 u) := by rw [Nat.add_comm]; exact hcx
      by_cases hka : k < n
      · rw [if_pos (by rw [LA.out]; exact hka)] at hga
        obtain ⟨ada, rfl, ca1⟩ := Ra6.out.bt k (by rw [LA.out]; exact hka)
        rw [← hga] at ca1
        have hkai : (k : Int) < (n : Int) := by omega
        by_cases hkb : k < p
        · rw [if_pos (by rw [LB.out]; exact hkb)] at hgb
          obtain ⟨adb, rfl, cb1⟩ := Rb6.out.bt k (by rw [LB.out]; exact hkb)
          rw [← hgb] at cb1
          have hkbi : (k : Int) < (p : Int) := by omega
          clear hga hgb
          cases q
          · go_wp2
            go_round
            case rel => exact ⟨k + 1, by omega, by go_num, by rw [HST.out]; rfl⟩
            case measure => simp [intOf]; omega
          · go_wp2
            go_round
            case rel => exact ⟨k + 1, by omega, by go_num, by rw [HST.out]; first | exact congrArg Value.bool (eqb8 _ _) | exact congrArg Value.bool (eqb8 _ 0) | exact congrArg Value.bool (eqb8 0 _) | rfl⟩
            case measure => simp [intOf]; omega
        · rw [if_neg (by rw [LB.out]; exact hkb)] at hgb
          subst hgb
          have hkbi : ¬ ((k : Int) < (p : Int)) := by omega
          clear hga
          cases q
          · go_wp2
            go_round
            case rel => exact ⟨k + 1, by omega, by go_num, by rw [HST.out]; rfl⟩
            case measure => simp [intOf]; omega
          · go_wp2
            go_round
            case rel => exact ⟨k + 1, by omega, by go_num, by rw [HST.out]; first | exact congrArg Value.bool (eqb8 _ _) | exact congrArg Value.bool (eqb8 _ 0) | exact congrArg Value.bool (eqb8 0 _) | rfl⟩
            case measure => simp [intOf]; omega
      · rw [if_neg (by rw [LA.out]; exact hka)] at hga
        subst hga
        have hkai : ¬ ((k : Int) < (n : Int)) := by omega
        by_cases hkb : k < p
        · rw [if_pos (by rw [LB.out]; exact hkb)] at hgb
          obtain ⟨adb, rfl, cb1⟩ := Rb6.out.bt k (by rw [LB.out]; exact hkb)
          rw [← hgb] at cb1
          have hkbi : (k : Int) < (p : Int) := by omega
          clear hgb
          cases q
          · go_wp2
            go_round
            case rel => exact ⟨k + 1, by omega, by go_num, by rw [HST.out]; rfl⟩
            case measure => simp [intOf]; omega
          · go_wp2
            go_round
            case rel => exact ⟨k + 1, by omega, by go_num, by rw [HST.out]; first | exact congrArg Value.bool (eqb8 _ _) | exact congrArg Value.bool (eqb8 _ 0) | exact congrArg Value.bool (eqb8 0 _) | rfl⟩
            case measure => simp [intOf]; omega
        · rw [if_neg (by rw [LB.out]; exact hkb)] at hgb
          subst hgb
          have hkbi : ¬ ((k : Int) < (p : Int)) := by omega
          cases q
          · go_wp2
            go_round
            case rel => exact ⟨k + 1, by omega, by go_num, by rw [HST.out]; rfl⟩
            case measure => simp [intOf]; omega
          · go_wp2
            go_round
            case rel => exact ⟨k + 1, by omega, by go_num, by rw [HST.out]; first | exact congrArg Value.bool (eqb8 _ _) | exact congrArg Value.bool (eqb8 _ 0) | exact congrArg Value.bool (eqb8 0 _) | rfl⟩
            case measure => simp [intOf]; omega
    · obtain rfl : k = 29 := by omega
      rw [List.take_of_length_le (by rw [HPA.out]; decide), List.take_of_length_le (by rw [HPB.out]; decide), HQ.out]
      go_wp2_with fail
      refine calls_at fun w7 hw7 => ?_
      have E7 : Hid (Below w.heap.size w w7) := by rw [← hw7]; exact (E6.out.alloc E6.out.size _)
      have Kx7 : Hid (Bk w7 gx (bts X)) := by rw [← hw7]; exact (Kx6.out.alloc _)
      have Ky7 : Hid (Bk w7 gy (bts Y)) := by rw [← hw7]; exact (Ky6.out.alloc _)
      have Ra7 : Hid (Rd w7 A (bts a)) := RBa.out.below E7.out
      have Rb7 : Hid (Rd w7 B (bts b)) := RBb.out.below E7.out
      clear Kx6 Ky6 Ra6 Rb6 E6
      have hrow : Rd w7 (some ⟨w6.heap.size, 0, none⟩) [.slice (some ⟨gx, 0, none⟩) 30 32] := by rw [← hw7]; exact Rd.of_block (hal_new rfl)
      clear hw7
      refine (check_one (A := some ⟨gx, 0, none⟩) (n := 30) (c := 32) (l := m :: pa) hrow (by simp [HPA.out]) (by decide) (by decide) ?_).mono ?_
      · have := Kx7.out.rd_at 0 30; rwa [List.drop_zero, bts_take, HTK.out] at this
      rintro e w' ⟨rfl, rfl⟩
      rw [HCC.out]
      clear hrow
      have c30 := Kx7.out.cell HLO.out
      have c31 := Kx7.out.cell HHI.out
      rw [show vu8 c.toUInt8 = .int .u8 ((c.toNat : Int) % 256) from congrArg (Value.int .u8) (mod8_u16 c).symm] at c30
      rw [show vu8 (c >>> 8).toUInt8 = .int .u8 ((c.toNat : Int) / 256 % 256) from congrArg (Value.int .u8) (mod8_hi c).symm] at c31
      cases q
      · go_wp2_with (first | (refine wpList_ld rfl 41 _ rfl gx 0 32 (bts X) (bts X) rfl Kx7.out rfl (by kernel_rfl) (by rw [bts_length, HLX.out]; decide) (by rw [List.drop_zero, List.take_of_length_le (by rw [bts_length, HLX.out]; decide)]) ?_) | (refine wpList_ld rfl 41 _ rfl gy 0 32 (bts Y) (bts Y) rfl Ky7.out rfl (by kernel_rfl) (by rw [bts_length, HLY.out]; decide) (by rw [List.drop_zero, List.take_of_length_le (by rw [bts_length, HLY.out]; decide)]) ?_) | (refine wpList_eq_bytes rfl false 41 _ _ _ rfl 5 32 (by kernel_rfl) Try.underlying5 (by kernel_rfl) (by kernel_rfl) X Y rfl rfl HLX.out HLY.out false (by rw [HQ2.out]; rfl) ?_) | (go_at_call 19; refine (wakes6_calls _).mono ?_; rintro e w' ⟨rfl, hb⟩))
        go_ret
        exact ⟨rfl, E7.out.trans (hb.mono E7.out.size)⟩
      · go_wp2_with (first | (refine wpList_ld rfl 41 _ rfl gx 0 32 (bts X) (bts X) rfl Kx7.out rfl (by kernel_rfl) (by rw [bts_length, HLX.out]; decide) (by rw [List.drop_zero, List.take_of_length_le (by rw [bts_length, HLX.out]; decide)]) ?_) | (refine wpList_ld rfl 41 _ rfl gy 0 32 (bts Y) (bts Y) rfl Ky7.out rfl (by kernel_rfl) (by rw [bts_length, HLY.out]; decide) (by rw [List.drop_zero, List.take_of_length_le (by rw [bts_length, HLY.out]; decide)]) ?_) | (refine wpList_eq_bytes rfl false 41 _ _ _ rfl 5 32 (by kernel_rfl) Try.underlying5 (by kernel_rfl) (by kernel_rfl) X Y rfl rfl HLX.out HLY.out true (by rw [HQ2.out]; rfl) ?_) | (go_at_call 19; refine (wakes6_calls _).mono ?_; rintro e w' ⟨rfl, hb⟩))
        go_ret
        exact ⟨rfl, E7.out.trans (hb.mono E7.out.size)⟩

theorem SealPlaces_all (m : UInt8) (A B : Option Addr) (n p ca cb : Nat) (a b : List UInt8) (w : World) (la : a.length = n) (lb : b.length = p) (h1 : n ≤ ca) (h2 : p ≤ cb) (m1 : ca ≤ 9223372036854775807) (m2 : cb ≤ 9223372036854775807) (ra : Rd w A (bts a)) (rb : Rd w B (bts b)) :
    Calls Try.prog 10 #[vu8 m, .slice A n ca, .slice B p cb] w fun e w' => e = .returned (.bool true) ∧ Below w.heap.size w w' := by
  by_cases h : m = 0 ∨ 29 < n ∨ 29 < p
  · exact SealPlaces_short m A B n p ca cb w h1 h2 m1 m2 h
  · exact SealPlaces_walk m A B n p ca cb a b w la lb h1 h2 m1 m2 ra rb (fun h' => h (.inl h')) (by omega) (by omega)
end Go.Proofs.Ytnjaldafejbdgaa
