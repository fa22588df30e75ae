/- The walk of SealTurns. -/
import Derived.Test.YtnjaldafejbdgaaTurnsS
import Derived.Test.YtnjaldafejbdgaaKeep
import Derived.Test.YtnjaldafejbdgaaOpen
namespace Go.Proofs.Ytnjaldafejbdgaa
open Go.RowKit
set_option linter.unusedVariables false
set_option linter.unusedSimpArgs false


set_option maxHeartbeats 4000000 in
theorem SealTurns_short (m : UInt8) (A : Option Addr) (n ca : Nat) (x y z : UInt8) (w : World) (h1 : n ≤ ca) (m1 : ca ≤ 9223372036854775807) (h : m = 0 ∨ 29 < n) :
    Calls Try.prog 9 #[vu8 m, .slice A n ca, .agg (bts [x, y, z]).toArray] w fun e w' => e = .returned (.bool true) ∧ Below w.heap.size w w' := by
  by_cases hn : 29 < n
  · have hni : (29 : Int) < (n : Int) := by omega
    go_enter Try.func9, Try.ntmps9
    go_wp2_with (go_at_call 19; refine (wakes6_calls _).mono ?_; rintro e w' ⟨rfl, hb⟩)
    go_ret
    exact ⟨rfl, ((Below.refl _ _).alloc (Nat.le_refl _) _).trans (hb.mono (by simp))⟩
  have hni : ¬ ((29 : Int) < (n : Int)) := by omega
  have h0 : m = 0 := h.resolve_right hn
  subst h0
  go_enter Try.func9, Try.ntmps9
  go_wp2_with (go_at_call 19; refine (wakes6_calls _).mono ?_; rintro e w' ⟨rfl, hb⟩)
  go_ret
  exact ⟨rfl, ((Below.refl _ _).alloc (Nat.le_refl _) _).trans (hb.mono (by simp))⟩
set_option maxHeartbeats 8000000 in
theorem SealTurns_walk (m : UInt8) (A : Option Addr) (n ca : Nat) (a : List UInt8) (x y z : UInt8) (w : World) (la : a.length = n) (h1 : n ≤ ca) (m1 : ca ≤ 9223372036854775807) (ra : Rd w A (bts a)) (h0 : ¬ m = 0) (hn : n ≤ 29) :
    Calls Try.prog 9 #[vu8 m, .slice A n ca, .agg (bts [x, y, z]).toArray] w fun e w' => e = .returned (.bool true) ∧ Below w.heap.size w w' := by
  have HXA := Lib.hid (encR_yes (m := m) (l := a) (by rw [la]; exact fun h => h.elim h0 (by omega)))
  have hpa := padB_length (l := a) (by omega)
  have HLX := Lib.hid (secOf_length (m := m) hpa)
  have HDX := Lib.hid (decR_sec m (padB a) hpa h0)
  have HDB := Lib.hid (dec_body m a la hn)
  have HDZ := Lib.hid (dec_zero m a la)
  have HLD : Hid ((m :: padB a).length = 30) := by simp [Hid, hpa]
  have HD0 : Hid ((bts (m :: padB a))[0]? = some (vu8 m)) := rfl
  have hx256 := x.toNat_lt
  have hk : (x.toNat : Int) % 31 = ((x.toNat % 31 : Nat) : Int) := by omega
  have hk31 : x.toNat % 31 < 31 := Nat.mod_lt _ (by decide)
  generalize x.toNat % 31 = k at hk hk31
  have hki : (k : Int) < 32 := by omega
  have hki1 : (k : Int) + 1 < 32 := by omega
  have HE2' := decR_turned m (padB a) hpa h0 k (by omega) y z
  generalize m :: padB a = D at HLD HD0 HDX HDB HDZ
  generalize secOf m (padB a) = X at HXA HLX HDX HE2'
  have HCK := Lib.hid (bts_get (l := X) (j := k) (by rw [HLX.out]; omega))
  have HCK1' : ∀ q, (bts (X.set k q))[k + 1]? = some (vu8 (X.getD (k + 1) 0)) := by
    intro q
    rw [bts_get (by rw [List.length_set, HLX.out]; omega)]
    simp [List.getElem?_set_ne (show k ≠ k + 1 by omega)]
  generalize X.getD k 0 = u at HCK HE2'
  generalize X.getD (k + 1) 0 = v at HE2' HCK1'
  have HCK1 := Lib.hid (HCK1' (u ^^^ y))
  have hl1 : (X.set k (u ^^^ y)).length = 32 := by rw [List.length_set]; exact HLX.out
  generalize hX1 : X.set k (u ^^^ y) = X1 at HE2' HCK1 hl1
  have HX1 := Lib.hid hX1
  have HLX1 := Lib.hid hl1
  have hl2 : (X1.set (k + 1) (v ^^^ z)).length = 32 := by rw [List.length_set]; exact hl1
  generalize hX2 : X1.set (k + 1) (v ^^^ z) = X2 at HE2' hl2
  have HX2 := Lib.hid hX2
  have HLX2 := Lib.hid hl2
  have hld2 := decR_length X2 hl2
  obtain ⟨D2, e2⟩ : ∃ p, decR X2 = p := ⟨_, rfl⟩
  rw [e2] at HE2' hld2
  obtain ⟨D2, e2'⟩ := D2
  have HD2 := Lib.hid e2
  have HE2 := Lib.hid HE2'
  have HLD2 := Lib.hid hld2
  simp only at HE2 HLD2
  clear HE2' hl1 hl2 hX1 hX2 hld2 HCK1' hpa e2
  have h0i : ¬ ((m.toNat : Int) = 0) := by intro h; exact h0 (UInt8.toNat_inj.1 (by simpa using h))
  have h0b : ((m.toNat : Int) == 0) = false := by simpa using h0i
  have hni : ¬ ((29 : Int) < (n : Int)) := by omega
  have LA := Lib.hid la
  have RBa := Lib.hid ra
  clear la ra h0
  go_enter Try.func9, Try.ntmps9
  go_wp2_with fail
  refine calls_at fun w1 hw1 => ?_
  have E1 : Hid (Below w.heap.size w w1) := by rw [← hw1]; exact ((Below.refl w.heap.size w).alloc (Below.refl w.heap.size w).size _)
  have Ra1 : Hid (Rd w1 A (bts a)) := RBa.out.below E1.out
  have Kb1 : Hid (Bk w1 w.heap.size (bts [x, y, z])) := by rw [← hw1]; exact Bk.new w (bts [x, y, z]) _
  clear hw1
  refine (sealEncode_calls m A n ca a w1 LA.out h1 m1 Ra1.out).mono ?_
  rintro e w2 ⟨rfl, hb⟩
  have E2 : Hid (Below w.heap.size w w2) := E1.out.trans (hb.mono (E1.out.size))
  have Kb2 : Hid (Bk w2 w.heap.size (bts [x, y, z])) := Kb1.out.below hb
  have Ra2 : Hid (Rd w2 A (bts a)) := RBa.out.below E2.out
  clear Kb1 Ra1 E1 hb
  rw [HXA.out]
  go_wp2_with (first | (refine wpList_al rfl 41 rfl (zb 32) (by kernel_rfl) ?_))
  intro gx w3 hg hbk hcg hsz
  have hle_gx : w.heap.size ≤ gx := by rw [hg]; exact E2.out.size
  have hlt_b_x : w.heap.size < gx := by rw [hg]; exact Kb2.out.lt
  have E3 : Hid (Below w.heap.size w w3) := E2.out.trans (hcg.below E2.out.size (fun _ _ => id))
  have Kb3 : Hid (Bk w3 w.heap.size (bts [x, y, z])) := Kb2.out.chg hcg id
  have Ra3 : Hid (Rd w3 A (bts a)) := RBa.out.below E3.out
  clear Kb2 Ra2 E2
  have Kx3 := Lib.hid hbk
  clear hg hbk hcg hsz
  go_wp2_with (first | (refine wpList_st rfl 41 _ _ rfl gx 0 32 (zb 32) (bts X) rfl rfl Kx3.out (by kernel_rfl) (sized_bts _ HLX.out) (by decide) (one_bts _) ?_))
  intro w4 hbk hcg
  rw [splice_whole (zb 32) (bts X) ((sized_bts _ HLX.out).trans rfl)] at hbk
  have E4 : Hid (Below w.heap.size w w4) := E3.out.trans (hcg.below E3.out.size (fun k hk he => by omega))
  have Kb4 : Hid (Bk w4 w.heap.size (bts [x, y, z])) := Kb3.out.chg hcg (by omega)
  have Ra4 : Hid (Rd w4 A (bts a)) := RBa.out.below E4.out
  clear Kb3 Kx3 Ra3 E3 hcg
  have Kx4 := Lib.hid hbk
  clear hbk
  go_wp2_with (first | (refine wpList_ld rfl 41 _ rfl gx 0 32 (bts X) (bts X) rfl Kx4.out rfl (by kernel_rfl) (by rw [bts_length, HLX.out]; decide) (by rw [List.drop_zero, List.take_of_length_le (by rw [bts_length, HLX.out]; decide)]) ?_))
  refine (sealDecode_calls X w4 HLX.out).mono ?_
  rintro e w5 ⟨rfl, hb⟩
  have E5 : Hid (Below w.heap.size w w5) := E4.out.trans (hb.mono (E4.out.size))
  have Kb5 : Hid (Bk w5 w.heap.size (bts [x, y, z])) := Kb4.out.below hb
  have Kx5 : Hid (Bk w5 gx (bts X)) := Kx4.out.below hb
  have Ra5 : Hid (Rd w5 A (bts a)) := RBa.out.below E5.out
  clear Kb4 Kx4 Ra4 E4 hb
  rw [HDX.out]
  go_wp2_with (first | (refine wpList_al rfl 49 rfl (zb 30) (by kernel_rfl) ?_))
  intro gs w6 hg hbk hcg hsz
  have hle_gs : w.heap.size ≤ gs := by rw [hg]; exact E5.out.size
  have hlt_b_s : w.heap.size < gs := by rw [hg]; exact Kb5.out.lt
  have hlt_x_s : gx < gs := by rw [hg]; exact Kx5.out.lt
  have E6 : Hid (Below w.heap.size w w6) := E5.out.trans (hcg.below E5.out.size (fun _ _ => id))
  have Kb6 : Hid (Bk w6 w.heap.size (bts [x, y, z])) := Kb5.out.chg hcg id
  have Kx6 : Hid (Bk w6 gx (bts X)) := Kx5.out.chg hcg id
  have Ra6 : Hid (Rd w6 A (bts a)) := RBa.out.below E6.out
  clear Kb5 Kx5 Ra5 E5
  have Ks6 := Lib.hid hbk
  clear hg hbk hcg hsz
  go_wp2_with (first | (refine wpList_st rfl 49 _ _ rfl gs 0 30 (zb 30) (bts D) rfl rfl Ks6.out (by kernel_rfl) (sized_bts _ HLD.out) (by decide) (one_bts _) ?_))
  intro w7 hbk hcg
  rw [splice_whole (zb 30) (bts D) ((sized_bts _ HLD.out).trans rfl)] at hbk
  have E7 : Hid (Below w.heap.size w w7) := E6.out.trans (hcg.below E6.out.size (fun k hk he => by omega))
  have Kb7 : Hid (Bk w7 w.heap.size (bts [x, y, z])) := Kb6.out.chg hcg (by omega)
  have Kx7 : Hid (Bk w7 gx (bts X)) := Kx6.out.chg hcg (by omega)
  have Ra7 : Hid (Rd w7 A (bts a)) := RBa.out.below E7.out
  clear Kb6 Kx6 Ks6 Ra6 E6 hcg
  have Ks7 := Lib.hid hbk
  clear hbk
  have hs0 := Ks7.out.cell HD0.out
  go_wp2_with fail
  refine (keepBytes_calls (some ⟨gs, 1, none⟩) A n n 29 ca a a w7 LA.out LA.out ?_ Ra7.out).mono ?_
  · have := Ks7.out.rd_at 1 n; rwa [HDB.out] at this
  rintro e w' ⟨rfl, rfl⟩
  rw [show decide (a = a) = true by simp]
  clear hs0
  go_wp2_with fail
  go_loop [11] (fun v11 => ∃ i : Nat, n ≤ i ∧ i ≤ 29 ∧ v11 = .int .i64 i) (fun v11 => 29 - (intOf v11).toNat)
  case atStart => exact ⟨n, Nat.le_refl _, hn, rfl⟩
  case round =>
    obtain ⟨i, hi1, hi2, rfl⟩ := hrel
    by_cases hlt : i < 29
    · have hci := Ks7.out.cell (HDZ.out i hi1 hlt)
      go_wp2
      go_round
      case rel => exact ⟨i + 1, by omega, by omega, by go_num⟩
      case measure => simp [intOf]; omega
    · obtain rfl : i = 29 := by omega
      have hb0 : w7.cell? ⟨w.heap.size, 0, none⟩ = some (vu8 x) := Kb7.out.cell rfl
      go_wp2_with fail
      (try rw [hk])
      clear hb0
      have HB1 : Hid (w7.cell? ⟨w.heap.size, 1, none⟩ = some (vu8 y)) := Kb7.out.cell rfl
      have HXK : Hid (w7.cell? ⟨gx, k, none⟩ = some (vu8 u)) := Kx7.out.cell HCK.out
      apply wp_region_rel 7 (Chg NoS) [(Veq _), (Veq _), (Veq _), (Veq _), (Veq _), (Veq _), (Veq _)] [[], [0], [1], [], [3], [2, 4], [0]] [70, 71, 72, 73, 74, 75, 76] (by kernel_rfl) (by kernel_rfl) rfl rfl rfl Chg.refl (fun _ _ _ => Chg.trans) ⟨Veq.lasts, Veq.lasts, Veq.lasts, Veq.lasts, Veq.lasts, Veq.lasts, Veq.lasts, trivial⟩ ?aops ?afin
      case aops =>
        refine ⟨?ao0, ?ao1, ?ao2, ?ao3, ?ao4, ?ao5, ?ao6, trivial⟩
        case ao0 =>
          intro a wx hE hin
          have i12 : a.eval (.tmp 12) = .int .i64 ↑k := hin 12 rfl
          clear hin
          have hcst : ∀ v, a.eval (.const v) = v := fun _ => rfl
          have hfnc : ∀ f, a.eval (.func f) = .func (.func f) #[] #[] := fun _ => rfl
          refine want_none rfl ?_
          unfold Oper.wp
          generalize a.eval = ρ at *
          go_simp
          try go_bits
          first | exact rel_val (Chg.refl _) | (go_simp; exact rel_val (Chg.refl _))
        case ao1 =>
          rintro a wx hE hin (h0 : a.eval (.tmp 70) = _)
          have i7 : a.eval (.tmp 7) = .pointer (some ⟨gx, 0, none⟩) := hin 7 rfl
          clear hin
          have hcst : ∀ v, a.eval (.const v) = v := fun _ => rfl
          have hfnc : ∀ f, a.eval (.func f) = .func (.func f) #[] #[] := fun _ => rfl
          refine want_none rfl ?_
          unfold Oper.wp
          generalize a.eval = ρ at *
          go_simp
          try go_bits
          first | exact rel_val (Chg.refl _) | (go_simp; exact rel_val (Chg.refl _))
        case ao2 =>
          rintro a wx hE hin (h1 : a.eval (.tmp 71) = _)
          clear hin
          have hcst : ∀ v, a.eval (.const v) = v := fun _ => rfl
          have hfnc : ∀ f, a.eval (.func f) = .func (.func f) #[] #[] := fun _ => rfl
          refine want_none rfl ?_
          unfold Oper.wp
          generalize a.eval = ρ at *
          have c := hE.cell (w := w7.drew) HXK.out id
          go_simp
          try go_bits
          first | exact rel_val (Chg.refl _) | (go_simp; exact rel_val (Chg.refl _))
        case ao3 =>
          intro a wx hE hin
          have i5 : a.eval (.tmp 5) = .pointer (some ⟨w.heap.size, 0, none⟩) := hin 5 rfl
          clear hin
          have hcst : ∀ v, a.eval (.const v) = v := fun _ => rfl
          have hfnc : ∀ f, a.eval (.func f) = .func (.func f) #[] #[] := fun _ => rfl
          refine want_none rfl ?_
          unfold Oper.wp
          generalize a.eval = ρ at *
          go_simp
          try go_bits
          first | exact rel_val (Chg.refl _) | (go_simp; exact rel_val (Chg.refl _))
        case ao4 =>
          rintro a wx hE hin (h3 : a.eval (.tmp 73) = _)
          clear hin
          have hcst : ∀ v, a.eval (.const v) = v := fun _ => rfl
          have hfnc : ∀ f, a.eval (.func f) = .func (.func f) #[] #[] := fun _ => rfl
          refine want_none rfl ?_
          unfold Oper.wp
          generalize a.eval = ρ at *
          have c := hE.cell (w := w7.drew) HB1.out id
          go_simp
          try go_bits
          first | exact rel_val (Chg.refl _) | (go_simp; exact rel_val (Chg.refl _))
        case ao5 =>
          rintro a wx hE hin (h2 : a.eval (.tmp 72) = _) (h4 : a.eval (.tmp 74) = _)
          clear hin
          have hcst : ∀ v, a.eval (.const v) = v := fun _ => rfl
          have hfnc : ∀ f, a.eval (.func f) = .func (.func f) #[] #[] := fun _ => rfl
          refine want_none rfl ?_
          unfold Oper.wp
          generalize a.eval = ρ at *
          go_simp
          try go_bits
          first | exact rel_val (Chg.refl _) | (go_simp; exact rel_val (Chg.refl _))
        case ao6 =>
          rintro a wx hE hin (h0 : a.eval (.tmp 70) = _)
          have i7 : a.eval (.tmp 7) = .pointer (some ⟨gx, 0, none⟩) := hin 7 rfl
          clear hin
          have hcst : ∀ v, a.eval (.const v) = v := fun _ => rfl
          have hfnc : ∀ f, a.eval (.func f) = .func (.func f) #[] #[] := fun _ => rfl
          refine want_none rfl ?_
          unfold Oper.wp
          generalize a.eval = ρ at *
          go_simp
          try go_bits
          first | exact rel_val (Chg.refl _) | (go_simp; exact rel_val (Chg.refl _))
      case afin =>
        intro wx hE
        rintro _ rfl _ rfl _ rfl _ rfl _ rfl _ rfl _ rfl
        simp only [FinOk, List.take_succ_cons, List.take_zero, List.take_nil, List.drop_succ_cons, List.drop_zero, List.drop_nil, Act.put, List.setIfInBounds_toArray, List.set_cons_succ, List.set_cons_zero]
        clear HB1 HXK
        have EX : Hid (Below w.heap.size w wx) := E7.out.trans (hE.undrew.below (B := w.heap.size) E7.out.size (fun _ _ => id))
        have KXb : Hid (Bk wx w.heap.size (bts [x, y, z])) := Kb7.out.drew.chg hE id
        have KXx : Hid (Bk wx gx (bts X)) := Kx7.out.drew.chg hE id
        have KXs : Hid (Bk wx gs (bts D)) := Ks7.out.drew.chg hE id
        have RXa : Hid (Rd wx A (bts a)) := RBa.out.below EX.out
        clear hE Kb7 Kx7 Ks7 Ra7 E7
        refine wpList_st rfl 5 _ _ rfl gx k 1 (bts X) [vu8 (u ^^^ y)] rfl (congrArg (fun z => [Value.int .u8 z]) (bits_xor8 u y)) KXx.out (by kernel_rfl) rfl (by rw [bts_length, HLX.out]; omega) (fun u hu => by obtain rfl := List.mem_singleton.1 hu; rfl) ?_
        intro w8 hbk hcg
        rw [splice_one _ _ _ (by rw [HLX.out]; omega), HX1.out] at hbk
        have E8 : Hid (Below w.heap.size w w8) := EX.out.trans (hcg.below EX.out.size (fun k hk he => by omega))
        have Kb8 : Hid (Bk w8 w.heap.size (bts [x, y, z])) := KXb.out.chg hcg (by omega)
        have Ks8 : Hid (Bk w8 gs (bts D)) := KXs.out.chg hcg (by omega)
        have Kx8 : Hid (Bk w8 gx (bts X1)) := Lib.hid hbk
        have Ra8 : Hid (Rd w8 A (bts a)) := RBa.out.below E8.out
        clear hbk hcg EX RXa KXb KXx KXs
        go_wp2_with fail
        have HB1 : Hid (w8.cell? ⟨w.heap.size, 2, none⟩ = some (vu8 z)) := Kb8.out.cell rfl
        have HXK : Hid (w8.cell? ⟨gx, k + 1, none⟩ = some (vu8 v)) := Kx8.out.cell HCK1.out
        apply wp_region_rel 8 (Chg NoS) [(Veq _), (Veq _), (Veq _), (Veq _), (Veq _), (Veq _), (Veq _), (Veq _)] [[], [0], [1], [2], [], [4], [3, 5], [1]] [77, 78, 79, 80, 81, 82, 83, 84] (by kernel_rfl) (by kernel_rfl) rfl rfl rfl Chg.refl (fun _ _ _ => Chg.trans) ⟨Veq.lasts, Veq.lasts, Veq.lasts, Veq.lasts, Veq.lasts, Veq.lasts, Veq.lasts, Veq.lasts, trivial⟩ ?bops ?bfin
        case bops =>
          refine ⟨?bo0, ?bo1, ?bo2, ?bo3, ?bo4, ?bo5, ?bo6, ?bo7, trivial⟩
          case bo0 =>
            intro a wx hE hin
            have i12 : a.eval (.tmp 12) = .int .i64 ↑k := hin 12 rfl
            clear hin
            have hcst : ∀ v, a.eval (.const v) = v := fun _ => rfl
            have hfnc : ∀ f, a.eval (.func f) = .func (.func f) #[] #[] := fun _ => rfl
            refine want_none rfl ?_
            unfold Oper.wp
            generalize a.eval = ρ at *
            go_simp
            try go_bits
            first | exact rel_val (Chg.refl _) | (go_simp; exact rel_val (Chg.refl _))
          case bo1 =>
            rintro a wx hE hin (h0 : a.eval (.tmp 77) = _)
            clear hin
            have hcst : ∀ v, a.eval (.const v) = v := fun _ => rfl
            have hfnc : ∀ f, a.eval (.func f) = .func (.func f) #[] #[] := fun _ => rfl
            refine want_none rfl ?_
            unfold Oper.wp
            generalize a.eval = ρ at *
            go_simp
            try go_bits
            first | exact rel_val (Chg.refl _) | (go_simp; exact rel_val (Chg.refl _))
          case bo2 =>
            rintro a wx hE hin (h1 : a.eval (.tmp 78) = _)
            have i7 : a.eval (.tmp 7) = .pointer (some ⟨gx, 0, none⟩) := hin 7 rfl
            clear hin
            have hcst : ∀ v, a.eval (.const v) = v := fun _ => rfl
            have hfnc : ∀ f, a.eval (.func f) = .func (.func f) #[] #[] := fun _ => rfl
            refine want_none rfl ?_
            unfold Oper.wp
            generalize a.eval = ρ at *
            go_simp
            try go_bits
            first | exact rel_val (Chg.refl _) | (go_simp; exact rel_val (Chg.refl _))
          case bo3 =>
            rintro a wx hE hin (h2 : a.eval (.tmp 79) = _)
            clear hin
            have hcst : ∀ v, a.eval (.const v) = v := fun _ => rfl
            have hfnc : ∀ f, a.eval (.func f) = .func (.func f) #[] #[] := fun _ => rfl
            refine want_none rfl ?_
            unfold Oper.wp
            generalize a.eval = ρ at *
            have c := hE.cell (w := w8.drew) HXK.out id
            go_simp
            try go_bits
            first | exact rel_val (Chg.refl _) | (go_simp; exact rel_val (Chg.refl _))
          case bo4 =>
            intro a wx hE hin
            have i5 : a.eval (.tmp 5) = .pointer (some ⟨w.heap.size, 0, none⟩) := hin 5 rfl
            clear hin
            have hcst : ∀ v, a.eval (.const v) = v := fun _ => rfl
            have hfnc : ∀ f, a.eval (.func f) = .func (.func f) #[] #[] := fun _ => rfl
            refine want_none rfl ?_
            unfold Oper.wp
            generalize a.eval = ρ at *
            go_simp
            try go_bits
            first | exact rel_val (Chg.refl _) | (go_simp; exact rel_val (Chg.refl _))
          case bo5 =>
            rintro a wx hE hin (h4 : a.eval (.tmp 81) = _)
            clear hin
            have hcst : ∀ v, a.eval (.const v) = v := fun _ => rfl
            have hfnc : ∀ f, a.eval (.func f) = .func (.func f) #[] #[] := fun _ => rfl
            refine want_none rfl ?_
            unfold Oper.wp
            generalize a.eval = ρ at *
            have c := hE.cell (w := w8.drew) HB1.out id
            go_simp
            try go_bits
            first | exact rel_val (Chg.refl _) | (go_simp; exact rel_val (Chg.refl _))
          case bo6 =>
            rintro a wx hE hin (h3 : a.eval (.tmp 80) = _) (h5 : a.eval (.tmp 82) = _)
            clear hin
            have hcst : ∀ v, a.eval (.const v) = v := fun _ => rfl
            have hfnc : ∀ f, a.eval (.func f) = .func (.func f) #[] #[] := fun _ => rfl
            refine want_none rfl ?_
            unfold Oper.wp
            generalize a.eval = ρ at *
            go_simp
            try go_bits
            first | exact rel_val (Chg.refl _) | (go_simp; exact rel_val (Chg.refl _))
          case bo7 =>
            rintro a wx hE hin (h1 : a.eval (.tmp 78) = _)
            have i7 : a.eval (.tmp 7) = .pointer (some ⟨gx, 0, none⟩) := hin 7 rfl
            clear hin
            have hcst : ∀ v, a.eval (.const v) = v := fun _ => rfl
            have hfnc : ∀ f, a.eval (.func f) = .func (.func f) #[] #[] := fun _ => rfl
            refine want_none rfl ?_
            unfold Oper.wp
            generalize a.eval = ρ at *
            go_simp
            try go_bits
            first | exact rel_val (Chg.refl _) | (go_simp; exact rel_val (Chg.refl _))
        case bfin =>
          intro wx hE
          rintro _ rfl _ rfl _ rfl _ rfl _ rfl _ rfl _ rfl _ rfl
          simp only [FinOk, List.take_succ_cons, List.take_zero, List.take_nil, List.drop_succ_cons, List.drop_zero, List.drop_nil, Act.put, List.setIfInBounds_toArray, List.set_cons_succ, List.set_cons_zero]
          clear HB1 HXK
          have EX : Hid (Below w.heap.size w wx) := E8.out.trans (hE.undrew.below (B := w.heap.size) E8.out.size (fun _ _ => id))
          have KXb : Hid (Bk wx w.heap.size (bts [x, y, z])) := Kb8.out.drew.chg hE id
          have KXx : Hid (Bk wx gx (bts X1)) := Kx8.out.drew.chg hE id
          have KXs : Hid (Bk wx gs (bts D)) := Ks8.out.drew.chg hE id
          have RXa : Hid (Rd wx A (bts a)) := RBa.out.below EX.out
          clear hE Kb8 Kx8 Ks8 Ra8 E8
          refine wpList_st rfl 5 _ _ rfl gx (k + 1) 1 (bts X1) [vu8 (v ^^^ z)] rfl (congrArg (fun z => [Value.int .u8 z]) (bits_xor8 v z)) KXx.out (by kernel_rfl) rfl (by rw [bts_length, HLX1.out]; omega) (fun u hu => by obtain rfl := List.mem_singleton.1 hu; rfl) ?_
          intro w9 hbk hcg
          rw [splice_one _ _ _ (by rw [HLX1.out]; omega), HX2.out] at hbk
          have E9 : Hid (Below w.heap.size w w9) := EX.out.trans (hcg.below EX.out.size (fun k hk he => by omega))
          have Kb9 : Hid (Bk w9 w.heap.size (bts [x, y, z])) := KXb.out.chg hcg (by omega)
          have Ks9 : Hid (Bk w9 gs (bts D)) := KXs.out.chg hcg (by omega)
          have Kx9 : Hid (Bk w9 gx (bts X2)) := Lib.hid hbk
          have Ra9 : Hid (Rd w9 A (bts a)) := RBa.out.below E9.out
          clear hbk hcg EX RXa KXb KXx KXs
          go_wp2_with (first | (refine wpList_ld rfl 41 _ rfl gx 0 32 (bts X2) (bts X2) rfl Kx9.out rfl (by kernel_rfl) (by rw [bts_length, HLX2.out]; decide) (by rw [List.drop_zero, List.take_of_length_le (by rw [bts_length, HLX2.out]; decide)]) ?_))
          refine (sealDecode_calls X2 w9 HLX2.out).mono ?_
          rintro e w10 ⟨rfl, hb⟩
          have E10 : Hid (Below w.heap.size w w10) := E9.out.trans (hb.mono (E9.out.size))
          have Kb10 : Hid (Bk w10 w.heap.size (bts [x, y, z])) := Kb9.out.below hb
          have Kx10 : Hid (Bk w10 gx (bts X2)) := Kx9.out.below hb
          have Ks10 : Hid (Bk w10 gs (bts D)) := Ks9.out.below hb
          have Ra10 : Hid (Rd w10 A (bts a)) := RBa.out.below E10.out
          clear Kb9 Kx9 Ks9 Ra9 E9 hb
          rw [HD2.out]
          go_wp2_with (first | (refine wpList_al rfl 49 rfl (zb 30) (by kernel_rfl) ?_))
          intro gr w11 hg hbk hcg hsz
          have hle_gr : w.heap.size ≤ gr := by rw [hg]; exact E10.out.size
          have hlt_b_r : w.heap.size < gr := by rw [hg]; exact Kb10.out.lt
          have hlt_x_r : gx < gr := by rw [hg]; exact Kx10.out.lt
          have hlt_s_r : gs < gr := by rw [hg]; exact Ks10.out.lt
          have E11 : Hid (Below w.heap.size w w11) := E10.out.trans (hcg.below E10.out.size (fun _ _ => id))
          have Kb11 : Hid (Bk w11 w.heap.size (bts [x, y, z])) := Kb10.out.chg hcg id
          have Kx11 : Hid (Bk w11 gx (bts X2)) := Kx10.out.chg hcg id
          have Ks11 : Hid (Bk w11 gs (bts D)) := Ks10.out.chg hcg id
          have Ra11 : Hid (Rd w11 A (bts a)) := RBa.out.below E11.out
          clear Kb10 Kx10 Ks10 Ra10 E10
          have Kr11 := Lib.hid hbk
          clear hg hbk hcg hsz
          go_wp2_with (first | (refine wpList_st rfl 49 _ _ rfl gr 0 30 (zb 30) (bts D2) rfl rfl Kr11.out (by kernel_rfl) (sized_bts _ HLD2.out) (by decide) (one_bts _) ?_))
          intro w12 hbk hcg
          rw [splice_whole (zb 30) (bts D2) ((sized_bts _ HLD2.out).trans rfl)] at hbk
          have E12 : Hid (Below w.heap.size w w12) := E11.out.trans (hcg.below E11.out.size (fun k hk he => by omega))
          have Kb12 : Hid (Bk w12 w.heap.size (bts [x, y, z])) := Kb11.out.chg hcg (by omega)
          have Kx12 : Hid (Bk w12 gx (bts X2)) := Kx11.out.chg hcg (by omega)
          have Ks12 : Hid (Bk w12 gs (bts D)) := Ks11.out.chg hcg (by omega)
          have Ra12 : Hid (Rd w12 A (bts a)) := RBa.out.below E12.out
          clear Kb11 Kx11 Ks11 Kr11 Ra11 E11 hcg
          have Kr12 := Lib.hid hbk
          clear hbk
          have cb1 : w12.cell? ⟨w.heap.size, 1, none⟩ = some (vu8 y) := Kb12.out.cell rfl
          have cb2 : w12.cell? ⟨w.heap.size, 2, none⟩ = some (vu8 z) := Kb12.out.cell rfl
          have he2 := HE2.out
          by_cases hy : y = 0
          · subst hy
            by_cases hz : z = 0
            · subst hz
              rw [if_pos ⟨rfl, rfl⟩] at he2
              subst he2
              go_wp2_with (go_at_call 19; refine (wakes6_calls _).mono ?_; rintro e w' ⟨rfl, hb⟩)
              go_ret
              exact ⟨rfl, E12.out.trans (hb.mono E12.out.size)⟩
            · rw [if_neg (fun h => hz h.2)] at he2
              subst he2
              have hzi : ((z.toNat : Int) == 0) = false := by simpa using (fun h => hz (UInt8.toNat_inj.1 (by simpa using h)) : ¬ ((z.toNat : Int) = 0))
              go_wp2_with (go_at_call 19; refine (wakes6_calls _).mono ?_; rintro e w' ⟨rfl, hb⟩)
              go_ret
              exact ⟨rfl, E12.out.trans (hb.mono E12.out.size)⟩
          · rw [if_neg (fun h => hy h.1)] at he2
            subst he2
            have hyi : ((y.toNat : Int) == 0) = false := by simpa using (fun h => hy (UInt8.toNat_inj.1 (by simpa using h)) : ¬ ((y.toNat : Int) = 0))
            go_wp2_with (go_at_call 19; refine (wakes6_calls _).mono ?_; rintro e w' ⟨rfl, hb⟩)
            go_ret
            exact ⟨rfl, E12.out.trans (hb.mono E12.out.size)⟩

theorem SealTurns_all (m : UInt8) (A : Option Addr) (n ca : Nat) (a l : List UInt8) (w : World) (la : a.length = n) (h1 : n ≤ ca) (m1 : ca ≤ 9223372036854775807) (ra : Rd w A (bts a)) (hl : l.length = 3) :
    Calls Try.prog 9 #[vu8 m, .slice A n ca, .agg (bts l).toArray] w fun e w' => e = .returned (.bool true) ∧ Below w.heap.size w w' := by
  obtain ⟨x, y, z, rfl⟩ := three_of hl
  by_cases h : m = 0 ∨ 29 < n
  · exact SealTurns_short m A n ca x y z w h1 m1 h
  · exact SealTurns_walk m A n ca a x y z w la h1 m1 ra (fun h' => h (.inl h')) (by omega)
end Go.Proofs.Ytnjaldafejbdgaa
