/- The walk of disk.Up. -/
import Derived.Test.YtnpcehlbboeadaaDiskFlush
namespace Go.Proofs.Ytnpcehlbboeadaa
open Go.RowKit
set_option linter.unusedVariables false
set_option linter.unusedSimpArgs false

/-- What an Up leaves. -/
def upS (S : List (List UInt8)) (L : List (Nat × List UInt8)) (ks : List UInt8) : List (List UInt8) := L.zipIdx.foldl (fun s p => if ks.getD p.2 0 % 2 = 1 then s.set p.1.1 p.1.2 else s) S
theorem upS_take (S : List (List UInt8)) (L : List (Nat × List UInt8)) (ks : List UInt8) (k : Nat) (h : k < L.length) : upS S (L.take (k + 1)) ks = if ks.getD k 0 % 2 = 1 then (upS S (L.take k) ks).set L[k].1 L[k].2 else upS S (L.take k) ks := by
  rw [upS, upS, List.take_succ_eq_append_getElem h, List.zipIdx_append, List.foldl_append]
  simp only [List.zipIdx_cons, List.zipIdx_nil, List.foldl_cons, List.foldl_nil, List.length_take, Nat.min_eq_left (Nat.le_of_lt h), Nat.zero_add]
theorem upS_length (S : List (List UInt8)) (L : List (Nat × List UInt8)) (ks : List UInt8) : (upS S L ks).length = S.length := by
  unfold upS
  generalize L.zipIdx = M
  induction M generalizing S with
  | nil => rfl
  | cons p M ih =>
    rw [List.foldl_cons, ih]
    split
    · simp
    · rfl
theorem upS_stop (S : List (List UInt8)) (L : List (Nat × List UInt8)) (ks : List UInt8) : ∀ (d k : Nat), L.length - k = d → k ≤ L.length → ks.length ≤ k → upS S (L.take k) ks = upS S L ks := by
  intro d
  induction d with
  | zero =>
    intro k hd hk _
    rw [List.take_of_length_le (by omega)]
  | succ d ih =>
    intro k hd hk hks
    rw [← ih (k + 1) (by omega) (by omega) (by omega), upS_take S L ks k (by omega), if_neg]
    rw [List.getD_eq_getElem?_getD, List.getElem?_eq_none hks]
    decide
def UpRel (wT : TypeId) (w : World) (g gs : Nat) (lv : Value) (S : List (List UInt8)) (L : List (Nat × List UInt8)) (ks : List UInt8) (f : Int) (dn : Bool) (v : Value) (wr : World) : Prop :=
  ∃ k : Nat, k ≤ L.length ∧ v = .int .i64 k ∧ DiskAt wT wr g gs lv (upS S (L.take k) ks) L f dn ∧ Chg (fun j => j = g ∨ j = gs) w wr
theorem odd8 (b : UInt8) : (((b.toNat : Int) % 2) == 1) = decide (b % 2 = 1) := by
  have hiff : ((b.toNat : Int) % 2 = 1) ↔ (b % 2 = 1) := by
    rw [← UInt8.toNat_inj, UInt8.toNat_mod]
    show _ ↔ b.toNat % 2 = 1
    omega
  by_cases h : b % 2 = 1
  · rw [decide_eq_true h, beq_iff_eq]
    exact hiff.2 h
  · rw [decide_eq_false h, beq_eq_false_iff_ne]
    exact fun hh => h (hiff.1 hh)
set_option maxRecDepth 100000 in
set_option maxHeartbeats 4000000 in
theorem diskUp_calls (w : World) (g gs : Nat) (lv : Value) (S : List (List UInt8)) (L : List (Nat × List UInt8)) (f : Int) (dn : Bool) (AK : Option Addr) (nK cK : Nat) (ks : List UInt8) (hd : DiskAt 91 w g gs lv S L f dn) (hnk : ks.length = nK) (hkr : ∀ w', Chg (fun j => j = g ∨ j = gs) w w' → Rd w' AK (bts ks)) :
    Calls Try.prog 24 #[.pointer (some ⟨g, 0, none⟩), .slice AK nK cK] w fun e w' => e = .returned (.tuple #[]) ∧ DiskAt 91 w' g gs (.slice none 0 0) (upS S L ks) [] (-1) false ∧ Chg (fun j => j = g ∨ j = gs) w w' := by
  subst hnk
  obtain ⟨A, c, rfl, hR, hkc, hc⟩ := own_rd hd.own
  clear hR
  have H := Lib.hid hd
  have HKR := Lib.hid hkr
  clear hkr
  have c1 := hd.dk.cell (j := 1) rfl
  have H0 : Hid (UpRel 91 w g gs (.slice A L.length c) S L ks f dn (.int .i64 0) w) := ⟨0, by omega, rfl, hd, Chg.refl w⟩
  clear hd
  go_enter Try.func24, Try.ntmps24
  go_wp2_with fail
  go_loopw [13] (fun v wr => UpRel 91 w g gs (.slice A L.length c) S L ks f dn v wr) (fun v _ => L.length - (intOf v).toNat)
  case atStart => exact H0.out
  case round =>
    obtain ⟨k, hk, rfl, hdr, hcr⟩ := hrel
    have HD := Lib.hid hdr
    have HC := Lib.hid hcr
    clear hdr hcr H0 c1
    by_cases hlt : k < L.length
    · have hki : (k : Int) < (L.length : Int) := by omega
      obtain ⟨gl, cap, vs, hv, hbl, hll, hpc, _, _⟩ := HD.out.loose k hlt
      injection hv with hA hlx hcx
      subst hA
      clear hlx
      subst hcx
      obtain ⟨p, hpq⟩ : ∃ p, L[k] = p := ⟨_, rfl⟩
      rw [hpq] at hpc
      have hp32 : p.2.length = 32 ∧ p.1 < S.length := by rw [← hpq]; exact H.out.l32 _ (List.getElem_mem hlt)
      have HRO : Hid (∀ u ∈ rowW (p.1 : Int) p.2, u.oneCell' = true) := one_w8 _ _
      have HRL : Hid ((rowW (p.1 : Int) p.2).length = 33) := rowW_length _ _ hp32.1
      have HBL := Lib.hid hbl
      have HLL := Lib.hid hll
      have HPC := Lib.hid hpc
      have HP := Lib.hid hpq
      have HP32 := Lib.hid hp32.1
      have HPL := Lib.hid hp32.2
      have hpi : (p.1 : Int) < (S.length : Int) := by omega
      clear hbl hll hpc hpq hp32
      go_wp2_with (first
        | (refine wpList_ld rfl 91 (.tmp 16) rfl gl (k * 33) 33 vs (rowW (p.1 : Int) p.2) rfl HBL.out (by kernel_rfl) (by kernel_rfl) HLL.out HPC.out ?_)
        | (refine wpList_al rfl 91 rfl (.int .i64 0 :: bts (List.replicate 32 0)) (by kernel_rfl) ?_))
      intro g8 w4 hg hb4 hc4 hs4
      have HD4 := Lib.hid (HD.out.chg hc4 (fun _ _ => id))
      have HC4 : Hid (Chg (fun j => j = g ∨ j = gs) w w4) := HC.out.trans (hc4.mono (fun _ h => h.elim))
      have HG8 : Hid (∀ j, footD g gs (.slice (some ⟨gl, 0, none⟩) L.length c) j → j < g8) := by intro j hj; rw [hg]; exact HD.out.lt j hj
      have HW8 : Hid (w.heap.size ≤ g8) := by show w.heap.size ≤ g8; rw [hg]; exact HC.out.size
      have HX4 := Lib.hid hb4
      clear hg hb4 hc4 hs4
      go_wp2_with (refine wpList_st rfl 91 (.tmp 5) (.tmp 17) rfl g8 0 33 (.int .i64 0 :: bts (List.replicate 32 0)) (rowW (p.1 : Int) p.2) rfl rfl HX4.out (by kernel_rfl) HRL.out (by decide) HRO.out ?_)
      intro w5 hb5 hc5
      rw [splice_whole _ _ (by rw [HRL.out]; rfl)] at hb5
      have HD5 := Lib.hid (HD4.out.chg hc5 (fun j hj he => by have := HG8.out j hj; omega))
      have HC5 : Hid (Chg (fun j => j = g ∨ j = gs) w w5) := HC4.out.then_ hc5 (fun j hj hlt2 => by have := HW8.out; omega)
      have HX5 := Lib.hid hb5
      clear hb5 hc5
      by_cases hkk : k < ks.length
      · have hkki : (k : Int) < (ks.length : Int) := by omega
        have hb6 := HKR.out w5 HC5.out
        obtain ⟨ad, hak, hcell⟩ := hb6.bt k hkk
        subst hak
        clear hb6
        have HKB : Hid (∀ _ : k < ks.length, ks.getD k 0 = ks.getD k 0) := fun _ => rfl
        obtain ⟨b, hb⟩ : ∃ b, ks.getD k 0 = b := ⟨_, rfl⟩
        rw [hb] at hcell
        have HKB2 := Lib.hid hb
        have ho8 := odd8 b
        by_cases hod : b % 2 = 1
        · rw [decide_eq_true hod] at ho8
          have HOD := Lib.hid hod
          clear hb hod HKB
          go_wp2_with fail
          apply wp_region_rel 8 (Chg NoS) [(Veq _), (Veq _), (Veq _), (Veq _), (Veq _), (Veq _), (Veq _), (Veq _)] [[], [0], [1], [2], [], [4], [], [6]] [30, 31, 32, 33, 34, 35, 36, 37] (by kernel_rfl) (by kernel_rfl) rfl rfl rfl Chg.refl (fun _ _ _ => Chg.trans) ⟨Veq.lasts, Veq.lasts, Veq.lasts, Veq.lasts, Veq.lasts, Veq.lasts, Veq.lasts, Veq.lasts, trivial⟩ ?aops ?afin
          case aops =>
            refine ⟨?ao0, ?ao1, ?ao2, ?ao3, ?ao4, ?ao5, ?ao6, ?ao7, trivial⟩
            case ao0 =>
              intro a wx hE hin
              have i0 : a.eval (.tmp 0) = .pointer (some ⟨g, 0, none⟩) := hin 0 rfl
              clear hin
              have hcst : ∀ v, a.eval (.const v) = v := fun _ => rfl
              have hfnc : ∀ f, a.eval (.func f) = .func (.func f) #[] #[] := fun _ => rfl
              refine want_none rfl ?_
              unfold Oper.wp
              generalize a.eval = ρ at *
              go_simp
              try go_bits
              first | exact rel_val (Chg.refl _) | (go_simp; exact rel_val (Chg.refl _))
            case ao1 =>
              rintro a wx hE hin (h0 : a.eval (.tmp 30) = _)
              clear hin
              have hcst : ∀ v, a.eval (.const v) = v := fun _ => rfl
              have hfnc : ∀ f, a.eval (.func f) = .func (.func f) #[] #[] := fun _ => rfl
              refine want_none rfl ?_
              unfold Oper.wp
              generalize a.eval = ρ at *
              go_simp
              try go_bits
              first | exact rel_val (Chg.refl _) | (go_simp; exact rel_val (Chg.refl _))
            case ao2 =>
              rintro a wx hE hin (h1 : a.eval (.tmp 31) = _)
              clear hin
              have hcst : ∀ v, a.eval (.const v) = v := fun _ => rfl
              have hfnc : ∀ f, a.eval (.func f) = .func (.func f) #[] #[] := fun _ => rfl
              refine want_none rfl ?_
              unfold Oper.wp
              generalize a.eval = ρ at *
              go_simp
              try go_bits
              first | exact rel_val (Chg.refl _) | (go_simp; exact rel_val (Chg.refl _))
            case ao3 =>
              rintro a wx hE hin (h2 : a.eval (.tmp 32) = _)
              clear hin
              have hcst : ∀ v, a.eval (.const v) = v := fun _ => rfl
              have hfnc : ∀ f, a.eval (.func f) = .func (.func f) #[] #[] := fun _ => rfl
              refine want_none rfl ?_
              unfold Oper.wp
              generalize a.eval = ρ at *
              have c := Bk.cell (j := 0) (HD5.out.drew.chg hE (fun _ _ => id)).dk rfl
              rw [upS_length] at c
              go_simp
              try go_bits
              first | exact rel_val (Chg.refl _) | (go_simp; exact rel_val (Chg.refl _))
            case ao4 =>
              intro a wx hE hin
              have i5 : a.eval (.tmp 5) = .pointer (some ⟨g8, 0, none⟩) := hin 5 rfl
              clear hin
              have hcst : ∀ v, a.eval (.const v) = v := fun _ => rfl
              have hfnc : ∀ f, a.eval (.func f) = .func (.func f) #[] #[] := fun _ => rfl
              refine want_none rfl ?_
              unfold Oper.wp
              generalize a.eval = ρ at *
              go_simp
              try go_bits
              first | exact rel_val (Chg.refl _) | (go_simp; exact rel_val (Chg.refl _))
            case ao5 =>
              rintro a wx hE hin (h4 : a.eval (.tmp 34) = _)
              clear hin
              have hcst : ∀ v, a.eval (.const v) = v := fun _ => rfl
              have hfnc : ∀ f, a.eval (.func f) = .func (.func f) #[] #[] := fun _ => rfl
              refine want_none rfl ?_
              unfold Oper.wp
              generalize a.eval = ρ at *
              have c := Bk.cell (j := 0) (Bk.chg HX5.out.drew hE id) rfl
              go_simp
              try go_bits
              first | exact rel_val (Chg.refl _) | (go_simp; exact rel_val (Chg.refl _))
            case ao6 =>
              intro a wx hE hin
              have i5 : a.eval (.tmp 5) = .pointer (some ⟨g8, 0, none⟩) := hin 5 rfl
              clear hin
              have hcst : ∀ v, a.eval (.const v) = v := fun _ => rfl
              have hfnc : ∀ f, a.eval (.func f) = .func (.func f) #[] #[] := fun _ => rfl
              refine want_none rfl ?_
              unfold Oper.wp
              generalize a.eval = ρ at *
              go_simp
              try go_bits
              first | exact rel_val (Chg.refl _) | (go_simp; exact rel_val (Chg.refl _))
            case ao7 =>
              rintro a wx hE hin (h6 : a.eval (.tmp 36) = _)
              clear hin
              have hcst : ∀ v, a.eval (.const v) = v := fun _ => rfl
              have hfnc : ∀ f, a.eval (.func f) = .func (.func f) #[] #[] := fun _ => rfl
              refine want_none rfl ?_
              exact wp_ld 37 _ rfl g8 1 32 (rowW (p.1 : Int) p.2) (bts p.2) h6 (Bk.chg HX5.out.drew hE id) (by kernel_rfl) (by kernel_rfl) (by rw [HRL.out]; decide) (by rw [rowW, List.drop_succ_cons, List.drop_zero, List.take_of_length_le (by rw [bts_length, HP32.out]; decide)]) (rel_val (Chg.refl _))
          case afin =>
            intro wx hE
            rintro _ rfl _ rfl _ rfl _ rfl _ rfl _ rfl _ rfl _ rfl
            simp only [FinOk, List.take_succ_cons, List.take_zero, List.take_nil, List.drop_succ_cons, List.drop_zero, List.drop_nil, Act.put, List.setIfInBounds_toArray, List.set_cons_succ, List.set_cons_zero]
            have HD6 := Lib.hid (HD5.out.drew.chg hE (fun _ _ => id))
            have HC6 : Hid (Chg (fun j => j = g ∨ j = gs) w wx) := HC5.out.trans (hE.undrew.mono (fun _ h => h.elim))
            clear hE
            go_wp2_with (refine wpList_st rfl 37 (.tmp 38) (.tmp 37) rfl gs (p.1 * 32) 32 (secs (upS S (L.take k) ks)) (bts p.2) rfl rfl HD6.out.sb (by kernel_rfl) (by rw [bts_length, HP32.out]) (by have := HD6.out.secs_len; rw [upS_length] at this; have := HPL.out; omega) (one_bts _) ?_)
            intro w7 hb7 hc7
            have hd7 := HD6.out.put p.1 p.2 (by rw [upS_length]; exact HPL.out) HP32.out hc7 hb7
            have HC7 : Hid (Chg (fun j => j = g ∨ j = gs) w w7) := HC6.out.trans (hc7.mono (fun _ h => .inr h))
            have HD7 := Lib.hid hd7
            clear hb7 hc7 hd7
            go_wp2_with fail
            go_roundw
            case rel => exact ⟨k + 1, by omega, by go_num, by rw [upS_take S L ks k hlt, HP.out, HKB2.out, if_pos HOD.out]; exact HD7.out, HC7.out⟩
            case measure => simp [intOf]; omega
        · rw [decide_eq_false hod] at ho8
          have HOD := Lib.hid hod
          clear hb hod HKB
          go_wp2_with fail
          go_roundw
          case rel => exact ⟨k + 1, by omega, by go_num, by rw [upS_take S L ks k hlt, HKB2.out, if_neg HOD.out]; exact HD5.out, HC5.out⟩
          case measure => simp [intOf]; omega
      · have hkki : ¬ ((k : Int) < (ks.length : Int)) := by omega
        have hno : ¬ (ks.getD k 0 % 2 = 1) := by
          rw [List.getD_eq_getElem?_getD, List.getElem?_eq_none (by omega)]
          decide
        have HNO := Lib.hid hno
        clear hno
        go_wp2_with fail
        go_roundw
        case rel => exact ⟨k + 1, by omega, by go_num, by rw [upS_take S L ks k hlt, if_neg HNO.out]; exact HD5.out, HC5.out⟩
        case measure => simp [intOf]; omega
    · have hke : k = L.length := by omega
      have hki : ¬ ((k : Int) < (L.length : Int)) := by omega
      subst hke
      have hx := HD.out
      rw [List.take_length] at hx
      have hdk := hx.dk
      rw [upS_length] at hdk
      have HX := Lib.hid hx
      have HK := Lib.hid hdk
      clear hx hdk
      go_wp2_with (refine wpList_st rfl 86 (.tmp 44) _ rfl g 1 1 [.slice (some ⟨gs, 0, none⟩) S.length S.length, .slice A L.length c, .int .i64 f, .bool dn] [.slice none 0 0] rfl rfl HK.out (by kernel_rfl) rfl (by simp) (fun u hu => by obtain rfl := List.mem_singleton.1 hu; rfl) ?_)
      intro w4 hb4 hc4
      have hb4' : Bk w4 g [.slice (some ⟨gs, 0, none⟩) S.length S.length, .slice none 0 0, .int .i64 f, .bool dn] := hb4
      have HB4 := Lib.hid hb4'
      have HC4 := Lib.hid hc4
      clear hb4 hb4' hc4
      go_wp2_with (refine wpList_st rfl 3 (.tmp 46) _ rfl g 2 1 [.slice (some ⟨gs, 0, none⟩) S.length S.length, .slice none 0 0, .int .i64 f, .bool dn] [.int .i64 (-1)] rfl rfl HB4.out (by kernel_rfl) rfl (by simp) (one_i _) ?_)
      intro w5 hb5 hc5
      have hb5' : Bk w5 g [.slice (some ⟨gs, 0, none⟩) S.length S.length, .slice none 0 0, .int .i64 (-1), .bool dn] := hb5
      have HB5 := Lib.hid hb5'
      have HC5 := Lib.hid (HC4.out.trans hc5)
      clear hb5 hb5' hc5
      go_wp2_with (refine wpList_st rfl 4 (.tmp 48) _ rfl g 3 1 [.slice (some ⟨gs, 0, none⟩) S.length S.length, .slice none 0 0, .int .i64 (-1), .bool dn] [.bool false] rfl rfl HB5.out (by kernel_rfl) rfl (by simp) (one_b _) ?_)
      intro w6 hb6 hc6
      have hb6' : Bk w6 g [.slice (some ⟨gs, 0, none⟩) S.length S.length, .slice none 0 0, .int .i64 (-1), .bool false] := hb6
      have hc7 := HC5.out.trans hc6
      have hd7 : DiskAt 91 w6 g gs (.slice none 0 0) (upS S L ks) [] (-1) false := HX.out.empty hc7 (by rw [upS_length]; exact hb6')
      have HD7 := Lib.hid hd7
      have HC7 : Hid (Chg (fun j => j = g ∨ j = gs) w w6) := HC.out.trans (hc7.mono (fun _ h => .inl h))
      clear hb6 hb6' hc6 hc7 hd7
      go_wp2
      exact bodyPost_end (results_none rfl _ _) rfl ⟨rfl, HD7.out, HC7.out⟩
end Go.Proofs.Ytnpcehlbboeadaa
