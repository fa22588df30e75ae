/- The walk of disk.Flush. -/
import Derived.Test.YtnpcehlbboeadaaDiskRead
namespace Go.Proofs.Ytnpcehlbboeadaa
open Go.RowKit
set_option linter.unusedVariables false
set_option linter.unusedSimpArgs false

theorem passE_no (f : Int) (dn : Bool) (h : passD f dn = true) : passE f dn = 20 := by
  unfold passE passD at *
  rw [if_pos]
  simpa using h
theorem passE_yes (f : Int) (dn : Bool) (h : passD f dn = false) : passE f dn = 0 := by
  unfold passE passD at *
  cases dn <;> simp_all
set_option maxRecDepth 100000 in
set_option maxHeartbeats 2000000 in
theorem diskFlush_no (w : World) (g gs : Nat) (lv : Value) (S : List (List UInt8)) (L : List (Nat × List UInt8)) (f : Int) (dn : Bool) (hd : DiskAt 91 w g gs lv S L f dn) (hp : passD f dn = true) (hf : -1 ≤ f) (hf2 : f ≤ 9223372036854775807) :
    Calls Try.prog 22 #[.pointer (some ⟨g, 0, none⟩)] w fun e w' => e = .returned (.int .i64 20) ∧ DiskAt 91 w' g gs lv S L (passF f dn) true ∧ Chg (· = g) w w' := by
  obtain ⟨A, c, rfl, hR, hkc, hc⟩ := own_rd hd.own
  clear hR
  have H := Lib.hid hd
  clear hd
  go_enter Try.func22, Try.ntmps22
  go_wp2_with fail
  refine (diskPass_calls w g _ _ f dn H.out.dk rfl rfl hf hf2).mono ?_
  rintro e w2 ⟨rfl, hd2, hc2⟩
  rw [passE_no f dn hp]
  rw [hp] at hd2
  have HD2 := Lib.hid (H.out.redk hc2 hd2)
  have HC2 := Lib.hid hc2
  clear hd2 hc2
  go_wp2
  go_ret
  exact ⟨rfl, HD2.out, HC2.out⟩
def FlushRel (wT : TypeId) (w : World) (g gs : Nat) (lv : Value) (S : List (List UInt8)) (L : List (Nat × List UInt8)) (f : Int) (v : Value) (wr : World) : Prop :=
  ∃ k : Nat, k ≤ L.length ∧ v = .int .i64 k ∧ DiskAt wT wr g gs lv (doneS S (L.take k)) L f false ∧ Chg (fun j => j = g ∨ j = gs) w wr
set_option maxRecDepth 100000 in
set_option maxHeartbeats 4000000 in
theorem diskFlush_yes (w : World) (g gs : Nat) (lv : Value) (S : List (List UInt8)) (L : List (Nat × List UInt8)) (f : Int) (dn : Bool) (hd : DiskAt 91 w g gs lv S L f dn) (hp : passD f dn = false) (hf : -1 ≤ f) (hf2 : f ≤ 9223372036854775807) :
    Calls Try.prog 22 #[.pointer (some ⟨g, 0, none⟩)] w fun e w' => e = .returned (.int .i64 0) ∧ DiskAt 91 w' g gs (.slice none 0 0) (doneS S L) [] (passF f dn) false ∧ Chg (fun j => j = g ∨ j = gs) w w' := by
  obtain ⟨A, c, rfl, hR, hkc, hc⟩ := own_rd hd.own
  clear hR
  have H := Lib.hid hd
  clear hd
  go_enter Try.func22, Try.ntmps22
  go_wp2_with fail
  refine (diskPass_calls w g _ _ f dn H.out.dk rfl rfl hf hf2).mono ?_
  rintro e w2 ⟨rfl, hd2, hc2⟩
  rw [passE_yes f dn hp]
  rw [hp] at hd2
  have hd3 := H.out.redk hc2 hd2
  have c1 := hd3.dk.cell (j := 1) rfl
  have H0 : Hid (FlushRel 91 w g gs (.slice A L.length c) S L (passF f dn) (.int .i64 0) w2) := ⟨0, by omega, rfl, hd3, hc2.mono (fun _ h => .inl h)⟩
  clear hd2 hc2 hd3
  go_wp2_with fail
  go_loopw [18] (fun v wr => FlushRel 91 w g gs (.slice A L.length c) S L (passF f dn) v wr) (fun v _ => L.length - (intOf v).toNat)
  case atStart => exact H0.out
  case round =>
    obtain ⟨k, hk, rfl, hdr, hcr⟩ := hrel
    have HD := Lib.hid hdr
    have HC := Lib.hid hcr
    clear hdr hcr H0 c1
    by_cases hlt : k < L.length
    · have hki : (k : Int) < (L.length : Int) := by omega
      obtain ⟨gl, cap, vs, hv, hbl, hll, hpc, _, _⟩ := HD.out.loose k hlt
      injection hv with hA hlx hcx
      subst hA
      clear hlx
      subst hcx
      obtain ⟨p, hpq⟩ : ∃ p, L[k] = p := ⟨_, rfl⟩
      rw [hpq] at hpc
      have hp32 : p.2.length = 32 ∧ p.1 < S.length := by rw [← hpq]; exact H.out.l32 _ (List.getElem_mem hlt)
      have HRO : Hid (∀ u ∈ rowW (p.1 : Int) p.2, u.oneCell' = true) := one_w8 _ _
      have HRL : Hid ((rowW (p.1 : Int) p.2).length = 33) := rowW_length _ _ hp32.1
      have HBL := Lib.hid hbl
      have HLL := Lib.hid hll
      have HPC := Lib.hid hpc
      have HP := Lib.hid hpq
      have HP32 := Lib.hid hp32.1
      have HPL := Lib.hid hp32.2
      have hpi : (p.1 : Int) < (S.length : Int) := by omega
      clear hbl hll hpc hpq hp32
      go_wp2_with (first
        | (refine wpList_ld rfl 91 (.tmp 20) rfl gl (k * 33) 33 vs (rowW (p.1 : Int) p.2) rfl HBL.out (by kernel_rfl) (by kernel_rfl) HLL.out HPC.out ?_)
        | (refine wpList_al rfl 91 rfl (.int .i64 0 :: bts (List.replicate 32 0)) (by kernel_rfl) ?_))
      intro g8 w4 hg hb4 hc4 hs4
      have HD4 := Lib.hid (HD.out.chg hc4 (fun _ _ => id))
      have HC4 : Hid (Chg (fun j => j = g ∨ j = gs) w w4) := HC.out.trans (hc4.mono (fun _ h => h.elim))
      have HG8 : Hid (∀ j, footD g gs (.slice (some ⟨gl, 0, none⟩) L.length c) j → j < g8) := by intro j hj; rw [hg]; exact HD.out.lt j hj
      have HW8 : Hid (w.heap.size ≤ g8) := by show w.heap.size ≤ g8; rw [hg]; exact HC.out.size
      have HX4 := Lib.hid hb4
      clear hg hb4 hc4 hs4
      go_wp2_with (refine wpList_st rfl 91 (.tmp 5) (.tmp 21) rfl g8 0 33 (.int .i64 0 :: bts (List.replicate 32 0)) (rowW (p.1 : Int) p.2) rfl rfl HX4.out (by kernel_rfl) HRL.out (by decide) HRO.out ?_)
      intro w5 hb5 hc5
      rw [splice_whole _ _ (by rw [HRL.out]; rfl)] at hb5
      have HD5 := Lib.hid (HD4.out.chg hc5 (fun j hj he => by have := HG8.out j hj; omega))
      have HC5 : Hid (Chg (fun j => j = g ∨ j = gs) w w5) := HC4.out.then_ hc5 (fun j hj hlt2 => by have := HW8.out; omega)
      have HX5 := Lib.hid hb5
      clear hb5 hc5
      go_wp2_with fail
      apply wp_region_rel 8 (Chg NoS) [(Veq _), (Veq _), (Veq _), (Veq _), (Veq _), (Veq _), (Veq _), (Veq _)] [[], [0], [1], [2], [], [4], [], [6]] [22, 23, 24, 25, 26, 27, 28, 29] (by kernel_rfl) (by kernel_rfl) rfl rfl rfl Chg.refl (fun _ _ _ => Chg.trans) ⟨Veq.lasts, Veq.lasts, Veq.lasts, Veq.lasts, Veq.lasts, Veq.lasts, Veq.lasts, Veq.lasts, trivial⟩ ?aops ?afin
      case aops =>
        refine ⟨?ao0, ?ao1, ?ao2, ?ao3, ?ao4, ?ao5, ?ao6, ?ao7, trivial⟩
        case ao0 =>
          intro a wx hE hin
          have i0 : a.eval (.tmp 0) = .pointer (some ⟨g, 0, none⟩) := hin 0 rfl
          clear hin
          have hcst : ∀ v, a.eval (.const v) = v := fun _ => rfl
          have hfnc : ∀ f, a.eval (.func f) = .func (.func f) #[] #[] := fun _ => rfl
          refine want_none rfl ?_
          unfold Oper.wp
          generalize a.eval = ρ at *
          go_simp
          try go_bits
          first | exact rel_val (Chg.refl _) | (go_simp; exact rel_val (Chg.refl _))
        case ao1 =>
          rintro a wx hE hin (h0 : a.eval (.tmp 22) = _)
          clear hin
          have hcst : ∀ v, a.eval (.const v) = v := fun _ => rfl
          have hfnc : ∀ f, a.eval (.func f) = .func (.func f) #[] #[] := fun _ => rfl
          refine want_none rfl ?_
          unfold Oper.wp
          generalize a.eval = ρ at *
          go_simp
          try go_bits
          first | exact rel_val (Chg.refl _) | (go_simp; exact rel_val (Chg.refl _))
        case ao2 =>
          rintro a wx hE hin (h1 : a.eval (.tmp 23) = _)
          clear hin
          have hcst : ∀ v, a.eval (.const v) = v := fun _ => rfl
          have hfnc : ∀ f, a.eval (.func f) = .func (.func f) #[] #[] := fun _ => rfl
          refine want_none rfl ?_
          unfold Oper.wp
          generalize a.eval = ρ at *
          go_simp
          try go_bits
          first | exact rel_val (Chg.refl _) | (go_simp; exact rel_val (Chg.refl _))
        case ao3 =>
          rintro a wx hE hin (h2 : a.eval (.tmp 24) = _)
          clear hin
          have hcst : ∀ v, a.eval (.const v) = v := fun _ => rfl
          have hfnc : ∀ f, a.eval (.func f) = .func (.func f) #[] #[] := fun _ => rfl
          refine want_none rfl ?_
          unfold Oper.wp
          generalize a.eval = ρ at *
          have c := Bk.cell (j := 0) (HD5.out.drew.chg hE (fun _ _ => id)).dk rfl
          rw [doneS_length] at c
          go_simp
          try go_bits
          first | exact rel_val (Chg.refl _) | (go_simp; exact rel_val (Chg.refl _))
        case ao4 =>
          intro a wx hE hin
          have i5 : a.eval (.tmp 5) = .pointer (some ⟨g8, 0, none⟩) := hin 5 rfl
          clear hin
          have hcst : ∀ v, a.eval (.const v) = v := fun _ => rfl
          have hfnc : ∀ f, a.eval (.func f) = .func (.func f) #[] #[] := fun _ => rfl
          refine want_none rfl ?_
          unfold Oper.wp
          generalize a.eval = ρ at *
          go_simp
          try go_bits
          first | exact rel_val (Chg.refl _) | (go_simp; exact rel_val (Chg.refl _))
        case ao5 =>
          rintro a wx hE hin (h4 : a.eval (.tmp 26) = _)
          clear hin
          have hcst : ∀ v, a.eval (.const v) = v := fun _ => rfl
          have hfnc : ∀ f, a.eval (.func f) = .func (.func f) #[] #[] := fun _ => rfl
          refine want_none rfl ?_
          unfold Oper.wp
          generalize a.eval = ρ at *
          have c := Bk.cell (j := 0) (Bk.chg HX5.out.drew hE id) rfl
          go_simp
          try go_bits
          first | exact rel_val (Chg.refl _) | (go_simp; exact rel_val (Chg.refl _))
        case ao6 =>
          intro a wx hE hin
          have i5 : a.eval (.tmp 5) = .pointer (some ⟨g8, 0, none⟩) := hin 5 rfl
          clear hin
          have hcst : ∀ v, a.eval (.const v) = v := fun _ => rfl
          have hfnc : ∀ f, a.eval (.func f) = .func (.func f) #[] #[] := fun _ => rfl
          refine want_none rfl ?_
          unfold Oper.wp
          generalize a.eval = ρ at *
          go_simp
          try go_bits
          first | exact rel_val (Chg.refl _) | (go_simp; exact rel_val (Chg.refl _))
        case ao7 =>
          rintro a wx hE hin (h6 : a.eval (.tmp 28) = _)
          clear hin
          have hcst : ∀ v, a.eval (.const v) = v := fun _ => rfl
          have hfnc : ∀ f, a.eval (.func f) = .func (.func f) #[] #[] := fun _ => rfl
          refine want_none rfl ?_
          exact wp_ld 37 _ rfl g8 1 32 (rowW (p.1 : Int) p.2) (bts p.2) h6 (Bk.chg HX5.out.drew hE id) (by kernel_rfl) (by kernel_rfl) (by rw [HRL.out]; decide) (by rw [rowW, List.drop_succ_cons, List.drop_zero, List.take_of_length_le (by rw [bts_length, HP32.out]; decide)]) (rel_val (Chg.refl _))
      case afin =>
        intro wx hE
        rintro _ rfl _ rfl _ rfl _ rfl _ rfl _ rfl _ rfl _ rfl
        simp only [FinOk, List.take_succ_cons, List.take_zero, List.take_nil, List.drop_succ_cons, List.drop_zero, List.drop_nil, Act.put, List.setIfInBounds_toArray, List.set_cons_succ, List.set_cons_zero]
        have HD6 := Lib.hid (HD5.out.drew.chg hE (fun _ _ => id))
        have HC6 : Hid (Chg (fun j => j = g ∨ j = gs) w wx) := HC5.out.trans (hE.undrew.mono (fun _ h => h.elim))
        clear hE
        go_wp2_with (refine wpList_st rfl 37 (.tmp 30) (.tmp 29) rfl gs (p.1 * 32) 32 (secs (doneS S (L.take k))) (bts p.2) rfl rfl HD6.out.sb (by kernel_rfl) (by rw [bts_length, HP32.out]) (by have := HD6.out.secs_len; rw [doneS_length] at this; have := HPL.out; omega) (one_bts _) ?_)
        intro w7 hb7 hc7
        have hd7 := HD6.out.put p.1 p.2 (by rw [doneS_length]; exact HPL.out) HP32.out hc7 hb7
        have HC7 : Hid (Chg (fun j => j = g ∨ j = gs) w w7) := HC6.out.trans (hc7.mono (fun _ h => .inr h))
        have HD7 := Lib.hid hd7
        clear hb7 hc7 hd7
        go_wp2_with fail
        go_roundw
        case rel => exact ⟨k + 1, by omega, by go_num, by rw [doneS_take S L k hlt, HP.out]; exact HD7.out, HC7.out⟩
        case measure => simp [intOf]; omega
    · have hke : k = L.length := by omega
      have hki : ¬ ((k : Int) < (L.length : Int)) := by omega
      subst hke
      have hx := HD.out
      rw [List.take_length] at hx
      have hdk := hx.dk
      rw [doneS_length] at hdk
      have HX := Lib.hid hx
      have HK := Lib.hid hdk
      clear hx hdk
      go_wp2_with (refine wpList_st rfl 86 (.tmp 34) _ rfl g 1 1 [.slice (some ⟨gs, 0, none⟩) S.length S.length, .slice A L.length c, .int .i64 (passF f dn), .bool false] [.slice none 0 0] rfl rfl HK.out (by kernel_rfl) rfl (by simp) (fun u hu => by obtain rfl := List.mem_singleton.1 hu; rfl) ?_)
      intro w4 hb4 hc4
      have hd5 : DiskAt 91 w4 g gs (.slice none 0 0) (doneS S L) [] (passF f dn) false := HX.out.empty hc4 (by rw [doneS_length]; exact hb4)
      have HD5 := Lib.hid hd5
      have HC5 : Hid (Chg (fun j => j = g ∨ j = gs) w w4) := HC.out.trans (hc4.mono (fun _ h => .inl h))
      clear hb4 hc4 hd5
      go_wp2
      go_ret
      exact ⟨rfl, HD5.out, HC5.out⟩
end Go.Proofs.Ytnpcehlbboeadaa
