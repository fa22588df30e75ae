/- The walk of the reference's Flush. -/
import Derived.Test.YtnpcehlbboeadaaDiskFlush
import Derived.Test.YtnpcehlbboeadaaDiskReadR
namespace Go.Proofs.Ytnpcehlbboeadaa
open Go.RowKit
set_option linter.unusedVariables false
set_option linter.unusedSimpArgs false

set_option maxRecDepth 100000 in
set_option maxHeartbeats 2000000 in
theorem refFlush_no (w : World) (g gs : Nat) (lv : Value) (S : List (List UInt8)) (L : List (Nat × List UInt8)) (f : Int) (dn : Bool) (hd : DiskAt 93 w g gs lv S L f dn) (hp : passD f dn = true) (hf : -9223372036854775808 ≤ f) (hf2 : f ≤ 9223372036854775807) :
    Calls Try.prog 23 #[.pointer (some ⟨g, 0, none⟩)] w fun e w' => e = .returned (.int .i64 20) ∧ DiskAt 93 w' g gs lv S L (passF f dn) true ∧ Chg (· = g) w w' := by
  obtain ⟨A, c, rfl, hR, hkc, hc⟩ := own_rd hd.own
  clear hR
  have H := Lib.hid hd
  clear hd
  go_enter Try.func23, Try.ntmps23
  go_wp2_with fail
  refine (refThrough_calls w g _ _ f dn H.out.dk hf hf2).mono ?_
  rintro e w2 ⟨rfl, hd2, hc2⟩
  rw [hp] at hd2 ⊢
  have HD2 := Lib.hid (H.out.redk hc2 hd2)
  have HC2 := Lib.hid hc2
  clear hd2 hc2
  go_wp2
  go_ret
  exact ⟨rfl, HD2.out, HC2.out⟩
set_option maxRecDepth 100000 in
set_option maxHeartbeats 4000000 in
theorem refFlush_yes (w : World) (g gs : Nat) (lv : Value) (S : List (List UInt8)) (L : List (Nat × List UInt8)) (f : Int) (dn : Bool) (hd : DiskAt 93 w g gs lv S L f dn) (hp : passD f dn = false) (hf : -9223372036854775808 ≤ f) (hf2 : f ≤ 9223372036854775807) :
    Calls Try.prog 23 #[.pointer (some ⟨g, 0, none⟩)] w fun e w' => e = .returned (.int .i64 0) ∧ DiskAt 93 w' g gs (.slice none 0 0) (doneS S L) [] (passF f dn) false ∧ Chg (fun j => j = g ∨ j = gs) w w' := by
  obtain ⟨A, c, rfl, hR, hkc, hc⟩ := own_rd hd.own
  clear hR
  have H := Lib.hid hd
  clear hd
  go_enter Try.func23, Try.ntmps23
  go_wp2_with fail
  refine (refThrough_calls w g _ _ f dn H.out.dk hf hf2).mono ?_
  rintro e w2 ⟨rfl, hd2, hc2⟩
  rw [hp] at hd2 ⊢
  have hd3 := H.out.redk hc2 hd2
  have H0 : Hid (FlushRel 93 w g gs (.slice A L.length c) S L (passF f dn) (.int .i64 0) w2) := ⟨0, by omega, rfl, hd3, hc2.mono (fun _ h => .inl h)⟩
  clear hd2 hc2 hd3
  go_wp2_with fail
  go_loopw [3] (fun v wr => FlushRel 93 w g gs (.slice A L.length c) S L (passF f dn) v wr) (fun v _ => L.length - (intOf v).toNat)
  case atStart => exact H0.out
  case round =>
    obtain ⟨k, hk, rfl, hdr, hcr⟩ := hrel
    have HD := Lib.hid hdr
    have HC := Lib.hid hcr
    clear hdr hcr H0
    have c1 := Bk.cell (j := 1) HD.out.dk rfl
    by_cases hlt : k < L.length
    · have hki : (k : Int) < (L.length : Int) := by omega
      obtain ⟨gl, cap, vs, hv, hbl, hll, hpc, _, _⟩ := HD.out.loose k hlt
      injection hv with hA hlx hcx
      subst hA
      clear hlx
      subst hcx
      obtain ⟨p, hpq⟩ : ∃ p, L[k] = p := ⟨_, rfl⟩
      rw [hpq] at hpc
      have hp32 : p.2.length = 32 ∧ p.1 < S.length := by rw [← hpq]; exact H.out.l32 _ (List.getElem_mem hlt)
      obtain ⟨hpa, hpb⟩ := piece_parts hp32.1 hpc
      have HBL := Lib.hid hbl
      have HLL := Lib.hid hll
      have HPA := Lib.hid hpa
      have HPC := Lib.hid hpb
      have HP := Lib.hid hpq
      have HP32 := Lib.hid hp32.1
      have HPL := Lib.hid hp32.2
      have hpi : (p.1 : Int) < (S.length : Int) := by omega
      clear hbl hll hpc hpq hp32 hpa hpb
      go_wp2_with fail
      apply wp_region_rel 20 (Chg NoS) [(Veq _), (Veq _), (Veq _), (Veq _), (Veq _), (Veq _), (Veq _), (Veq _), (Veq _), (Veq _), (Veq _), (Veq _), (Veq _), (Veq _), (Veq _), (Veq _), (Veq _), (Veq _), (Veq _), (Veq _)] [[], [0], [1], [2], [], [4], [5], [6], [], [7, 8], [9], [10], [], [12], [13], [14], [], [15, 16], [17], [18]] [16, 17, 18, 19, 20, 21, 22, 23, 24, 25, 26, 27, 28, 29, 30, 31, 32, 33, 34, 35] (by kernel_rfl) (by kernel_rfl) rfl rfl rfl Chg.refl (fun _ _ _ => Chg.trans) ⟨Veq.lasts, Veq.lasts, Veq.lasts, Veq.lasts, Veq.lasts, Veq.lasts, Veq.lasts, Veq.lasts, Veq.lasts, Veq.lasts, Veq.lasts, Veq.lasts, Veq.lasts, Veq.lasts, Veq.lasts, Veq.lasts, Veq.lasts, Veq.lasts, Veq.lasts, Veq.lasts, trivial⟩ ?aops ?afin
      case aops =>
        refine ⟨?ao0, ?ao1, ?ao2, ?ao3, ?ao4, ?ao5, ?ao6, ?ao7, ?ao8, ?ao9, ?ao10, ?ao11, ?ao12, ?ao13, ?ao14, ?ao15, ?ao16, ?ao17, ?ao18, ?ao19, trivial⟩
        case ao0 =>
          intro a wx hE hin
          have i0 : a.eval (.tmp 0) = .pointer (some ⟨g, 0, none⟩) := hin 0 rfl
          clear hin
          have hcst : ∀ v, a.eval (.const v) = v := fun _ => rfl
          have hfnc : ∀ f, a.eval (.func f) = .func (.func f) #[] #[] := fun _ => rfl
          refine want_none rfl ?_
          unfold Oper.wp
          generalize a.eval = ρ at *
          go_simp
          try go_bits
          first | exact rel_val (Chg.refl _) | (go_simp; exact rel_val (Chg.refl _))
        case ao1 =>
          rintro a wx hE hin (h0 : a.eval (.tmp 16) = _)
          clear hin
          have hcst : ∀ v, a.eval (.const v) = v := fun _ => rfl
          have hfnc : ∀ f, a.eval (.func f) = .func (.func f) #[] #[] := fun _ => rfl
          refine want_none rfl ?_
          unfold Oper.wp
          generalize a.eval = ρ at *
          go_simp
          try go_bits
          first | exact rel_val (Chg.refl _) | (go_simp; exact rel_val (Chg.refl _))
        case ao2 =>
          rintro a wx hE hin (h1 : a.eval (.tmp 17) = _)
          clear hin
          have hcst : ∀ v, a.eval (.const v) = v := fun _ => rfl
          have hfnc : ∀ f, a.eval (.func f) = .func (.func f) #[] #[] := fun _ => rfl
          refine want_none rfl ?_
          unfold Oper.wp
          generalize a.eval = ρ at *
          go_simp
          try go_bits
          first | exact rel_val (Chg.refl _) | (go_simp; exact rel_val (Chg.refl _))
        case ao3 =>
          rintro a wx hE hin (h2 : a.eval (.tmp 18) = _)
          clear hin
          have hcst : ∀ v, a.eval (.const v) = v := fun _ => rfl
          have hfnc : ∀ f, a.eval (.func f) = .func (.func f) #[] #[] := fun _ => rfl
          refine want_none rfl ?_
          unfold Oper.wp
          generalize a.eval = ρ at *
          have c := Bk.cell (j := 0) (HD.out.drew.chg hE (fun _ _ => id)).dk rfl
          rw [doneS_length] at c
          go_simp
          try go_bits
          first | exact rel_val (Chg.refl _) | (go_simp; exact rel_val (Chg.refl _))
        case ao4 =>
          intro a wx hE hin
          have i0 : a.eval (.tmp 0) = .pointer (some ⟨g, 0, none⟩) := hin 0 rfl
          clear hin
          have hcst : ∀ v, a.eval (.const v) = v := fun _ => rfl
          have hfnc : ∀ f, a.eval (.func f) = .func (.func f) #[] #[] := fun _ => rfl
          refine want_none rfl ?_
          unfold Oper.wp
          generalize a.eval = ρ at *
          go_simp
          try go_bits
          first | exact rel_val (Chg.refl _) | (go_simp; exact rel_val (Chg.refl _))
        case ao5 =>
          rintro a wx hE hin (h4 : a.eval (.tmp 20) = _)
          clear hin
          have hcst : ∀ v, a.eval (.const v) = v := fun _ => rfl
          have hfnc : ∀ f, a.eval (.func f) = .func (.func f) #[] #[] := fun _ => rfl
          refine want_none rfl ?_
          unfold Oper.wp
          generalize a.eval = ρ at *
          go_simp
          try go_bits
          first | exact rel_val (Chg.refl _) | (go_simp; exact rel_val (Chg.refl _))
        case ao6 =>
          rintro a wx hE hin (h5 : a.eval (.tmp 21) = _)
          clear hin
          have hcst : ∀ v, a.eval (.const v) = v := fun _ => rfl
          have hfnc : ∀ f, a.eval (.func f) = .func (.func f) #[] #[] := fun _ => rfl
          refine want_none rfl ?_
          unfold Oper.wp
          generalize a.eval = ρ at *
          go_simp
          try go_bits
          first | exact rel_val (Chg.refl _) | (go_simp; exact rel_val (Chg.refl _))
        case ao7 =>
          rintro a wx hE hin (h6 : a.eval (.tmp 22) = _)
          clear hin
          have hcst : ∀ v, a.eval (.const v) = v := fun _ => rfl
          have hfnc : ∀ f, a.eval (.func f) = .func (.func f) #[] #[] := fun _ => rfl
          refine want_none rfl ?_
          unfold Oper.wp
          generalize a.eval = ρ at *
          have c := Bk.cell (j := 1) (HD.out.drew.chg hE (fun _ _ => id)).dk rfl
          go_simp
          try go_bits
          first | exact rel_val (Chg.refl _) | (go_simp; exact rel_val (Chg.refl _))
        case ao8 =>
          intro a wx hE hin
          have i3 : a.eval (.tmp 3) = .int .i64 k := hin 3 rfl
          clear hin
          have hcst : ∀ v, a.eval (.const v) = v := fun _ => rfl
          have hfnc : ∀ f, a.eval (.func f) = .func (.func f) #[] #[] := fun _ => rfl
          refine want_none rfl ?_
          unfold Oper.wp
          generalize a.eval = ρ at *
          go_simp
          try go_bits
          first | exact rel_val (Chg.refl _) | (go_simp; exact rel_val (Chg.refl _))
        case ao9 =>
          rintro a wx hE hin (h7 : a.eval (.tmp 23) = _) (h8 : a.eval (.tmp 24) = _)
          clear hin
          have hcst : ∀ v, a.eval (.const v) = v := fun _ => rfl
          have hfnc : ∀ f, a.eval (.func f) = .func (.func f) #[] #[] := fun _ => rfl
          refine want_none rfl ?_
          unfold Oper.wp
          generalize a.eval = ρ at *
          go_simp
          try go_bits
          first | exact rel_val (Chg.refl _) | (go_simp; exact rel_val (Chg.refl _))
        case ao10 =>
          rintro a wx hE hin (h9 : a.eval (.tmp 25) = _)
          clear hin
          have hcst : ∀ v, a.eval (.const v) = v := fun _ => rfl
          have hfnc : ∀ f, a.eval (.func f) = .func (.func f) #[] #[] := fun _ => rfl
          refine want_none rfl ?_
          unfold Oper.wp
          generalize a.eval = ρ at *
          go_simp
          try go_bits
          first | exact rel_val (Chg.refl _) | (go_simp; exact rel_val (Chg.refl _))
        case ao11 =>
          rintro a wx hE hin (h10 : a.eval (.tmp 26) = _)
          clear hin
          have hcst : ∀ v, a.eval (.const v) = v := fun _ => rfl
          have hfnc : ∀ f, a.eval (.func f) = .func (.func f) #[] #[] := fun _ => rfl
          refine want_none rfl ?_
          unfold Oper.wp
          generalize a.eval = ρ at *
          have c := Bk.cell (Bk.chg HBL.out.drew hE id) HPA.out
          go_simp
          try go_bits
          first | exact rel_val (Chg.refl _) | (go_simp; exact rel_val (Chg.refl _))
        case ao12 =>
          intro a wx hE hin
          have i0 : a.eval (.tmp 0) = .pointer (some ⟨g, 0, none⟩) := hin 0 rfl
          clear hin
          have hcst : ∀ v, a.eval (.const v) = v := fun _ => rfl
          have hfnc : ∀ f, a.eval (.func f) = .func (.func f) #[] #[] := fun _ => rfl
          refine want_none rfl ?_
          unfold Oper.wp
          generalize a.eval = ρ at *
          go_simp
          try go_bits
          first | exact rel_val (Chg.refl _) | (go_simp; exact rel_val (Chg.refl _))
        case ao13 =>
          rintro a wx hE hin (h12 : a.eval (.tmp 28) = _)
          clear hin
          have hcst : ∀ v, a.eval (.const v) = v := fun _ => rfl
          have hfnc : ∀ f, a.eval (.func f) = .func (.func f) #[] #[] := fun _ => rfl
          refine want_none rfl ?_
          unfold Oper.wp
          generalize a.eval = ρ at *
          go_simp
          try go_bits
          first | exact rel_val (Chg.refl _) | (go_simp; exact rel_val (Chg.refl _))
        case ao14 =>
          rintro a wx hE hin (h13 : a.eval (.tmp 29) = _)
          clear hin
          have hcst : ∀ v, a.eval (.const v) = v := fun _ => rfl
          have hfnc : ∀ f, a.eval (.func f) = .func (.func f) #[] #[] := fun _ => rfl
          refine want_none rfl ?_
          unfold Oper.wp
          generalize a.eval = ρ at *
          go_simp
          try go_bits
          first | exact rel_val (Chg.refl _) | (go_simp; exact rel_val (Chg.refl _))
        case ao15 =>
          rintro a wx hE hin (h14 : a.eval (.tmp 30) = _)
          clear hin
          have hcst : ∀ v, a.eval (.const v) = v := fun _ => rfl
          have hfnc : ∀ f, a.eval (.func f) = .func (.func f) #[] #[] := fun _ => rfl
          refine want_none rfl ?_
          unfold Oper.wp
          generalize a.eval = ρ at *
          have c := Bk.cell (j := 1) (HD.out.drew.chg hE (fun _ _ => id)).dk rfl
          go_simp
          try go_bits
          first | exact rel_val (Chg.refl _) | (go_simp; exact rel_val (Chg.refl _))
        case ao16 =>
          intro a wx hE hin
          have i3 : a.eval (.tmp 3) = .int .i64 k := hin 3 rfl
          clear hin
          have hcst : ∀ v, a.eval (.const v) = v := fun _ => rfl
          have hfnc : ∀ f, a.eval (.func f) = .func (.func f) #[] #[] := fun _ => rfl
          refine want_none rfl ?_
          unfold Oper.wp
          generalize a.eval = ρ at *
          go_simp
          try go_bits
          first | exact rel_val (Chg.refl _) | (go_simp; exact rel_val (Chg.refl _))
        case ao17 =>
          rintro a wx hE hin (h15 : a.eval (.tmp 31) = _) (h16 : a.eval (.tmp 32) = _)
          clear hin
          have hcst : ∀ v, a.eval (.const v) = v := fun _ => rfl
          have hfnc : ∀ f, a.eval (.func f) = .func (.func f) #[] #[] := fun _ => rfl
          refine want_none rfl ?_
          unfold Oper.wp
          generalize a.eval = ρ at *
          go_simp
          try go_bits
          first | exact rel_val (Chg.refl _) | (go_simp; exact rel_val (Chg.refl _))
        case ao18 =>
          rintro a wx hE hin (h17 : a.eval (.tmp 33) = _)
          clear hin
          have hcst : ∀ v, a.eval (.const v) = v := fun _ => rfl
          have hfnc : ∀ f, a.eval (.func f) = .func (.func f) #[] #[] := fun _ => rfl
          refine want_none rfl ?_
          unfold Oper.wp
          generalize a.eval = ρ at *
          go_simp
          try go_bits
          first | exact rel_val (Chg.refl _) | (go_simp; exact rel_val (Chg.refl _))
        case ao19 =>
          rintro a wx hE hin (h18 : a.eval (.tmp 34) = _)
          clear hin
          have hcst : ∀ v, a.eval (.const v) = v := fun _ => rfl
          have hfnc : ∀ f, a.eval (.func f) = .func (.func f) #[] #[] := fun _ => rfl
          refine want_none rfl ?_
          exact wp_ld 37 _ rfl gl (k * 33 + 1) 32 vs (bts p.2) h18 (Bk.chg HBL.out.drew hE id) (by kernel_rfl) (by kernel_rfl) (by have := HLL.out; omega) HPC.out (rel_val (Chg.refl _))
      case afin =>
        intro wx hE
        rintro _ rfl _ rfl _ rfl _ rfl _ rfl _ rfl _ rfl _ rfl _ rfl _ rfl _ rfl _ rfl _ rfl _ rfl _ rfl _ rfl _ rfl _ rfl _ rfl _ rfl
        simp only [FinOk, List.take_succ_cons, List.take_zero, List.take_nil, List.drop_succ_cons, List.drop_zero, List.drop_nil, Act.put, List.setIfInBounds_toArray, List.set_cons_succ, List.set_cons_zero]
        have HD6 := Lib.hid (HD.out.drew.chg hE (fun _ _ => id))
        have HC6 : Hid (Chg (fun j => j = g ∨ j = gs) w wx) := HC.out.trans (hE.undrew.mono (fun _ h => h.elim))
        clear hE
        go_wp2_with (refine wpList_st rfl 37 (.tmp 36) (.tmp 35) rfl gs (p.1 * 32) 32 (secs (doneS S (L.take k))) (bts p.2) rfl rfl HD6.out.sb (by kernel_rfl) (by rw [bts_length, HP32.out]) (by have := HD6.out.secs_len; rw [doneS_length] at this; have := HPL.out; omega) (one_bts _) ?_)
        intro w7 hb7 hc7
        have hd7 := HD6.out.put p.1 p.2 (by rw [doneS_length]; exact HPL.out) HP32.out hc7 hb7
        have HC7 : Hid (Chg (fun j => j = g ∨ j = gs) w w7) := HC6.out.trans (hc7.mono (fun _ h => .inr h))
        have HD7 := Lib.hid hd7
        clear hb7 hc7 hd7
        go_wp2_with fail
        go_roundw
        case rel => exact ⟨k + 1, by omega, by go_num, by rw [doneS_take S L k hlt, HP.out]; exact HD7.out, HC7.out⟩
        case measure => simp [intOf]; omega
    · have hke : k = L.length := by omega
      have hki : ¬ ((k : Int) < (L.length : Int)) := by omega
      subst hke
      have hx := HD.out
      rw [List.take_length] at hx
      have hdk := hx.dk
      rw [doneS_length] at hdk
      have HX := Lib.hid hx
      have HK := Lib.hid hdk
      clear hx hdk
      go_wp2_with (refine wpList_st rfl 50 (.tmp 39) _ rfl g 1 1 [.slice (some ⟨gs, 0, none⟩) S.length S.length, .slice A L.length c, .int .i64 (passF f dn), .bool false] [.slice none 0 0] rfl rfl HK.out (by kernel_rfl) rfl (by simp) (fun u hu => by obtain rfl := List.mem_singleton.1 hu; rfl) ?_)
      intro w4 hb4 hc4
      have hd5 : DiskAt 93 w4 g gs (.slice none 0 0) (doneS S L) [] (passF f dn) false := HX.out.empty hc4 (by rw [doneS_length]; exact hb4)
      have HD5 := Lib.hid hd5
      have HC5 : Hid (Chg (fun j => j = g ∨ j = gs) w w4) := HC.out.trans (hc4.mono (fun _ h => .inl h))
      clear hb4 hc4 hd5 c1
      go_wp2
      go_ret
      exact ⟨rfl, HD5.out, HC5.out⟩
end Go.Proofs.Ytnpcehlbboeadaa
