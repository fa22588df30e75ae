/- The walk of the reference's Up. -/
import Derived.Test.YtnpcehlbboeadaaDiskUp
import Derived.Test.YtnpcehlbboeadaaDiskReadR
namespace Go.Proofs.Ytnpcehlbboeadaa
open Go.RowKit
set_option linter.unusedVariables false
set_option linter.unusedSimpArgs false

set_option maxRecDepth 100000 in
set_option maxHeartbeats 4000000 in
theorem refUp_calls (w : World) (g gs : Nat) (lv : Value) (S : List (List UInt8)) (L : List (Nat × List UInt8)) (f : Int) (dn : Bool) (AK : Option Addr) (nK cK : Nat) (ks : List UInt8) (hd : DiskAt 93 w g gs lv S L f dn) (hnk : ks.length = nK) (hkr : ∀ w', Chg (fun j => j = g ∨ j = gs) w w' → Rd w' AK (bts ks)) :
    Calls Try.prog 25 #[.pointer (some ⟨g, 0, none⟩), .slice AK nK cK] w fun e w' => e = .returned (.tuple #[]) ∧ DiskAt 93 w' g gs (.slice none 0 0) (upS S L ks) [] (-1) false ∧ Chg (fun j => j = g ∨ j = gs) w w' := by
  subst hnk
  obtain ⟨A, c, rfl, hR, hkc, hc⟩ := own_rd hd.own
  clear hR
  have H := Lib.hid hd
  have HKR := Lib.hid hkr
  clear hkr
  have H0 : Hid (UpRel 93 w g gs (.slice A L.length c) S L ks f dn (.int .i64 0) w) := ⟨0, by omega, rfl, hd, Chg.refl w⟩
  clear hd
  go_enter Try.func25, Try.ntmps25
  go_wp2_with fail
  go_loopw [4] (fun v wr => UpRel 93 w g gs (.slice A L.length c) S L ks f dn v wr) (fun v _ => L.length - (intOf v).toNat)
  case atStart => exact H0.out
  case round =>
    obtain ⟨k, hk, rfl, hdr, hcr⟩ := hrel
    have HD := Lib.hid hdr
    have HC := Lib.hid hcr
    clear hdr hcr H0
    have c1 := Bk.cell (j := 1) HD.out.dk rfl
    by_cases hboth : k < L.length ∧ k < ks.length
    · obtain ⟨hlt, hkk⟩ := hboth
      have hki : (k : Int) < (L.length : Int) := by omega
      have hkki : (k : Int) < (ks.length : Int) := by omega
      obtain ⟨gl, cap, vs, hv, hbl, hll, hpc, _, _⟩ := HD.out.loose k hlt
      injection hv with hA hlx hcx
      subst hA
      clear hlx
      subst hcx
      obtain ⟨p, hpq⟩ : ∃ p, L[k] = p := ⟨_, rfl⟩
      rw [hpq] at hpc
      have hp32 : p.2.length = 32 ∧ p.1 < S.length := by rw [← hpq]; exact H.out.l32 _ (List.getElem_mem hlt)
      obtain ⟨hpa, hpb⟩ := piece_parts hp32.1 hpc
      have HBL := Lib.hid hbl
      have HLL := Lib.hid hll
      have HPA := Lib.hid hpa
      have HPC := Lib.hid hpb
      have HP := Lib.hid hpq
      have HP32 := Lib.hid hp32.1
      have HPL := Lib.hid hp32.2
      have hpi : (p.1 : Int) < (S.length : Int) := by omega
      clear hbl hll hpc hpq hp32 hpa hpb
      have hb6 := HKR.out wr HC.out
      obtain ⟨ad, hak, hcell⟩ := hb6.bt k hkk
      subst hak
      clear hb6
      obtain ⟨b, hb⟩ : ∃ b, ks.getD k 0 = b := ⟨_, rfl⟩
      rw [hb] at hcell
      have HKB2 := Lib.hid hb
      have ho8 := odd8 b
      by_cases hod : b % 2 = 1
      · rw [decide_eq_true hod] at ho8
        have HOD := Lib.hid hod
        clear hb hod
        go_wp2_with fail
        apply wp_region_rel 20 (Chg NoS) [(Veq _), (Veq _), (Veq _), (Veq _), (Veq _), (Veq _), (Veq _), (Veq _), (Veq _), (Veq _), (Veq _), (Veq _), (Veq _), (Veq _), (Veq _), (Veq _), (Veq _), (Veq _), (Veq _), (Veq _)] [[], [0], [1], [2], [], [4], [5], [6], [], [7, 8], [9], [10], [], [12], [13], [14], [], [15, 16], [17], [18]] [26, 27, 28, 29, 30, 31, 32, 33, 34, 35, 36, 37, 38, 39, 40, 41, 42, 43, 44, 45] (by kernel_rfl) (by kernel_rfl) rfl rfl rfl Chg.refl (fun _ _ _ => Chg.trans) ⟨Veq.lasts, Veq.lasts, Veq.lasts, Veq.lasts, Veq.lasts, Veq.lasts, Veq.lasts, Veq.lasts, Veq.lasts, Veq.lasts, Veq.lasts, Veq.lasts, Veq.lasts, Veq.lasts, Veq.lasts, Veq.lasts, Veq.lasts, Veq.lasts, Veq.lasts, Veq.lasts, trivial⟩ ?aops ?afin
        case aops =>
          refine ⟨?ao0, ?ao1, ?ao2, ?ao3, ?ao4, ?ao5, ?ao6, ?ao7, ?ao8, ?ao9, ?ao10, ?ao11, ?ao12, ?ao13, ?ao14, ?ao15, ?ao16, ?ao17, ?ao18, ?ao19, trivial⟩
          case ao0 =>
            intro a wx hE hin
            have i0 : a.eval (.tmp 0) = .pointer (some ⟨g, 0, none⟩) := hin 0 rfl
            clear hin
            have hcst : ∀ v, a.eval (.const v) = v := fun _ => rfl
            have hfnc : ∀ f, a.eval (.func f) = .func (.func f) #[] #[] := fun _ => rfl
            refine want_none rfl ?_
            unfold Oper.wp
            generalize a.eval = ρ at *
            go_simp
            try go_bits
            first | exact rel_val (Chg.refl _) | (go_simp; exact rel_val (Chg.refl _))
          case ao1 =>
            rintro a wx hE hin (h0 : a.eval (.tmp 26) = _)
            clear hin
            have hcst : ∀ v, a.eval (.const v) = v := fun _ => rfl
            have hfnc : ∀ f, a.eval (.func f) = .func (.func f) #[] #[] := fun _ => rfl
            refine want_none rfl ?_
            unfold Oper.wp
            generalize a.eval = ρ at *
            go_simp
            try go_bits
            first | exact rel_val (Chg.refl _) | (go_simp; exact rel_val (Chg.refl _))
          case ao2 =>
            rintro a wx hE hin (h1 : a.eval (.tmp 27) = _)
            clear hin
            have hcst : ∀ v, a.eval (.const v) = v := fun _ => rfl
            have hfnc : ∀ f, a.eval (.func f) = .func (.func f) #[] #[] := fun _ => rfl
            refine want_none rfl ?_
            unfold Oper.wp
            generalize a.eval = ρ at *
            go_simp
            try go_bits
            first | exact rel_val (Chg.refl _) | (go_simp; exact rel_val (Chg.refl _))
          case ao3 =>
            rintro a wx hE hin (h2 : a.eval (.tmp 28) = _)
            clear hin
            have hcst : ∀ v, a.eval (.const v) = v := fun _ => rfl
            have hfnc : ∀ f, a.eval (.func f) = .func (.func f) #[] #[] := fun _ => rfl
            refine want_none rfl ?_
            unfold Oper.wp
            generalize a.eval = ρ at *
            have c := Bk.cell (j := 0) (HD.out.drew.chg hE (fun _ _ => id)).dk rfl
            rw [upS_length] at c
            go_simp
            try go_bits
            first | exact rel_val (Chg.refl _) | (go_simp; exact rel_val (Chg.refl _))
          case ao4 =>
            intro a wx hE hin
            have i0 : a.eval (.tmp 0) = .pointer (some ⟨g, 0, none⟩) := hin 0 rfl
            clear hin
            have hcst : ∀ v, a.eval (.const v) = v := fun _ => rfl
            have hfnc : ∀ f, a.eval (.func f) = .func (.func f) #[] #[] := fun _ => rfl
            refine want_none rfl ?_
            unfold Oper.wp
            generalize a.eval = ρ at *
            go_simp
            try go_bits
            first | exact rel_val (Chg.refl _) | (go_simp; exact rel_val (Chg.refl _))
          case ao5 =>
            rintro a wx hE hin (h4 : a.eval (.tmp 30) = _)
            clear hin
            have hcst : ∀ v, a.eval (.const v) = v := fun _ => rfl
            have hfnc : ∀ f, a.eval (.func f) = .func (.func f) #[] #[] := fun _ => rfl
            refine want_none rfl ?_
            unfold Oper.wp
            generalize a.eval = ρ at *
            go_simp
            try go_bits
            first | exact rel_val (Chg.refl _) | (go_simp; exact rel_val (Chg.refl _))
          case ao6 =>
            rintro a wx hE hin (h5 : a.eval (.tmp 31) = _)
            clear hin
            have hcst : ∀ v, a.eval (.const v) = v := fun _ => rfl
            have hfnc : ∀ f, a.eval (.func f) = .func (.func f) #[] #[] := fun _ => rfl
            refine want_none rfl ?_
            unfold Oper.wp
            generalize a.eval = ρ at *
            go_simp
            try go_bits
            first | exact rel_val (Chg.refl _) | (go_simp; exact rel_val (Chg.refl _))
          case ao7 =>
            rintro a wx hE hin (h6 : a.eval (.tmp 32) = _)
            clear hin
            have hcst : ∀ v, a.eval (.const v) = v := fun _ => rfl
            have hfnc : ∀ f, a.eval (.func f) = .func (.func f) #[] #[] := fun _ => rfl
            refine want_none rfl ?_
            unfold Oper.wp
            generalize a.eval = ρ at *
            have c := Bk.cell (j := 1) (HD.out.drew.chg hE (fun _ _ => id)).dk rfl
            go_simp
            try go_bits
            first | exact rel_val (Chg.refl _) | (go_simp; exact rel_val (Chg.refl _))
          case ao8 =>
            intro a wx hE hin
            have i4 : a.eval (.tmp 4) = .int .i64 k := hin 4 rfl
            clear hin
            have hcst : ∀ v, a.eval (.const v) = v := fun _ => rfl
            have hfnc : ∀ f, a.eval (.func f) = .func (.func f) #[] #[] := fun _ => rfl
            refine want_none rfl ?_
            unfold Oper.wp
            generalize a.eval = ρ at *
            go_simp
            try go_bits
            first | exact rel_val (Chg.refl _) | (go_simp; exact rel_val (Chg.refl _))
          case ao9 =>
            rintro a wx hE hin (h7 : a.eval (.tmp 33) = _) (h8 : a.eval (.tmp 34) = _)
            clear hin
            have hcst : ∀ v, a.eval (.const v) = v := fun _ => rfl
            have hfnc : ∀ f, a.eval (.func f) = .func (.func f) #[] #[] := fun _ => rfl
            refine want_none rfl ?_
            unfold Oper.wp
            generalize a.eval = ρ at *
            go_simp
            try go_bits
            first | exact rel_val (Chg.refl _) | (go_simp; exact rel_val (Chg.refl _))
          case ao10 =>
            rintro a wx hE hin (h9 : a.eval (.tmp 35) = _)
            clear hin
            have hcst : ∀ v, a.eval (.const v) = v := fun _ => rfl
            have hfnc : ∀ f, a.eval (.func f) = .func (.func f) #[] #[] := fun _ => rfl
            refine want_none rfl ?_
            unfold Oper.wp
            generalize a.eval = ρ at *
            go_simp
            try go_bits
            first | exact rel_val (Chg.refl _) | (go_simp; exact rel_val (Chg.refl _))
          case ao11 =>
            rintro a wx hE hin (h10 : a.eval (.tmp 36) = _)
            clear hin
            have hcst : ∀ v, a.eval (.const v) = v := fun _ => rfl
            have hfnc : ∀ f, a.eval (.func f) = .func (.func f) #[] #[] := fun _ => rfl
            refine want_none rfl ?_
            unfold Oper.wp
            generalize a.eval = ρ at *
            have c := Bk.cell (Bk.chg HBL.out.drew hE id) HPA.out
            go_simp
            try go_bits
            first | exact rel_val (Chg.refl _) | (go_simp; exact rel_val (Chg.refl _))
          case ao12 =>
            intro a wx hE hin
            have i0 : a.eval (.tmp 0) = .pointer (some ⟨g, 0, none⟩) := hin 0 rfl
            clear hin
            have hcst : ∀ v, a.eval (.const v) = v := fun _ => rfl
            have hfnc : ∀ f, a.eval (.func f) = .func (.func f) #[] #[] := fun _ => rfl
            refine want_none rfl ?_
            unfold Oper.wp
            generalize a.eval = ρ at *
            go_simp
            try go_bits
            first | exact rel_val (Chg.refl _) | (go_simp; exact rel_val (Chg.refl _))
          case ao13 =>
            rintro a wx hE hin (h12 : a.eval (.tmp 38) = _)
            clear hin
            have hcst : ∀ v, a.eval (.const v) = v := fun _ => rfl
            have hfnc : ∀ f, a.eval (.func f) = .func (.func f) #[] #[] := fun _ => rfl
            refine want_none rfl ?_
            unfold Oper.wp
            generalize a.eval = ρ at *
            go_simp
            try go_bits
            first | exact rel_val (Chg.refl _) | (go_simp; exact rel_val (Chg.refl _))
          case ao14 =>
            rintro a wx hE hin (h13 : a.eval (.tmp 39) = _)
            clear hin
            have hcst : ∀ v, a.eval (.const v) = v := fun _ => rfl
            have hfnc : ∀ f, a.eval (.func f) = .func (.func f) #[] #[] := fun _ => rfl
            refine want_none rfl ?_
            unfold Oper.wp
            generalize a.eval = ρ at *
            go_simp
            try go_bits
            first | exact rel_val (Chg.refl _) | (go_simp; exact rel_val (Chg.refl _))
          case ao15 =>
            rintro a wx hE hin (h14 : a.eval (.tmp 40) = _)
            clear hin
            have hcst : ∀ v, a.eval (.const v) = v := fun _ => rfl
            have hfnc : ∀ f, a.eval (.func f) = .func (.func f) #[] #[] := fun _ => rfl
            refine want_none rfl ?_
            unfold Oper.wp
            generalize a.eval = ρ at *
            have c := Bk.cell (j := 1) (HD.out.drew.chg hE (fun _ _ => id)).dk rfl
            go_simp
            try go_bits
            first | exact rel_val (Chg.refl _) | (go_simp; exact rel_val (Chg.refl _))
          case ao16 =>
            intro a wx hE hin
            have i4 : a.eval (.tmp 4) = .int .i64 k := hin 4 rfl
            clear hin
            have hcst : ∀ v, a.eval (.const v) = v := fun _ => rfl
            have hfnc : ∀ f, a.eval (.func f) = .func (.func f) #[] #[] := fun _ => rfl
            refine want_none rfl ?_
            unfold Oper.wp
            generalize a.eval = ρ at *
            go_simp
            try go_bits
            first | exact rel_val (Chg.refl _) | (go_simp; exact rel_val (Chg.refl _))
          case ao17 =>
            rintro a wx hE hin (h15 : a.eval (.tmp 41) = _) (h16 : a.eval (.tmp 42) = _)
            clear hin
            have hcst : ∀ v, a.eval (.const v) = v := fun _ => rfl
            have hfnc : ∀ f, a.eval (.func f) = .func (.func f) #[] #[] := fun _ => rfl
            refine want_none rfl ?_
            unfold Oper.wp
            generalize a.eval = ρ at *
            go_simp
            try go_bits
            first | exact rel_val (Chg.refl _) | (go_simp; exact rel_val (Chg.refl _))
          case ao18 =>
            rintro a wx hE hin (h17 : a.eval (.tmp 43) = _)
            clear hin
            have hcst : ∀ v, a.eval (.const v) = v := fun _ => rfl
            have hfnc : ∀ f, a.eval (.func f) = .func (.func f) #[] #[] := fun _ => rfl
            refine want_none rfl ?_
            unfold Oper.wp
            generalize a.eval = ρ at *
            go_simp
            try go_bits
            first | exact rel_val (Chg.refl _) | (go_simp; exact rel_val (Chg.refl _))
          case ao19 =>
            rintro a wx hE hin (h18 : a.eval (.tmp 44) = _)
            clear hin
            have hcst : ∀ v, a.eval (.const v) = v := fun _ => rfl
            have hfnc : ∀ f, a.eval (.func f) = .func (.func f) #[] #[] := fun _ => rfl
            refine want_none rfl ?_
            exact wp_ld 37 _ rfl gl (k * 33 + 1) 32 vs (bts p.2) h18 (Bk.chg HBL.out.drew hE id) (by kernel_rfl) (by kernel_rfl) (by have := HLL.out; omega) HPC.out (rel_val (Chg.refl _))
        case afin =>
          intro wx hE
          rintro _ rfl _ rfl _ rfl _ rfl _ rfl _ rfl _ rfl _ rfl _ rfl _ rfl _ rfl _ rfl _ rfl _ rfl _ rfl _ rfl _ rfl _ rfl _ rfl _ rfl
          simp only [FinOk, List.take_succ_cons, List.take_zero, List.take_nil, List.drop_succ_cons, List.drop_zero, List.drop_nil, Act.put, List.setIfInBounds_toArray, List.set_cons_succ, List.set_cons_zero]
          have HD6 := Lib.hid (HD.out.drew.chg hE (fun _ _ => id))
          have HC6 : Hid (Chg (fun j => j = g ∨ j = gs) w wx) := HC.out.trans (hE.undrew.mono (fun _ h => h.elim))
          clear hE
          go_wp2_with (refine wpList_st rfl 37 (.tmp 46) (.tmp 45) rfl gs (p.1 * 32) 32 (secs (upS S (L.take k) ks)) (bts p.2) rfl rfl HD6.out.sb (by kernel_rfl) (by rw [bts_length, HP32.out]) (by have := HD6.out.secs_len; rw [upS_length] at this; have := HPL.out; omega) (one_bts _) ?_)
          intro w7 hb7 hc7
          have hd7 := HD6.out.put p.1 p.2 (by rw [upS_length]; exact HPL.out) HP32.out hc7 hb7
          have HC7 : Hid (Chg (fun j => j = g ∨ j = gs) w w7) := HC6.out.trans (hc7.mono (fun _ h => .inr h))
          have HD7 := Lib.hid hd7
          clear hb7 hc7 hd7
          go_wp2_with fail
          go_roundw
          case rel => exact ⟨k + 1, by omega, by go_num, by rw [upS_take S L ks k hlt, HP.out, HKB2.out, if_pos HOD.out]; exact HD7.out, HC7.out⟩
          case measure => simp [intOf]; omega
      · rw [decide_eq_false hod] at ho8
        have HOD := Lib.hid hod
        clear hb hod
        go_wp2_with fail
        go_roundw
        case rel => exact ⟨k + 1, by omega, by go_num, by rw [upS_take S L ks k hlt, HKB2.out, if_neg HOD.out]; exact HD.out, HC.out⟩
        case measure => simp [intOf]; omega
    · have hno : Hid (upS S (L.take k) ks = upS S L ks) := by
        show _ = _
        by_cases hlt : k < L.length
        · exact upS_stop S L ks _ k rfl hk (by omega)
        · rw [List.take_of_length_le (by omega)]
      have hx := HD.out
      rw [hno.out] at hx
      have hdk := hx.dk
      rw [upS_length] at hdk
      have HX := Lib.hid hx
      have HK := Lib.hid hdk
      clear hx hdk
      by_cases hlt : k < L.length
      · have hki : (k : Int) < (L.length : Int) := by omega
        have hkki : ¬ ((k : Int) < (ks.length : Int)) := by omega
        go_wp2_with (refine wpList_st rfl 50 (.tmp 51) _ rfl g 1 1 [.slice (some ⟨gs, 0, none⟩) S.length S.length, .slice A L.length c, .int .i64 f, .bool dn] [.slice none 0 0] rfl rfl HK.out (by kernel_rfl) rfl (by simp) (fun u hu => by obtain rfl := List.mem_singleton.1 hu; rfl) ?_)
        intro w4 hb4 hc4
        have hb4' : Bk w4 g [.slice (some ⟨gs, 0, none⟩) S.length S.length, .slice none 0 0, .int .i64 f, .bool dn] := hb4
        have HB4 := Lib.hid hb4'
        have HC4 := Lib.hid hc4
        clear hb4 hb4' hc4 c1
        go_wp2_with (refine wpList_st rfl 3 (.tmp 53) _ rfl g 2 1 [.slice (some ⟨gs, 0, none⟩) S.length S.length, .slice none 0 0, .int .i64 f, .bool dn] [.int .i64 (-1)] rfl rfl HB4.out (by kernel_rfl) rfl (by simp) (one_i _) ?_)
        intro w5 hb5 hc5
        have hb5' : Bk w5 g [.slice (some ⟨gs, 0, none⟩) S.length S.length, .slice none 0 0, .int .i64 (-1), .bool dn] := hb5
        have HB5 := Lib.hid hb5'
        have HC5 := Lib.hid (HC4.out.trans hc5)
        clear hb5 hb5' hc5
        go_wp2_with (refine wpList_st rfl 4 (.tmp 55) _ rfl g 3 1 [.slice (some ⟨gs, 0, none⟩) S.length S.length, .slice none 0 0, .int .i64 (-1), .bool dn] [.bool false] rfl rfl HB5.out (by kernel_rfl) rfl (by simp) (one_b _) ?_)
        intro w6 hb6 hc6
        have hb6' : Bk w6 g [.slice (some ⟨gs, 0, none⟩) S.length S.length, .slice none 0 0, .int .i64 (-1), .bool false] := hb6
        have hc7 := HC5.out.trans hc6
        have hd7 : DiskAt 93 w6 g gs (.slice none 0 0) (upS S L ks) [] (-1) false := HX.out.empty hc7 (by rw [upS_length]; exact hb6')
        have HD7 := Lib.hid hd7
        have HC7 : Hid (Chg (fun j => j = g ∨ j = gs) w w6) := HC.out.trans (hc7.mono (fun _ h => .inl h))
        clear hb6 hb6' hc6 hc7 hd7
        go_wp2
        exact bodyPost_end (results_none rfl _ _) rfl ⟨rfl, HD7.out, HC7.out⟩
      · have hki : ¬ ((k : Int) < (L.length : Int)) := by omega
        go_wp2_with (refine wpList_st rfl 50 (.tmp 51) _ rfl g 1 1 [.slice (some ⟨gs, 0, none⟩) S.length S.length, .slice A L.length c, .int .i64 f, .bool dn] [.slice none 0 0] rfl rfl HK.out (by kernel_rfl) rfl (by simp) (fun u hu => by obtain rfl := List.mem_singleton.1 hu; rfl) ?_)
        intro w4 hb4 hc4
        have hb4' : Bk w4 g [.slice (some ⟨gs, 0, none⟩) S.length S.length, .slice none 0 0, .int .i64 f, .bool dn] := hb4
        have HB4 := Lib.hid hb4'
        have HC4 := Lib.hid hc4
        clear hb4 hb4' hc4 c1
        go_wp2_with (refine wpList_st rfl 3 (.tmp 53) _ rfl g 2 1 [.slice (some ⟨gs, 0, none⟩) S.length S.length, .slice none 0 0, .int .i64 f, .bool dn] [.int .i64 (-1)] rfl rfl HB4.out (by kernel_rfl) rfl (by simp) (one_i _) ?_)
        intro w5 hb5 hc5
        have hb5' : Bk w5 g [.slice (some ⟨gs, 0, none⟩) S.length S.length, .slice none 0 0, .int .i64 (-1), .bool dn] := hb5
        have HB5 := Lib.hid hb5'
        have HC5 := Lib.hid (HC4.out.trans hc5)
        clear hb5 hb5' hc5
        go_wp2_with (refine wpList_st rfl 4 (.tmp 55) _ rfl g 3 1 [.slice (some ⟨gs, 0, none⟩) S.length S.length, .slice none 0 0, .int .i64 (-1), .bool dn] [.bool false] rfl rfl HB5.out (by kernel_rfl) rfl (by simp) (one_b _) ?_)
        intro w6 hb6 hc6
        have hb6' : Bk w6 g [.slice (some ⟨gs, 0, none⟩) S.length S.length, .slice none 0 0, .int .i64 (-1), .bool false] := hb6
        have hc7 := HC5.out.trans hc6
        have hd7 : DiskAt 93 w6 g gs (.slice none 0 0) (upS S L ks) [] (-1) false := HX.out.empty hc7 (by rw [upS_length]; exact hb6')
        have HD7 := Lib.hid hd7
        have HC7 : Hid (Chg (fun j => j = g ∨ j = gs) w w6) := HC.out.trans (hc7.mono (fun _ h => .inl h))
        clear hb6 hb6' hc6 hc7 hd7
        go_wp2
        exact bodyPost_end (results_none rfl _ _) rfl ⟨rfl, HD7.out, HC7.out⟩
end Go.Proofs.Ytnpcehlbboeadaa
