import Derived.Test.YtchcnkobgdbdkaaWalTwo
import Derived.Test.YtchcnkobgdbdkaaLf

/- The walk of WalPlays. -/
namespace Go.Proofs.Ytchcnkobgdbdkaa
open Go.RowKit
set_option linter.unusedVariables false
set_option linter.unusedSimpArgs false

def zSt : List Value := [.int .i64 0, .int .i64 0, vu32 0, vu32 0, .slice none 0 0, .slice none 0 0, .slice none 0 0]
def WPRel (w1 : World) (g gs q qs N m : Nat) (v : Value) (wr : World) : Prop := ∃ (k : Nat) (lv mv : Value) (t : Dst), k ≤ m ∧ v = .int .i64 k ∧ TOk N (8 * k) t ∧ DSes 99 w1 wr g gs lv t.low ∧ DSes 101 w1 wr q qs mv t ∧ ∀ j, footD g gs lv j → ¬ footD q qs mv j
def WNRel (w1 : World) (m : Nat) (v : Value) (wr : World) : Prop := ∃ (k : Nat), k ≤ m ∧ v = .int .i64 k ∧ Below w1.heap.size w1 wr
def WPRel2 (w1 : World) (g gs q qs N : Nat) (lv mv : Value) (SS : List (List UInt8)) (v : Value) (wr : World) : Prop := ∃ (j : Nat), j ≤ N ∧ v = .int .i64 j ∧ Two w1 wr 99 g gs lv ⟨SS, [], -1, false⟩ 101 q qs mv ⟨SS, [], -1, false⟩
set_option maxRecDepth 100000 in
set_option maxHeartbeats 32000000 in
theorem walPlays_calls (w : World) (n0 n1 : Int) (A : Option Addr) (n c : Nat) (l : List StpW) (h0a : -9223372036854775808 ≤ n0) (h0b : n0 ≤ 9223372036854775807) (h1a : -9223372036854775808 ≤ n1) (h1b : n1 ≤ 9223372036854775807) (hl : l.length = n) (hnc : n ≤ c) (hm : c ≤ 9223372036854775807) (hr : Rd w A (l.flatMap stwC)) (hok : ∀ s ∈ l, StwOk w s) :
    Calls Try.prog 5 #[.agg #[.int .i64 n0, .int .i64 n1], .slice A n c] w fun e w' => e = .returned (.bool true) ∧ Below w.heap.size w w' := by
  subst hl
  have HR := Lib.hid hr
  have HOK := Lib.hid hok
  clear hr hok
  obtain ⟨bx, hbx⟩ : ∃ bx : List Value, [.int .i64 n0, .int .i64 n1] = bx := ⟨_, rfl⟩
  have DB0 : Hid (bx[0]? = some (.int .i64 n0)) := by rw [← hbx]; exact (rfl : _ = _)
  have DB1 : Hid (bx[1]? = some (.int .i64 n1)) := by rw [← hbx]; exact (rfl : _ = _)
  rw [show (#[.int .i64 n0, .int .i64 n1] : Array Value) = bx.toArray by rw [← hbx]]
  clear hbx
  go_enter Try.func5, Try.ntmps5
  go_wp2_with fail
  refine calls_at fun w1 hw1 => ?_
  have HW1 : Hid (Below w.heap.size w w1) := by rw [← hw1]; exact (Below.refl _ _).alloc (Nat.le_refl _) _
  have K0 : Hid (Bk w1 w.heap.size bx) := by rw [← hw1]; exact Bk.new w bx _
  have E1 : Hid (Below w1.heap.size w1 w1) := Below.refl _ _
  clear hw1
  refine (fairW_calls w1 A l.length c l rfl (by omega) (HR.out.below HW1.out)).mono ?_
  rintro en w' ⟨rfl, rfl⟩
  cases hq : fairW l with
  | false =>
    clear hq
    go_wp2_with fail
    refine (wakes8_calls w1).mono ?_
    rintro en w21 ⟨rfl, hb⟩
    have Ew21 : Hid (Below w1.heap.size w1 w21) := E1.out.trans (hb.mono E1.out.size)
    clear E1
    clear hb
    go_wp2_with fail
    (try simp only [Exit.inBlock, Exit.then])
    go_ret
    exact ⟨rfl, HW1.out.trans (Ew21.out.mono HW1.out.size)⟩
  | true =>
    have HFA : Hid (∀ s ∈ l, s.r.n ≤ 50 ∧ s.n ≤ 29 ∧ s.m ≤ 300) := (fairW_at hq).1
    have HLL : Hid (l.length ≤ 80) := (fairW_at hq).2
    have b0 := K0.out.cell DB0.out
    clear hq
    by_cases h40 : 40 < n0
    · go_wp2_with fail
      refine (wakes8_calls w1).mono ?_
      rintro en w21 ⟨rfl, hb⟩
      have Ew21 : Hid (Below w1.heap.size w1 w21) := E1.out.trans (hb.mono E1.out.size)
      clear E1
      clear hb
      go_wp2_with fail
      (try simp only [Exit.inBlock, Exit.then])
      go_ret
      exact ⟨rfl, HW1.out.trans (Ew21.out.mono HW1.out.size)⟩
    by_cases hn1 : n0 < 1
    · go_wp2_with fail
      refine (diskNew_no n0 w1 (.inl hn1)).mono ?_
      rintro en w' ⟨rfl, rfl⟩
      go_wp2_with fail
      refine (refNew_no n0 w1 (.inl hn1)).mono ?_
      rintro en w' ⟨rfl, rfl⟩
      have H0 : Hid (WNRel w1 l.length (.int .i64 0) w1) := ⟨0, Nat.zero_le _, rfl, E1.out⟩
      go_wp2_with fail
      clear b0
      go_loopw [9] (fun v wr => WNRel w1 l.length v wr) (fun v _ => l.length - (intOf v).toNat)
      case atStart => exact H0.out
      case round =>
        obtain ⟨k, hk, rfl, hb⟩ := hrel
        have EBr := Lib.hid hb
        clear hb H0
        by_cases hlt : k < l.length
        case neg =>
          have hki : ¬ ((k : Int) < (l.length : Int)) := by omega
          go_wp2_with fail
          refine (wakes8_calls wr).mono ?_
          rintro en w21 ⟨rfl, hb⟩
          have Ew21 : Hid (Below w1.heap.size w1 w21) := EBr.out.trans (hb.mono EBr.out.size)
          clear EBr
          clear hb
          go_wp2_with fail
          (try simp only [Exit.inBlock, Exit.then])
          go_ret
          exact ⟨rfl, HW1.out.trans (Ew21.out.mono HW1.out.size)⟩
        have hki : (k : Int) < (l.length : Int) := by omega
        obtain ⟨ad, hA⟩ := stw_some HR.out hlt
        have hst := stw_rd (by rw [← hA]; exact HR.out.below (HW1.out.trans (EBr.out.mono HW1.out.size))) hlt
        subst hA
        have hsf := HFA.out _ (List.getElem_mem hlt)
        have hso := HOK.out _ (List.getElem_mem hlt)
        obtain ⟨s, hs⟩ : ∃ s, l[k] = s := ⟨_, rfl⟩
        rw [hs] at hst hso hsf
        have HSO := Lib.hid hso
        have HSF := Lib.hid hsf
        have HSR := Lib.hid hst
        have HONE := Lib.hid (one_stw s)
        obtain ⟨vs, hvs⟩ : ∃ vs, stwC s = vs := ⟨_, rfl⟩
        have DV0 : Hid (vs[0]? = some (.int .i64 s.k)) := by rw [← hvs]; exact (rfl : _ = _)
        have DV1 : Hid (vs[1]? = some (.int .i64 s.i)) := by rw [← hvs]; exact (rfl : _ = _)
        have DV2 : Hid (vs[2]? = some (vu32 s.r.e)) := by rw [← hvs]; exact (rfl : _ = _)
        have DV3 : Hid (vs[3]? = some (vu32 s.r.q)) := by rw [← hvs]; exact (rfl : _ = _)
        have DV4 : Hid (vs[4]? = some (.slice s.r.A s.r.n s.r.c)) := by rw [← hvs]; exact (rfl : _ = _)
        have DV5 : Hid (vs[5]? = some (.slice s.A s.n s.c)) := by rw [← hvs]; exact (rfl : _ = _)
        have DV6 : Hid (vs[6]? = some (.slice s.B s.m s.d)) := by rw [← hvs]; exact (rfl : _ = _)
        have HV25 : Hid ((vs.drop 2).take 3 = recC s.r) := by rw [← hvs]; exact (rfl : _ = _)
        have HVL : Hid (vs.length = 7) := by show _ = _; rw [← hvs]; rfl
        rw [hvs] at HSR HONE
        clear hs hso hst hvs hsf
        go_wp2_with (first
          | (refine wpList_ldr rfl 50 (.tmp 48) rfl (ad.add (k * 7)) vs rfl HSR.out (by kernel_rfl) (by rw [HVL.out]; kernel_rfl) ?_)
          | (refine wpList_al rfl 50 rfl zSt (by kernel_rfl) ?_))
        intro gx w11 hg hb hc hs
        have HQx : Hid (Below wr.heap.size wr w11) := hc.below (Nat.le_refl _) (fun _ _ => id)
        have HGx : Hid (gx = wr.heap.size) := hg
        have KZx := Lib.hid hb
        clear hg hb hc hs
        go_wp2_with (refine wpList_st rfl 50 (.tmp 10) (.tmp 49) rfl gx 0 7 zSt vs rfl rfl KZx.out (by kernel_rfl) HVL.out (by decide) HONE.out ?_)
        intro w12 hbk hc
        rw [splice_whole zSt vs (by rw [HVL.out]; rfl)] at hbk
        have hb : Below wr.heap.size wr w12 := HQx.out.trans (hc.below HQx.out.size (fun q hq he => by have := HGx.out; omega))
        have Ew12 : Hid (Below w1.heap.size w1 w12) := EBr.out.trans (hb.mono EBr.out.size)
        clear EBr
        have Kxw12 : Hid (Bk w12 gx vs) := hbk
        have Kxw12 : Hid (Bk w12 gx vs) := hbk
        clear hbk hb hc KZx HQx HGx
        clear HSR HONE
        by_cases hk0 : s.k = 0
        · have hkb0 : (s.k == 0) = true := by rw [hk0]; rfl
          as_aux_lemma =>
            have HK0 : Hid (Bk w12 w.heap.size bx) := (K0.out.below Ew12.out)
            have HEW : Hid (∀ wx, Chg NoS w12.drew wx → Below w.heap.size w wx) := fun wx hE => (HW1.out.trans (Ew12.out.mono HW1.out.size)).trans (hE.undrew.below (HW1.out.trans (Ew12.out.mono HW1.out.size)).size (fun j hj hf => hf.elim))
            have cx0 := Kxw12.out.cell DV0.out
            go_wp2_with fail
            clear cx0
            apply wp_region_rel 23 (Chg NoS) [(Veq _), (Veq _), (Veq _), (Veq _), (Veq _), (Veq _), (Veq _), (Veq _), (Veq _), (RowAt NoS 0 _), (Veq _), (Veq _), (Veq _), (PutsN w12.heap.size s.r.n s.r.ps), (Rec3 w12.heap.size s.r), (Veq _), (Veq _), (Veq _), (Veq _), (Veq _), (Veq _), (RecN w12.heap.size s.r), (Veq _)] [[], [], [1], [], [3], [4], [], [6], [7], [], [], [10], [11], [9, 12], [5, 8, 13], [0, 2, 14], [], [], [17], [], [19], [20], [16, 18, 21]] [54, 55, 56, 57, 58, 59, 60, 61, 62, 63, 64, 65, 66, 67, 68, 69, 70, 71, 72, 73, 74, 75, 76] (by kernel_rfl) (by kernel_rfl) rfl rfl rfl Chg.refl (fun _ _ _ => Chg.trans) ⟨Veq.lasts, Veq.lasts, Veq.lasts, Veq.lasts, Veq.lasts, Veq.lasts, Veq.lasts, Veq.lasts, Veq.lasts, RowAt.lasts, Veq.lasts, Veq.lasts, Veq.lasts, PutsN.lasts, Rec3.lasts, Veq.lasts, Veq.lasts, Veq.lasts, Veq.lasts, Veq.lasts, Veq.lasts, RecN.lasts, Veq.lasts, trivial⟩ ?aops ?afin
            case aops =>
              refine ⟨?ao0, ?ao1, ?ao2, ?ao3, ?ao4, ?ao5, ?ao6, ?ao7, ?ao8, ?ao9, ?ao10, ?ao11, ?ao12, ?ao13, ?ao14, ?ao15, ?ao16, ?ao17, ?ao18, ?ao19, ?ao20, ?ao21, ?ao22, trivial⟩
              case ao0 =>
                intro a wx hE hin
                have i5 : a.eval (.tmp 5) = .pointer none := hin 5 rfl
                clear hin
                have hcst : ∀ v, a.eval (.const v) = v := fun _ => rfl
                have hfnc : ∀ f, a.eval (.func f) = .func (.func f) #[] #[] := fun _ => rfl
                refine want_none rfl ?_
                unfold Oper.wp
                generalize a.eval = ρ at *
                go_simp
                try go_bits
                first | exact rel_val (Chg.refl _) | (go_simp; exact rel_val (Chg.refl _))
              case ao1 =>
                intro a wx hE hin
                have i2 : a.eval (.tmp 2) = .pointer (some ⟨w.heap.size, 0, none⟩) := hin 2 rfl
                clear hin
                have hcst : ∀ v, a.eval (.const v) = v := fun _ => rfl
                have hfnc : ∀ f, a.eval (.func f) = .func (.func f) #[] #[] := fun _ => rfl
                refine want_none rfl ?_
                unfold Oper.wp
                generalize a.eval = ρ at *
                go_simp
                try go_bits
                first | exact rel_val (Chg.refl _) | (go_simp; exact rel_val (Chg.refl _))
              case ao2 =>
                rintro a wx hE hin (h1 : a.eval (.tmp 55) = _)
                clear hin
                have hcst : ∀ v, a.eval (.const v) = v := fun _ => rfl
                have hfnc : ∀ f, a.eval (.func f) = .func (.func f) #[] #[] := fun _ => rfl
                refine want_none rfl ?_
                unfold Oper.wp
                generalize a.eval = ρ at *
                have c := Bk.cell (HK0.out.drew.chg hE id) DB1.out
                go_simp
                try go_bits
                first | exact rel_val (Chg.refl _) | (go_simp; exact rel_val (Chg.refl _))
              case ao3 =>
                intro a wx hE hin
                have i10 : a.eval (.tmp 10) = .pointer (some ⟨gx, 0, none⟩) := hin 10 rfl
                clear hin
                have hcst : ∀ v, a.eval (.const v) = v := fun _ => rfl
                have hfnc : ∀ f, a.eval (.func f) = .func (.func f) #[] #[] := fun _ => rfl
                refine want_none rfl ?_
                unfold Oper.wp
                generalize a.eval = ρ at *
                go_simp
                try go_bits
                first | exact rel_val (Chg.refl _) | (go_simp; exact rel_val (Chg.refl _))
              case ao4 =>
                rintro a wx hE hin (h3 : a.eval (.tmp 57) = _)
                clear hin
                have hcst : ∀ v, a.eval (.const v) = v := fun _ => rfl
                have hfnc : ∀ f, a.eval (.func f) = .func (.func f) #[] #[] := fun _ => rfl
                refine want_none rfl ?_
                unfold Oper.wp
                generalize a.eval = ρ at *
                go_simp
                try go_bits
                first | exact rel_val (Chg.refl _) | (go_simp; exact rel_val (Chg.refl _))
              case ao5 =>
                rintro a wx hE hin (h4 : a.eval (.tmp 58) = _)
                clear hin
                have hcst : ∀ v, a.eval (.const v) = v := fun _ => rfl
                have hfnc : ∀ f, a.eval (.func f) = .func (.func f) #[] #[] := fun _ => rfl
                refine want_none rfl ?_
                unfold Oper.wp
                generalize a.eval = ρ at *
                have c := Bk.cell (Kxw12.out.drew.chg hE id) DV2.out
                go_simp
                try go_bits
                first | exact rel_val (Chg.refl _) | (go_simp; exact rel_val (Chg.refl _))
              case ao6 =>
                intro a wx hE hin
                have i10 : a.eval (.tmp 10) = .pointer (some ⟨gx, 0, none⟩) := hin 10 rfl
                clear hin
                have hcst : ∀ v, a.eval (.const v) = v := fun _ => rfl
                have hfnc : ∀ f, a.eval (.func f) = .func (.func f) #[] #[] := fun _ => rfl
                refine want_none rfl ?_
                unfold Oper.wp
                generalize a.eval = ρ at *
                go_simp
                try go_bits
                first | exact rel_val (Chg.refl _) | (go_simp; exact rel_val (Chg.refl _))
              case ao7 =>
                rintro a wx hE hin (h6 : a.eval (.tmp 60) = _)
                clear hin
                have hcst : ∀ v, a.eval (.const v) = v := fun _ => rfl
                have hfnc : ∀ f, a.eval (.func f) = .func (.func f) #[] #[] := fun _ => rfl
                refine want_none rfl ?_
                unfold Oper.wp
                generalize a.eval = ρ at *
                go_simp
                try go_bits
                first | exact rel_val (Chg.refl _) | (go_simp; exact rel_val (Chg.refl _))
              case ao8 =>
                rintro a wx hE hin (h7 : a.eval (.tmp 61) = _)
                clear hin
                have hcst : ∀ v, a.eval (.const v) = v := fun _ => rfl
                have hfnc : ∀ f, a.eval (.func f) = .func (.func f) #[] #[] := fun _ => rfl
                refine want_none rfl ?_
                unfold Oper.wp
                generalize a.eval = ρ at *
                have c := Bk.cell (Kxw12.out.drew.chg hE id) DV3.out
                go_simp
                try go_bits
                first | exact rel_val (Chg.refl _) | (go_simp; exact rel_val (Chg.refl _))
              case ao9 =>
                intro a wx hE hin
                clear hin
                have hcst : ∀ v, a.eval (.const v) = v := fun _ => rfl
                have hfnc : ∀ f, a.eval (.func f) = .func (.func f) #[] #[] := fun _ => rfl
                refine want_none rfl ?_
                unfold Oper.wp
                generalize a.eval = ρ at *
                go_simp
                try go_bits
                exact rel_row (id)
              case ao10 =>
                intro a wx hE hin
                have i10 : a.eval (.tmp 10) = .pointer (some ⟨gx, 0, none⟩) := hin 10 rfl
                clear hin
                have hcst : ∀ v, a.eval (.const v) = v := fun _ => rfl
                have hfnc : ∀ f, a.eval (.func f) = .func (.func f) #[] #[] := fun _ => rfl
                refine want_none rfl ?_
                unfold Oper.wp
                generalize a.eval = ρ at *
                go_simp
                try go_bits
                first | exact rel_val (Chg.refl _) | (go_simp; exact rel_val (Chg.refl _))
              case ao11 =>
                rintro a wx hE hin (h10 : a.eval (.tmp 64) = _)
                clear hin
                have hcst : ∀ v, a.eval (.const v) = v := fun _ => rfl
                have hfnc : ∀ f, a.eval (.func f) = .func (.func f) #[] #[] := fun _ => rfl
                refine want_none rfl ?_
                unfold Oper.wp
                generalize a.eval = ρ at *
                go_simp
                try go_bits
                first | exact rel_val (Chg.refl _) | (go_simp; exact rel_val (Chg.refl _))
              case ao12 =>
                rintro a wx hE hin (h11 : a.eval (.tmp 65) = _)
                clear hin
                have hcst : ∀ v, a.eval (.const v) = v := fun _ => rfl
                have hfnc : ∀ f, a.eval (.func f) = .func (.func f) #[] #[] := fun _ => rfl
                refine want_none rfl ?_
                unfold Oper.wp
                generalize a.eval = ρ at *
                have c := Bk.cell (Kxw12.out.drew.chg hE id) DV4.out
                go_simp
                try go_bits
                first | exact rel_val (Chg.refl _) | (go_simp; exact rel_val (Chg.refl _))
              case ao13 =>
                rintro a wx hE hin ⟨g9, h9, s9, t9, f9, c9⟩ (h12 : a.eval (.tmp 66) = _)
                clear hin
                have hcst : ∀ v, a.eval (.const v) = v := fun _ => rfl
                have hfnc : ∀ f, a.eval (.func f) = .func (.func f) #[] #[] := fun _ => rfl
                refine want_none rfl ?_
                exact wp_append_new _ _ 23 rfl 39 zPut 33 40 Try.underlying23 infoPut3 rfl (by decide) (by decide) ⟨g9, 0, none⟩ h9 s.r.A s.r.n s.r.c (s.r.ps.flatMap putC) h12 (by rw [puts_length HSO.out.rcd.ok, HSO.out.rcd.len]) (HSO.out.rcd.rd.below (HEW.out wx hE)) (by have := HSF.out.1; omega) (one_puts _) (fun A1 c1 w1 hr1 hc1 => ⟨_, rfl, ⟨A1, c1, rfl, hr1.mono hE.size⟩, hc1⟩)
              case ao14 =>
                rintro a wx hE hin (h5 : a.eval (.tmp 59) = _) (h8 : a.eval (.tmp 62) = _) ⟨A13, c13, h13, o13⟩
                clear hin
                have hcst : ∀ v, a.eval (.const v) = v := fun _ => rfl
                have hfnc : ∀ f, a.eval (.func f) = .func (.func f) #[] #[] := fun _ => rfl
                refine want_none rfl ?_
                exact wp_bld 25 [(0, .tmp 59), (1, .tmp 62), (2, .tmp 67)] rfl zR [(0, [vu32 s.r.e]), (1, [vu32 s.r.q]), (2, [.slice A13 s.r.n c13])] [vu32 s.r.e, vu32 s.r.q, .slice A13 s.r.n c13] (by kernel_rfl) (by kernel_rfl) ⟨by rw [h5]; rfl, ⟨1, rfl, by kernel_rfl, by decide⟩, by rw [h8]; rfl, ⟨1, rfl, by kernel_rfl, by decide⟩, by rw [h13]; rfl, ⟨1, rfl, by kernel_rfl, by decide⟩, trivial⟩ rfl ⟨_, rfl, ⟨A13, c13, rfl, o13⟩, Chg.refl _⟩
              case ao15 =>
                rintro a wx hE hin (h0 : a.eval (.tmp 54) = _) (h2 : a.eval (.tmp 56) = _) ⟨A14, c14, h14, o14⟩
                clear hin
                have hcst : ∀ v, a.eval (.const v) = v := fun _ => rfl
                have hfnc : ∀ f, a.eval (.func f) = .func (.func f) #[] #[] := fun _ => rfl
                refine want_none rfl ?_
                unfold Oper.wp
                generalize a.eval = ρ at *
                go_simp
                refine (walPut_nil wx n1 [vu32 s.r.e, vu32 s.r.q, .slice A14 s.r.n c14]).mono ?_
                rintro e w' ⟨rfl, hb⟩
                exact rel_val (.of_below hb)
              case ao16 =>
                intro a wx hE hin
                have i7 : a.eval (.tmp 7) = .pointer none := hin 7 rfl
                clear hin
                have hcst : ∀ v, a.eval (.const v) = v := fun _ => rfl
                have hfnc : ∀ f, a.eval (.func f) = .func (.func f) #[] #[] := fun _ => rfl
                refine want_none rfl ?_
                unfold Oper.wp
                generalize a.eval = ρ at *
                go_simp
                try go_bits
                first | exact rel_val (Chg.refl _) | (go_simp; exact rel_val (Chg.refl _))
              case ao17 =>
                intro a wx hE hin
                have i2 : a.eval (.tmp 2) = .pointer (some ⟨w.heap.size, 0, none⟩) := hin 2 rfl
                clear hin
                have hcst : ∀ v, a.eval (.const v) = v := fun _ => rfl
                have hfnc : ∀ f, a.eval (.func f) = .func (.func f) #[] #[] := fun _ => rfl
                refine want_none rfl ?_
                unfold Oper.wp
                generalize a.eval = ρ at *
                go_simp
                try go_bits
                first | exact rel_val (Chg.refl _) | (go_simp; exact rel_val (Chg.refl _))
              case ao18 =>
                rintro a wx hE hin (h17 : a.eval (.tmp 71) = _)
                clear hin
                have hcst : ∀ v, a.eval (.const v) = v := fun _ => rfl
                have hfnc : ∀ f, a.eval (.func f) = .func (.func f) #[] #[] := fun _ => rfl
                refine want_none rfl ?_
                unfold Oper.wp
                generalize a.eval = ρ at *
                have c := Bk.cell (HK0.out.drew.chg hE id) DB1.out
                go_simp
                try go_bits
                first | exact rel_val (Chg.refl _) | (go_simp; exact rel_val (Chg.refl _))
              case ao19 =>
                intro a wx hE hin
                have i10 : a.eval (.tmp 10) = .pointer (some ⟨gx, 0, none⟩) := hin 10 rfl
                clear hin
                have hcst : ∀ v, a.eval (.const v) = v := fun _ => rfl
                have hfnc : ∀ f, a.eval (.func f) = .func (.func f) #[] #[] := fun _ => rfl
                refine want_none rfl ?_
                unfold Oper.wp
                generalize a.eval = ρ at *
                go_simp
                try go_bits
                first | exact rel_val (Chg.refl _) | (go_simp; exact rel_val (Chg.refl _))
              case ao20 =>
                rintro a wx hE hin (h19 : a.eval (.tmp 73) = _)
                clear hin
                have hcst : ∀ v, a.eval (.const v) = v := fun _ => rfl
                have hfnc : ∀ f, a.eval (.func f) = .func (.func f) #[] #[] := fun _ => rfl
                refine want_none rfl ?_
                exact wp_ld 25 _ rfl gx 2 3 vs (recC s.r) h19 (Kxw12.out.drew.chg hE id) (by kernel_rfl) (by kernel_rfl) (by rw [HVL.out]; decide) HV25.out (rel_val (Chg.refl _))
              case ao21 =>
                rintro a wx hE hin (h20 : a.eval (.tmp 74) = _)
                clear hin
                have hcst : ∀ v, a.eval (.const v) = v := fun _ => rfl
                have hfnc : ∀ f, a.eval (.func f) = .func (.func f) #[] #[] := fun _ => rfl
                refine want_none rfl ?_
                unfold Oper.wp
                generalize a.eval = ρ at *
                go_simp
                refine (own_calls wx s.r (HSO.out.rcd.below (HEW.out wx hE)) HSF.out.1).mono ?_
                rintro e w' ⟨A, c, rfl, ho, hb⟩
                exact ⟨_, rfl, ⟨A, c, rfl, ho.mono hE.size⟩, .of_below hb⟩
              case ao22 =>
                rintro a wx hE hin (h16 : a.eval (.tmp 70) = _) (h18 : a.eval (.tmp 72) = _) ⟨A21, c21, h21, o21⟩
                clear hin
                have hcst : ∀ v, a.eval (.const v) = v := fun _ => rfl
                have hfnc : ∀ f, a.eval (.func f) = .func (.func f) #[] #[] := fun _ => rfl
                refine want_none rfl ?_
                unfold Oper.wp
                generalize a.eval = ρ at *
                go_simp
                refine (refPut_nil wx n1 [vu32 s.r.e, vu32 s.r.q, .slice A21 s.r.n c21, .int .i64 0]).mono ?_
                rintro e w' ⟨rfl, hb⟩
                exact rel_val (.of_below hb)
            case afin =>
              intro wx hE
              rintro _ rfl _ rfl _ rfl _ rfl _ rfl _ rfl _ rfl _ rfl _ rfl _ ⟨g9, rfl, s9, t9, f9, c9⟩ _ rfl _ rfl _ rfl _ ⟨A13, c13, rfl, o13⟩ _ ⟨A14, c14, rfl, o14⟩ _ rfl _ rfl _ rfl _ rfl _ rfl _ rfl _ ⟨A21, c21, rfl, o21⟩ _ rfl
              simp only [FinOk, List.take_succ_cons, List.take_zero, List.take_nil, List.drop_succ_cons, List.drop_zero, List.drop_nil, Act.put, List.setIfInBounds_toArray, List.set_cons_succ, List.set_cons_zero]
              have KX4 : Hid (Bk wx gx vs) := Kxw12.out.drew.chg hE id
              have EE4 : Hid (Below w1.heap.size w1 wx) := Ew12.out.trans (hE.undrew.below Ew12.out.size (fun _ _ => id))
              clear hE o13 o14 o21 c9
              obtain ⟨w4, hw4⟩ : ∃ w4, wx = w4 := ⟨_, rfl⟩
              rw [hw4] at KX4 EE4 ⊢
              clear hw4
              go_wp2_with fail
              apply wp_region_rel 8 (Chg NoS) [(Veq _), (Veq _), (Veq _), (Veq _), (Veq _), (Veq _), (Veq _), (Veq _)] [[], [0], [1], [2], [], [4], [5], [6]] [164, 165, 166, 167, 168, 169, 170, 171] (by kernel_rfl) (by kernel_rfl) rfl rfl rfl Chg.refl (fun _ _ _ => Chg.trans) ⟨Veq.lasts, Veq.lasts, Veq.lasts, Veq.lasts, Veq.lasts, Veq.lasts, Veq.lasts, Veq.lasts, trivial⟩ ?z7ops ?z7fin
              case z7ops =>
                refine ⟨?z7o0, ?z7o1, ?z7o2, ?z7o3, ?z7o4, ?z7o5, ?z7o6, ?z7o7, trivial⟩
                case z7o0 =>
                  intro a wx hE hin
                  have i10 : a.eval (.tmp 10) = .pointer (some ⟨gx, 0, none⟩) := hin 10 rfl
                  clear hin
                  have hcst : ∀ v, a.eval (.const v) = v := fun _ => rfl
                  have hfnc : ∀ f, a.eval (.func f) = .func (.func f) #[] #[] := fun _ => rfl
                  refine want_none rfl ?_
                  unfold Oper.wp
                  generalize a.eval = ρ at *
                  go_simp
                  try go_bits
                  first | exact rel_val (Chg.refl _) | (go_simp; exact rel_val (Chg.refl _))
                case z7o1 =>
                  rintro a wx hE hin (h0 : a.eval (.tmp 164) = _)
                  clear hin
                  have hcst : ∀ v, a.eval (.const v) = v := fun _ => rfl
                  have hfnc : ∀ f, a.eval (.func f) = .func (.func f) #[] #[] := fun _ => rfl
                  refine want_none rfl ?_
                  unfold Oper.wp
                  generalize a.eval = ρ at *
                  go_simp
                  try go_bits
                  first | exact rel_val (Chg.refl _) | (go_simp; exact rel_val (Chg.refl _))
                case z7o2 =>
                  rintro a wx hE hin (h1 : a.eval (.tmp 165) = _)
                  clear hin
                  have hcst : ∀ v, a.eval (.const v) = v := fun _ => rfl
                  have hfnc : ∀ f, a.eval (.func f) = .func (.func f) #[] #[] := fun _ => rfl
                  refine want_none rfl ?_
                  unfold Oper.wp
                  generalize a.eval = ρ at *
                  have c := Bk.cell (KX4.out.drew.chg hE id) DV4.out
                  go_simp
                  try go_bits
                  first | exact rel_val (Chg.refl _) | (go_simp; exact rel_val (Chg.refl _))
                case z7o3 =>
                  rintro a wx hE hin (h2 : a.eval (.tmp 166) = _)
                  clear hin
                  have hcst : ∀ v, a.eval (.const v) = v := fun _ => rfl
                  have hfnc : ∀ f, a.eval (.func f) = .func (.func f) #[] #[] := fun _ => rfl
                  refine want_none rfl ?_
                  unfold Oper.wp
                  generalize a.eval = ρ at *
                  go_simp
                  refine (good_calls s.r.ps s.r.A s.r.n s.r.c wx HSO.out.rcd.len (HSO.out.rcd.rd.below ((HW1.out.trans (EE4.out.mono HW1.out.size)).trans ((hE.undrew.below (B := w4.heap.size) (Nat.le_refl _) (fun _ _ => id)).mono (HW1.out.trans (EE4.out.mono HW1.out.size)).size))) HSO.out.rcd.ok).mono ?_
                  rintro e w' ⟨rfl, hb⟩
                  exact rel_val (.of_below hb)
                case z7o4 =>
                  intro a wx hE hin
                  have i10 : a.eval (.tmp 10) = .pointer (some ⟨gx, 0, none⟩) := hin 10 rfl
                  clear hin
                  have hcst : ∀ v, a.eval (.const v) = v := fun _ => rfl
                  have hfnc : ∀ f, a.eval (.func f) = .func (.func f) #[] #[] := fun _ => rfl
                  refine want_none rfl ?_
                  unfold Oper.wp
                  generalize a.eval = ρ at *
                  go_simp
                  try go_bits
                  first | exact rel_val (Chg.refl _) | (go_simp; exact rel_val (Chg.refl _))
                case z7o5 =>
                  rintro a wx hE hin (h4 : a.eval (.tmp 168) = _)
                  clear hin
                  have hcst : ∀ v, a.eval (.const v) = v := fun _ => rfl
                  have hfnc : ∀ f, a.eval (.func f) = .func (.func f) #[] #[] := fun _ => rfl
                  refine want_none rfl ?_
                  unfold Oper.wp
                  generalize a.eval = ρ at *
                  go_simp
                  try go_bits
                  first | exact rel_val (Chg.refl _) | (go_simp; exact rel_val (Chg.refl _))
                case z7o6 =>
                  rintro a wx hE hin (h5 : a.eval (.tmp 169) = _)
                  clear hin
                  have hcst : ∀ v, a.eval (.const v) = v := fun _ => rfl
                  have hfnc : ∀ f, a.eval (.func f) = .func (.func f) #[] #[] := fun _ => rfl
                  refine want_none rfl ?_
                  unfold Oper.wp
                  generalize a.eval = ρ at *
                  have c := Bk.cell (KX4.out.drew.chg hE id) DV4.out
                  go_simp
                  try go_bits
                  first | exact rel_val (Chg.refl _) | (go_simp; exact rel_val (Chg.refl _))
                case z7o7 =>
                  rintro a wx hE hin (h6 : a.eval (.tmp 170) = _)
                  clear hin
                  have hcst : ∀ v, a.eval (.const v) = v := fun _ => rfl
                  have hfnc : ∀ f, a.eval (.func f) = .func (.func f) #[] #[] := fun _ => rfl
                  refine want_none rfl ?_
                  unfold Oper.wp
                  generalize a.eval = ρ at *
                  go_simp
                  refine (refGood_calls s.r.ps s.r.A s.r.n s.r.c wx HSO.out.rcd.len (by have h2 := HSO.out.rcd.cap; have h3 := HSO.out.rcd.max; omega) (HSO.out.rcd.rd.below ((HW1.out.trans (EE4.out.mono HW1.out.size)).trans ((hE.undrew.below (B := w4.heap.size) (Nat.le_refl _) (fun _ _ => id)).mono (HW1.out.trans (EE4.out.mono HW1.out.size)).size))) HSO.out.rcd.ok).mono ?_
                  rintro e w' ⟨rfl, hb⟩
                  exact rel_val (.of_below hb)
              case z7fin =>
                intro wx hE
                rintro _ rfl _ rfl _ rfl _ rfl _ rfl _ rfl _ rfl _ rfl
                simp only [FinOk, List.take_succ_cons, List.take_zero, List.take_nil, List.drop_succ_cons, List.drop_zero, List.drop_nil, Act.put, List.setIfInBounds_toArray, List.set_cons_succ, List.set_cons_zero]
                have EX : Hid (Below w1.heap.size w1 wx) := EE4.out.trans (hE.undrew.below EE4.out.size (fun _ _ => id))
                clear hE
                cases goodB s.r.ps
                all_goals
                  go_wp2_with fail
                  go_roundw
                  case rel => exact ⟨k + 1, by omega, by go_num, EX.out⟩
                  case measure => simp [intOf]; omega
        · have hkb0 : (s.k == 0) = false := by rw [beq_eq_false_iff_ne]; exact hk0
          by_cases hk1 : s.k = 1
          · have hkb1 : (s.k == 1) = true := by rw [hk1]; rfl
            as_aux_lemma =>
              have b1 := (K0.out.below Ew12.out).cell DB1.out
              have cx0 := Kxw12.out.cell DV0.out
              go_wp2_with fail
              clear cx0
              clear b1
              refine (walGet_nil w12 n1).mono ?_
              intro en w13 hp
              obtain ⟨Aw13, cw13, he, hR, hncw13, hcmw13, hb⟩ := hp
              have he' : en = .returned (.tuple #[.agg #[vu32 0, vu32 0, .slice Aw13 0 cw13], .int .i64 1]) := he
              subst he'
              have hR' : Rd w13 Aw13 ([].flatMap putC) := hR
              have Ew13 : Hid (Below w1.heap.size w1 w13) := Ew12.out.trans (hb.mono Ew12.out.size)
              have Kxw13 : Hid (Bk w13 gx vs) := Kxw12.out.below hb
              clear Ew12 Kxw12
              have Rw13w13 := Lib.hid hR'
              clear he hb hR hR'
              go_wp2_with (refine wpList_al rfl 25 rfl zR (by kernel_rfl) ?_)
              intro ga w14 hg hb hc hs
              have HQa : Hid (Below w13.heap.size w13 w14) := hc.below (Nat.le_refl _) (fun _ _ => id)
              have HGa : Hid (ga = w13.heap.size) := hg
              have KZa := Lib.hid hb
              clear hg hb hc hs
              go_wp2_with (refine wpList_st rfl 25 (.tmp 11) (.tmp 85) rfl ga 0 3 zR [vu32 0, vu32 0, .slice Aw13 0 cw13] rfl rfl KZa.out (by kernel_rfl) rfl (by decide) (one_rec _ _ _ _ _) ?_)
              intro w15 hbk hc
              rw [splice_whole zR [vu32 0, vu32 0, .slice Aw13 0 cw13] rfl] at hbk
              have hb : Below w13.heap.size w13 w15 := HQa.out.trans (hc.below HQa.out.size (fun q hq he => by have := HGa.out; omega))
              have Axa : Hid (gx < ga) := by show _ < _; have := Kxw13.out.lt; have := HGa.out; omega
              have Ew15 : Hid (Below w1.heap.size w1 w15) := Ew13.out.trans (hb.mono Ew13.out.size)
              have Kxw15 : Hid (Bk w15 gx vs) := Kxw13.out.below hb
              have Rw13w15 : Hid (Rd w15 Aw13 ([].flatMap putC)) := Rw13w13.out.below hb
              clear Ew13 Kxw13 Rw13w13
              have Kaw15 : Hid (Bk w15 ga [vu32 0, vu32 0, .slice Aw13 0 cw13]) := hbk
              have Kaw15 : Hid (Bk w15 ga [vu32 0, vu32 0, .slice Aw13 0 cw13]) := hbk
              clear hbk hb hc KZa HQa HGa
              have b1 := (K0.out.below Ew15.out).cell DB1.out
              go_wp2_with fail
              clear b1
              refine (refGet_nil w15 n1).mono ?_
              intro en w16 hp
              obtain ⟨Aw16, cw16, he, hR, hncw16, hcmw16, hb⟩ := hp
              have he' : en = .returned (.agg #[vu32 0, vu32 0, .slice Aw16 0 cw16, .int .i64 1]) := he
              subst he'
              have hR' : Rd w16 Aw16 ([].flatMap putC) := hR
              have Ew16 : Hid (Below w1.heap.size w1 w16) := Ew15.out.trans (hb.mono Ew15.out.size)
              have Kxw16 : Hid (Bk w16 gx vs) := Kxw15.out.below hb
              have Kaw16 : Hid (Bk w16 ga [vu32 0, vu32 0, .slice Aw13 0 cw13]) := Kaw15.out.below hb
              have Rw13w16 : Hid (Rd w16 Aw13 ([].flatMap putC)) := Rw13w15.out.below hb
              clear Ew15 Kxw15 Kaw15 Rw13w15
              have Rw16w16 := Lib.hid hR'
              clear he hb hR hR'
              go_wp2_with (refine wpList_al rfl 53 rfl zQ (by kernel_rfl) ?_)
              intro gb w17 hg hb hc hs
              have HQb : Hid (Below w16.heap.size w16 w17) := hc.below (Nat.le_refl _) (fun _ _ => id)
              have HGb : Hid (gb = w16.heap.size) := hg
              have KZb := Lib.hid hb
              clear hg hb hc hs
              go_wp2_with (refine wpList_st rfl 53 (.tmp 13) (.tmp 90) rfl gb 0 4 zQ [vu32 0, vu32 0, .slice Aw16 0 cw16, .int .i64 1] rfl rfl KZb.out (by kernel_rfl) rfl (by decide) (one_rec4 _ _ _ _ _ _) ?_)
              intro w18 hbk hc
              rw [splice_whole zQ [vu32 0, vu32 0, .slice Aw16 0 cw16, .int .i64 1] rfl] at hbk
              have hb : Below w16.heap.size w16 w18 := HQb.out.trans (hc.below HQb.out.size (fun q hq he => by have := HGb.out; omega))
              have Axb : Hid (gx < gb) := by show _ < _; have := Kxw16.out.lt; have := HGb.out; omega
              have Aab : Hid (ga < gb) := by show _ < _; have := Kaw16.out.lt; have := HGb.out; omega
              have Ew18 : Hid (Below w1.heap.size w1 w18) := Ew16.out.trans (hb.mono Ew16.out.size)
              have Kxw18 : Hid (Bk w18 gx vs) := Kxw16.out.below hb
              have Kaw18 : Hid (Bk w18 ga [vu32 0, vu32 0, .slice Aw13 0 cw13]) := Kaw16.out.below hb
              have Rw13w18 : Hid (Rd w18 Aw13 ([].flatMap putC)) := Rw13w16.out.below hb
              have Rw16w18 : Hid (Rd w18 Aw16 ([].flatMap putC)) := Rw16w16.out.below hb
              clear Ew16 Kxw16 Kaw16 Rw13w16 Rw16w16
              have Kbw18 : Hid (Bk w18 gb [vu32 0, vu32 0, .slice Aw16 0 cw16, .int .i64 1]) := hbk
              have Kbw18 : Hid (Bk w18 gb [vu32 0, vu32 0, .slice Aw16 0 cw16, .int .i64 1]) := hbk
              clear hbk hb hc KZb HQb HGb
              have ca0 := Kaw18.out.cell (j := 0) rfl
              have ca1 := Kaw18.out.cell (j := 1) rfl
              have ca2 := Kaw18.out.cell (j := 2) rfl
              have cb0 := Kbw18.out.cell (j := 0) rfl
              have cb1 := Kbw18.out.cell (j := 1) rfl
              have cb2 := Kbw18.out.cell (j := 2) rfl
              have cb3 := Kbw18.out.cell (j := 3) rfl
              go_wp2_with fail
              clear ca0 ca1 ca2 cb0 cb1 cb2 cb3
              refine (keepPuts_calls [] [] Aw13 Aw16 0 0 cw13 cw16 w18 rfl rfl (by decide) (Rd.nil _ _) (Rd.nil _ _) wkPuts3 wkPuts3).mono ?_
              rintro en w19 ⟨rfl, hb⟩
              have Ew19 : Hid (Below w1.heap.size w1 w19) := Ew18.out.trans (hb.mono Ew18.out.size)
              have Kxw19 : Hid (Bk w19 gx vs) := Kxw18.out.below hb
              have Kaw19 : Hid (Bk w19 ga [vu32 0, vu32 0, .slice Aw13 0 cw13]) := Kaw18.out.below hb
              have Kbw19 : Hid (Bk w19 gb [vu32 0, vu32 0, .slice Aw16 0 cw16, .int .i64 1]) := Kbw18.out.below hb
              have Rw13w19 : Hid (Rd w19 Aw13 ([].flatMap putC)) := Rw13w18.out.below hb
              have Rw16w19 : Hid (Rd w19 Aw16 ([].flatMap putC)) := Rw16w18.out.below hb
              clear Ew18 Kxw18 Kaw18 Kbw18 Rw13w18 Rw16w18
              clear hb
              rw [decide_eq_true rfl]
              go_wp2_with fail
              apply wp_region_rel 8 (Chg NoS) [(Veq _), (Veq _), (Veq _), (Veq _), (Veq _), (Veq _), (Veq _), (Veq _)] [[], [0], [1], [2], [], [4], [5], [6]] [164, 165, 166, 167, 168, 169, 170, 171] (by kernel_rfl) (by kernel_rfl) rfl rfl rfl Chg.refl (fun _ _ _ => Chg.trans) ⟨Veq.lasts, Veq.lasts, Veq.lasts, Veq.lasts, Veq.lasts, Veq.lasts, Veq.lasts, Veq.lasts, trivial⟩ ?z8ops ?z8fin
              case z8ops =>
                refine ⟨?z8o0, ?z8o1, ?z8o2, ?z8o3, ?z8o4, ?z8o5, ?z8o6, ?z8o7, trivial⟩
                case z8o0 =>
                  intro a wx hE hin
                  have i10 : a.eval (.tmp 10) = .pointer (some ⟨gx, 0, none⟩) := hin 10 rfl
                  clear hin
                  have hcst : ∀ v, a.eval (.const v) = v := fun _ => rfl
                  have hfnc : ∀ f, a.eval (.func f) = .func (.func f) #[] #[] := fun _ => rfl
                  refine want_none rfl ?_
                  unfold Oper.wp
                  generalize a.eval = ρ at *
                  go_simp
                  try go_bits
                  first | exact rel_val (Chg.refl _) | (go_simp; exact rel_val (Chg.refl _))
                case z8o1 =>
                  rintro a wx hE hin (h0 : a.eval (.tmp 164) = _)
                  clear hin
                  have hcst : ∀ v, a.eval (.const v) = v := fun _ => rfl
                  have hfnc : ∀ f, a.eval (.func f) = .func (.func f) #[] #[] := fun _ => rfl
                  refine want_none rfl ?_
                  unfold Oper.wp
                  generalize a.eval = ρ at *
                  go_simp
                  try go_bits
                  first | exact rel_val (Chg.refl _) | (go_simp; exact rel_val (Chg.refl _))
                case z8o2 =>
                  rintro a wx hE hin (h1 : a.eval (.tmp 165) = _)
                  clear hin
                  have hcst : ∀ v, a.eval (.const v) = v := fun _ => rfl
                  have hfnc : ∀ f, a.eval (.func f) = .func (.func f) #[] #[] := fun _ => rfl
                  refine want_none rfl ?_
                  unfold Oper.wp
                  generalize a.eval = ρ at *
                  have c := Bk.cell (Kxw19.out.drew.chg hE id) DV4.out
                  go_simp
                  try go_bits
                  first | exact rel_val (Chg.refl _) | (go_simp; exact rel_val (Chg.refl _))
                case z8o3 =>
                  rintro a wx hE hin (h2 : a.eval (.tmp 166) = _)
                  clear hin
                  have hcst : ∀ v, a.eval (.const v) = v := fun _ => rfl
                  have hfnc : ∀ f, a.eval (.func f) = .func (.func f) #[] #[] := fun _ => rfl
                  refine want_none rfl ?_
                  unfold Oper.wp
                  generalize a.eval = ρ at *
                  go_simp
                  refine (good_calls s.r.ps s.r.A s.r.n s.r.c wx HSO.out.rcd.len (HSO.out.rcd.rd.below ((HW1.out.trans (Ew19.out.mono HW1.out.size)).trans ((hE.undrew.below (B := w19.heap.size) (Nat.le_refl _) (fun _ _ => id)).mono (HW1.out.trans (Ew19.out.mono HW1.out.size)).size))) HSO.out.rcd.ok).mono ?_
                  rintro e w' ⟨rfl, hb⟩
                  exact rel_val (.of_below hb)
                case z8o4 =>
                  intro a wx hE hin
                  have i10 : a.eval (.tmp 10) = .pointer (some ⟨gx, 0, none⟩) := hin 10 rfl
                  clear hin
                  have hcst : ∀ v, a.eval (.const v) = v := fun _ => rfl
                  have hfnc : ∀ f, a.eval (.func f) = .func (.func f) #[] #[] := fun _ => rfl
                  refine want_none rfl ?_
                  unfold Oper.wp
                  generalize a.eval = ρ at *
                  go_simp
                  try go_bits
                  first | exact rel_val (Chg.refl _) | (go_simp; exact rel_val (Chg.refl _))
                case z8o5 =>
                  rintro a wx hE hin (h4 : a.eval (.tmp 168) = _)
                  clear hin
                  have hcst : ∀ v, a.eval (.const v) = v := fun _ => rfl
                  have hfnc : ∀ f, a.eval (.func f) = .func (.func f) #[] #[] := fun _ => rfl
                  refine want_none rfl ?_
                  unfold Oper.wp
                  generalize a.eval = ρ at *
                  go_simp
                  try go_bits
                  first | exact rel_val (Chg.refl _) | (go_simp; exact rel_val (Chg.refl _))
                case z8o6 =>
                  rintro a wx hE hin (h5 : a.eval (.tmp 169) = _)
                  clear hin
                  have hcst : ∀ v, a.eval (.const v) = v := fun _ => rfl
                  have hfnc : ∀ f, a.eval (.func f) = .func (.func f) #[] #[] := fun _ => rfl
                  refine want_none rfl ?_
                  unfold Oper.wp
                  generalize a.eval = ρ at *
                  have c := Bk.cell (Kxw19.out.drew.chg hE id) DV4.out
                  go_simp
                  try go_bits
                  first | exact rel_val (Chg.refl _) | (go_simp; exact rel_val (Chg.refl _))
                case z8o7 =>
                  rintro a wx hE hin (h6 : a.eval (.tmp 170) = _)
                  clear hin
                  have hcst : ∀ v, a.eval (.const v) = v := fun _ => rfl
                  have hfnc : ∀ f, a.eval (.func f) = .func (.func f) #[] #[] := fun _ => rfl
                  refine want_none rfl ?_
                  unfold Oper.wp
                  generalize a.eval = ρ at *
                  go_simp
                  refine (refGood_calls s.r.ps s.r.A s.r.n s.r.c wx HSO.out.rcd.len (by have h2 := HSO.out.rcd.cap; have h3 := HSO.out.rcd.max; omega) (HSO.out.rcd.rd.below ((HW1.out.trans (Ew19.out.mono HW1.out.size)).trans ((hE.undrew.below (B := w19.heap.size) (Nat.le_refl _) (fun _ _ => id)).mono (HW1.out.trans (Ew19.out.mono HW1.out.size)).size))) HSO.out.rcd.ok).mono ?_
                  rintro e w' ⟨rfl, hb⟩
                  exact rel_val (.of_below hb)
              case z8fin =>
                intro wx hE
                rintro _ rfl _ rfl _ rfl _ rfl _ rfl _ rfl _ rfl _ rfl
                simp only [FinOk, List.take_succ_cons, List.take_zero, List.take_nil, List.drop_succ_cons, List.drop_zero, List.drop_nil, Act.put, List.setIfInBounds_toArray, List.set_cons_succ, List.set_cons_zero]
                have EX : Hid (Below w1.heap.size w1 wx) := Ew19.out.trans (hE.undrew.below Ew19.out.size (fun _ _ => id))
                clear hE
                cases goodB s.r.ps
                all_goals
                  go_wp2_with fail
                  go_roundw
                  case rel => exact ⟨k + 1, by omega, by go_num, EX.out⟩
                  case measure => simp [intOf]; omega
          · have hkb1 : (s.k == 1) = false := by rw [beq_eq_false_iff_ne]; exact hk1
            by_cases hk2 : s.k = 2
            · have hkb2 : (s.k == 2) = true := by rw [hk2]; rfl
              as_aux_lemma =>
                have d6a : (w12.alloc (.cells #[] 5)).cell? ⟨gx, 6, none⟩ = some (.slice s.B s.m s.d) := Bk.cell (Kxw12.out.alloc _) DV6.out
                have cx0 := Kxw12.out.cell DV0.out
                go_wp2_with (at_builtin; refine wpList_append_new rfl _ _ 48 rfl 5 (.int .u8 0) 1 1 Try.underlying48 info_u8l rfl (by decide) (by decide) ⟨w12.heap.size, 0, none⟩ rfl s.B s.m s.d (bts s.keep) rfl (by rw [bts_length, HSO.out.len2, Nat.mul_one]) ((HSO.out.rd2.below (HW1.out.trans (Ew12.out.mono HW1.out.size))).alloc _) (by have := HSF.out.2.2; omega) (one_bts _) ?_)
                intro A6 c6 w13 hrn hcn
                have hb : Below w12.heap.size w12 w13 := ((Below.refl _ _).alloc (Nat.le_refl _) _).trans (hcn.below (by simp) (fun _ _ => id))
                have HRN : Hid (RdN w12.heap.size w13 A6 (bts s.keep)) := hrn.mono (by simp)
                have hsz : w12.heap.size ≤ w13.heap.size := hb.size
                have Ew13 : Hid (Below w1.heap.size w1 w13) := Ew12.out.trans (hb.mono Ew12.out.size)
                have Kxw13 : Hid (Bk w13 gx vs) := Kxw12.out.below hb
                clear Ew12 Kxw12
                clear hb hrn hcn d6a hsz
                go_wp2_with fail
                refine (diskUp_nil w13 _).mono ?_
                rintro en w' ⟨rfl, rfl⟩
                go_wp2_with fail
                apply wp_region_rel 8 (Chg NoS) [(Veq _), (Veq _), (Veq _), (Veq _), (Veq _), (Veq _), (Veq _), (Veq _)] [[], [0], [1], [2], [], [4], [5], [6]] [164, 165, 166, 167, 168, 169, 170, 171] (by kernel_rfl) (by kernel_rfl) rfl rfl rfl Chg.refl (fun _ _ _ => Chg.trans) ⟨Veq.lasts, Veq.lasts, Veq.lasts, Veq.lasts, Veq.lasts, Veq.lasts, Veq.lasts, Veq.lasts, trivial⟩ ?z9ops ?z9fin
                case z9ops =>
                  refine ⟨?z9o0, ?z9o1, ?z9o2, ?z9o3, ?z9o4, ?z9o5, ?z9o6, ?z9o7, trivial⟩
                  case z9o0 =>
                    intro a wx hE hin
                    have i10 : a.eval (.tmp 10) = .pointer (some ⟨gx, 0, none⟩) := hin 10 rfl
                    clear hin
                    have hcst : ∀ v, a.eval (.const v) = v := fun _ => rfl
                    have hfnc : ∀ f, a.eval (.func f) = .func (.func f) #[] #[] := fun _ => rfl
                    refine want_none rfl ?_
                    unfold Oper.wp
                    generalize a.eval = ρ at *
                    go_simp
                    try go_bits
                    first | exact rel_val (Chg.refl _) | (go_simp; exact rel_val (Chg.refl _))
                  case z9o1 =>
                    rintro a wx hE hin (h0 : a.eval (.tmp 164) = _)
                    clear hin
                    have hcst : ∀ v, a.eval (.const v) = v := fun _ => rfl
                    have hfnc : ∀ f, a.eval (.func f) = .func (.func f) #[] #[] := fun _ => rfl
                    refine want_none rfl ?_
                    unfold Oper.wp
                    generalize a.eval = ρ at *
                    go_simp
                    try go_bits
                    first | exact rel_val (Chg.refl _) | (go_simp; exact rel_val (Chg.refl _))
                  case z9o2 =>
                    rintro a wx hE hin (h1 : a.eval (.tmp 165) = _)
                    clear hin
                    have hcst : ∀ v, a.eval (.const v) = v := fun _ => rfl
                    have hfnc : ∀ f, a.eval (.func f) = .func (.func f) #[] #[] := fun _ => rfl
                    refine want_none rfl ?_
                    unfold Oper.wp
                    generalize a.eval = ρ at *
                    have c := Bk.cell (Kxw13.out.drew.chg hE id) DV4.out
                    go_simp
                    try go_bits
                    first | exact rel_val (Chg.refl _) | (go_simp; exact rel_val (Chg.refl _))
                  case z9o3 =>
                    rintro a wx hE hin (h2 : a.eval (.tmp 166) = _)
                    clear hin
                    have hcst : ∀ v, a.eval (.const v) = v := fun _ => rfl
                    have hfnc : ∀ f, a.eval (.func f) = .func (.func f) #[] #[] := fun _ => rfl
                    refine want_none rfl ?_
                    unfold Oper.wp
                    generalize a.eval = ρ at *
                    go_simp
                    refine (good_calls s.r.ps s.r.A s.r.n s.r.c wx HSO.out.rcd.len (HSO.out.rcd.rd.below ((HW1.out.trans (Ew13.out.mono HW1.out.size)).trans ((hE.undrew.below (B := w13.heap.size) (Nat.le_refl _) (fun _ _ => id)).mono (HW1.out.trans (Ew13.out.mono HW1.out.size)).size))) HSO.out.rcd.ok).mono ?_
                    rintro e w' ⟨rfl, hb⟩
                    exact rel_val (.of_below hb)
                  case z9o4 =>
                    intro a wx hE hin
                    have i10 : a.eval (.tmp 10) = .pointer (some ⟨gx, 0, none⟩) := hin 10 rfl
                    clear hin
                    have hcst : ∀ v, a.eval (.const v) = v := fun _ => rfl
                    have hfnc : ∀ f, a.eval (.func f) = .func (.func f) #[] #[] := fun _ => rfl
                    refine want_none rfl ?_
                    unfold Oper.wp
                    generalize a.eval = ρ at *
                    go_simp
                    try go_bits
                    first | exact rel_val (Chg.refl _) | (go_simp; exact rel_val (Chg.refl _))
                  case z9o5 =>
                    rintro a wx hE hin (h4 : a.eval (.tmp 168) = _)
                    clear hin
                    have hcst : ∀ v, a.eval (.const v) = v := fun _ => rfl
                    have hfnc : ∀ f, a.eval (.func f) = .func (.func f) #[] #[] := fun _ => rfl
                    refine want_none rfl ?_
                    unfold Oper.wp
                    generalize a.eval = ρ at *
                    go_simp
                    try go_bits
                    first | exact rel_val (Chg.refl _) | (go_simp; exact rel_val (Chg.refl _))
                  case z9o6 =>
                    rintro a wx hE hin (h5 : a.eval (.tmp 169) = _)
                    clear hin
                    have hcst : ∀ v, a.eval (.const v) = v := fun _ => rfl
                    have hfnc : ∀ f, a.eval (.func f) = .func (.func f) #[] #[] := fun _ => rfl
                    refine want_none rfl ?_
                    unfold Oper.wp
                    generalize a.eval = ρ at *
                    have c := Bk.cell (Kxw13.out.drew.chg hE id) DV4.out
                    go_simp
                    try go_bits
                    first | exact rel_val (Chg.refl _) | (go_simp; exact rel_val (Chg.refl _))
                  case z9o7 =>
                    rintro a wx hE hin (h6 : a.eval (.tmp 170) = _)
                    clear hin
                    have hcst : ∀ v, a.eval (.const v) = v := fun _ => rfl
                    have hfnc : ∀ f, a.eval (.func f) = .func (.func f) #[] #[] := fun _ => rfl
                    refine want_none rfl ?_
                    unfold Oper.wp
                    generalize a.eval = ρ at *
                    go_simp
                    refine (refGood_calls s.r.ps s.r.A s.r.n s.r.c wx HSO.out.rcd.len (by have h2 := HSO.out.rcd.cap; have h3 := HSO.out.rcd.max; omega) (HSO.out.rcd.rd.below ((HW1.out.trans (Ew13.out.mono HW1.out.size)).trans ((hE.undrew.below (B := w13.heap.size) (Nat.le_refl _) (fun _ _ => id)).mono (HW1.out.trans (Ew13.out.mono HW1.out.size)).size))) HSO.out.rcd.ok).mono ?_
                    rintro e w' ⟨rfl, hb⟩
                    exact rel_val (.of_below hb)
                case z9fin =>
                  intro wx hE
                  rintro _ rfl _ rfl _ rfl _ rfl _ rfl _ rfl _ rfl _ rfl
                  simp only [FinOk, List.take_succ_cons, List.take_zero, List.take_nil, List.drop_succ_cons, List.drop_zero, List.drop_nil, Act.put, List.setIfInBounds_toArray, List.set_cons_succ, List.set_cons_zero]
                  have EX : Hid (Below w1.heap.size w1 wx) := Ew13.out.trans (hE.undrew.below Ew13.out.size (fun _ _ => id))
                  clear hE
                  cases goodB s.r.ps
                  all_goals
                    go_wp2_with fail
                    go_roundw
                    case rel => exact ⟨k + 1, by omega, by go_num, EX.out⟩
                    case measure => simp [intOf]; omega
            · have hkb2 : (s.k == 2) = false := by rw [beq_eq_false_iff_ne]; exact hk2
              by_cases hk3 : s.k = 3
              · have hkb3 : (s.k == 3) = true := by rw [hk3]; rfl
                as_aux_lemma =>
                  have cx5 := Kxw12.out.cell DV5.out
                  have cx0 := Kxw12.out.cell DV0.out
                  go_wp2_with fail
                  clear cx0
                  clear cx5
                  refine (refEncode_calls 87 s.A s.n s.c s.body w12 HSO.out.len HSO.out.cap HSO.out.max (HSO.out.rd.below (HW1.out.trans (Ew12.out.mono HW1.out.size)))).mono ?_
                  rintro en w13 ⟨rfl, hb⟩
                  have Ew13 : Hid (Below w1.heap.size w1 w13) := Ew12.out.trans (hb.mono Ew12.out.size)
                  have Kxw13 : Hid (Bk w13 gx vs) := Kxw12.out.below hb
                  clear Ew12 Kxw12
                  clear hb
                  obtain ⟨eb, heb⟩ : ∃ eb, (encR 87 s.body).1 = eb := ⟨_, rfl⟩
                  have HEB : Hid (eb.length = 32) := by show _ = _; rw [← heb]; exact encR_length
                  obtain ⟨vb, hvb⟩ : ∃ vb, bts eb = vb := ⟨_, rfl⟩
                  have HVB := Lib.hid hvb
                  have HVBL : Hid (vb.length = 32) := by show _ = _; rw [← hvb, bts_length, HEB.out]
                  have HVBO : Hid (∀ u ∈ vb, u.oneCell' = true) := by rw [← hvb]; exact one_bts _
                  rw [heb, hvb]
                  clear heb hvb
                  go_wp2_with (refine wpList_al rfl 37 rfl (bts (List.replicate 32 0)) (by kernel_rfl) ?_)
                  intro gh w14 hg hb hc hs
                  have HQh : Hid (Below w13.heap.size w13 w14) := hc.below (Nat.le_refl _) (fun _ _ => id)
                  have HGh : Hid (gh = w13.heap.size) := hg
                  have KZh := Lib.hid hb
                  clear hg hb hc hs
                  go_wp2_with (refine wpList_st rfl 37 (.tmp 14) (.tmp 137) rfl gh 0 32 (bts (List.replicate 32 0)) vb rfl rfl KZh.out (by kernel_rfl) HVBL.out (by decide) HVBO.out ?_)
                  intro w15 hbk hc
                  rw [splice_whole _ _ (by rw [HVBL.out]; rfl)] at hbk
                  have hb : Below w13.heap.size w13 w15 := HQh.out.trans (hc.below HQh.out.size (fun q hq he => by have := HGh.out; omega))
                  have Axh : Hid (gx < gh) := by show _ < _; have := Kxw13.out.lt; have := HGh.out; omega
                  have Ew15 : Hid (Below w1.heap.size w1 w15) := Ew13.out.trans (hb.mono Ew13.out.size)
                  have Kxw15 : Hid (Bk w15 gx vs) := Kxw13.out.below hb
                  clear Ew13 Kxw13
                  have Khw15 : Hid (Bk w15 gh vb) := hbk
                  have Khw15 : Hid (Bk w15 gh vb) := hbk
                  clear hbk hb hc KZh HQh HGh
                  go_wp2_with fail
                  apply wp_region_rel 8 (Chg NoS) [(Veq _), (Veq _), (Veq _), (Veq _), (Veq _), (Veq _), (Veq _), (Veq _)] [[], [0], [1], [2], [], [4], [5], [6]] [164, 165, 166, 167, 168, 169, 170, 171] (by kernel_rfl) (by kernel_rfl) rfl rfl rfl Chg.refl (fun _ _ _ => Chg.trans) ⟨Veq.lasts, Veq.lasts, Veq.lasts, Veq.lasts, Veq.lasts, Veq.lasts, Veq.lasts, Veq.lasts, trivial⟩ ?z10ops ?z10fin
                  case z10ops =>
                    refine ⟨?z10o0, ?z10o1, ?z10o2, ?z10o3, ?z10o4, ?z10o5, ?z10o6, ?z10o7, trivial⟩
                    case z10o0 =>
                      intro a wx hE hin
                      have i10 : a.eval (.tmp 10) = .pointer (some ⟨gx, 0, none⟩) := hin 10 rfl
                      clear hin
                      have hcst : ∀ v, a.eval (.const v) = v := fun _ => rfl
                      have hfnc : ∀ f, a.eval (.func f) = .func (.func f) #[] #[] := fun _ => rfl
                      refine want_none rfl ?_
                      unfold Oper.wp
                      generalize a.eval = ρ at *
                      go_simp
                      try go_bits
                      first | exact rel_val (Chg.refl _) | (go_simp; exact rel_val (Chg.refl _))
                    case z10o1 =>
                      rintro a wx hE hin (h0 : a.eval (.tmp 164) = _)
                      clear hin
                      have hcst : ∀ v, a.eval (.const v) = v := fun _ => rfl
                      have hfnc : ∀ f, a.eval (.func f) = .func (.func f) #[] #[] := fun _ => rfl
                      refine want_none rfl ?_
                      unfold Oper.wp
                      generalize a.eval = ρ at *
                      go_simp
                      try go_bits
                      first | exact rel_val (Chg.refl _) | (go_simp; exact rel_val (Chg.refl _))
                    case z10o2 =>
                      rintro a wx hE hin (h1 : a.eval (.tmp 165) = _)
                      clear hin
                      have hcst : ∀ v, a.eval (.const v) = v := fun _ => rfl
                      have hfnc : ∀ f, a.eval (.func f) = .func (.func f) #[] #[] := fun _ => rfl
                      refine want_none rfl ?_
                      unfold Oper.wp
                      generalize a.eval = ρ at *
                      have c := Bk.cell (Kxw15.out.drew.chg hE id) DV4.out
                      go_simp
                      try go_bits
                      first | exact rel_val (Chg.refl _) | (go_simp; exact rel_val (Chg.refl _))
                    case z10o3 =>
                      rintro a wx hE hin (h2 : a.eval (.tmp 166) = _)
                      clear hin
                      have hcst : ∀ v, a.eval (.const v) = v := fun _ => rfl
                      have hfnc : ∀ f, a.eval (.func f) = .func (.func f) #[] #[] := fun _ => rfl
                      refine want_none rfl ?_
                      unfold Oper.wp
                      generalize a.eval = ρ at *
                      go_simp
                      refine (good_calls s.r.ps s.r.A s.r.n s.r.c wx HSO.out.rcd.len (HSO.out.rcd.rd.below ((HW1.out.trans (Ew15.out.mono HW1.out.size)).trans ((hE.undrew.below (B := w15.heap.size) (Nat.le_refl _) (fun _ _ => id)).mono (HW1.out.trans (Ew15.out.mono HW1.out.size)).size))) HSO.out.rcd.ok).mono ?_
                      rintro e w' ⟨rfl, hb⟩
                      exact rel_val (.of_below hb)
                    case z10o4 =>
                      intro a wx hE hin
                      have i10 : a.eval (.tmp 10) = .pointer (some ⟨gx, 0, none⟩) := hin 10 rfl
                      clear hin
                      have hcst : ∀ v, a.eval (.const v) = v := fun _ => rfl
                      have hfnc : ∀ f, a.eval (.func f) = .func (.func f) #[] #[] := fun _ => rfl
                      refine want_none rfl ?_
                      unfold Oper.wp
                      generalize a.eval = ρ at *
                      go_simp
                      try go_bits
                      first | exact rel_val (Chg.refl _) | (go_simp; exact rel_val (Chg.refl _))
                    case z10o5 =>
                      rintro a wx hE hin (h4 : a.eval (.tmp 168) = _)
                      clear hin
                      have hcst : ∀ v, a.eval (.const v) = v := fun _ => rfl
                      have hfnc : ∀ f, a.eval (.func f) = .func (.func f) #[] #[] := fun _ => rfl
                      refine want_none rfl ?_
                      unfold Oper.wp
                      generalize a.eval = ρ at *
                      go_simp
                      try go_bits
                      first | exact rel_val (Chg.refl _) | (go_simp; exact rel_val (Chg.refl _))
                    case z10o6 =>
                      rintro a wx hE hin (h5 : a.eval (.tmp 169) = _)
                      clear hin
                      have hcst : ∀ v, a.eval (.const v) = v := fun _ => rfl
                      have hfnc : ∀ f, a.eval (.func f) = .func (.func f) #[] #[] := fun _ => rfl
                      refine want_none rfl ?_
                      unfold Oper.wp
                      generalize a.eval = ρ at *
                      have c := Bk.cell (Kxw15.out.drew.chg hE id) DV4.out
                      go_simp
                      try go_bits
                      first | exact rel_val (Chg.refl _) | (go_simp; exact rel_val (Chg.refl _))
                    case z10o7 =>
                      rintro a wx hE hin (h6 : a.eval (.tmp 170) = _)
                      clear hin
                      have hcst : ∀ v, a.eval (.const v) = v := fun _ => rfl
                      have hfnc : ∀ f, a.eval (.func f) = .func (.func f) #[] #[] := fun _ => rfl
                      refine want_none rfl ?_
                      unfold Oper.wp
                      generalize a.eval = ρ at *
                      go_simp
                      refine (refGood_calls s.r.ps s.r.A s.r.n s.r.c wx HSO.out.rcd.len (by have h2 := HSO.out.rcd.cap; have h3 := HSO.out.rcd.max; omega) (HSO.out.rcd.rd.below ((HW1.out.trans (Ew15.out.mono HW1.out.size)).trans ((hE.undrew.below (B := w15.heap.size) (Nat.le_refl _) (fun _ _ => id)).mono (HW1.out.trans (Ew15.out.mono HW1.out.size)).size))) HSO.out.rcd.ok).mono ?_
                      rintro e w' ⟨rfl, hb⟩
                      exact rel_val (.of_below hb)
                  case z10fin =>
                    intro wx hE
                    rintro _ rfl _ rfl _ rfl _ rfl _ rfl _ rfl _ rfl _ rfl
                    simp only [FinOk, List.take_succ_cons, List.take_zero, List.take_nil, List.drop_succ_cons, List.drop_zero, List.drop_nil, Act.put, List.setIfInBounds_toArray, List.set_cons_succ, List.set_cons_zero]
                    have EX : Hid (Below w1.heap.size w1 wx) := Ew15.out.trans (hE.undrew.below Ew15.out.size (fun _ _ => id))
                    clear hE
                    cases goodB s.r.ps
                    all_goals
                      go_wp2_with fail
                      go_roundw
                      case rel => exact ⟨k + 1, by omega, by go_num, EX.out⟩
                      case measure => simp [intOf]; omega
              · have hkb3 : (s.k == 3) = false := by rw [beq_eq_false_iff_ne]; exact hk3
                by_cases hk4 : s.k = 4
                · have hkb4 : (s.k == 4) = true := by rw [hk4]; rfl
                  as_aux_lemma =>
                    have cx1 := Kxw12.out.cell DV1.out
                    have cx0 := Kxw12.out.cell DV0.out
                    go_wp2_with fail
                    clear cx0
                    clear cx1
                    refine (diskFuse_nil w12 s.i).mono ?_
                    rintro en w' ⟨rfl, rfl⟩
                    go_wp2_with fail
                    apply wp_region_rel 8 (Chg NoS) [(Veq _), (Veq _), (Veq _), (Veq _), (Veq _), (Veq _), (Veq _), (Veq _)] [[], [0], [1], [2], [], [4], [5], [6]] [164, 165, 166, 167, 168, 169, 170, 171] (by kernel_rfl) (by kernel_rfl) rfl rfl rfl Chg.refl (fun _ _ _ => Chg.trans) ⟨Veq.lasts, Veq.lasts, Veq.lasts, Veq.lasts, Veq.lasts, Veq.lasts, Veq.lasts, Veq.lasts, trivial⟩ ?z11ops ?z11fin
                    case z11ops =>
                      refine ⟨?z11o0, ?z11o1, ?z11o2, ?z11o3, ?z11o4, ?z11o5, ?z11o6, ?z11o7, trivial⟩
                      case z11o0 =>
                        intro a wx hE hin
                        have i10 : a.eval (.tmp 10) = .pointer (some ⟨gx, 0, none⟩) := hin 10 rfl
                        clear hin
                        have hcst : ∀ v, a.eval (.const v) = v := fun _ => rfl
                        have hfnc : ∀ f, a.eval (.func f) = .func (.func f) #[] #[] := fun _ => rfl
                        refine want_none rfl ?_
                        unfold Oper.wp
                        generalize a.eval = ρ at *
                        go_simp
                        try go_bits
                        first | exact rel_val (Chg.refl _) | (go_simp; exact rel_val (Chg.refl _))
                      case z11o1 =>
                        rintro a wx hE hin (h0 : a.eval (.tmp 164) = _)
                        clear hin
                        have hcst : ∀ v, a.eval (.const v) = v := fun _ => rfl
                        have hfnc : ∀ f, a.eval (.func f) = .func (.func f) #[] #[] := fun _ => rfl
                        refine want_none rfl ?_
                        unfold Oper.wp
                        generalize a.eval = ρ at *
                        go_simp
                        try go_bits
                        first | exact rel_val (Chg.refl _) | (go_simp; exact rel_val (Chg.refl _))
                      case z11o2 =>
                        rintro a wx hE hin (h1 : a.eval (.tmp 165) = _)
                        clear hin
                        have hcst : ∀ v, a.eval (.const v) = v := fun _ => rfl
                        have hfnc : ∀ f, a.eval (.func f) = .func (.func f) #[] #[] := fun _ => rfl
                        refine want_none rfl ?_
                        unfold Oper.wp
                        generalize a.eval = ρ at *
                        have c := Bk.cell (Kxw12.out.drew.chg hE id) DV4.out
                        go_simp
                        try go_bits
                        first | exact rel_val (Chg.refl _) | (go_simp; exact rel_val (Chg.refl _))
                      case z11o3 =>
                        rintro a wx hE hin (h2 : a.eval (.tmp 166) = _)
                        clear hin
                        have hcst : ∀ v, a.eval (.const v) = v := fun _ => rfl
                        have hfnc : ∀ f, a.eval (.func f) = .func (.func f) #[] #[] := fun _ => rfl
                        refine want_none rfl ?_
                        unfold Oper.wp
                        generalize a.eval = ρ at *
                        go_simp
                        refine (good_calls s.r.ps s.r.A s.r.n s.r.c wx HSO.out.rcd.len (HSO.out.rcd.rd.below ((HW1.out.trans (Ew12.out.mono HW1.out.size)).trans ((hE.undrew.below (B := w12.heap.size) (Nat.le_refl _) (fun _ _ => id)).mono (HW1.out.trans (Ew12.out.mono HW1.out.size)).size))) HSO.out.rcd.ok).mono ?_
                        rintro e w' ⟨rfl, hb⟩
                        exact rel_val (.of_below hb)
                      case z11o4 =>
                        intro a wx hE hin
                        have i10 : a.eval (.tmp 10) = .pointer (some ⟨gx, 0, none⟩) := hin 10 rfl
                        clear hin
                        have hcst : ∀ v, a.eval (.const v) = v := fun _ => rfl
                        have hfnc : ∀ f, a.eval (.func f) = .func (.func f) #[] #[] := fun _ => rfl
                        refine want_none rfl ?_
                        unfold Oper.wp
                        generalize a.eval = ρ at *
                        go_simp
                        try go_bits
                        first | exact rel_val (Chg.refl _) | (go_simp; exact rel_val (Chg.refl _))
                      case z11o5 =>
                        rintro a wx hE hin (h4 : a.eval (.tmp 168) = _)
                        clear hin
                        have hcst : ∀ v, a.eval (.const v) = v := fun _ => rfl
                        have hfnc : ∀ f, a.eval (.func f) = .func (.func f) #[] #[] := fun _ => rfl
                        refine want_none rfl ?_
                        unfold Oper.wp
                        generalize a.eval = ρ at *
                        go_simp
                        try go_bits
                        first | exact rel_val (Chg.refl _) | (go_simp; exact rel_val (Chg.refl _))
                      case z11o6 =>
                        rintro a wx hE hin (h5 : a.eval (.tmp 169) = _)
                        clear hin
                        have hcst : ∀ v, a.eval (.const v) = v := fun _ => rfl
                        have hfnc : ∀ f, a.eval (.func f) = .func (.func f) #[] #[] := fun _ => rfl
                        refine want_none rfl ?_
                        unfold Oper.wp
                        generalize a.eval = ρ at *
                        have c := Bk.cell (Kxw12.out.drew.chg hE id) DV4.out
                        go_simp
                        try go_bits
                        first | exact rel_val (Chg.refl _) | (go_simp; exact rel_val (Chg.refl _))
                      case z11o7 =>
                        rintro a wx hE hin (h6 : a.eval (.tmp 170) = _)
                        clear hin
                        have hcst : ∀ v, a.eval (.const v) = v := fun _ => rfl
                        have hfnc : ∀ f, a.eval (.func f) = .func (.func f) #[] #[] := fun _ => rfl
                        refine want_none rfl ?_
                        unfold Oper.wp
                        generalize a.eval = ρ at *
                        go_simp
                        refine (refGood_calls s.r.ps s.r.A s.r.n s.r.c wx HSO.out.rcd.len (by have h2 := HSO.out.rcd.cap; have h3 := HSO.out.rcd.max; omega) (HSO.out.rcd.rd.below ((HW1.out.trans (Ew12.out.mono HW1.out.size)).trans ((hE.undrew.below (B := w12.heap.size) (Nat.le_refl _) (fun _ _ => id)).mono (HW1.out.trans (Ew12.out.mono HW1.out.size)).size))) HSO.out.rcd.ok).mono ?_
                        rintro e w' ⟨rfl, hb⟩
                        exact rel_val (.of_below hb)
                    case z11fin =>
                      intro wx hE
                      rintro _ rfl _ rfl _ rfl _ rfl _ rfl _ rfl _ rfl _ rfl
                      simp only [FinOk, List.take_succ_cons, List.take_zero, List.take_nil, List.drop_succ_cons, List.drop_zero, List.drop_nil, Act.put, List.setIfInBounds_toArray, List.set_cons_succ, List.set_cons_zero]
                      have EX : Hid (Below w1.heap.size w1 wx) := Ew12.out.trans (hE.undrew.below Ew12.out.size (fun _ _ => id))
                      clear hE
                      cases goodB s.r.ps
                      all_goals
                        go_wp2_with fail
                        go_roundw
                        case rel => exact ⟨k + 1, by omega, by go_num, EX.out⟩
                        case measure => simp [intOf]; omega
                · have hkb4 : (s.k == 4) = false := by rw [beq_eq_false_iff_ne]; exact hk4
                  as_aux_lemma =>
                    have cx0 := Kxw12.out.cell DV0.out
                    go_wp2_with fail
                    clear cx0
                    apply wp_region_rel 8 (Chg NoS) [(Veq _), (Veq _), (Veq _), (Veq _), (Veq _), (Veq _), (Veq _), (Veq _)] [[], [0], [1], [2], [], [4], [5], [6]] [164, 165, 166, 167, 168, 169, 170, 171] (by kernel_rfl) (by kernel_rfl) rfl rfl rfl Chg.refl (fun _ _ _ => Chg.trans) ⟨Veq.lasts, Veq.lasts, Veq.lasts, Veq.lasts, Veq.lasts, Veq.lasts, Veq.lasts, Veq.lasts, trivial⟩ ?z12ops ?z12fin
                    case z12ops =>
                      refine ⟨?z12o0, ?z12o1, ?z12o2, ?z12o3, ?z12o4, ?z12o5, ?z12o6, ?z12o7, trivial⟩
                      case z12o0 =>
                        intro a wx hE hin
                        have i10 : a.eval (.tmp 10) = .pointer (some ⟨gx, 0, none⟩) := hin 10 rfl
                        clear hin
                        have hcst : ∀ v, a.eval (.const v) = v := fun _ => rfl
                        have hfnc : ∀ f, a.eval (.func f) = .func (.func f) #[] #[] := fun _ => rfl
                        refine want_none rfl ?_
                        unfold Oper.wp
                        generalize a.eval = ρ at *
                        go_simp
                        try go_bits
                        first | exact rel_val (Chg.refl _) | (go_simp; exact rel_val (Chg.refl _))
                      case z12o1 =>
                        rintro a wx hE hin (h0 : a.eval (.tmp 164) = _)
                        clear hin
                        have hcst : ∀ v, a.eval (.const v) = v := fun _ => rfl
                        have hfnc : ∀ f, a.eval (.func f) = .func (.func f) #[] #[] := fun _ => rfl
                        refine want_none rfl ?_
                        unfold Oper.wp
                        generalize a.eval = ρ at *
                        go_simp
                        try go_bits
                        first | exact rel_val (Chg.refl _) | (go_simp; exact rel_val (Chg.refl _))
                      case z12o2 =>
                        rintro a wx hE hin (h1 : a.eval (.tmp 165) = _)
                        clear hin
                        have hcst : ∀ v, a.eval (.const v) = v := fun _ => rfl
                        have hfnc : ∀ f, a.eval (.func f) = .func (.func f) #[] #[] := fun _ => rfl
                        refine want_none rfl ?_
                        unfold Oper.wp
                        generalize a.eval = ρ at *
                        have c := Bk.cell (Kxw12.out.drew.chg hE id) DV4.out
                        go_simp
                        try go_bits
                        first | exact rel_val (Chg.refl _) | (go_simp; exact rel_val (Chg.refl _))
                      case z12o3 =>
                        rintro a wx hE hin (h2 : a.eval (.tmp 166) = _)
                        clear hin
                        have hcst : ∀ v, a.eval (.const v) = v := fun _ => rfl
                        have hfnc : ∀ f, a.eval (.func f) = .func (.func f) #[] #[] := fun _ => rfl
                        refine want_none rfl ?_
                        unfold Oper.wp
                        generalize a.eval = ρ at *
                        go_simp
                        refine (good_calls s.r.ps s.r.A s.r.n s.r.c wx HSO.out.rcd.len (HSO.out.rcd.rd.below ((HW1.out.trans (Ew12.out.mono HW1.out.size)).trans ((hE.undrew.below (B := w12.heap.size) (Nat.le_refl _) (fun _ _ => id)).mono (HW1.out.trans (Ew12.out.mono HW1.out.size)).size))) HSO.out.rcd.ok).mono ?_
                        rintro e w' ⟨rfl, hb⟩
                        exact rel_val (.of_below hb)
                      case z12o4 =>
                        intro a wx hE hin
                        have i10 : a.eval (.tmp 10) = .pointer (some ⟨gx, 0, none⟩) := hin 10 rfl
                        clear hin
                        have hcst : ∀ v, a.eval (.const v) = v := fun _ => rfl
                        have hfnc : ∀ f, a.eval (.func f) = .func (.func f) #[] #[] := fun _ => rfl
                        refine want_none rfl ?_
                        unfold Oper.wp
                        generalize a.eval = ρ at *
                        go_simp
                        try go_bits
                        first | exact rel_val (Chg.refl _) | (go_simp; exact rel_val (Chg.refl _))
                      case z12o5 =>
                        rintro a wx hE hin (h4 : a.eval (.tmp 168) = _)
                        clear hin
                        have hcst : ∀ v, a.eval (.const v) = v := fun _ => rfl
                        have hfnc : ∀ f, a.eval (.func f) = .func (.func f) #[] #[] := fun _ => rfl
                        refine want_none rfl ?_
                        unfold Oper.wp
                        generalize a.eval = ρ at *
                        go_simp
                        try go_bits
                        first | exact rel_val (Chg.refl _) | (go_simp; exact rel_val (Chg.refl _))
                      case z12o6 =>
                        rintro a wx hE hin (h5 : a.eval (.tmp 169) = _)
                        clear hin
                        have hcst : ∀ v, a.eval (.const v) = v := fun _ => rfl
                        have hfnc : ∀ f, a.eval (.func f) = .func (.func f) #[] #[] := fun _ => rfl
                        refine want_none rfl ?_
                        unfold Oper.wp
                        generalize a.eval = ρ at *
                        have c := Bk.cell (Kxw12.out.drew.chg hE id) DV4.out
                        go_simp
                        try go_bits
                        first | exact rel_val (Chg.refl _) | (go_simp; exact rel_val (Chg.refl _))
                      case z12o7 =>
                        rintro a wx hE hin (h6 : a.eval (.tmp 170) = _)
                        clear hin
                        have hcst : ∀ v, a.eval (.const v) = v := fun _ => rfl
                        have hfnc : ∀ f, a.eval (.func f) = .func (.func f) #[] #[] := fun _ => rfl
                        refine want_none rfl ?_
                        unfold Oper.wp
                        generalize a.eval = ρ at *
                        go_simp
                        refine (refGood_calls s.r.ps s.r.A s.r.n s.r.c wx HSO.out.rcd.len (by have h2 := HSO.out.rcd.cap; have h3 := HSO.out.rcd.max; omega) (HSO.out.rcd.rd.below ((HW1.out.trans (Ew12.out.mono HW1.out.size)).trans ((hE.undrew.below (B := w12.heap.size) (Nat.le_refl _) (fun _ _ => id)).mono (HW1.out.trans (Ew12.out.mono HW1.out.size)).size))) HSO.out.rcd.ok).mono ?_
                        rintro e w' ⟨rfl, hb⟩
                        exact rel_val (.of_below hb)
                    case z12fin =>
                      intro wx hE
                      rintro _ rfl _ rfl _ rfl _ rfl _ rfl _ rfl _ rfl _ rfl
                      simp only [FinOk, List.take_succ_cons, List.take_zero, List.take_nil, List.drop_succ_cons, List.drop_zero, List.drop_nil, Act.put, List.setIfInBounds_toArray, List.set_cons_succ, List.set_cons_zero]
                      have EX : Hid (Below w1.heap.size w1 wx) := Ew12.out.trans (hE.undrew.below Ew12.out.size (fun _ _ => id))
                      clear hE
                      cases goodB s.r.ps
                      all_goals
                        go_wp2_with fail
                        go_roundw
                        case rel => exact ⟨k + 1, by omega, by go_num, EX.out⟩
                        case measure => simp [intOf]; omega
    obtain ⟨N, hN⟩ := Int.eq_ofNat_of_zero_le (show 0 ≤ n0 by omega)
    subst hN
    have hN1 : 1 ≤ N := by omega
    have hN40 : N ≤ 40 := by omega
    go_wp2_with fail
    refine (diskNew_yes N w1 hN1 (by omega)).mono ?_
    intro en w2 hp
    obtain ⟨gd, gsd, rfl, hd, hfe⟩ := DSes.new2 (wT := 99) (by omega) (E1.out) hp
    have hb : Below w1.heap.size w1 w2 := hp.bel
    have Ew2 : Hid (Below w1.heap.size w1 w2) := E1.out.trans (hb.mono E1.out.size)
    have Ddw2 : Hid (DSes 99 w1 w2 gd gsd (.slice none 0 0) (Dst.new N)) := hd
    clear hp hb hd hfe
    have b0b := (K0.out.below Ew2.out).cell DB0.out
    go_wp2_with fail
    clear b0b b0
    refine (refNew_yes N w2 hN1 (by omega)).mono ?_
    intro en w3 hp
    obtain ⟨gq, gsq, rfl, hd, hfe⟩ := DSes.new2 (wT := 101) (by omega) (Ew2.out) hp
    have hb : Below w2.heap.size w2 w3 := hp.bel
    have Xqd : Hid (∀ j, footD gq gsq (.slice none 0 0) j → ¬ footD gd gsd (.slice none 0 0) j) := fun j hj hk => by have := hfe j hj; have := DiskAt.lt Ddw2.out.at_ j hk; omega
    have Xdq : Hid (∀ j, footD gd gsd (.slice none 0 0) j → ¬ footD gq gsq (.slice none 0 0) j) := fun j hj hk => Xqd.out j hk hj
    have Ew3 : Hid (Below w1.heap.size w1 w3) := Ew2.out.trans (hb.mono Ew2.out.size)
    have Ddw3 : Hid (DSes 99 w1 w3 gd gsd (.slice none 0 0) (Dst.new N)) := Ddw2.out.below hb
    clear Ew2 Ddw2
    have Dqw3 : Hid (DSes 101 w1 w3 gq gsq (.slice none 0 0) (Dst.new N)) := hd
    clear hp hb hd hfe
    have H0 : Hid (WPRel w1 gd gsd gq gsq N l.length (.int .i64 0) w3) := ⟨0, _, _, Dst.new N, Nat.zero_le _, rfl, ⟨by simp [Dst.new], Nat.zero_le _, by show _ ≤ (-1 : Int); decide, by show (-1 : Int) ≤ _; decide⟩, Ddw3.out, Dqw3.out, Xdq.out⟩
    clear Ddw3 Dqw3 Xdq Xqd Ew3
    go_wp2_with fail
    go_loopw [9] (fun v wr => WPRel w1 gd gsd gq gsq N l.length v wr) (fun v _ => l.length - (intOf v).toNat)
    case atStart => exact H0.out
    case round =>
      obtain ⟨k, lv, mv, t, hk, rfl, htk, hdd, hdq, hx⟩ := hrel
      have HTK := Lib.hid htk
      have DDr := Lib.hid hdd
      have DQr := Lib.hid hdq
      have EBr := Lib.hid hdd.bel
      have Xdq := Lib.hid hx
      have Xqd : Hid (∀ j, footD gq gsq mv j → ¬ footD gd gsd lv j) := fun j hj hk => hx j hk hj
      clear htk hdd hdq hx H0
      by_cases hlt : k < l.length
      case neg =>
        have hki : ¬ ((k : Int) < (l.length : Int)) := by omega
        go_wp2_with fail
        refine (diskUp_at wr gd gsd lv t.low none 0 0 [] DDr.out.at_ rfl (fun _ _ => Rd.nil _ _)).mono ?_
        intro en w11 hp
        rw [low_up] at hp
        have hch := DPost.chgF hp
        obtain ⟨rfl, lvdw11, hd, hft⟩ := DSes.post2 DDr.out hp
        have Ddw11 : Hid (DSes 99 w1 w11 gd gsd lvdw11 (t.up []).low) := hd
        have Ew11 : Hid (Below w1.heap.size w1 w11) := hd.bel
        have Dqw11 : Hid (DSes 101 w1 w11 gq gsq mv t) := ⟨DiskAt.chg DQr.out.at_ hch (fun j hj hk => Xdq.out j hk hj), DQr.out.fr, hd.bel⟩
        have Xdq : Hid (∀ j, footD gd gsd lvdw11 j → ¬ footD gq gsq mv j) := fun j hj hk => (hft j hj).elim (fun h => Xdq.out j h hk) (fun h => by have := DiskAt.lt DQr.out.at_ j hk; omega)
        have Xqd : Hid (∀ j, footD gq gsq mv j → ¬ footD gd gsd lvdw11 j) := fun j hj hk => Xdq.out j hk hj
        clear hp hd hft hch DQr DDr EBr
        go_wp2_with fail
        refine (refUp_at w11 gq gsq mv t none 0 0 [] Dqw11.out.at_ rfl (fun _ _ => Rd.nil _ _)).mono ?_
        intro en w12 hp
        have hch := DPost.chgF hp
        obtain ⟨rfl, lvqw12, hd, hft⟩ := DSes.post2 Dqw11.out hp
        have Dqw12 : Hid (DSes 101 w1 w12 gq gsq lvqw12 (t.up [])) := hd
        have Ew12 : Hid (Below w1.heap.size w1 w12) := hd.bel
        have Ddw12 : Hid (DSes 99 w1 w12 gd gsd lvdw11 (t.up []).low) := ⟨DiskAt.chg Ddw11.out.at_ hch (fun j hj hk => Xqd.out j hk hj), Ddw11.out.fr, hd.bel⟩
        have Xqd : Hid (∀ j, footD gq gsq lvqw12 j → ¬ footD gd gsd lvdw11 j) := fun j hj hk => (hft j hj).elim (fun h => Xqd.out j h hk) (fun h => by have := DiskAt.lt Ddw11.out.at_ j hk; omega)
        have Xdq : Hid (∀ j, footD gd gsd lvdw11 j → ¬ footD gq gsq lvqw12 j) := fun j hj hk => Xqd.out j hk hj
        clear hp hd hft hch Ddw11 Dqw11 Ew11
        obtain ⟨SS, hSS⟩ : ∃ SS, upS t.S t.L [] = SS := ⟨_, rfl⟩
        have ht5 : Two w1 w12 99 gd gsd lvdw11 ⟨upS t.S t.L [], [], -1, false⟩ 101 gq gsq lvqw12 ⟨upS t.S t.L [], [], -1, false⟩ := ⟨Ddw12.out, Dqw12.out, Xdq.out⟩
        rw [hSS] at ht5
        have HSL : Hid (SS.length = N) := by show _ = _; rw [← hSS, upS_length]; exact HTK.out.sl
        have H2 : Hid (WPRel2 w1 gd gsd gq gsq N lvdw11 lvqw12 SS (.int .i64 0) w12) := ⟨0, Nat.zero_le _, rfl, ht5⟩
        have HSEC : Hid ((secs SS).length = N * 32) := by show _ = _; rw [← HSL.out]; exact DiskAt.secs_len ht5.b.at_
        have HS32 : Hid (∀ b ∈ SS, b.length = 32) := DiskAt.s32 ht5.b.at_
        clear ht5 hSS
        obtain ⟨LVD, hLVD⟩ : ∃ LVD, lvdw11 = LVD := ⟨_, rfl⟩
        obtain ⟨LVQ, hLVQ⟩ : ∃ LVQ, lvqw12 = LVQ := ⟨_, rfl⟩
        rw [hLVD, hLVQ] at H2
        clear hLVD hLVQ
        go_wp2_with fail
        go_loopw [16] (fun v wr => WPRel2 w1 gd gsd gq gsq N LVD LVQ SS v wr) (fun v _ => N - (intOf v).toNat)
        case atStart => exact H2.out
        case round =>
          obtain ⟨j, hj, rfl, ht⟩ := hrel
          have HT := Lib.hid ht
          have DFr := Lib.hid ht.a
          have QFr := Lib.hid ht.b
          have EFr := Lib.hid ht.a.bel
          clear ht H2
          have c0 := Bk.cell (j := 0) HT.out.b.at_.dk rfl
          have c0' : wr.cell? ⟨gq, 0, none⟩ = some (.slice (some ⟨gsq, 0, none⟩) N N) := by rw [← HSL.out]; exact c0
          clear c0
          by_cases hjN : j < N
          · have hji : (j : Int) < (N : Int) := by omega
            have hrb := (read_live SS [] (-1) j (by rw [HSL.out]; exact hjN)).1
            have hre := (read_live SS [] (-1) j (by rw [HSL.out]; exact hjN)).2
            have hpc := secs_piece SS HS32.out j (by rw [HSL.out]; exact hjN)
            obtain ⟨b, hb⟩ : ∃ b, SS.getD j [] = b := ⟨_, rfl⟩
            rw [nowS_nil, hb] at hrb
            rw [hb] at hpc
            have HB32 : Hid (b.length = 32) := by show _ = _; rw [← hrb]; exact DAt.readB_len HT.out.b.at_ _
            have HRB := Lib.hid hrb
            have HRE := Lib.hid hre
            have HPC := Lib.hid hpc
            clear hrb hre hpc hb
            go_wp2_with fail
            clear c0'
            refine (diskRead_at wr gd gsd LVD ⟨SS, [], -1, false⟩ (j : Int) HT.out.a.at_).mono ?_
            rintro en w31 ⟨rfl, hb⟩
            have Ew31 : Hid (Below w1.heap.size w1 w31) := EFr.out.trans (hb.mono EFr.out.size)
            have Ddw31 : Hid (DSes 99 w1 w31 gd gsd LVD ⟨SS, [], -1, false⟩) := DFr.out.below hb
            have Dqw31 : Hid (DSes 101 w1 w31 gq gsq LVQ ⟨SS, [], -1, false⟩) := QFr.out.below hb
            clear EFr DFr QFr
            clear hb
            rw [HRB.out, HRE.out]
            obtain ⟨vb, hvb⟩ : ∃ vb, bts b = vb := ⟨_, rfl⟩
            have HVB := Lib.hid hvb
            have HVBL : Hid (vb.length = 32) := by show _ = _; rw [← hvb, bts_length, HB32.out]
            have HVBO : Hid (∀ u ∈ vb, u.oneCell' = true) := by rw [← hvb]; exact one_bts _
            rw [hvb]
            clear hvb
            go_wp2_with (refine wpList_al rfl 37 rfl (bts (List.replicate 32 0)) (by kernel_rfl) ?_)
            intro gm w32 hg hb hc hs
            have HQm : Hid (Below w31.heap.size w31 w32) := hc.below (Nat.le_refl _) (fun _ _ => id)
            have HGm : Hid (gm = w31.heap.size) := hg
            have KZm := Lib.hid hb
            clear hg hb hc hs
            go_wp2_with (refine wpList_st rfl 37 (.tmp 17) (.tmp 193) rfl gm 0 32 (bts (List.replicate 32 0)) vb rfl rfl KZm.out (by kernel_rfl) HVBL.out (by decide) HVBO.out ?_)
            intro w33 hbk hc
            rw [splice_whole _ _ (by rw [HVBL.out]; rfl)] at hbk
            have hb : Below w31.heap.size w31 w33 := HQm.out.trans (hc.below HQm.out.size (fun q hq he => by have := HGm.out; omega))
            have Ew33 : Hid (Below w1.heap.size w1 w33) := Ew31.out.trans (hb.mono Ew31.out.size)
            have Ddw33 : Hid (DSes 99 w1 w33 gd gsd LVD ⟨SS, [], -1, false⟩) := Ddw31.out.below hb
            have Dqw33 : Hid (DSes 101 w1 w33 gq gsq LVQ ⟨SS, [], -1, false⟩) := Dqw31.out.below hb
            clear Ew31 Ddw31 Dqw31
            have Kmw33 : Hid (Bk w33 gm vb) := hbk
            have Kmw33 : Hid (Bk w33 gm vb) := hbk
            clear hbk hb hc KZm HQm HGm
            go_wp2_with fail
            apply wp_region_rel 13 (Chg NoS) [(Veq _), (Veq _), (Veq _), (Veq _), (Veq _), (Veq _), (Veq _), (Veq _), (Veq _), (Veq _), (Veq _), (Veq _), (Veq _)] [[], [0], [1], [2], [2], [2, 4], [2, 5], [2, 6], [2], [2, 7, 8], [2, 9], [2, 3, 10], [2, 11]] [195, 196, 197, 198, 199, 200, 201, 202, 203, 204, 205, 206, 207] (by kernel_rfl) (by kernel_rfl) rfl rfl rfl Chg.refl (fun _ _ _ => Chg.trans) ⟨Veq.lasts, Veq.lasts, Veq.lasts, Veq.lasts, Veq.lasts, Veq.lasts, Veq.lasts, Veq.lasts, Veq.lasts, Veq.lasts, Veq.lasts, Veq.lasts, Veq.lasts, trivial⟩ ?hops ?hfin
            case hops =>
              refine ⟨?ho0, ?ho1, ?ho2, ?ho3, ?ho4, ?ho5, ?ho6, ?ho7, ?ho8, ?ho9, ?ho10, ?ho11, ?ho12, trivial⟩
              case ho0 =>
                intro a wx hE hin
                have i18 : a.eval (.tmp 18) = .int .i64 0 := hin 18 rfl
                clear hin
                have hcst : ∀ v, a.eval (.const v) = v := fun _ => rfl
                have hfnc : ∀ f, a.eval (.func f) = .func (.func f) #[] #[] := fun _ => rfl
                refine want_none rfl ?_
                unfold Oper.wp
                generalize a.eval = ρ at *
                go_simp
                try go_bits
                first | exact rel_val (Chg.refl _) | (go_simp; exact rel_val (Chg.refl _))
              case ho1 =>
                rintro a wx hE hin (h0 : a.eval (.tmp 195) = _)
                clear hin
                have hcst : ∀ v, a.eval (.const v) = v := fun _ => rfl
                have hfnc : ∀ f, a.eval (.func f) = .func (.func f) #[] #[] := fun _ => rfl
                refine want_none rfl ?_
                unfold Oper.wp
                generalize a.eval = ρ at *
                go_simp
                try go_bits
                first | exact rel_val (Chg.refl _) | (go_simp; exact rel_val (Chg.refl _))
              case ho2 =>
                rintro a wx hE hin (h1 : a.eval (.tmp 196) = _)
                clear hin
                have hcst : ∀ v, a.eval (.const v) = v := fun _ => rfl
                have hfnc : ∀ f, a.eval (.func f) = .func (.func f) #[] #[] := fun _ => rfl
                refine want_none rfl ?_
                unfold Oper.wp
                generalize a.eval = ρ at *
                go_simp
                try go_bits
                first | exact rel_val (Chg.refl _) | (go_simp; exact rel_val (Chg.refl _))
              case ho3 =>
                rintro a wx hE hin (h2 : a.eval (.tmp 197) = _)
                have i17 : a.eval (.tmp 17) = .pointer (some ⟨gm, 0, none⟩) := hin 17 rfl
                clear hin
                have hcst : ∀ v, a.eval (.const v) = v := fun _ => rfl
                have hfnc : ∀ f, a.eval (.func f) = .func (.func f) #[] #[] := fun _ => rfl
                refine want_yes rfl rfl h2 ?_
                exact wp_ld 37 _ rfl gm 0 32 vb (bts b) i17 (Kmw33.out.drew.chg hE id) (by kernel_rfl) (by kernel_rfl) (by rw [HVBL.out]; decide) (by rw [List.drop_zero, List.take_of_length_le (by rw [HVBL.out]; exact Nat.le_refl _), HVB.out]) (rel_val (Chg.refl _))
              case ho4 =>
                rintro a wx hE hin (h2 : a.eval (.tmp 197) = _)
                have i7 : a.eval (.tmp 7) = .pointer (some ⟨gq, 0, none⟩) := hin 7 rfl
                clear hin
                have hcst : ∀ v, a.eval (.const v) = v := fun _ => rfl
                have hfnc : ∀ f, a.eval (.func f) = .func (.func f) #[] #[] := fun _ => rfl
                refine want_yes rfl rfl h2 ?_
                unfold Oper.wp
                generalize a.eval = ρ at *
                go_simp
                try go_bits
                first | exact rel_val (Chg.refl _) | (go_simp; exact rel_val (Chg.refl _))
              case ho5 =>
                rintro a wx hE hin (h2 : a.eval (.tmp 197) = _) (h4 : a.eval (.tmp 199) = _)
                clear hin
                have hcst : ∀ v, a.eval (.const v) = v := fun _ => rfl
                have hfnc : ∀ f, a.eval (.func f) = .func (.func f) #[] #[] := fun _ => rfl
                refine want_yes rfl rfl h2 ?_
                unfold Oper.wp
                generalize a.eval = ρ at *
                go_simp
                try go_bits
                first | exact rel_val (Chg.refl _) | (go_simp; exact rel_val (Chg.refl _))
              case ho6 =>
                rintro a wx hE hin (h2 : a.eval (.tmp 197) = _) (h5 : a.eval (.tmp 200) = _)
                clear hin
                have hcst : ∀ v, a.eval (.const v) = v := fun _ => rfl
                have hfnc : ∀ f, a.eval (.func f) = .func (.func f) #[] #[] := fun _ => rfl
                refine want_yes rfl rfl h2 ?_
                unfold Oper.wp
                generalize a.eval = ρ at *
                go_simp
                try go_bits
                first | exact rel_val (Chg.refl _) | (go_simp; exact rel_val (Chg.refl _))
              case ho7 =>
                rintro a wx hE hin (h2 : a.eval (.tmp 197) = _) (h6 : a.eval (.tmp 201) = _)
                clear hin
                have hcst : ∀ v, a.eval (.const v) = v := fun _ => rfl
                have hfnc : ∀ f, a.eval (.func f) = .func (.func f) #[] #[] := fun _ => rfl
                refine want_yes rfl rfl h2 ?_
                unfold Oper.wp
                generalize a.eval = ρ at *
                have c := Bk.cell (j := 0) (DiskAt.chg (Dqw33.out.drew.at_) hE (fun _ _ => id)).dk rfl
                have c2 : wx.cell? ⟨gq, 0, none⟩ = some (.slice (some ⟨gsq, 0, none⟩) N N) := by rw [← HSL.out]; exact c
                clear c
                go_simp
                try go_bits
                first | exact rel_val (Chg.refl _) | (go_simp; exact rel_val (Chg.refl _))
              case ho8 =>
                rintro a wx hE hin (h2 : a.eval (.tmp 197) = _)
                have i16 : a.eval (.tmp 16) = .int .i64 j := hin 16 rfl
                clear hin
                have hcst : ∀ v, a.eval (.const v) = v := fun _ => rfl
                have hfnc : ∀ f, a.eval (.func f) = .func (.func f) #[] #[] := fun _ => rfl
                refine want_yes rfl rfl h2 ?_
                unfold Oper.wp
                generalize a.eval = ρ at *
                go_simp
                try go_bits
                first | exact rel_val (Chg.refl _) | (go_simp; exact rel_val (Chg.refl _))
              case ho9 =>
                rintro a wx hE hin (h2 : a.eval (.tmp 197) = _) (h7 : a.eval (.tmp 202) = _) (h8 : a.eval (.tmp 203) = _)
                clear hin
                have hcst : ∀ v, a.eval (.const v) = v := fun _ => rfl
                have hfnc : ∀ f, a.eval (.func f) = .func (.func f) #[] #[] := fun _ => rfl
                refine want_yes rfl rfl h2 ?_
                unfold Oper.wp
                generalize a.eval = ρ at *
                go_simp
                try go_bits
                first | exact rel_val (Chg.refl _) | (go_simp; exact rel_val (Chg.refl _))
              case ho10 =>
                rintro a wx hE hin (h2 : a.eval (.tmp 197) = _) (h9 : a.eval (.tmp 204) = _)
                clear hin
                have hcst : ∀ v, a.eval (.const v) = v := fun _ => rfl
                have hfnc : ∀ f, a.eval (.func f) = .func (.func f) #[] #[] := fun _ => rfl
                refine want_yes rfl rfl h2 ?_
                exact wp_ld 37 _ rfl gsq (j * 32) 32 (secs SS) (bts b) h9 (DiskAt.chg (Dqw33.out.drew.at_) hE (fun _ _ => id)).sb (by kernel_rfl) (by kernel_rfl) (by rw [HSEC.out]; omega) HPC.out (rel_val (Chg.refl _))
              case ho11 =>
                rintro a wx hE hin (h2 : a.eval (.tmp 197) = _) (h3 : a.eval (.tmp 198) = _) (h10 : a.eval (.tmp 205) = _)
                clear hin
                have hcst : ∀ v, a.eval (.const v) = v := fun _ => rfl
                have hfnc : ∀ f, a.eval (.func f) = .func (.func f) #[] #[] := fun _ => rfl
                refine want_yes rfl rfl h2 ?_
                exact wp_eq_bytes true 37 37 _ _ rfl 5 32 Try.underlying37 Try.underlying5 (by kernel_rfl) (by kernel_rfl) b b h3 h10 HB32.out HB32.out (by rw [show (true ^^ decide (b = b)) = false by simp]; exact rel_val (e := .bool false) (Chg.refl _))
              case ho12 =>
                rintro a wx hE hin (h2 : a.eval (.tmp 197) = _) (h11 : a.eval (.tmp 206) = _)
                clear hin
                have hcst : ∀ v, a.eval (.const v) = v := fun _ => rfl
                have hfnc : ∀ f, a.eval (.func f) = .func (.func f) #[] #[] := fun _ => rfl
                refine want_none rfl ?_
                unfold Oper.wp
                generalize a.eval = ρ at *
                go_simp
                try go_bits
                first | exact rel_val (Chg.refl _) | (go_simp; exact rel_val (Chg.refl _))
            case hfin =>
              intro wx hE
              rintro _ rfl _ rfl _ rfl _ rfl _ rfl _ rfl _ rfl _ rfl _ rfl _ rfl _ rfl _ rfl _ rfl
              simp only [FinOk, List.take_succ_cons, List.take_zero, List.take_nil, List.drop_succ_cons, List.drop_zero, List.drop_nil, Act.put, List.setIfInBounds_toArray, List.set_cons_succ, List.set_cons_zero]
              have DX := Lib.hid (Ddw33.out.drew.chgN hE)
              have QX := Lib.hid (Dqw33.out.drew.chgN hE)
              clear hE
              go_wp2_with fail
              go_roundw
              case rel => exact ⟨j + 1, by omega, by go_num, ⟨DX.out, QX.out, HT.out.ap⟩⟩
              case measure => simp [intOf]; omega
          · have hki2 : ¬ ((j : Int) < (N : Int)) := by omega
            go_wp2_with fail
            clear c0'
            refine (wakes8_calls wr).mono ?_
            rintro en w41 ⟨rfl, hb⟩
            have Ew41 : Hid (Below w1.heap.size w1 w41) := EFr.out.trans (hb.mono EFr.out.size)
            clear EFr
            clear hb
            go_wp2_with fail
            (try simp only [Exit.inBlock, Exit.then])
            go_ret
            exact ⟨rfl, HW1.out.trans (Ew41.out.mono HW1.out.size)⟩
      have hki : (k : Int) < (l.length : Int) := by omega
      obtain ⟨ad, hA⟩ := stw_some HR.out hlt
      have hst := stw_rd (by rw [← hA]; exact HR.out.below (HW1.out.trans (EBr.out.mono HW1.out.size))) hlt
      subst hA
      have hsf := HFA.out _ (List.getElem_mem hlt)
      have hso := HOK.out _ (List.getElem_mem hlt)
      obtain ⟨s, hs⟩ : ∃ s, l[k] = s := ⟨_, rfl⟩
      rw [hs] at hst hso hsf
      have HSO := Lib.hid hso
      have HSF := Lib.hid hsf
      have HSR := Lib.hid hst
      have HONE := Lib.hid (one_stw s)
      obtain ⟨vs, hvs⟩ : ∃ vs, stwC s = vs := ⟨_, rfl⟩
      have DV0 : Hid (vs[0]? = some (.int .i64 s.k)) := by rw [← hvs]; exact (rfl : _ = _)
      have DV1 : Hid (vs[1]? = some (.int .i64 s.i)) := by rw [← hvs]; exact (rfl : _ = _)
      have DV2 : Hid (vs[2]? = some (vu32 s.r.e)) := by rw [← hvs]; exact (rfl : _ = _)
      have DV3 : Hid (vs[3]? = some (vu32 s.r.q)) := by rw [← hvs]; exact (rfl : _ = _)
      have DV4 : Hid (vs[4]? = some (.slice s.r.A s.r.n s.r.c)) := by rw [← hvs]; exact (rfl : _ = _)
      have DV5 : Hid (vs[5]? = some (.slice s.A s.n s.c)) := by rw [← hvs]; exact (rfl : _ = _)
      have DV6 : Hid (vs[6]? = some (.slice s.B s.m s.d)) := by rw [← hvs]; exact (rfl : _ = _)
      have HV25 : Hid ((vs.drop 2).take 3 = recC s.r) := by rw [← hvs]; exact (rfl : _ = _)
      have HVL : Hid (vs.length = 7) := by show _ = _; rw [← hvs]; rfl
      rw [hvs] at HSR HONE
      clear hs hso hst hvs hsf
      go_wp2_with (first
        | (refine wpList_ldr rfl 50 (.tmp 48) rfl (ad.add (k * 7)) vs rfl HSR.out (by kernel_rfl) (by rw [HVL.out]; kernel_rfl) ?_)
        | (refine wpList_al rfl 50 rfl zSt (by kernel_rfl) ?_))
      intro gx w11 hg hb hc hs
      have HQx : Hid (Below wr.heap.size wr w11) := hc.below (Nat.le_refl _) (fun _ _ => id)
      have HGx : Hid (gx = wr.heap.size) := hg
      have KZx := Lib.hid hb
      clear hg hb hc hs
      go_wp2_with (refine wpList_st rfl 50 (.tmp 10) (.tmp 49) rfl gx 0 7 zSt vs rfl rfl KZx.out (by kernel_rfl) HVL.out (by decide) HONE.out ?_)
      intro w12 hbk hc
      rw [splice_whole zSt vs (by rw [HVL.out]; rfl)] at hbk
      have hb : Below wr.heap.size wr w12 := HQx.out.trans (hc.below HQx.out.size (fun q hq he => by have := HGx.out; omega))
      have Fdx : Hid (¬ footD gd gsd lv gx) := fun hj => by have := DiskAt.lt DDr.out.at_ _ hj; have := HGx.out; omega
      have Fqx : Hid (¬ footD gq gsq mv gx) := fun hj => by have := DiskAt.lt DQr.out.at_ _ hj; have := HGx.out; omega
      have Ew12 : Hid (Below w1.heap.size w1 w12) := EBr.out.trans (hb.mono EBr.out.size)
      have Ddw12 : Hid (DSes 99 w1 w12 gd gsd lv t.low) := DDr.out.below hb
      have Dqw12 : Hid (DSes 101 w1 w12 gq gsq mv t) := DQr.out.below hb
      clear EBr DDr DQr
      have Kxw12 : Hid (Bk w12 gx vs) := hbk
      have Kxw12 : Hid (Bk w12 gx vs) := hbk
      clear hbk hb hc KZx HQx HGx
      clear HSR HONE
      by_cases hk0 : s.k = 0
      · have hkb0 : (s.k == 0) = true := by rw [hk0]; rfl
        as_aux_lemma =>
          have HK0 : Hid (Bk w12 w.heap.size bx) := (K0.out.below Ew12.out)
          have NBX : ¬ footD gd gsd lv w.heap.size := fun hj => by have := Ddw12.out.fr _ hj; have := K0.out.lt; omega
          have HFD : Hid (∀ j, footD gd gsd lv j → j < w12.heap.size) := fun j hj => DiskAt.lt Ddw12.out.at_ j hj
          have HFQ : Hid (∀ j, footD gq gsq mv j → j < w12.heap.size) := fun j hj => DiskAt.lt Dqw12.out.at_ j hj
          have HTW : Hid (Two w1 w12 99 gd gsd lv t.low 101 gq gsq mv t) := ⟨Ddw12.out, Dqw12.out, Xdq.out⟩
          have HEW : Hid (∀ wx, Chg (footD gd gsd lv) w12.drew wx → Below w.heap.size w wx) := fun wx hE => (HW1.out.trans (Ew12.out.mono HW1.out.size)).trans (hE.undrew.below (HW1.out.trans (Ew12.out.mono HW1.out.size)).size (fun j hj hf => by have h1 := Ddw12.out.fr j hf; have h2 := HW1.out.size; omega))
          have cx0 := Kxw12.out.cell DV0.out
          go_wp2_with fail
          clear cx0
          apply wp_region_relt 22 15 69 (TwoTo w1 gd gsd (t.walPut n1 s.r.e s.r.q s.r.ps).1.low gq gsq mv t (.int .i64 (t.walPut n1 s.r.e s.r.q s.r.ps).2)) (Chg (footD gd gsd lv)) (Chg NoS) (Chg (footD gd gsd lv)) [(Veq _), (Veq _), (Veq _), (Veq _), (Veq _), (Veq _), (Veq _), (Veq _), (Veq _), (RowAt (footD gd gsd lv) 0 []), (Veq _), (Veq _), (Veq _), (PutsN w12.heap.size s.r.n s.r.ps), (Rec3 w12.heap.size s.r), (fun _ _ => True), (Veq _), (Veq _), (Veq _), (Veq _), (Veq _), (RecN w12.heap.size s.r)] [[], [], [1], [], [3], [4], [], [6], [7], [], [], [10], [11], [9, 12], [5, 8, 13], [0, 2, 14], [], [], [17], [], [19], [20]] [54, 55, 56, 57, 58, 59, 60, 61, 62, 63, 64, 65, 66, 67, 68, 69, 70, 71, 72, 73, 74, 75] (by kernel_rfl) (by kernel_rfl) rfl rfl rfl (by kernel_rfl) Chg.refl (fun _ _ _ => Chg.trans) (fun _ _ _ => Chg.trans) (fun _ _ h => h.mono (fun _ hk => hk.elim)) (fun _ _ h => h) ⟨Veq.lasts, Veq.lasts, Veq.lasts, Veq.lasts, Veq.lasts, Veq.lasts, Veq.lasts, Veq.lasts, Veq.lasts, (fun w w' v h => RowAt.lasts w w' v (h.mono (fun _ hk => hk.elim))), Veq.lasts, Veq.lasts, Veq.lasts, PutsN.lasts, Rec3.lasts, (fun _ _ _ _ _ => trivial), Veq.lasts, Veq.lasts, Veq.lasts, Veq.lasts, Veq.lasts, RecN.lasts, trivial⟩ ⟨Veq.lasts, Veq.lasts, Veq.lasts, Veq.lasts, Veq.lasts, Veq.lasts, Veq.lasts, Veq.lasts, Veq.lasts, RowAt.lasts, Veq.lasts, Veq.lasts, Veq.lasts, (fun w w' v h ho => PutsN.chg ho h (fun j hj => HFD.out j hj)), (fun w w' v h ho => Rec3.chg ho h (fun j hj => HFD.out j hj)), (fun _ _ _ _ _ => trivial), Veq.lasts, Veq.lasts, Veq.lasts, Veq.lasts, Veq.lasts, (fun w w' v h ho => RecN.chg ho h (fun j hj => HFD.out j hj)), trivial⟩ TwoTo.lasts (fun F h w v => by cases h; trivial) ?aops ?afin
          case aops =>
            refine ⟨?ao0, ?ao1, ?ao2, ?ao3, ?ao4, ?ao5, ?ao6, ?ao7, ?ao8, ?ao9, ?ao10, ?ao11, ?ao12, ?ao13, ?ao14, ?ao15, ?ao16, ?ao17, ?ao18, ?ao19, ?ao20, ?ao21, trivial⟩
            case ao0 =>
              rw [if_neg (by decide)]
              intro a wx hE hin
              have i5 : a.eval (.tmp 5) = .pointer (some ⟨gd, 0, none⟩) := hin 5 rfl
              clear hin
              have hcst : ∀ v, a.eval (.const v) = v := fun _ => rfl
              have hfnc : ∀ f, a.eval (.func f) = .func (.func f) #[] #[] := fun _ => rfl
              refine want_none rfl ?_
              unfold Oper.wp
              generalize a.eval = ρ at *
              go_simp
              try go_bits
              first | exact rel_val (Chg.refl _) | (go_simp; exact rel_val (Chg.refl _))
            case ao1 =>
              rw [if_neg (by decide)]
              intro a wx hE hin
              have i2 : a.eval (.tmp 2) = .pointer (some ⟨w.heap.size, 0, none⟩) := hin 2 rfl
              clear hin
              have hcst : ∀ v, a.eval (.const v) = v := fun _ => rfl
              have hfnc : ∀ f, a.eval (.func f) = .func (.func f) #[] #[] := fun _ => rfl
              refine want_none rfl ?_
              unfold Oper.wp
              generalize a.eval = ρ at *
              go_simp
              try go_bits
              first | exact rel_val (Chg.refl _) | (go_simp; exact rel_val (Chg.refl _))
            case ao2 =>
              rw [if_neg (by decide)]
              rintro a wx hE hin (h1 : a.eval (.tmp 55) = _)
              clear hin
              have hcst : ∀ v, a.eval (.const v) = v := fun _ => rfl
              have hfnc : ∀ f, a.eval (.func f) = .func (.func f) #[] #[] := fun _ => rfl
              refine want_none rfl ?_
              unfold Oper.wp
              generalize a.eval = ρ at *
              have c := Bk.cell (HK0.out.drew.chg hE NBX) DB1.out
              go_simp
              try go_bits
              first | exact rel_val (Chg.refl _) | (go_simp; exact rel_val (Chg.refl _))
            case ao3 =>
              rw [if_neg (by decide)]
              intro a wx hE hin
              have i10 : a.eval (.tmp 10) = .pointer (some ⟨gx, 0, none⟩) := hin 10 rfl
              clear hin
              have hcst : ∀ v, a.eval (.const v) = v := fun _ => rfl
              have hfnc : ∀ f, a.eval (.func f) = .func (.func f) #[] #[] := fun _ => rfl
              refine want_none rfl ?_
              unfold Oper.wp
              generalize a.eval = ρ at *
              go_simp
              try go_bits
              first | exact rel_val (Chg.refl _) | (go_simp; exact rel_val (Chg.refl _))
            case ao4 =>
              rw [if_neg (by decide)]
              rintro a wx hE hin (h3 : a.eval (.tmp 57) = _)
              clear hin
              have hcst : ∀ v, a.eval (.const v) = v := fun _ => rfl
              have hfnc : ∀ f, a.eval (.func f) = .func (.func f) #[] #[] := fun _ => rfl
              refine want_none rfl ?_
              unfold Oper.wp
              generalize a.eval = ρ at *
              go_simp
              try go_bits
              first | exact rel_val (Chg.refl _) | (go_simp; exact rel_val (Chg.refl _))
            case ao5 =>
              rw [if_neg (by decide)]
              rintro a wx hE hin (h4 : a.eval (.tmp 58) = _)
              clear hin
              have hcst : ∀ v, a.eval (.const v) = v := fun _ => rfl
              have hfnc : ∀ f, a.eval (.func f) = .func (.func f) #[] #[] := fun _ => rfl
              refine want_none rfl ?_
              unfold Oper.wp
              generalize a.eval = ρ at *
              have c := Bk.cell (Kxw12.out.drew.chg hE Fdx.out) DV2.out
              go_simp
              try go_bits
              first | exact rel_val (Chg.refl _) | (go_simp; exact rel_val (Chg.refl _))
            case ao6 =>
              rw [if_neg (by decide)]
              intro a wx hE hin
              have i10 : a.eval (.tmp 10) = .pointer (some ⟨gx, 0, none⟩) := hin 10 rfl
              clear hin
              have hcst : ∀ v, a.eval (.const v) = v := fun _ => rfl
              have hfnc : ∀ f, a.eval (.func f) = .func (.func f) #[] #[] := fun _ => rfl
              refine want_none rfl ?_
              unfold Oper.wp
              generalize a.eval = ρ at *
              go_simp
              try go_bits
              first | exact rel_val (Chg.refl _) | (go_simp; exact rel_val (Chg.refl _))
            case ao7 =>
              rw [if_neg (by decide)]
              rintro a wx hE hin (h6 : a.eval (.tmp 60) = _)
              clear hin
              have hcst : ∀ v, a.eval (.const v) = v := fun _ => rfl
              have hfnc : ∀ f, a.eval (.func f) = .func (.func f) #[] #[] := fun _ => rfl
              refine want_none rfl ?_
              unfold Oper.wp
              generalize a.eval = ρ at *
              go_simp
              try go_bits
              first | exact rel_val (Chg.refl _) | (go_simp; exact rel_val (Chg.refl _))
            case ao8 =>
              rw [if_neg (by decide)]
              rintro a wx hE hin (h7 : a.eval (.tmp 61) = _)
              clear hin
              have hcst : ∀ v, a.eval (.const v) = v := fun _ => rfl
              have hfnc : ∀ f, a.eval (.func f) = .func (.func f) #[] #[] := fun _ => rfl
              refine want_none rfl ?_
              unfold Oper.wp
              generalize a.eval = ρ at *
              have c := Bk.cell (Kxw12.out.drew.chg hE Fdx.out) DV3.out
              go_simp
              try go_bits
              first | exact rel_val (Chg.refl _) | (go_simp; exact rel_val (Chg.refl _))
            case ao9 =>
              rw [if_neg (by decide)]
              intro a wx hE hin
              clear hin
              have hcst : ∀ v, a.eval (.const v) = v := fun _ => rfl
              have hfnc : ∀ f, a.eval (.func f) = .func (.func f) #[] #[] := fun _ => rfl
              refine want_none rfl ?_
              unfold Oper.wp
              generalize a.eval = ρ at *
              go_simp
              exact ⟨_, rfl, ⟨_, rfl, fun hf => by have h1 := HFD.out _ hf; have h2 : w12.heap.size ≤ wx.heap.size := hE.size; omega, _, _, heap_alloc_new wx _⟩, (Chg.refl _).alloc _⟩
            case ao10 =>
              rw [if_neg (by decide)]
              intro a wx hE hin
              have i10 : a.eval (.tmp 10) = .pointer (some ⟨gx, 0, none⟩) := hin 10 rfl
              clear hin
              have hcst : ∀ v, a.eval (.const v) = v := fun _ => rfl
              have hfnc : ∀ f, a.eval (.func f) = .func (.func f) #[] #[] := fun _ => rfl
              refine want_none rfl ?_
              unfold Oper.wp
              generalize a.eval = ρ at *
              go_simp
              try go_bits
              first | exact rel_val (Chg.refl _) | (go_simp; exact rel_val (Chg.refl _))
            case ao11 =>
              rw [if_neg (by decide)]
              rintro a wx hE hin (h10 : a.eval (.tmp 64) = _)
              clear hin
              have hcst : ∀ v, a.eval (.const v) = v := fun _ => rfl
              have hfnc : ∀ f, a.eval (.func f) = .func (.func f) #[] #[] := fun _ => rfl
              refine want_none rfl ?_
              unfold Oper.wp
              generalize a.eval = ρ at *
              go_simp
              try go_bits
              first | exact rel_val (Chg.refl _) | (go_simp; exact rel_val (Chg.refl _))
            case ao12 =>
              rw [if_neg (by decide)]
              rintro a wx hE hin (h11 : a.eval (.tmp 65) = _)
              clear hin
              have hcst : ∀ v, a.eval (.const v) = v := fun _ => rfl
              have hfnc : ∀ f, a.eval (.func f) = .func (.func f) #[] #[] := fun _ => rfl
              refine want_none rfl ?_
              unfold Oper.wp
              generalize a.eval = ρ at *
              have c := Bk.cell (Kxw12.out.drew.chg hE Fdx.out) DV4.out
              go_simp
              try go_bits
              first | exact rel_val (Chg.refl _) | (go_simp; exact rel_val (Chg.refl _))
            case ao13 =>
              rw [if_neg (by decide)]
              rintro a wx hE hin ⟨g9, h9, s9, t9, f9, c9⟩ (h12 : a.eval (.tmp 66) = _)
              clear hin
              have hcst : ∀ v, a.eval (.const v) = v := fun _ => rfl
              have hfnc : ∀ f, a.eval (.func f) = .func (.func f) #[] #[] := fun _ => rfl
              refine want_none rfl ?_
              exact wp_append_new _ _ 23 rfl 39 zPut 33 40 Try.underlying23 infoPut3 rfl (by decide) (by decide) ⟨g9, 0, none⟩ h9 s.r.A s.r.n s.r.c (s.r.ps.flatMap putC) h12 (by rw [puts_length HSO.out.rcd.ok, HSO.out.rcd.len]) (HSO.out.rcd.rd.below (HEW.out wx hE)) (by have := HSF.out.1; omega) (one_puts _) (fun A1 c1 w1 hr1 hc1 => ⟨_, rfl, ⟨A1, c1, rfl, hr1.mono hE.size⟩, hc1⟩)
            case ao14 =>
              rw [if_neg (by decide)]
              rintro a wx hE hin (h5 : a.eval (.tmp 59) = _) (h8 : a.eval (.tmp 62) = _) ⟨A13, c13, h13, o13⟩
              clear hin
              have hcst : ∀ v, a.eval (.const v) = v := fun _ => rfl
              have hfnc : ∀ f, a.eval (.func f) = .func (.func f) #[] #[] := fun _ => rfl
              refine want_none rfl ?_
              exact wp_bld 25 [(0, .tmp 59), (1, .tmp 62), (2, .tmp 67)] rfl zR [(0, [vu32 s.r.e]), (1, [vu32 s.r.q]), (2, [.slice A13 s.r.n c13])] [vu32 s.r.e, vu32 s.r.q, .slice A13 s.r.n c13] (by kernel_rfl) (by kernel_rfl) ⟨by rw [h5]; rfl, ⟨1, rfl, by kernel_rfl, by decide⟩, by rw [h8]; rfl, ⟨1, rfl, by kernel_rfl, by decide⟩, by rw [h13]; rfl, ⟨1, rfl, by kernel_rfl, by decide⟩, trivial⟩ rfl ⟨_, rfl, ⟨A13, c13, rfl, o13⟩, Chg.refl _⟩
            case ao15 =>
              rw [if_pos (by decide)]
              rintro a wx hE hin (h0 : a.eval (.tmp 54) = _) (h2 : a.eval (.tmp 56) = _) ⟨A14, c14, h14, o14⟩
              clear hin
              have hcst : ∀ v, a.eval (.const v) = v := fun _ => rfl
              have hfnc : ∀ f, a.eval (.func f) = .func (.func f) #[] #[] := fun _ => rfl
              unfold Oper.wp
              generalize a.eval = ρ at *
              go_simp
              go_simp
              have HTx : Hid (Two w1 wx 99 gd gsd lv t.low 101 gq gsq mv t) := HTW.out.drew.chgN hE
              refine (walPut_calls wx gd gsd lv t.low n1 s.r.e s.r.q s.r.ps A14 s.r.n c14 (8 * k) HSO.out.rcd.len HTx.out.a.at_ (HTK.out.dlow (Nat.le_refl _)) (by have := HLL.out; omega) (fun w' hc => o14 _ w' hc (fun j hj => HFD.out j hj)) HSO.out.rcd.ok).mono ?_
              intro e w' hp
              rw [low_walPut] at hp
              have hch := DPost.chgF hp
              obtain ⟨rfl, lv3, ht3⟩ := HTx.out.post hp
              refine ⟨_, rfl, ?_, hch⟩
              (try rw [if_pos rfl])
              exact ⟨rfl, lv3, ht3⟩
            case ao16 =>
              rw [if_neg (by decide)]
              intro a wx hE hin
              have i7 : a.eval (.tmp 7) = .pointer (some ⟨gq, 0, none⟩) := hin 7 rfl
              clear hin
              have hcst : ∀ v, a.eval (.const v) = v := fun _ => rfl
              have hfnc : ∀ f, a.eval (.func f) = .func (.func f) #[] #[] := fun _ => rfl
              refine want_none rfl ?_
              unfold Oper.wp
              generalize a.eval = ρ at *
              go_simp
              try go_bits
              first | exact rel_val (Chg.refl _) | (go_simp; exact rel_val (Chg.refl _))
            case ao17 =>
              rw [if_neg (by decide)]
              intro a wx hE hin
              have i2 : a.eval (.tmp 2) = .pointer (some ⟨w.heap.size, 0, none⟩) := hin 2 rfl
              clear hin
              have hcst : ∀ v, a.eval (.const v) = v := fun _ => rfl
              have hfnc : ∀ f, a.eval (.func f) = .func (.func f) #[] #[] := fun _ => rfl
              refine want_none rfl ?_
              unfold Oper.wp
              generalize a.eval = ρ at *
              go_simp
              try go_bits
              first | exact rel_val (Chg.refl _) | (go_simp; exact rel_val (Chg.refl _))
            case ao18 =>
              rw [if_neg (by decide)]
              rintro a wx hE hin (h17 : a.eval (.tmp 71) = _)
              clear hin
              have hcst : ∀ v, a.eval (.const v) = v := fun _ => rfl
              have hfnc : ∀ f, a.eval (.func f) = .func (.func f) #[] #[] := fun _ => rfl
              refine want_none rfl ?_
              unfold Oper.wp
              generalize a.eval = ρ at *
              have c := Bk.cell (HK0.out.drew.chg hE NBX) DB1.out
              go_simp
              try go_bits
              first | exact rel_val (Chg.refl _) | (go_simp; exact rel_val (Chg.refl _))
            case ao19 =>
              rw [if_neg (by decide)]
              intro a wx hE hin
              have i10 : a.eval (.tmp 10) = .pointer (some ⟨gx, 0, none⟩) := hin 10 rfl
              clear hin
              have hcst : ∀ v, a.eval (.const v) = v := fun _ => rfl
              have hfnc : ∀ f, a.eval (.func f) = .func (.func f) #[] #[] := fun _ => rfl
              refine want_none rfl ?_
              unfold Oper.wp
              generalize a.eval = ρ at *
              go_simp
              try go_bits
              first | exact rel_val (Chg.refl _) | (go_simp; exact rel_val (Chg.refl _))
            case ao20 =>
              rw [if_neg (by decide)]
              rintro a wx hE hin (h19 : a.eval (.tmp 73) = _)
              clear hin
              have hcst : ∀ v, a.eval (.const v) = v := fun _ => rfl
              have hfnc : ∀ f, a.eval (.func f) = .func (.func f) #[] #[] := fun _ => rfl
              refine want_none rfl ?_
              exact wp_ld 25 _ rfl gx 2 3 vs (recC s.r) h19 (Kxw12.out.drew.chg hE Fdx.out) (by kernel_rfl) (by kernel_rfl) (by rw [HVL.out]; decide) HV25.out (rel_val (Chg.refl _))
            case ao21 =>
              rw [if_neg (by decide)]
              rintro a wx hE hin (h20 : a.eval (.tmp 74) = _)
              clear hin
              have hcst : ∀ v, a.eval (.const v) = v := fun _ => rfl
              have hfnc : ∀ f, a.eval (.func f) = .func (.func f) #[] #[] := fun _ => rfl
              refine want_none rfl ?_
              unfold Oper.wp
              generalize a.eval = ρ at *
              go_simp
              refine (own_calls wx s.r (HSO.out.rcd.below (HEW.out wx hE)) HSF.out.1).mono ?_
              rintro e w' ⟨A, c, rfl, ho, hb⟩
              exact ⟨_, rfl, ⟨A, c, rfl, ho.mono hE.size⟩, .of_below hb⟩
          case afin =>
            intro wx hE
            rintro _ rfl _ rfl _ rfl _ rfl _ rfl _ rfl _ rfl _ rfl _ rfl _ ⟨g9, rfl, s9, t9, f9, c9⟩ _ rfl _ rfl _ rfl _ ⟨A13, c13, rfl, o13⟩ _ ⟨A14, c14, rfl, o14⟩ vsp _ _ rfl _ rfl _ rfl _ rfl _ rfl _ ⟨A21, c21, rfl, o21⟩ hsp
            simp only [FinOk, List.take_succ_cons, List.take_zero, List.take_nil, List.drop_succ_cons, List.drop_zero, List.drop_nil, Act.put, List.setIfInBounds_toArray, List.set_cons_succ, List.set_cons_zero]
            simp only [Act.put, List.setIfInBounds_toArray, List.set_cons_succ, List.set_cons_zero] at hsp
            have hsp' : TwoTo w1 gd gsd (t.walPut n1 s.r.e s.r.q s.r.ps).1.low gq gsq mv t (.int .i64 (t.walPut n1 s.r.e s.r.q s.r.ps).2) wx vsp := hsp
            clear hsp
            obtain ⟨rfl, lv3, ht3⟩ := hsp'
            have HT3 := Lib.hid ht3
            have KX3 : Hid (Bk wx gx vs) := Kxw12.out.drew.chg hE Fdx.out
            have O21 := Lib.hid o21
            clear hE ht3 o13 o14 o21 c9
            go_wp2_with fail
            refine (refPut_calls wx gq gsq mv t n1 s.r.e s.r.q 0 s.r.ps A21 s.r.n c21 (8 * k) HSO.out.rcd.len (by have h2 := HSO.out.rcd.cap; have h3 := HSO.out.rcd.max; omega) HT3.out.b.at_ (HTK.out.dref (Nat.le_refl _)) (by have := HLL.out; omega) (fun w' hc => O21.out _ w' hc (fun j hj => HFQ.out j hj)) HSO.out.rcd.ok).mono ?_
            intro e w4 hp
            have KX4 : Hid (Bk w4 gx vs) := KX3.out.chg (DPost.chgF hp) Fqx.out
            obtain ⟨rfl, mv4, ht4⟩ := HT3.out.post2 hp
            have HT4 := Lib.hid ht4
            have HTK4 := Lib.hid (HTK.out.walPut n1 s.r.e s.r.q s.r.ps)
            clear hp ht4 KX3
            obtain ⟨zz, hzz⟩ : ∃ zz, (t.walPut n1 s.r.e s.r.q s.r.ps).2 = zz := ⟨_, rfl⟩
            obtain ⟨t4, ht4⟩ : ∃ t4, (t.walPut n1 s.r.e s.r.q s.r.ps).1 = t4 := ⟨_, rfl⟩
            rw [hzz]
            rw [ht4] at HT4 HTK4
            clear hzz ht4
            have DD4 := Lib.hid HT4.out.a
            have DQ4 := Lib.hid HT4.out.b
            have Xdq := Lib.hid HT4.out.ap
            have EE4 := Lib.hid HT4.out.a.bel
            clear HT4
            go_wp2_with fail
            apply wp_region_rel 8 (Chg NoS) [(Veq _), (Veq _), (Veq _), (Veq _), (Veq _), (Veq _), (Veq _), (Veq _)] [[], [0], [1], [2], [], [4], [5], [6]] [164, 165, 166, 167, 168, 169, 170, 171] (by kernel_rfl) (by kernel_rfl) rfl rfl rfl Chg.refl (fun _ _ _ => Chg.trans) ⟨Veq.lasts, Veq.lasts, Veq.lasts, Veq.lasts, Veq.lasts, Veq.lasts, Veq.lasts, Veq.lasts, trivial⟩ ?z1ops ?z1fin
            case z1ops =>
              refine ⟨?z1o0, ?z1o1, ?z1o2, ?z1o3, ?z1o4, ?z1o5, ?z1o6, ?z1o7, trivial⟩
              case z1o0 =>
                intro a wx hE hin
                have i10 : a.eval (.tmp 10) = .pointer (some ⟨gx, 0, none⟩) := hin 10 rfl
                clear hin
                have hcst : ∀ v, a.eval (.const v) = v := fun _ => rfl
                have hfnc : ∀ f, a.eval (.func f) = .func (.func f) #[] #[] := fun _ => rfl
                refine want_none rfl ?_
                unfold Oper.wp
                generalize a.eval = ρ at *
                go_simp
                try go_bits
                first | exact rel_val (Chg.refl _) | (go_simp; exact rel_val (Chg.refl _))
              case z1o1 =>
                rintro a wx hE hin (h0 : a.eval (.tmp 164) = _)
                clear hin
                have hcst : ∀ v, a.eval (.const v) = v := fun _ => rfl
                have hfnc : ∀ f, a.eval (.func f) = .func (.func f) #[] #[] := fun _ => rfl
                refine want_none rfl ?_
                unfold Oper.wp
                generalize a.eval = ρ at *
                go_simp
                try go_bits
                first | exact rel_val (Chg.refl _) | (go_simp; exact rel_val (Chg.refl _))
              case z1o2 =>
                rintro a wx hE hin (h1 : a.eval (.tmp 165) = _)
                clear hin
                have hcst : ∀ v, a.eval (.const v) = v := fun _ => rfl
                have hfnc : ∀ f, a.eval (.func f) = .func (.func f) #[] #[] := fun _ => rfl
                refine want_none rfl ?_
                unfold Oper.wp
                generalize a.eval = ρ at *
                have c := Bk.cell (KX4.out.drew.chg hE id) DV4.out
                go_simp
                try go_bits
                first | exact rel_val (Chg.refl _) | (go_simp; exact rel_val (Chg.refl _))
              case z1o3 =>
                rintro a wx hE hin (h2 : a.eval (.tmp 166) = _)
                clear hin
                have hcst : ∀ v, a.eval (.const v) = v := fun _ => rfl
                have hfnc : ∀ f, a.eval (.func f) = .func (.func f) #[] #[] := fun _ => rfl
                refine want_none rfl ?_
                unfold Oper.wp
                generalize a.eval = ρ at *
                go_simp
                refine (good_calls s.r.ps s.r.A s.r.n s.r.c wx HSO.out.rcd.len (HSO.out.rcd.rd.below ((HW1.out.trans (EE4.out.mono HW1.out.size)).trans ((hE.undrew.below (B := w4.heap.size) (Nat.le_refl _) (fun _ _ => id)).mono (HW1.out.trans (EE4.out.mono HW1.out.size)).size))) HSO.out.rcd.ok).mono ?_
                rintro e w' ⟨rfl, hb⟩
                exact rel_val (.of_below hb)
              case z1o4 =>
                intro a wx hE hin
                have i10 : a.eval (.tmp 10) = .pointer (some ⟨gx, 0, none⟩) := hin 10 rfl
                clear hin
                have hcst : ∀ v, a.eval (.const v) = v := fun _ => rfl
                have hfnc : ∀ f, a.eval (.func f) = .func (.func f) #[] #[] := fun _ => rfl
                refine want_none rfl ?_
                unfold Oper.wp
                generalize a.eval = ρ at *
                go_simp
                try go_bits
                first | exact rel_val (Chg.refl _) | (go_simp; exact rel_val (Chg.refl _))
              case z1o5 =>
                rintro a wx hE hin (h4 : a.eval (.tmp 168) = _)
                clear hin
                have hcst : ∀ v, a.eval (.const v) = v := fun _ => rfl
                have hfnc : ∀ f, a.eval (.func f) = .func (.func f) #[] #[] := fun _ => rfl
                refine want_none rfl ?_
                unfold Oper.wp
                generalize a.eval = ρ at *
                go_simp
                try go_bits
                first | exact rel_val (Chg.refl _) | (go_simp; exact rel_val (Chg.refl _))
              case z1o6 =>
                rintro a wx hE hin (h5 : a.eval (.tmp 169) = _)
                clear hin
                have hcst : ∀ v, a.eval (.const v) = v := fun _ => rfl
                have hfnc : ∀ f, a.eval (.func f) = .func (.func f) #[] #[] := fun _ => rfl
                refine want_none rfl ?_
                unfold Oper.wp
                generalize a.eval = ρ at *
                have c := Bk.cell (KX4.out.drew.chg hE id) DV4.out
                go_simp
                try go_bits
                first | exact rel_val (Chg.refl _) | (go_simp; exact rel_val (Chg.refl _))
              case z1o7 =>
                rintro a wx hE hin (h6 : a.eval (.tmp 170) = _)
                clear hin
                have hcst : ∀ v, a.eval (.const v) = v := fun _ => rfl
                have hfnc : ∀ f, a.eval (.func f) = .func (.func f) #[] #[] := fun _ => rfl
                refine want_none rfl ?_
                unfold Oper.wp
                generalize a.eval = ρ at *
                go_simp
                refine (refGood_calls s.r.ps s.r.A s.r.n s.r.c wx HSO.out.rcd.len (by have h2 := HSO.out.rcd.cap; have h3 := HSO.out.rcd.max; omega) (HSO.out.rcd.rd.below ((HW1.out.trans (EE4.out.mono HW1.out.size)).trans ((hE.undrew.below (B := w4.heap.size) (Nat.le_refl _) (fun _ _ => id)).mono (HW1.out.trans (EE4.out.mono HW1.out.size)).size))) HSO.out.rcd.ok).mono ?_
                rintro e w' ⟨rfl, hb⟩
                exact rel_val (.of_below hb)
            case z1fin =>
              intro wx hE
              rintro _ rfl _ rfl _ rfl _ rfl _ rfl _ rfl _ rfl _ rfl
              simp only [FinOk, List.take_succ_cons, List.take_zero, List.take_nil, List.drop_succ_cons, List.drop_zero, List.drop_nil, Act.put, List.setIfInBounds_toArray, List.set_cons_succ, List.set_cons_zero]
              have DX : Hid (DSes 99 w1 wx gd gsd lv3 t4.low) := DD4.out.chgN hE.undrew
              have QX : Hid (DSes 101 w1 wx gq gsq mv4 t4) := DQ4.out.chgN hE.undrew
              clear hE
              cases goodB s.r.ps
              all_goals
                go_wp2_with fail
                go_roundw
                case rel => exact ⟨k + 1, lv3, mv4, t4, by omega, by go_num, (HTK4.out.mono (by omega)), DX.out, QX.out, Xdq.out⟩
                case measure => simp [intOf]; omega
      · have hkb0 : (s.k == 0) = false := by rw [beq_eq_false_iff_ne]; exact hk0
        by_cases hk1 : s.k = 1
        · have hkb1 : (s.k == 1) = true := by rw [hk1]; rfl
          as_aux_lemma =>
            obtain ⟨rr, hrr⟩ : ∃ rr, (t.walGet n1).1 = rr := ⟨_, rfl⟩
            obtain ⟨ee, hee⟩ : ∃ ee, (t.walGet n1).2 = ee := ⟨_, rfl⟩
            have HWG : Hid (t.walGet n1 = (rr, ee)) := by show _ = _; rw [← hrr, ← hee]
            have RPO : Hid (PutsOk rr.ps) := by rw [← hrr]; exact walGet_oks (Dqw12.out.at_.readB_len)
            clear hrr hee
            have b1 := (K0.out.below Ew12.out).cell DB1.out
            have cx0 := Kxw12.out.cell DV0.out
            go_wp2_with fail
            clear cx0
            clear b1
            refine (walGet_calls w12 gd gsd lv t.low n1 Ddw12.out.at_).mono ?_
            intro en w13 hp
            rw [low_walGet, HWG.out] at hp
            obtain ⟨Aw13, cw13, he, hR, hncw13, hcmw13, hb⟩ := hp
            have he' : en = .returned (.tuple #[.agg #[vu32 rr.e, vu32 rr.q, .slice Aw13 rr.ps.length cw13], .int .i64 ee]) := he
            subst he'
            have hR' : Rd w13 Aw13 (rr.ps.flatMap putC) := hR
            have Ew13 : Hid (Below w1.heap.size w1 w13) := Ew12.out.trans (hb.mono Ew12.out.size)
            have Kxw13 : Hid (Bk w13 gx vs) := Kxw12.out.below hb
            have Ddw13 : Hid (DSes 99 w1 w13 gd gsd lv t.low) := Ddw12.out.below hb
            have Dqw13 : Hid (DSes 101 w1 w13 gq gsq mv t) := Dqw12.out.below hb
            clear Ew12 Kxw12 Ddw12 Dqw12
            have Rw13w13 := Lib.hid hR'
            clear he hb hR hR'
            go_wp2_with (refine wpList_al rfl 25 rfl zR (by kernel_rfl) ?_)
            intro ga w14 hg hb hc hs
            have HQa : Hid (Below w13.heap.size w13 w14) := hc.below (Nat.le_refl _) (fun _ _ => id)
            have HGa : Hid (ga = w13.heap.size) := hg
            have KZa := Lib.hid hb
            clear hg hb hc hs
            go_wp2_with (refine wpList_st rfl 25 (.tmp 11) (.tmp 85) rfl ga 0 3 zR [vu32 rr.e, vu32 rr.q, .slice Aw13 rr.ps.length cw13] rfl rfl KZa.out (by kernel_rfl) rfl (by decide) (one_rec _ _ _ _ _) ?_)
            intro w15 hbk hc
            rw [splice_whole zR [vu32 rr.e, vu32 rr.q, .slice Aw13 rr.ps.length cw13] rfl] at hbk
            have hb : Below w13.heap.size w13 w15 := HQa.out.trans (hc.below HQa.out.size (fun q hq he => by have := HGa.out; omega))
            have Axa : Hid (gx < ga) := by show _ < _; have := Kxw13.out.lt; have := HGa.out; omega
            have Ew15 : Hid (Below w1.heap.size w1 w15) := Ew13.out.trans (hb.mono Ew13.out.size)
            have Kxw15 : Hid (Bk w15 gx vs) := Kxw13.out.below hb
            have Rw13w15 : Hid (Rd w15 Aw13 (rr.ps.flatMap putC)) := Rw13w13.out.below hb
            have Ddw15 : Hid (DSes 99 w1 w15 gd gsd lv t.low) := Ddw13.out.below hb
            have Dqw15 : Hid (DSes 101 w1 w15 gq gsq mv t) := Dqw13.out.below hb
            clear Ew13 Kxw13 Rw13w13 Ddw13 Dqw13
            have Kaw15 : Hid (Bk w15 ga [vu32 rr.e, vu32 rr.q, .slice Aw13 rr.ps.length cw13]) := hbk
            have Kaw15 : Hid (Bk w15 ga [vu32 rr.e, vu32 rr.q, .slice Aw13 rr.ps.length cw13]) := hbk
            clear hbk hb hc KZa HQa HGa
            have b1 := (K0.out.below Ew15.out).cell DB1.out
            go_wp2_with fail
            clear b1
            refine (refGet_calls w15 gq gsq mv t n1 Dqw15.out.at_).mono ?_
            intro en w16 hp
            rw [HWG.out] at hp
            obtain ⟨Aw16, cw16, he, hR, hncw16, hcmw16, hb⟩ := hp
            have he' : en = .returned (.agg #[vu32 rr.e, vu32 rr.q, .slice Aw16 rr.ps.length cw16, .int .i64 ee]) := he
            subst he'
            have hR' : Rd w16 Aw16 (rr.ps.flatMap putC) := hR
            have Ew16 : Hid (Below w1.heap.size w1 w16) := Ew15.out.trans (hb.mono Ew15.out.size)
            have Kxw16 : Hid (Bk w16 gx vs) := Kxw15.out.below hb
            have Kaw16 : Hid (Bk w16 ga [vu32 rr.e, vu32 rr.q, .slice Aw13 rr.ps.length cw13]) := Kaw15.out.below hb
            have Rw13w16 : Hid (Rd w16 Aw13 (rr.ps.flatMap putC)) := Rw13w15.out.below hb
            have Ddw16 : Hid (DSes 99 w1 w16 gd gsd lv t.low) := Ddw15.out.below hb
            have Dqw16 : Hid (DSes 101 w1 w16 gq gsq mv t) := Dqw15.out.below hb
            clear Ew15 Kxw15 Kaw15 Rw13w15 Ddw15 Dqw15
            have Rw16w16 := Lib.hid hR'
            clear he hb hR hR'
            go_wp2_with (refine wpList_al rfl 53 rfl zQ (by kernel_rfl) ?_)
            intro gb w17 hg hb hc hs
            have HQb : Hid (Below w16.heap.size w16 w17) := hc.below (Nat.le_refl _) (fun _ _ => id)
            have HGb : Hid (gb = w16.heap.size) := hg
            have KZb := Lib.hid hb
            clear hg hb hc hs
            go_wp2_with (refine wpList_st rfl 53 (.tmp 13) (.tmp 90) rfl gb 0 4 zQ [vu32 rr.e, vu32 rr.q, .slice Aw16 rr.ps.length cw16, .int .i64 ee] rfl rfl KZb.out (by kernel_rfl) rfl (by decide) (one_rec4 _ _ _ _ _ _) ?_)
            intro w18 hbk hc
            rw [splice_whole zQ [vu32 rr.e, vu32 rr.q, .slice Aw16 rr.ps.length cw16, .int .i64 ee] rfl] at hbk
            have hb : Below w16.heap.size w16 w18 := HQb.out.trans (hc.below HQb.out.size (fun q hq he => by have := HGb.out; omega))
            have Axb : Hid (gx < gb) := by show _ < _; have := Kxw16.out.lt; have := HGb.out; omega
            have Aab : Hid (ga < gb) := by show _ < _; have := Kaw16.out.lt; have := HGb.out; omega
            have Ew18 : Hid (Below w1.heap.size w1 w18) := Ew16.out.trans (hb.mono Ew16.out.size)
            have Kxw18 : Hid (Bk w18 gx vs) := Kxw16.out.below hb
            have Kaw18 : Hid (Bk w18 ga [vu32 rr.e, vu32 rr.q, .slice Aw13 rr.ps.length cw13]) := Kaw16.out.below hb
            have Rw13w18 : Hid (Rd w18 Aw13 (rr.ps.flatMap putC)) := Rw13w16.out.below hb
            have Rw16w18 : Hid (Rd w18 Aw16 (rr.ps.flatMap putC)) := Rw16w16.out.below hb
            have Ddw18 : Hid (DSes 99 w1 w18 gd gsd lv t.low) := Ddw16.out.below hb
            have Dqw18 : Hid (DSes 101 w1 w18 gq gsq mv t) := Dqw16.out.below hb
            clear Ew16 Kxw16 Kaw16 Rw13w16 Rw16w16 Ddw16 Dqw16
            have Kbw18 : Hid (Bk w18 gb [vu32 rr.e, vu32 rr.q, .slice Aw16 rr.ps.length cw16, .int .i64 ee]) := hbk
            have Kbw18 : Hid (Bk w18 gb [vu32 rr.e, vu32 rr.q, .slice Aw16 rr.ps.length cw16, .int .i64 ee]) := hbk
            clear hbk hb hc KZb HQb HGb
            have ca0 := Kaw18.out.cell (j := 0) rfl
            have ca1 := Kaw18.out.cell (j := 1) rfl
            have ca2 := Kaw18.out.cell (j := 2) rfl
            have cb0 := Kbw18.out.cell (j := 0) rfl
            have cb1 := Kbw18.out.cell (j := 1) rfl
            have cb2 := Kbw18.out.cell (j := 2) rfl
            have cb3 := Kbw18.out.cell (j := 3) rfl
            go_wp2_with fail
            clear ca0 ca1 ca2 cb0 cb1 cb2 cb3
            have RL : Hid (rr.ps.length ≤ 9223372036854775807) := by have h1 : rr.ps.length ≤ cw13 := hncw13; have h2 := hcmw13; show _ ≤ _; omega
            refine (keepPuts_calls rr.ps rr.ps Aw13 Aw16 rr.ps.length rr.ps.length cw13 cw16 w18 rfl rfl RL.out Rw13w18.out Rw16w18.out RPO.out RPO.out).mono ?_
            rintro en w19 ⟨rfl, hb⟩
            have Ew19 : Hid (Below w1.heap.size w1 w19) := Ew18.out.trans (hb.mono Ew18.out.size)
            have Kxw19 : Hid (Bk w19 gx vs) := Kxw18.out.below hb
            have Kaw19 : Hid (Bk w19 ga [vu32 rr.e, vu32 rr.q, .slice Aw13 rr.ps.length cw13]) := Kaw18.out.below hb
            have Kbw19 : Hid (Bk w19 gb [vu32 rr.e, vu32 rr.q, .slice Aw16 rr.ps.length cw16, .int .i64 ee]) := Kbw18.out.below hb
            have Rw13w19 : Hid (Rd w19 Aw13 (rr.ps.flatMap putC)) := Rw13w18.out.below hb
            have Rw16w19 : Hid (Rd w19 Aw16 (rr.ps.flatMap putC)) := Rw16w18.out.below hb
            have Ddw19 : Hid (DSes 99 w1 w19 gd gsd lv t.low) := Ddw18.out.below hb
            have Dqw19 : Hid (DSes 101 w1 w19 gq gsq mv t) := Dqw18.out.below hb
            clear Ew18 Kxw18 Kaw18 Kbw18 Rw13w18 Rw16w18 Ddw18 Dqw18
            clear hb
            rw [decide_eq_true rfl]
            go_wp2_with fail
            apply wp_region_rel 8 (Chg NoS) [(Veq _), (Veq _), (Veq _), (Veq _), (Veq _), (Veq _), (Veq _), (Veq _)] [[], [0], [1], [2], [], [4], [5], [6]] [164, 165, 166, 167, 168, 169, 170, 171] (by kernel_rfl) (by kernel_rfl) rfl rfl rfl Chg.refl (fun _ _ _ => Chg.trans) ⟨Veq.lasts, Veq.lasts, Veq.lasts, Veq.lasts, Veq.lasts, Veq.lasts, Veq.lasts, Veq.lasts, trivial⟩ ?z2ops ?z2fin
            case z2ops =>
              refine ⟨?z2o0, ?z2o1, ?z2o2, ?z2o3, ?z2o4, ?z2o5, ?z2o6, ?z2o7, trivial⟩
              case z2o0 =>
                intro a wx hE hin
                have i10 : a.eval (.tmp 10) = .pointer (some ⟨gx, 0, none⟩) := hin 10 rfl
                clear hin
                have hcst : ∀ v, a.eval (.const v) = v := fun _ => rfl
                have hfnc : ∀ f, a.eval (.func f) = .func (.func f) #[] #[] := fun _ => rfl
                refine want_none rfl ?_
                unfold Oper.wp
                generalize a.eval = ρ at *
                go_simp
                try go_bits
                first | exact rel_val (Chg.refl _) | (go_simp; exact rel_val (Chg.refl _))
              case z2o1 =>
                rintro a wx hE hin (h0 : a.eval (.tmp 164) = _)
                clear hin
                have hcst : ∀ v, a.eval (.const v) = v := fun _ => rfl
                have hfnc : ∀ f, a.eval (.func f) = .func (.func f) #[] #[] := fun _ => rfl
                refine want_none rfl ?_
                unfold Oper.wp
                generalize a.eval = ρ at *
                go_simp
                try go_bits
                first | exact rel_val (Chg.refl _) | (go_simp; exact rel_val (Chg.refl _))
              case z2o2 =>
                rintro a wx hE hin (h1 : a.eval (.tmp 165) = _)
                clear hin
                have hcst : ∀ v, a.eval (.const v) = v := fun _ => rfl
                have hfnc : ∀ f, a.eval (.func f) = .func (.func f) #[] #[] := fun _ => rfl
                refine want_none rfl ?_
                unfold Oper.wp
                generalize a.eval = ρ at *
                have c := Bk.cell (Kxw19.out.drew.chg hE id) DV4.out
                go_simp
                try go_bits
                first | exact rel_val (Chg.refl _) | (go_simp; exact rel_val (Chg.refl _))
              case z2o3 =>
                rintro a wx hE hin (h2 : a.eval (.tmp 166) = _)
                clear hin
                have hcst : ∀ v, a.eval (.const v) = v := fun _ => rfl
                have hfnc : ∀ f, a.eval (.func f) = .func (.func f) #[] #[] := fun _ => rfl
                refine want_none rfl ?_
                unfold Oper.wp
                generalize a.eval = ρ at *
                go_simp
                refine (good_calls s.r.ps s.r.A s.r.n s.r.c wx HSO.out.rcd.len (HSO.out.rcd.rd.below ((HW1.out.trans (Ew19.out.mono HW1.out.size)).trans ((hE.undrew.below (B := w19.heap.size) (Nat.le_refl _) (fun _ _ => id)).mono (HW1.out.trans (Ew19.out.mono HW1.out.size)).size))) HSO.out.rcd.ok).mono ?_
                rintro e w' ⟨rfl, hb⟩
                exact rel_val (.of_below hb)
              case z2o4 =>
                intro a wx hE hin
                have i10 : a.eval (.tmp 10) = .pointer (some ⟨gx, 0, none⟩) := hin 10 rfl
                clear hin
                have hcst : ∀ v, a.eval (.const v) = v := fun _ => rfl
                have hfnc : ∀ f, a.eval (.func f) = .func (.func f) #[] #[] := fun _ => rfl
                refine want_none rfl ?_
                unfold Oper.wp
                generalize a.eval = ρ at *
                go_simp
                try go_bits
                first | exact rel_val (Chg.refl _) | (go_simp; exact rel_val (Chg.refl _))
              case z2o5 =>
                rintro a wx hE hin (h4 : a.eval (.tmp 168) = _)
                clear hin
                have hcst : ∀ v, a.eval (.const v) = v := fun _ => rfl
                have hfnc : ∀ f, a.eval (.func f) = .func (.func f) #[] #[] := fun _ => rfl
                refine want_none rfl ?_
                unfold Oper.wp
                generalize a.eval = ρ at *
                go_simp
                try go_bits
                first | exact rel_val (Chg.refl _) | (go_simp; exact rel_val (Chg.refl _))
              case z2o6 =>
                rintro a wx hE hin (h5 : a.eval (.tmp 169) = _)
                clear hin
                have hcst : ∀ v, a.eval (.const v) = v := fun _ => rfl
                have hfnc : ∀ f, a.eval (.func f) = .func (.func f) #[] #[] := fun _ => rfl
                refine want_none rfl ?_
                unfold Oper.wp
                generalize a.eval = ρ at *
                have c := Bk.cell (Kxw19.out.drew.chg hE id) DV4.out
                go_simp
                try go_bits
                first | exact rel_val (Chg.refl _) | (go_simp; exact rel_val (Chg.refl _))
              case z2o7 =>
                rintro a wx hE hin (h6 : a.eval (.tmp 170) = _)
                clear hin
                have hcst : ∀ v, a.eval (.const v) = v := fun _ => rfl
                have hfnc : ∀ f, a.eval (.func f) = .func (.func f) #[] #[] := fun _ => rfl
                refine want_none rfl ?_
                unfold Oper.wp
                generalize a.eval = ρ at *
                go_simp
                refine (refGood_calls s.r.ps s.r.A s.r.n s.r.c wx HSO.out.rcd.len (by have h2 := HSO.out.rcd.cap; have h3 := HSO.out.rcd.max; omega) (HSO.out.rcd.rd.below ((HW1.out.trans (Ew19.out.mono HW1.out.size)).trans ((hE.undrew.below (B := w19.heap.size) (Nat.le_refl _) (fun _ _ => id)).mono (HW1.out.trans (Ew19.out.mono HW1.out.size)).size))) HSO.out.rcd.ok).mono ?_
                rintro e w' ⟨rfl, hb⟩
                exact rel_val (.of_below hb)
            case z2fin =>
              intro wx hE
              rintro _ rfl _ rfl _ rfl _ rfl _ rfl _ rfl _ rfl _ rfl
              simp only [FinOk, List.take_succ_cons, List.take_zero, List.take_nil, List.drop_succ_cons, List.drop_zero, List.drop_nil, Act.put, List.setIfInBounds_toArray, List.set_cons_succ, List.set_cons_zero]
              have DX : Hid (DSes 99 w1 wx gd gsd lv t.low) := Ddw19.out.chgN hE.undrew
              have QX : Hid (DSes 101 w1 wx gq gsq mv t) := Dqw19.out.chgN hE.undrew
              clear hE
              cases goodB s.r.ps
              all_goals
                go_wp2_with fail
                go_roundw
                case rel => exact ⟨k + 1, lv, mv, t, by omega, by go_num, (HTK.out.mono (by omega)), DX.out, QX.out, Xdq.out⟩
                case measure => simp [intOf]; omega
        · have hkb1 : (s.k == 1) = false := by rw [beq_eq_false_iff_ne]; exact hk1
          by_cases hk2 : s.k = 2
          · have hkb2 : (s.k == 2) = true := by rw [hk2]; rfl
            as_aux_lemma =>
              have d6a : (w12.alloc (.cells #[] 5)).cell? ⟨gx, 6, none⟩ = some (.slice s.B s.m s.d) := Bk.cell (Kxw12.out.alloc _) DV6.out
              have cx0 := Kxw12.out.cell DV0.out
              go_wp2_with (at_builtin; refine wpList_append_new rfl _ _ 48 rfl 5 (.int .u8 0) 1 1 Try.underlying48 info_u8l rfl (by decide) (by decide) ⟨w12.heap.size, 0, none⟩ rfl s.B s.m s.d (bts s.keep) rfl (by rw [bts_length, HSO.out.len2, Nat.mul_one]) ((HSO.out.rd2.below (HW1.out.trans (Ew12.out.mono HW1.out.size))).alloc _) (by have := HSF.out.2.2; omega) (one_bts _) ?_)
              intro A6 c6 w13 hrn hcn
              have hb : Below w12.heap.size w12 w13 := ((Below.refl _ _).alloc (Nat.le_refl _) _).trans (hcn.below (by simp) (fun _ _ => id))
              have HRN : Hid (RdN w12.heap.size w13 A6 (bts s.keep)) := hrn.mono (by simp)
              have hsz : w12.heap.size ≤ w13.heap.size := hb.size
              have HFd : Hid (∀ j, footD gd gsd lv j → j < w12.heap.size) := fun j hj => DiskAt.lt Ddw12.out.at_ j hj
              have HFq : Hid (∀ j, footD gq gsq mv j → j < w12.heap.size) := fun j hj => DiskAt.lt Dqw12.out.at_ j hj
              have Ew13 : Hid (Below w1.heap.size w1 w13) := Ew12.out.trans (hb.mono Ew12.out.size)
              have Kxw13 : Hid (Bk w13 gx vs) := Kxw12.out.below hb
              have Ddw13 : Hid (DSes 99 w1 w13 gd gsd lv t.low) := Ddw12.out.below hb
              have Dqw13 : Hid (DSes 101 w1 w13 gq gsq mv t) := Dqw12.out.below hb
              clear Ew12 Kxw12 Ddw12 Dqw12
              clear hb hrn hcn d6a hsz
              go_wp2_with fail
              refine (diskUp_at w13 gd gsd lv t.low A6 s.m c6 s.keep Ddw13.out.at_ HSO.out.len2 (fun w' hc => HRN.out _ w' hc (fun j hj => HFd.out j (by rcases hj with hj | hj; exact .inl hj; exact .inr (.inl hj))))).mono ?_
              intro en w14 hp
              rw [low_up] at hp
              have hch := DPost.chgF hp
              obtain ⟨rfl, lvdw14, hd, hft⟩ := DSes.post2 Ddw13.out hp
              have Ddw14 : Hid (DSes 99 w1 w14 gd gsd lvdw14 (t.up s.keep).low) := hd
              have Ew14 : Hid (Below w1.heap.size w1 w14) := hd.bel
              have Kxw14 : Hid (Bk w14 gx vs) := Kxw13.out.chg hch Fdx.out
              have Fdx : Hid (¬ footD gd gsd lvdw14 gx) := fun hj => (hft _ hj).elim Fdx.out (fun h => by have := Kxw13.out.lt; omega)
              have Dqw14 : Hid (DSes 101 w1 w14 gq gsq mv t) := ⟨DiskAt.chg Dqw13.out.at_ hch (fun j hj hk => Xdq.out j hk hj), Dqw13.out.fr, hd.bel⟩
              have Xdq : Hid (∀ j, footD gd gsd lvdw14 j → ¬ footD gq gsq mv j) := fun j hj hk => (hft j hj).elim (fun h => Xdq.out j h hk) (fun h => by have := DiskAt.lt Dqw13.out.at_ j hk; omega)
              have Xqd : Hid (∀ j, footD gq gsq mv j → ¬ footD gd gsd lvdw14 j) := fun j hj hk => Xdq.out j hk hj
              clear hp hd hft hch Kxw13 Dqw13 Ddw13 Ew13
              have cx6 := Kxw14.out.cell DV6.out
              go_wp2_with fail
              clear cx6
              refine (refUp_at w14 gq gsq mv t s.B s.m s.d s.keep Dqw14.out.at_ HSO.out.len2 (fun w' hc => HSO.out.rd2.below ((HW1.out.trans (Ew14.out.mono HW1.out.size)).trans (hc.below (HW1.out.trans (Ew14.out.mono HW1.out.size)).size (fun j hj hf => by have h1 := Dqw14.out.fr j (by rcases hf with hf | hf; exact .inl hf; exact .inr (.inl hf)); have h2 := HW1.out.size; omega))))).mono ?_
              intro en w15 hp
              have hch := DPost.chgF hp
              obtain ⟨rfl, lvqw15, hd, hft⟩ := DSes.post2 Dqw14.out hp
              have Dqw15 : Hid (DSes 101 w1 w15 gq gsq lvqw15 (t.up s.keep)) := hd
              have Ew15 : Hid (Below w1.heap.size w1 w15) := hd.bel
              have Kxw15 : Hid (Bk w15 gx vs) := Kxw14.out.chg hch Fqx.out
              have Fqx : Hid (¬ footD gq gsq lvqw15 gx) := fun hj => (hft _ hj).elim Fqx.out (fun h => by have := Kxw14.out.lt; omega)
              have Ddw15 : Hid (DSes 99 w1 w15 gd gsd lvdw14 (t.up s.keep).low) := ⟨DiskAt.chg Ddw14.out.at_ hch (fun j hj hk => Xqd.out j hk hj), Ddw14.out.fr, hd.bel⟩
              have Xqd : Hid (∀ j, footD gq gsq lvqw15 j → ¬ footD gd gsd lvdw14 j) := fun j hj hk => (hft j hj).elim (fun h => Xqd.out j h hk) (fun h => by have := DiskAt.lt Ddw14.out.at_ j hk; omega)
              have Xdq : Hid (∀ j, footD gd gsd lvdw14 j → ¬ footD gq gsq lvqw15 j) := fun j hj hk => Xqd.out j hk hj
              clear hp hd hft hch Kxw14 Ddw14 Dqw14 Ew14
              go_wp2_with fail
              have HTK6 := Lib.hid (HTK.out.up s.keep)
              apply wp_region_rel 8 (Chg NoS) [(Veq _), (Veq _), (Veq _), (Veq _), (Veq _), (Veq _), (Veq _), (Veq _)] [[], [0], [1], [2], [], [4], [5], [6]] [164, 165, 166, 167, 168, 169, 170, 171] (by kernel_rfl) (by kernel_rfl) rfl rfl rfl Chg.refl (fun _ _ _ => Chg.trans) ⟨Veq.lasts, Veq.lasts, Veq.lasts, Veq.lasts, Veq.lasts, Veq.lasts, Veq.lasts, Veq.lasts, trivial⟩ ?z3ops ?z3fin
              case z3ops =>
                refine ⟨?z3o0, ?z3o1, ?z3o2, ?z3o3, ?z3o4, ?z3o5, ?z3o6, ?z3o7, trivial⟩
                case z3o0 =>
                  intro a wx hE hin
                  have i10 : a.eval (.tmp 10) = .pointer (some ⟨gx, 0, none⟩) := hin 10 rfl
                  clear hin
                  have hcst : ∀ v, a.eval (.const v) = v := fun _ => rfl
                  have hfnc : ∀ f, a.eval (.func f) = .func (.func f) #[] #[] := fun _ => rfl
                  refine want_none rfl ?_
                  unfold Oper.wp
                  generalize a.eval = ρ at *
                  go_simp
                  try go_bits
                  first | exact rel_val (Chg.refl _) | (go_simp; exact rel_val (Chg.refl _))
                case z3o1 =>
                  rintro a wx hE hin (h0 : a.eval (.tmp 164) = _)
                  clear hin
                  have hcst : ∀ v, a.eval (.const v) = v := fun _ => rfl
                  have hfnc : ∀ f, a.eval (.func f) = .func (.func f) #[] #[] := fun _ => rfl
                  refine want_none rfl ?_
                  unfold Oper.wp
                  generalize a.eval = ρ at *
                  go_simp
                  try go_bits
                  first | exact rel_val (Chg.refl _) | (go_simp; exact rel_val (Chg.refl _))
                case z3o2 =>
                  rintro a wx hE hin (h1 : a.eval (.tmp 165) = _)
                  clear hin
                  have hcst : ∀ v, a.eval (.const v) = v := fun _ => rfl
                  have hfnc : ∀ f, a.eval (.func f) = .func (.func f) #[] #[] := fun _ => rfl
                  refine want_none rfl ?_
                  unfold Oper.wp
                  generalize a.eval = ρ at *
                  have c := Bk.cell (Kxw15.out.drew.chg hE id) DV4.out
                  go_simp
                  try go_bits
                  first | exact rel_val (Chg.refl _) | (go_simp; exact rel_val (Chg.refl _))
                case z3o3 =>
                  rintro a wx hE hin (h2 : a.eval (.tmp 166) = _)
                  clear hin
                  have hcst : ∀ v, a.eval (.const v) = v := fun _ => rfl
                  have hfnc : ∀ f, a.eval (.func f) = .func (.func f) #[] #[] := fun _ => rfl
                  refine want_none rfl ?_
                  unfold Oper.wp
                  generalize a.eval = ρ at *
                  go_simp
                  refine (good_calls s.r.ps s.r.A s.r.n s.r.c wx HSO.out.rcd.len (HSO.out.rcd.rd.below ((HW1.out.trans (Ew15.out.mono HW1.out.size)).trans ((hE.undrew.below (B := w15.heap.size) (Nat.le_refl _) (fun _ _ => id)).mono (HW1.out.trans (Ew15.out.mono HW1.out.size)).size))) HSO.out.rcd.ok).mono ?_
                  rintro e w' ⟨rfl, hb⟩
                  exact rel_val (.of_below hb)
                case z3o4 =>
                  intro a wx hE hin
                  have i10 : a.eval (.tmp 10) = .pointer (some ⟨gx, 0, none⟩) := hin 10 rfl
                  clear hin
                  have hcst : ∀ v, a.eval (.const v) = v := fun _ => rfl
                  have hfnc : ∀ f, a.eval (.func f) = .func (.func f) #[] #[] := fun _ => rfl
                  refine want_none rfl ?_
                  unfold Oper.wp
                  generalize a.eval = ρ at *
                  go_simp
                  try go_bits
                  first | exact rel_val (Chg.refl _) | (go_simp; exact rel_val (Chg.refl _))
                case z3o5 =>
                  rintro a wx hE hin (h4 : a.eval (.tmp 168) = _)
                  clear hin
                  have hcst : ∀ v, a.eval (.const v) = v := fun _ => rfl
                  have hfnc : ∀ f, a.eval (.func f) = .func (.func f) #[] #[] := fun _ => rfl
                  refine want_none rfl ?_
                  unfold Oper.wp
                  generalize a.eval = ρ at *
                  go_simp
                  try go_bits
                  first | exact rel_val (Chg.refl _) | (go_simp; exact rel_val (Chg.refl _))
                case z3o6 =>
                  rintro a wx hE hin (h5 : a.eval (.tmp 169) = _)
                  clear hin
                  have hcst : ∀ v, a.eval (.const v) = v := fun _ => rfl
                  have hfnc : ∀ f, a.eval (.func f) = .func (.func f) #[] #[] := fun _ => rfl
                  refine want_none rfl ?_
                  unfold Oper.wp
                  generalize a.eval = ρ at *
                  have c := Bk.cell (Kxw15.out.drew.chg hE id) DV4.out
                  go_simp
                  try go_bits
                  first | exact rel_val (Chg.refl _) | (go_simp; exact rel_val (Chg.refl _))
                case z3o7 =>
                  rintro a wx hE hin (h6 : a.eval (.tmp 170) = _)
                  clear hin
                  have hcst : ∀ v, a.eval (.const v) = v := fun _ => rfl
                  have hfnc : ∀ f, a.eval (.func f) = .func (.func f) #[] #[] := fun _ => rfl
                  refine want_none rfl ?_
                  unfold Oper.wp
                  generalize a.eval = ρ at *
                  go_simp
                  refine (refGood_calls s.r.ps s.r.A s.r.n s.r.c wx HSO.out.rcd.len (by have h2 := HSO.out.rcd.cap; have h3 := HSO.out.rcd.max; omega) (HSO.out.rcd.rd.below ((HW1.out.trans (Ew15.out.mono HW1.out.size)).trans ((hE.undrew.below (B := w15.heap.size) (Nat.le_refl _) (fun _ _ => id)).mono (HW1.out.trans (Ew15.out.mono HW1.out.size)).size))) HSO.out.rcd.ok).mono ?_
                  rintro e w' ⟨rfl, hb⟩
                  exact rel_val (.of_below hb)
              case z3fin =>
                intro wx hE
                rintro _ rfl _ rfl _ rfl _ rfl _ rfl _ rfl _ rfl _ rfl
                simp only [FinOk, List.take_succ_cons, List.take_zero, List.take_nil, List.drop_succ_cons, List.drop_zero, List.drop_nil, Act.put, List.setIfInBounds_toArray, List.set_cons_succ, List.set_cons_zero]
                have DX : Hid (DSes 99 w1 wx gd gsd lvdw14 (t.up s.keep).low) := Ddw15.out.chgN hE.undrew
                have QX : Hid (DSes 101 w1 wx gq gsq lvqw15 (t.up s.keep)) := Dqw15.out.chgN hE.undrew
                clear hE
                cases goodB s.r.ps
                all_goals
                  go_wp2_with fail
                  go_roundw
                  case rel => exact ⟨k + 1, lvdw14, lvqw15, (t.up s.keep), by omega, by go_num, (HTK6.out.mono (by omega)), DX.out, QX.out, Xdq.out⟩
                  case measure => simp [intOf]; omega
          · have hkb2 : (s.k == 2) = false := by rw [beq_eq_false_iff_ne]; exact hk2
            by_cases hk3 : s.k = 3
            · have hkb3 : (s.k == 3) = true := by rw [hk3]; rfl
              as_aux_lemma =>
                have cx5 := Kxw12.out.cell DV5.out
                have cx0 := Kxw12.out.cell DV0.out
                go_wp2_with fail
                clear cx0
                clear cx5
                refine (refEncode_calls 87 s.A s.n s.c s.body w12 HSO.out.len HSO.out.cap HSO.out.max (HSO.out.rd.below (HW1.out.trans (Ew12.out.mono HW1.out.size)))).mono ?_
                rintro en w13 ⟨rfl, hb⟩
                have Ew13 : Hid (Below w1.heap.size w1 w13) := Ew12.out.trans (hb.mono Ew12.out.size)
                have Kxw13 : Hid (Bk w13 gx vs) := Kxw12.out.below hb
                have Ddw13 : Hid (DSes 99 w1 w13 gd gsd lv t.low) := Ddw12.out.below hb
                have Dqw13 : Hid (DSes 101 w1 w13 gq gsq mv t) := Dqw12.out.below hb
                clear Ew12 Kxw12 Ddw12 Dqw12
                clear hb
                obtain ⟨eb, heb⟩ : ∃ eb, (encR 87 s.body).1 = eb := ⟨_, rfl⟩
                have HEB : Hid (eb.length = 32) := by show _ = _; rw [← heb]; exact encR_length
                obtain ⟨vb, hvb⟩ : ∃ vb, bts eb = vb := ⟨_, rfl⟩
                have HVB := Lib.hid hvb
                have HVBL : Hid (vb.length = 32) := by show _ = _; rw [← hvb, bts_length, HEB.out]
                have HVBO : Hid (∀ u ∈ vb, u.oneCell' = true) := by rw [← hvb]; exact one_bts _
                rw [heb, hvb]
                clear heb hvb
                go_wp2_with (refine wpList_al rfl 37 rfl (bts (List.replicate 32 0)) (by kernel_rfl) ?_)
                intro gh w14 hg hb hc hs
                have HQh : Hid (Below w13.heap.size w13 w14) := hc.below (Nat.le_refl _) (fun _ _ => id)
                have HGh : Hid (gh = w13.heap.size) := hg
                have KZh := Lib.hid hb
                clear hg hb hc hs
                go_wp2_with (refine wpList_st rfl 37 (.tmp 14) (.tmp 137) rfl gh 0 32 (bts (List.replicate 32 0)) vb rfl rfl KZh.out (by kernel_rfl) HVBL.out (by decide) HVBO.out ?_)
                intro w15 hbk hc
                rw [splice_whole _ _ (by rw [HVBL.out]; rfl)] at hbk
                have hb : Below w13.heap.size w13 w15 := HQh.out.trans (hc.below HQh.out.size (fun q hq he => by have := HGh.out; omega))
                have Fdh : Hid (¬ footD gd gsd lv gh) := fun hj => by have := DiskAt.lt Ddw13.out.at_ _ hj; have := HGh.out; omega
                have Fqh : Hid (¬ footD gq gsq mv gh) := fun hj => by have := DiskAt.lt Dqw13.out.at_ _ hj; have := HGh.out; omega
                have Axh : Hid (gx < gh) := by show _ < _; have := Kxw13.out.lt; have := HGh.out; omega
                have Ew15 : Hid (Below w1.heap.size w1 w15) := Ew13.out.trans (hb.mono Ew13.out.size)
                have Kxw15 : Hid (Bk w15 gx vs) := Kxw13.out.below hb
                have Ddw15 : Hid (DSes 99 w1 w15 gd gsd lv t.low) := Ddw13.out.below hb
                have Dqw15 : Hid (DSes 101 w1 w15 gq gsq mv t) := Dqw13.out.below hb
                clear Ew13 Kxw13 Ddw13 Dqw13
                have Khw15 : Hid (Bk w15 gh vb) := hbk
                have Khw15 : Hid (Bk w15 gh vb) := hbk
                clear hbk hb hc KZh HQh HGh
                have cx1 := Kxw15.out.cell DV1.out
                go_wp2_with (refine wpList_ld rfl 37 (.tmp 14) rfl gh 0 32 vb (bts eb) rfl Khw15.out (by kernel_rfl) (by kernel_rfl) (by rw [HVBL.out]; decide) (by rw [List.drop_zero, List.take_of_length_le (by rw [HVBL.out]; exact Nat.le_refl _), HVB.out]) ?_)
                clear cx1
                refine (diskWrite_at w15 gd gsd lv t.low s.i eb Ddw15.out.at_ HEB.out (by have h := HTK.out.ll; have := HLL.out; show t.L.length ≤ 1000; omega) HTK.out.lo HTK.out.hi).mono ?_
                intro en w16 hp
                rw [low_write, low_writeE] at hp
                have hch := DPost.chgF hp
                obtain ⟨rfl, lvdw16, hd, hft⟩ := DSes.post2 Ddw15.out hp
                have Ddw16 : Hid (DSes 99 w1 w16 gd gsd lvdw16 (t.write s.i eb).low) := hd
                have Ew16 : Hid (Below w1.heap.size w1 w16) := hd.bel
                have Kxw16 : Hid (Bk w16 gx vs) := Kxw15.out.chg hch Fdx.out
                have Fdx : Hid (¬ footD gd gsd lvdw16 gx) := fun hj => (hft _ hj).elim Fdx.out (fun h => by have := Kxw15.out.lt; omega)
                have Khw16 : Hid (Bk w16 gh vb) := Khw15.out.chg hch Fdh.out
                have Fdh : Hid (¬ footD gd gsd lvdw16 gh) := fun hj => (hft _ hj).elim Fdh.out (fun h => by have := Khw15.out.lt; omega)
                have Dqw16 : Hid (DSes 101 w1 w16 gq gsq mv t) := ⟨DiskAt.chg Dqw15.out.at_ hch (fun j hj hk => Xdq.out j hk hj), Dqw15.out.fr, hd.bel⟩
                have Xdq : Hid (∀ j, footD gd gsd lvdw16 j → ¬ footD gq gsq mv j) := fun j hj hk => (hft j hj).elim (fun h => Xdq.out j h hk) (fun h => by have := DiskAt.lt Dqw15.out.at_ j hk; omega)
                have Xqd : Hid (∀ j, footD gq gsq mv j → ¬ footD gd gsd lvdw16 j) := fun j hj hk => Xdq.out j hk hj
                clear hp hd hft hch Kxw15 Khw15 Dqw15 Ddw15 Ew15
                have cx1 := Kxw16.out.cell DV1.out
                go_wp2_with (refine wpList_ld rfl 37 (.tmp 14) rfl gh 0 32 vb (bts eb) rfl Khw16.out (by kernel_rfl) (by kernel_rfl) (by rw [HVBL.out]; decide) (by rw [List.drop_zero, List.take_of_length_le (by rw [HVBL.out]; exact Nat.le_refl _), HVB.out]) ?_)
                clear cx1
                refine (refWrite_at w16 gq gsq mv t s.i eb Dqw16.out.at_ HEB.out (by have h := HTK.out.ll; have := HLL.out; omega) HTK.out.f1 HTK.out.f2).mono ?_
                intro en w17 hp
                have hch := DPost.chgF hp
                obtain ⟨rfl, lvqw17, hd, hft⟩ := DSes.post2 Dqw16.out hp
                have Dqw17 : Hid (DSes 101 w1 w17 gq gsq lvqw17 (t.write s.i eb)) := hd
                have Ew17 : Hid (Below w1.heap.size w1 w17) := hd.bel
                have Kxw17 : Hid (Bk w17 gx vs) := Kxw16.out.chg hch Fqx.out
                have Fqx : Hid (¬ footD gq gsq lvqw17 gx) := fun hj => (hft _ hj).elim Fqx.out (fun h => by have := Kxw16.out.lt; omega)
                have Khw17 : Hid (Bk w17 gh vb) := Khw16.out.chg hch Fqh.out
                have Fqh : Hid (¬ footD gq gsq lvqw17 gh) := fun hj => (hft _ hj).elim Fqh.out (fun h => by have := Khw16.out.lt; omega)
                have Ddw17 : Hid (DSes 99 w1 w17 gd gsd lvdw16 (t.write s.i eb).low) := ⟨DiskAt.chg Ddw16.out.at_ hch (fun j hj hk => Xqd.out j hk hj), Ddw16.out.fr, hd.bel⟩
                have Xqd : Hid (∀ j, footD gq gsq lvqw17 j → ¬ footD gd gsd lvdw16 j) := fun j hj hk => (hft j hj).elim (fun h => Xqd.out j h hk) (fun h => by have := DiskAt.lt Ddw16.out.at_ j hk; omega)
                have Xdq : Hid (∀ j, footD gd gsd lvdw16 j → ¬ footD gq gsq lvqw17 j) := fun j hj hk => Xqd.out j hk hj
                clear hp hd hft hch Kxw16 Khw16 Ddw16 Dqw16 Ew16
                go_wp2_with fail
                have HTK6 := Lib.hid (HTK.out.write s.i eb)
                apply wp_region_rel 8 (Chg NoS) [(Veq _), (Veq _), (Veq _), (Veq _), (Veq _), (Veq _), (Veq _), (Veq _)] [[], [0], [1], [2], [], [4], [5], [6]] [164, 165, 166, 167, 168, 169, 170, 171] (by kernel_rfl) (by kernel_rfl) rfl rfl rfl Chg.refl (fun _ _ _ => Chg.trans) ⟨Veq.lasts, Veq.lasts, Veq.lasts, Veq.lasts, Veq.lasts, Veq.lasts, Veq.lasts, Veq.lasts, trivial⟩ ?z4ops ?z4fin
                case z4ops =>
                  refine ⟨?z4o0, ?z4o1, ?z4o2, ?z4o3, ?z4o4, ?z4o5, ?z4o6, ?z4o7, trivial⟩
                  case z4o0 =>
                    intro a wx hE hin
                    have i10 : a.eval (.tmp 10) = .pointer (some ⟨gx, 0, none⟩) := hin 10 rfl
                    clear hin
                    have hcst : ∀ v, a.eval (.const v) = v := fun _ => rfl
                    have hfnc : ∀ f, a.eval (.func f) = .func (.func f) #[] #[] := fun _ => rfl
                    refine want_none rfl ?_
                    unfold Oper.wp
                    generalize a.eval = ρ at *
                    go_simp
                    try go_bits
                    first | exact rel_val (Chg.refl _) | (go_simp; exact rel_val (Chg.refl _))
                  case z4o1 =>
                    rintro a wx hE hin (h0 : a.eval (.tmp 164) = _)
                    clear hin
                    have hcst : ∀ v, a.eval (.const v) = v := fun _ => rfl
                    have hfnc : ∀ f, a.eval (.func f) = .func (.func f) #[] #[] := fun _ => rfl
                    refine want_none rfl ?_
                    unfold Oper.wp
                    generalize a.eval = ρ at *
                    go_simp
                    try go_bits
                    first | exact rel_val (Chg.refl _) | (go_simp; exact rel_val (Chg.refl _))
                  case z4o2 =>
                    rintro a wx hE hin (h1 : a.eval (.tmp 165) = _)
                    clear hin
                    have hcst : ∀ v, a.eval (.const v) = v := fun _ => rfl
                    have hfnc : ∀ f, a.eval (.func f) = .func (.func f) #[] #[] := fun _ => rfl
                    refine want_none rfl ?_
                    unfold Oper.wp
                    generalize a.eval = ρ at *
                    have c := Bk.cell (Kxw17.out.drew.chg hE id) DV4.out
                    go_simp
                    try go_bits
                    first | exact rel_val (Chg.refl _) | (go_simp; exact rel_val (Chg.refl _))
                  case z4o3 =>
                    rintro a wx hE hin (h2 : a.eval (.tmp 166) = _)
                    clear hin
                    have hcst : ∀ v, a.eval (.const v) = v := fun _ => rfl
                    have hfnc : ∀ f, a.eval (.func f) = .func (.func f) #[] #[] := fun _ => rfl
                    refine want_none rfl ?_
                    unfold Oper.wp
                    generalize a.eval = ρ at *
                    go_simp
                    refine (good_calls s.r.ps s.r.A s.r.n s.r.c wx HSO.out.rcd.len (HSO.out.rcd.rd.below ((HW1.out.trans (Ew17.out.mono HW1.out.size)).trans ((hE.undrew.below (B := w17.heap.size) (Nat.le_refl _) (fun _ _ => id)).mono (HW1.out.trans (Ew17.out.mono HW1.out.size)).size))) HSO.out.rcd.ok).mono ?_
                    rintro e w' ⟨rfl, hb⟩
                    exact rel_val (.of_below hb)
                  case z4o4 =>
                    intro a wx hE hin
                    have i10 : a.eval (.tmp 10) = .pointer (some ⟨gx, 0, none⟩) := hin 10 rfl
                    clear hin
                    have hcst : ∀ v, a.eval (.const v) = v := fun _ => rfl
                    have hfnc : ∀ f, a.eval (.func f) = .func (.func f) #[] #[] := fun _ => rfl
                    refine want_none rfl ?_
                    unfold Oper.wp
                    generalize a.eval = ρ at *
                    go_simp
                    try go_bits
                    first | exact rel_val (Chg.refl _) | (go_simp; exact rel_val (Chg.refl _))
                  case z4o5 =>
                    rintro a wx hE hin (h4 : a.eval (.tmp 168) = _)
                    clear hin
                    have hcst : ∀ v, a.eval (.const v) = v := fun _ => rfl
                    have hfnc : ∀ f, a.eval (.func f) = .func (.func f) #[] #[] := fun _ => rfl
                    refine want_none rfl ?_
                    unfold Oper.wp
                    generalize a.eval = ρ at *
                    go_simp
                    try go_bits
                    first | exact rel_val (Chg.refl _) | (go_simp; exact rel_val (Chg.refl _))
                  case z4o6 =>
                    rintro a wx hE hin (h5 : a.eval (.tmp 169) = _)
                    clear hin
                    have hcst : ∀ v, a.eval (.const v) = v := fun _ => rfl
                    have hfnc : ∀ f, a.eval (.func f) = .func (.func f) #[] #[] := fun _ => rfl
                    refine want_none rfl ?_
                    unfold Oper.wp
                    generalize a.eval = ρ at *
                    have c := Bk.cell (Kxw17.out.drew.chg hE id) DV4.out
                    go_simp
                    try go_bits
                    first | exact rel_val (Chg.refl _) | (go_simp; exact rel_val (Chg.refl _))
                  case z4o7 =>
                    rintro a wx hE hin (h6 : a.eval (.tmp 170) = _)
                    clear hin
                    have hcst : ∀ v, a.eval (.const v) = v := fun _ => rfl
                    have hfnc : ∀ f, a.eval (.func f) = .func (.func f) #[] #[] := fun _ => rfl
                    refine want_none rfl ?_
                    unfold Oper.wp
                    generalize a.eval = ρ at *
                    go_simp
                    refine (refGood_calls s.r.ps s.r.A s.r.n s.r.c wx HSO.out.rcd.len (by have h2 := HSO.out.rcd.cap; have h3 := HSO.out.rcd.max; omega) (HSO.out.rcd.rd.below ((HW1.out.trans (Ew17.out.mono HW1.out.size)).trans ((hE.undrew.below (B := w17.heap.size) (Nat.le_refl _) (fun _ _ => id)).mono (HW1.out.trans (Ew17.out.mono HW1.out.size)).size))) HSO.out.rcd.ok).mono ?_
                    rintro e w' ⟨rfl, hb⟩
                    exact rel_val (.of_below hb)
                case z4fin =>
                  intro wx hE
                  rintro _ rfl _ rfl _ rfl _ rfl _ rfl _ rfl _ rfl _ rfl
                  simp only [FinOk, List.take_succ_cons, List.take_zero, List.take_nil, List.drop_succ_cons, List.drop_zero, List.drop_nil, Act.put, List.setIfInBounds_toArray, List.set_cons_succ, List.set_cons_zero]
                  have DX : Hid (DSes 99 w1 wx gd gsd lvdw16 (t.write s.i eb).low) := Ddw17.out.chgN hE.undrew
                  have QX : Hid (DSes 101 w1 wx gq gsq lvqw17 (t.write s.i eb)) := Dqw17.out.chgN hE.undrew
                  clear hE
                  cases goodB s.r.ps
                  all_goals
                    go_wp2_with fail
                    go_roundw
                    case rel => exact ⟨k + 1, lvdw16, lvqw17, (t.write s.i eb), by omega, by go_num, (HTK6.out.mono (by omega)), DX.out, QX.out, Xdq.out⟩
                    case measure => simp [intOf]; omega
            · have hkb3 : (s.k == 3) = false := by rw [beq_eq_false_iff_ne]; exact hk3
              by_cases hk4 : s.k = 4
              · have hkb4 : (s.k == 4) = true := by rw [hk4]; rfl
                as_aux_lemma =>
                  have cx1 := Kxw12.out.cell DV1.out
                  have cx0 := Kxw12.out.cell DV0.out
                  go_wp2_with fail
                  clear cx0
                  clear cx1
                  refine (diskFuse_at w12 gd gsd lv t.low s.i Ddw12.out.at_).mono ?_
                  intro en w13 hp
                  rw [low_fuse] at hp
                  have hch := DPost.chgF hp
                  obtain ⟨rfl, lvdw13, hd, hft⟩ := DSes.post2 Ddw12.out hp
                  have Ddw13 : Hid (DSes 99 w1 w13 gd gsd lvdw13 (t.fuse s.i).low) := hd
                  have Ew13 : Hid (Below w1.heap.size w1 w13) := hd.bel
                  have Kxw13 : Hid (Bk w13 gx vs) := Kxw12.out.chg hch Fdx.out
                  have Fdx : Hid (¬ footD gd gsd lvdw13 gx) := fun hj => (hft _ hj).elim Fdx.out (fun h => by have := Kxw12.out.lt; omega)
                  have Dqw13 : Hid (DSes 101 w1 w13 gq gsq mv t) := ⟨DiskAt.chg Dqw12.out.at_ hch (fun j hj hk => Xdq.out j hk hj), Dqw12.out.fr, hd.bel⟩
                  have Xdq : Hid (∀ j, footD gd gsd lvdw13 j → ¬ footD gq gsq mv j) := fun j hj hk => (hft j hj).elim (fun h => Xdq.out j h hk) (fun h => by have := DiskAt.lt Dqw12.out.at_ j hk; omega)
                  have Xqd : Hid (∀ j, footD gq gsq mv j → ¬ footD gd gsd lvdw13 j) := fun j hj hk => Xdq.out j hk hj
                  clear hp hd hft hch Kxw12 Dqw12 Ddw12 Ew12
                  have cx1 := Kxw13.out.cell DV1.out
                  have HTW : Hid (Two w1 w13 99 gd gsd lvdw13 (t.fuse s.i).low 101 gq gsq mv t) := ⟨Ddw13.out, Dqw13.out, Xdq.out⟩
                  go_wp2_with (refine wpList_st rfl 3 (.tmp 163) (.tmp 161) rfl gq 2 1 [.slice (some ⟨gsq, 0, none⟩) t.S.length t.S.length, mv, .int .i64 t.f, .bool t.dn] [.int .i64 s.i] rfl rfl HTW.out.b.at_.dk (by kernel_rfl) rfl (by simp) (fun u hu => by obtain rfl := List.mem_singleton.1 hu; rfl) ?_)
                  intro w14 hb hc
                  have hb4 : Dk w14 gq (.slice (some ⟨gsq, 0, none⟩) t.S.length t.S.length) mv s.i t.dn := hb
                  have HT4 := Lib.hid (HTW.out.fuse2 s.i hc hb4)
                  have KX4 : Hid (Bk w14 gx vs) := Kxw13.out.chg hc (fun he => Fqx.out (.inl he))
                  have HTK4 := Lib.hid (HTK.out.fuse s.i HSO.out.i1 HSO.out.i2)
                  have DD4 := Lib.hid HT4.out.a
                  have DQ4 := Lib.hid HT4.out.b
                  have Xdq := Lib.hid HT4.out.ap
                  have EE4 := Lib.hid HT4.out.a.bel
                  clear hb hc hb4 cx1 HT4 HTW
                  go_wp2_with fail
                  apply wp_region_rel 8 (Chg NoS) [(Veq _), (Veq _), (Veq _), (Veq _), (Veq _), (Veq _), (Veq _), (Veq _)] [[], [0], [1], [2], [], [4], [5], [6]] [164, 165, 166, 167, 168, 169, 170, 171] (by kernel_rfl) (by kernel_rfl) rfl rfl rfl Chg.refl (fun _ _ _ => Chg.trans) ⟨Veq.lasts, Veq.lasts, Veq.lasts, Veq.lasts, Veq.lasts, Veq.lasts, Veq.lasts, Veq.lasts, trivial⟩ ?z5ops ?z5fin
                  case z5ops =>
                    refine ⟨?z5o0, ?z5o1, ?z5o2, ?z5o3, ?z5o4, ?z5o5, ?z5o6, ?z5o7, trivial⟩
                    case z5o0 =>
                      intro a wx hE hin
                      have i10 : a.eval (.tmp 10) = .pointer (some ⟨gx, 0, none⟩) := hin 10 rfl
                      clear hin
                      have hcst : ∀ v, a.eval (.const v) = v := fun _ => rfl
                      have hfnc : ∀ f, a.eval (.func f) = .func (.func f) #[] #[] := fun _ => rfl
                      refine want_none rfl ?_
                      unfold Oper.wp
                      generalize a.eval = ρ at *
                      go_simp
                      try go_bits
                      first | exact rel_val (Chg.refl _) | (go_simp; exact rel_val (Chg.refl _))
                    case z5o1 =>
                      rintro a wx hE hin (h0 : a.eval (.tmp 164) = _)
                      clear hin
                      have hcst : ∀ v, a.eval (.const v) = v := fun _ => rfl
                      have hfnc : ∀ f, a.eval (.func f) = .func (.func f) #[] #[] := fun _ => rfl
                      refine want_none rfl ?_
                      unfold Oper.wp
                      generalize a.eval = ρ at *
                      go_simp
                      try go_bits
                      first | exact rel_val (Chg.refl _) | (go_simp; exact rel_val (Chg.refl _))
                    case z5o2 =>
                      rintro a wx hE hin (h1 : a.eval (.tmp 165) = _)
                      clear hin
                      have hcst : ∀ v, a.eval (.const v) = v := fun _ => rfl
                      have hfnc : ∀ f, a.eval (.func f) = .func (.func f) #[] #[] := fun _ => rfl
                      refine want_none rfl ?_
                      unfold Oper.wp
                      generalize a.eval = ρ at *
                      have c := Bk.cell (KX4.out.drew.chg hE id) DV4.out
                      go_simp
                      try go_bits
                      first | exact rel_val (Chg.refl _) | (go_simp; exact rel_val (Chg.refl _))
                    case z5o3 =>
                      rintro a wx hE hin (h2 : a.eval (.tmp 166) = _)
                      clear hin
                      have hcst : ∀ v, a.eval (.const v) = v := fun _ => rfl
                      have hfnc : ∀ f, a.eval (.func f) = .func (.func f) #[] #[] := fun _ => rfl
                      refine want_none rfl ?_
                      unfold Oper.wp
                      generalize a.eval = ρ at *
                      go_simp
                      refine (good_calls s.r.ps s.r.A s.r.n s.r.c wx HSO.out.rcd.len (HSO.out.rcd.rd.below ((HW1.out.trans (EE4.out.mono HW1.out.size)).trans ((hE.undrew.below (B := w14.heap.size) (Nat.le_refl _) (fun _ _ => id)).mono (HW1.out.trans (EE4.out.mono HW1.out.size)).size))) HSO.out.rcd.ok).mono ?_
                      rintro e w' ⟨rfl, hb⟩
                      exact rel_val (.of_below hb)
                    case z5o4 =>
                      intro a wx hE hin
                      have i10 : a.eval (.tmp 10) = .pointer (some ⟨gx, 0, none⟩) := hin 10 rfl
                      clear hin
                      have hcst : ∀ v, a.eval (.const v) = v := fun _ => rfl
                      have hfnc : ∀ f, a.eval (.func f) = .func (.func f) #[] #[] := fun _ => rfl
                      refine want_none rfl ?_
                      unfold Oper.wp
                      generalize a.eval = ρ at *
                      go_simp
                      try go_bits
                      first | exact rel_val (Chg.refl _) | (go_simp; exact rel_val (Chg.refl _))
                    case z5o5 =>
                      rintro a wx hE hin (h4 : a.eval (.tmp 168) = _)
                      clear hin
                      have hcst : ∀ v, a.eval (.const v) = v := fun _ => rfl
                      have hfnc : ∀ f, a.eval (.func f) = .func (.func f) #[] #[] := fun _ => rfl
                      refine want_none rfl ?_
                      unfold Oper.wp
                      generalize a.eval = ρ at *
                      go_simp
                      try go_bits
                      first | exact rel_val (Chg.refl _) | (go_simp; exact rel_val (Chg.refl _))
                    case z5o6 =>
                      rintro a wx hE hin (h5 : a.eval (.tmp 169) = _)
                      clear hin
                      have hcst : ∀ v, a.eval (.const v) = v := fun _ => rfl
                      have hfnc : ∀ f, a.eval (.func f) = .func (.func f) #[] #[] := fun _ => rfl
                      refine want_none rfl ?_
                      unfold Oper.wp
                      generalize a.eval = ρ at *
                      have c := Bk.cell (KX4.out.drew.chg hE id) DV4.out
                      go_simp
                      try go_bits
                      first | exact rel_val (Chg.refl _) | (go_simp; exact rel_val (Chg.refl _))
                    case z5o7 =>
                      rintro a wx hE hin (h6 : a.eval (.tmp 170) = _)
                      clear hin
                      have hcst : ∀ v, a.eval (.const v) = v := fun _ => rfl
                      have hfnc : ∀ f, a.eval (.func f) = .func (.func f) #[] #[] := fun _ => rfl
                      refine want_none rfl ?_
                      unfold Oper.wp
                      generalize a.eval = ρ at *
                      go_simp
                      refine (refGood_calls s.r.ps s.r.A s.r.n s.r.c wx HSO.out.rcd.len (by have h2 := HSO.out.rcd.cap; have h3 := HSO.out.rcd.max; omega) (HSO.out.rcd.rd.below ((HW1.out.trans (EE4.out.mono HW1.out.size)).trans ((hE.undrew.below (B := w14.heap.size) (Nat.le_refl _) (fun _ _ => id)).mono (HW1.out.trans (EE4.out.mono HW1.out.size)).size))) HSO.out.rcd.ok).mono ?_
                      rintro e w' ⟨rfl, hb⟩
                      exact rel_val (.of_below hb)
                  case z5fin =>
                    intro wx hE
                    rintro _ rfl _ rfl _ rfl _ rfl _ rfl _ rfl _ rfl _ rfl
                    simp only [FinOk, List.take_succ_cons, List.take_zero, List.take_nil, List.drop_succ_cons, List.drop_zero, List.drop_nil, Act.put, List.setIfInBounds_toArray, List.set_cons_succ, List.set_cons_zero]
                    have DX : Hid (DSes 99 w1 wx gd gsd lvdw13 (t.fuse s.i).low) := DD4.out.chgN hE.undrew
                    have QX : Hid (DSes 101 w1 wx gq gsq mv (t.fuse s.i)) := DQ4.out.chgN hE.undrew
                    clear hE
                    cases goodB s.r.ps
                    all_goals
                      go_wp2_with fail
                      go_roundw
                      case rel => exact ⟨k + 1, lvdw13, mv, (t.fuse s.i), by omega, by go_num, (HTK4.out.mono (by omega)), DX.out, QX.out, Xdq.out⟩
                      case measure => simp [intOf]; omega
              · have hkb4 : (s.k == 4) = false := by rw [beq_eq_false_iff_ne]; exact hk4
                as_aux_lemma =>
                  have cx0 := Kxw12.out.cell DV0.out
                  go_wp2_with fail
                  clear cx0
                  apply wp_region_rel 8 (Chg NoS) [(Veq _), (Veq _), (Veq _), (Veq _), (Veq _), (Veq _), (Veq _), (Veq _)] [[], [0], [1], [2], [], [4], [5], [6]] [164, 165, 166, 167, 168, 169, 170, 171] (by kernel_rfl) (by kernel_rfl) rfl rfl rfl Chg.refl (fun _ _ _ => Chg.trans) ⟨Veq.lasts, Veq.lasts, Veq.lasts, Veq.lasts, Veq.lasts, Veq.lasts, Veq.lasts, Veq.lasts, trivial⟩ ?z6ops ?z6fin
                  case z6ops =>
                    refine ⟨?z6o0, ?z6o1, ?z6o2, ?z6o3, ?z6o4, ?z6o5, ?z6o6, ?z6o7, trivial⟩
                    case z6o0 =>
                      intro a wx hE hin
                      have i10 : a.eval (.tmp 10) = .pointer (some ⟨gx, 0, none⟩) := hin 10 rfl
                      clear hin
                      have hcst : ∀ v, a.eval (.const v) = v := fun _ => rfl
                      have hfnc : ∀ f, a.eval (.func f) = .func (.func f) #[] #[] := fun _ => rfl
                      refine want_none rfl ?_
                      unfold Oper.wp
                      generalize a.eval = ρ at *
                      go_simp
                      try go_bits
                      first | exact rel_val (Chg.refl _) | (go_simp; exact rel_val (Chg.refl _))
                    case z6o1 =>
                      rintro a wx hE hin (h0 : a.eval (.tmp 164) = _)
                      clear hin
                      have hcst : ∀ v, a.eval (.const v) = v := fun _ => rfl
                      have hfnc : ∀ f, a.eval (.func f) = .func (.func f) #[] #[] := fun _ => rfl
                      refine want_none rfl ?_
                      unfold Oper.wp
                      generalize a.eval = ρ at *
                      go_simp
                      try go_bits
                      first | exact rel_val (Chg.refl _) | (go_simp; exact rel_val (Chg.refl _))
                    case z6o2 =>
                      rintro a wx hE hin (h1 : a.eval (.tmp 165) = _)
                      clear hin
                      have hcst : ∀ v, a.eval (.const v) = v := fun _ => rfl
                      have hfnc : ∀ f, a.eval (.func f) = .func (.func f) #[] #[] := fun _ => rfl
                      refine want_none rfl ?_
                      unfold Oper.wp
                      generalize a.eval = ρ at *
                      have c := Bk.cell (Kxw12.out.drew.chg hE id) DV4.out
                      go_simp
                      try go_bits
                      first | exact rel_val (Chg.refl _) | (go_simp; exact rel_val (Chg.refl _))
                    case z6o3 =>
                      rintro a wx hE hin (h2 : a.eval (.tmp 166) = _)
                      clear hin
                      have hcst : ∀ v, a.eval (.const v) = v := fun _ => rfl
                      have hfnc : ∀ f, a.eval (.func f) = .func (.func f) #[] #[] := fun _ => rfl
                      refine want_none rfl ?_
                      unfold Oper.wp
                      generalize a.eval = ρ at *
                      go_simp
                      refine (good_calls s.r.ps s.r.A s.r.n s.r.c wx HSO.out.rcd.len (HSO.out.rcd.rd.below ((HW1.out.trans (Ew12.out.mono HW1.out.size)).trans ((hE.undrew.below (B := w12.heap.size) (Nat.le_refl _) (fun _ _ => id)).mono (HW1.out.trans (Ew12.out.mono HW1.out.size)).size))) HSO.out.rcd.ok).mono ?_
                      rintro e w' ⟨rfl, hb⟩
                      exact rel_val (.of_below hb)
                    case z6o4 =>
                      intro a wx hE hin
                      have i10 : a.eval (.tmp 10) = .pointer (some ⟨gx, 0, none⟩) := hin 10 rfl
                      clear hin
                      have hcst : ∀ v, a.eval (.const v) = v := fun _ => rfl
                      have hfnc : ∀ f, a.eval (.func f) = .func (.func f) #[] #[] := fun _ => rfl
                      refine want_none rfl ?_
                      unfold Oper.wp
                      generalize a.eval = ρ at *
                      go_simp
                      try go_bits
                      first | exact rel_val (Chg.refl _) | (go_simp; exact rel_val (Chg.refl _))
                    case z6o5 =>
                      rintro a wx hE hin (h4 : a.eval (.tmp 168) = _)
                      clear hin
                      have hcst : ∀ v, a.eval (.const v) = v := fun _ => rfl
                      have hfnc : ∀ f, a.eval (.func f) = .func (.func f) #[] #[] := fun _ => rfl
                      refine want_none rfl ?_
                      unfold Oper.wp
                      generalize a.eval = ρ at *
                      go_simp
                      try go_bits
                      first | exact rel_val (Chg.refl _) | (go_simp; exact rel_val (Chg.refl _))
                    case z6o6 =>
                      rintro a wx hE hin (h5 : a.eval (.tmp 169) = _)
                      clear hin
                      have hcst : ∀ v, a.eval (.const v) = v := fun _ => rfl
                      have hfnc : ∀ f, a.eval (.func f) = .func (.func f) #[] #[] := fun _ => rfl
                      refine want_none rfl ?_
                      unfold Oper.wp
                      generalize a.eval = ρ at *
                      have c := Bk.cell (Kxw12.out.drew.chg hE id) DV4.out
                      go_simp
                      try go_bits
                      first | exact rel_val (Chg.refl _) | (go_simp; exact rel_val (Chg.refl _))
                    case z6o7 =>
                      rintro a wx hE hin (h6 : a.eval (.tmp 170) = _)
                      clear hin
                      have hcst : ∀ v, a.eval (.const v) = v := fun _ => rfl
                      have hfnc : ∀ f, a.eval (.func f) = .func (.func f) #[] #[] := fun _ => rfl
                      refine want_none rfl ?_
                      unfold Oper.wp
                      generalize a.eval = ρ at *
                      go_simp
                      refine (refGood_calls s.r.ps s.r.A s.r.n s.r.c wx HSO.out.rcd.len (by have h2 := HSO.out.rcd.cap; have h3 := HSO.out.rcd.max; omega) (HSO.out.rcd.rd.below ((HW1.out.trans (Ew12.out.mono HW1.out.size)).trans ((hE.undrew.below (B := w12.heap.size) (Nat.le_refl _) (fun _ _ => id)).mono (HW1.out.trans (Ew12.out.mono HW1.out.size)).size))) HSO.out.rcd.ok).mono ?_
                      rintro e w' ⟨rfl, hb⟩
                      exact rel_val (.of_below hb)
                  case z6fin =>
                    intro wx hE
                    rintro _ rfl _ rfl _ rfl _ rfl _ rfl _ rfl _ rfl _ rfl
                    simp only [FinOk, List.take_succ_cons, List.take_zero, List.take_nil, List.drop_succ_cons, List.drop_zero, List.drop_nil, Act.put, List.setIfInBounds_toArray, List.set_cons_succ, List.set_cons_zero]
                    have DX : Hid (DSes 99 w1 wx gd gsd lv t.low) := Ddw12.out.chgN hE.undrew
                    have QX : Hid (DSes 101 w1 wx gq gsq mv t) := Dqw12.out.chgN hE.undrew
                    clear hE
                    cases goodB s.r.ps
                    all_goals
                      go_wp2_with fail
                      go_roundw
                      case rel => exact ⟨k + 1, lv, mv, t, by omega, by go_num, (HTK.out.mono (by omega)), DX.out, QX.out, Xdq.out⟩
                      case measure => simp [intOf]; omega
end Go.Proofs.Ytchcnkobgdbdkaa
