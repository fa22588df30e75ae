/- The walk of LabelBits. -/
import Derived.Test.YtnpcehlbboeadaaLabOpen
namespace Go.Proofs.Ytnpcehlbboeadaa
open Go.RowKit
set_option linter.unusedVariables false
set_option linter.unusedSimpArgs false

theorem cut_of2 {P : Program} (t e : TypeId) (kl : IntKind) {i : TypeInfo} (size : Nat) (ht : P.underlying t = some (.slice e)) (hi : P.info? e = some i) (hsz : i.size = size) (h0 : 0 < size) (A : Option Addr) (n c m : Nat) (hm : m ≤ n) (hc : n ≤ c) :
    ∃ A' : Option Addr, (∀ W : World, (Instr.slice t (.slice A n c) (some (.int kl (m : Int))) none none).run P W = .ok (.slice A' (n - m) (c - m)) W) ∧
      ∀ (w : World) (vs : List Value), vs.length = n * size → Rd w A vs → Rd w A' (vs.drop (m * size)) := by
  refine ⟨if c = m then A else A.map (·.add (m * size)), fun W => ?_, fun w vs hl h => ?_⟩
  · have hel : P.elem t = e := by simp [Program.elem, ht]
    have hu : P.underlying t = some (.slice (P.elem t)) := by rw [hel]; exact ht
    rw [run_slice_l W t A n c hu kl (m : Int) (Int.natCast_nonneg _) (by omega), hel]
    simp [sizeOf, typeInfo, hi, hsz, sliced, Result.andThen]
  · by_cases hcm : c = m
    · have hnm : n = m := by omega
      have : vs.drop (m * size) = [] := List.drop_eq_nil_of_le (by rw [hl, hnm]; exact Nat.le_refl _)
      rw [this]
      exact Rd.nil _ _
    · rw [if_neg hcm]
      exact h.drop (m * size)
theorem wp_cut {P : Program} {o : Oper} {a : Act} {w : World} {K : Act → World → Prop} {Q : Exit → Act → World → Prop} (t : TypeId) (x y : Operand) (ho : o.op = .slice t x (some y) none none) {kl : IntKind} {A A' : Option Addr} {n c m : Nat} {e : TypeId} (hu : P.underlying t = some (.slice e)) (hx : a.eval x = .slice A n c) (hy : a.eval y = .int kl (m : Int))
    (hc : ∀ W : World, (Instr.slice t (.slice A n c) (some (.int kl (m : Int))) none none).run P W = .ok (.slice A' (n - m) (c - m)) W) (h : K (a.put o.dst (.slice A' (n - m) (c - m))) w) : o.wp P a w K Q := by
  unfold Oper.wp execOp
  simp only [ho, hx, hy, Option.map_some, Option.map_none, Instr.sliceAt, Sem.run_bind, run_underlying hu, hc, Result.andThen_ok, Sem.run_pure]
  exact h
theorem wpList_bs1' {P : Program} {o : Oper} {a : Act} {w : World} {Q : Exit → Act → World → Prop} {ops : Array Oper} {rest : List Oper} (hw : Region.wanted o (yielded ops a.tmps) = true) (t elem : TypeId) (x : Operand) (ho : o.op = .buildSlice t 1 #[(0, x)]) (z : Value) (n : Nat) (us : List Value) (hu : P.underlying t = some (.slice elem)) (hinfo : (P.info? elem).map (fun i => (i.zero, i.size)) = some (some z, n))
    (hz : z.cells.size = n) (hn : 0 < n) (hn2 : n ≤ 1000) (hx : (a.eval x).cells.toList = us) (hl : us.length = n)
    (h : ∀ g w', g = w.heap.size → Bk w' g us → Chg NoS w w' → wpList P ops Q rest (a.put o.dst (.slice (some ⟨g, 0, none⟩) 1 1)) w') : wpList P ops Q (o :: rest) a w :=
  wpl hw fun K hK => wp_bs1 t elem x ho z n us hu hinfo hz hn hn2 hx hl (hK _ _ (h _ _ rfl (Bk.new w us elem) ((Chg.refl w).alloc _)))
theorem bitsN_one (p : PutV) : bitsN [p] = bitOf p := by simp [bitsN]
def LBRel (w : World) (ps : List PutV) (v6 v7 : Value) (wr : World) : Prop := ∃ k : Nat, k ≤ ps.length ∧ v7 = .int .i64 k ∧ v6 = .int .u16 (bitsN (ps.take k) : Nat) ∧ Below w.heap.size w wr
theorem or16 (m z : Nat) (hm : m < 4096) (hz : z < 4096) : Go.bits .or .u16 (m : Int) (z : Int) = ((m ||| z : Nat) : Int) := (bits_u16 m z (by omega) (by omega)).2.2
set_option maxRecDepth 100000 in
set_option maxHeartbeats 8000000 in
theorem labelBits_calls (w : World) (A : Option Addr) (n c : Nat) (ps : List PutV) (x : UInt8) (hl : ps.length = n) (hnc : n ≤ c) (hm : c ≤ 9223372036854775807) (hr : Rd w A (ps.flatMap putC)) (ho : PutsOk ps) :
    Calls Try.prog 12 #[.slice A n c, vu8 x] w fun e w' => e = .returned (.bool true) ∧ Below w.heap.size w w' := by
  subst hl
  have HR := Lib.hid hr
  have HO := Lib.hid ho
  clear hr ho
  by_cases h60 : 60 < ps.length
  · have h60i : (60 : Int) < (ps.length : Int) := by omega
    go_enter Try.func12, Try.ntmps12
    go_wp2_with fail
    refine (wakes7_calls w).mono ?_
    rintro e w9 ⟨rfl, hb⟩
    have E9 : Hid (Below w.heap.size w w9) := hb
    clear hb
    go_wp2
    go_ret
    exact ⟨rfl, E9.out⟩
  · have h60i : ¬ ((60 : Int) < (ps.length : Int)) := by omega
    obtain ⟨K, hKl, hK⟩ : ∃ K : Nat, K ≤ ps.length ∧ (wrap64 (x.toNat : Int)).tmod ((ps.length : Int) + 1) = (K : Int) := ⟨x.toNat % (ps.length + 1), by have := Nat.mod_lt x.toNat (show 0 < ps.length + 1 by omega); omega, by
      have := x.toNat_lt
      rw [show wrap64 (x.toNat : Int) = x.toNat by unfold wrap64; omega, Int.tmod_eq_emod_of_nonneg (by omega)]
      exact_mod_cast rfl⟩
    have hz1 : ¬ ((ps.length : Int) + 1 = 0) := by omega
    have H0 : Hid (LBRel w ps (.int .u16 0) (.int .i64 0) w) := ⟨0, Nat.zero_le _, rfl, rfl, Below.refl _ _⟩
    go_enter Try.func12, Try.ntmps12
    go_wp2_with fail
    clear hK
    go_loopw [6, 7] (fun v6 v7 wr => LBRel w ps v6 v7 wr) (fun _ v7 _ => ps.length - (intOf v7).toNat)
    case atStart => exact H0.out
    case round =>
      obtain ⟨k, hk, rfl, hv6, hb⟩ := hrel
      obtain ⟨m, hmm⟩ : ∃ m, bitsN (ps.take k) = m := ⟨_, rfl⟩
      rw [hmm] at hv6
      subst hv6
      have HM := Lib.hid hmm
      have HB := Lib.hid hb
      clear hmm hb H0
      by_cases hlt : k < ps.length
      · have hki : (k : Int) < (ps.length : Int) := by omega
        have hrr := HR.out.below HB.out
        obtain ⟨ad, hA⟩ := puts_some hrr hlt
        subst hA
        have hpr := put_rd hrr HO.out hlt
        have hpo := HO.out _ (List.getElem_mem hlt)
        have hnx := bitsN_take ps k hlt
        obtain ⟨p, hp⟩ : ∃ p, ps[k] = p := ⟨_, rfl⟩
        rw [hp] at hpr hpo hnx
        rw [HM.out] at hnx
        have HP := Lib.hid hp
        have HPR := Lib.hid hpr
        have HPL := Lib.hid (putC_len hpo.1)
        have HPO : Hid (PutsOk [p]) := by intro y hy; obtain rfl := List.mem_singleton.1 hy; exact hpo
        have HNX := Lib.hid hnx
        have hml : m < 4096 := by rw [← HM.out]; exact bitsN_lt _
        clear hp hpr hpo hnx hrr
        go_wp2_with (first
          | (refine wpList_ldr2 rfl 84 (.tmp 28) rfl (ad.add (k * 33)) 33 (putC p) rfl HPR.out (by kernel_rfl) (by kernel_rfl) HPL.out ?_)
          | (refine wpList_bs1' rfl 65 84 (.tmp 29) rfl zPut 33 (putC p) Try.underlying65 infoPut rfl (by decide) (by decide) rfl HPL.out ?_))
        intro g5 w2 hg hb hc
        have HB2 : Hid (Below w.heap.size w w2) := HB.out.trans (hc.below HB.out.size (fun _ _ => id))
        have K2 := Lib.hid hb
        clear hb hc hg
        go_wp2_with fail
        refine (bits_calls [p] (some ⟨g5, 0, none⟩) 1 1 w2 rfl (by decide) (by have := K2.out.rd; simpa using this) HPO.out).mono ?_
        rintro e w3 ⟨rfl, hb⟩
        have HB3 : Hid (Below w.heap.size w w3) := HB2.out.trans (hb.mono HB2.out.size)
        rw [bitsN_one]
        have hzl := bitOf_lt p
        have c0 := put_at (HR.out.below HB3.out) HO.out hlt
        rw [HP.out] at c0
        obtain ⟨z, hz⟩ : ∃ z, bitOf p = z := ⟨_, rfl⟩
        rw [hz] at hzl ⊢
        rw [hz] at HNX
        have hor := or16 m z hml hzl
        clear hb K2
        by_cases h0 : 0 ≤ p.at_
        · by_cases h12 : p.at_ < 12
          · obtain ⟨q, hq⟩ := Int.eq_ofNat_of_zero_le h0
            rw [hq] at c0 h12
            have hq12 : q < 12 := by omega
            have hz2 : z = 2 ^ q := by rw [← hz, bitOf, if_pos ⟨h0, by rw [hq]; exact h12⟩, hq]; rfl
            have hwr : IntKind.u16.wrap ((2 : Int) ^ q) = (z : Int) := by
              have h2 : ((2 : Int) ^ q) = ((2 ^ q : Nat) : Int) := by push_cast; rfl
              rw [h2, ← hz2, IntWalk.u16_in _ (by omega)]
            have hne : ((z : Int) != 0) = true := by
              rw [bne_iff_ne]
              have : 0 < z := by rw [hz2]; exact Nat.two_pow_pos q
              omega
            clear h0 hz hz2 hq
            go_wp2_with fail
            go_roundw
            case rel => exact ⟨k + 1, by omega, by go_num, by rw [HNX.out] <;> first | rfl | (rw [Nat.or_zero]), HB3.out⟩
            case measure => simp [intOf]; omega
          · have hz0 : z = 0 := by rw [← hz, bitOf, if_neg (fun hh => h12 hh.2)]
            have hor0 : Go.bits .or .u16 (m : Int) 0 = (m : Int) := by rw [hz0] at hor; simpa using hor
            subst hz0
            clear hz
            go_wp2_with fail
            go_roundw
            case rel => exact ⟨k + 1, by omega, by go_num, by rw [HNX.out] <;> first | rfl | (rw [Nat.or_zero]), HB3.out⟩
            case measure => simp [intOf]; omega
        · have hz0 : z = 0 := by rw [← hz, bitOf, if_neg (fun hh => h0 hh.1)]
          have hor0 : Go.bits .or .u16 (m : Int) 0 = (m : Int) := by rw [hz0] at hor; simpa using hor
          subst hz0
          clear hz
          have h0n : p.at_ < 0 := by omega
          go_wp2_with fail
          go_roundw
          case rel => exact ⟨k + 1, by omega, by go_num, by rw [HNX.out] <;> first | rfl | (rw [Nat.or_zero]), HB3.out⟩
          case measure => simp [intOf]; omega
      · have hke : k = ps.length := by omega
        have hki : ¬ ((k : Int) < (ps.length : Int)) := by omega
        have hf : m = bitsN ps := by rw [← HM.out, hke, List.take_length]
        subst hf
        have hrr := HR.out.below HB.out
        have RX := Lib.hid (Rd.drew hrr)
        obtain ⟨i0, hi0⟩ := Option.map_eq_some_iff.1 infoPut
        obtain ⟨A', hcut, hrd⟩ := cut_of2 65 84 .i64 33 Try.underlying65 hi0.1 (by have := hi0.2; simp only [Prod.mk.injEq] at this; exact this.2) (by decide) A ps.length c K hKl hnc
        have hfl : (ps.flatMap putC).length = ps.length * 33 := flat_length putC 33 ps (fun p hp => putC_len (HO.out p hp).1)
        have hsp : ps.flatMap putC = (ps.take K).flatMap putC ++ (ps.drop K).flatMap putC := by rw [← List.flatMap_append, List.take_append_drop]
        have htl : ((ps.take K).flatMap putC).length = K * 33 := by rw [flat_length putC 33 _ (fun p hp => putC_len (HO.out p (List.mem_of_mem_take hp)).1), List.length_take, Nat.min_eq_left hKl]
        have RT : Hid (Rd wr.drew A ((ps.take K).flatMap putC)) := by
          have := hrr.take (K * 33)
          rw [hsp, List.take_append_of_le_length (by omega), List.take_of_length_le (by omega)] at this
          exact this.drew
        have RD : Hid (Rd wr.drew A' ((ps.drop K).flatMap putC)) := by
          have := hrd wr.drew (ps.flatMap putC) hfl hrr.drew
          rw [hsp, List.drop_append, List.drop_eq_nil_of_le (by omega), List.nil_append, htl, Nat.sub_self, List.drop_zero] at this
          exact this
        have HCUT := Lib.hid hcut
        have HTK : Hid ((ps.take K).length = K) := by show _ = _; rw [List.length_take, Nat.min_eq_left hKl]
        have HDK : Hid ((ps.drop K).length = ps.length - K) := List.length_drop
        have HOT : Hid (PutsOk (ps.take K)) := fun p hp => HO.out p (List.mem_of_mem_take hp)
        have HOD : Hid (PutsOk (ps.drop K)) := fun p hp => HO.out p (List.mem_of_mem_drop hp)
        have HOR : Hid (Go.bits .or .u16 (bitsN (ps.take K) : Int) (bitsN (ps.drop K) : Int) = ((bitsN ps : Nat) : Int)) := by
          show _ = _
          rw [or16 _ _ (bitsN_lt _) (bitsN_lt _), ← bitsN_append, List.take_append_drop]
        have HKI : Hid ((K : Int) ≤ (ps.length : Int)) := by show _ ≤ _; omega
        have HKC : Hid ((K : Int) ≤ (c : Int)) := by show _ ≤ _; omega
        have hKm : K ≤ 9223372036854775807 := by omega
        have hDm : ps.length - K ≤ 9223372036854775807 := by omega
        clear hcut hrd hfl hsp htl hrr hi0
        go_wp2_with fail
        apply wp_region_rel 24 (Chg NoS) [(Veq _), (Veq _), (Veq _), (Veq _), (Veq _), (Veq _), (Veq _), (Veq _), (Veq _), (Veq _), (Veq _), (Veq _), (Veq _), (Veq _), (Veq _), (Veq _), (Veq _), (Veq _), (Veq _), (Veq _), (Veq _), (Veq _), (Veq _), (Veq _)] [[], [0], [], [1, 2], [3], [4], [4], [4, 5, 6], [4, 7], [4], [4], [4, 9, 10], [4, 11], [4, 8, 12], [4], [4, 13, 14], [4, 15], [16], [17], [17, 18], [17, 19], [20], [21], [21, 22]] [67, 68, 69, 70, 71, 72, 73, 74, 75, 76, 77, 78, 79, 80, 81, 82, 83, 84, 85, 86, 87, 88, 89, 90] (by kernel_rfl) (by kernel_rfl) rfl rfl rfl Chg.refl (fun _ _ _ => Chg.trans) ⟨Veq.lasts, Veq.lasts, Veq.lasts, Veq.lasts, Veq.lasts, Veq.lasts, Veq.lasts, Veq.lasts, Veq.lasts, Veq.lasts, Veq.lasts, Veq.lasts, Veq.lasts, Veq.lasts, Veq.lasts, Veq.lasts, Veq.lasts, Veq.lasts, Veq.lasts, Veq.lasts, Veq.lasts, Veq.lasts, Veq.lasts, Veq.lasts, trivial⟩ ?aops ?afin
        case aops =>
          refine ⟨?ao0, ?ao1, ?ao2, ?ao3, ?ao4, ?ao5, ?ao6, ?ao7, ?ao8, ?ao9, ?ao10, ?ao11, ?ao12, ?ao13, ?ao14, ?ao15, ?ao16, ?ao17, ?ao18, ?ao19, ?ao20, ?ao21, ?ao22, ?ao23, trivial⟩
          case ao0 =>
            intro a wx hE hin
            have i0 : a.eval (.tmp 0) = .slice A ps.length c := hin 0 rfl
            clear hin
            have hcst : ∀ v, a.eval (.const v) = v := fun _ => rfl
            have hfnc : ∀ f, a.eval (.func f) = .func (.func f) #[] #[] := fun _ => rfl
            refine want_none rfl ?_
            unfold Oper.wp
            generalize a.eval = ρ at *
            go_simp
            try go_bits
            first | exact rel_val (Chg.refl _) | (go_simp; exact rel_val (Chg.refl _))
          case ao1 =>
            rintro a wx hE hin (h0 : a.eval (.tmp 67) = _)
            clear hin
            have hcst : ∀ v, a.eval (.const v) = v := fun _ => rfl
            have hfnc : ∀ f, a.eval (.func f) = .func (.func f) #[] #[] := fun _ => rfl
            refine want_none rfl ?_
            unfold Oper.wp
            generalize a.eval = ρ at *
            go_simp
            refine (bits_calls ps A _ c wx rfl (by omega) (RX.out.chg hE) HO.out).mono ?_
            rintro e w' ⟨rfl, hb⟩
            exact rel_val (.of_below hb)
          case ao2 =>
            intro a wx hE hin
            have i6 : a.eval (.tmp 6) = .int .u16 (bitsN ps : Nat) := hin 6 rfl
            clear hin
            have hcst : ∀ v, a.eval (.const v) = v := fun _ => rfl
            have hfnc : ∀ f, a.eval (.func f) = .func (.func f) #[] #[] := fun _ => rfl
            refine want_none rfl ?_
            unfold Oper.wp
            generalize a.eval = ρ at *
            go_simp
            try go_bits
            first | exact rel_val (Chg.refl _) | (go_simp; exact rel_val (Chg.refl _))
          case ao3 =>
            rintro a wx hE hin (h1 : a.eval (.tmp 68) = _) (h2 : a.eval (.tmp 69) = _)
            clear hin
            have hcst : ∀ v, a.eval (.const v) = v := fun _ => rfl
            have hfnc : ∀ f, a.eval (.func f) = .func (.func f) #[] #[] := fun _ => rfl
            refine want_none rfl ?_
            unfold Oper.wp
            generalize a.eval = ρ at *
            go_simp
            try go_bits
            first | exact rel_val (e := .bool true) (Chg.refl _) | (simp only [beq_self_eq_true]; exact rel_val (e := .bool true) (Chg.refl _))
          case ao4 =>
            rintro a wx hE hin (h3 : a.eval (.tmp 70) = _)
            clear hin
            have hcst : ∀ v, a.eval (.const v) = v := fun _ => rfl
            have hfnc : ∀ f, a.eval (.func f) = .func (.func f) #[] #[] := fun _ => rfl
            refine want_none rfl ?_
            unfold Oper.wp
            generalize a.eval = ρ at *
            go_simp
            try go_bits
            first | exact rel_val (Chg.refl _) | (go_simp; exact rel_val (Chg.refl _))
          case ao5 =>
            rintro a wx hE hin (h4 : a.eval (.tmp 71) = _)
            have i0 : a.eval (.tmp 0) = .slice A ps.length c := hin 0 rfl
            clear hin
            have hcst : ∀ v, a.eval (.const v) = v := fun _ => rfl
            have hfnc : ∀ f, a.eval (.func f) = .func (.func f) #[] #[] := fun _ => rfl
            refine want_yes rfl rfl h4 ?_
            unfold Oper.wp
            generalize a.eval = ρ at *
            go_simp
            try go_bits
            first | exact rel_val (Chg.refl _) | (go_simp; exact rel_val (Chg.refl _))
          case ao6 =>
            rintro a wx hE hin (h4 : a.eval (.tmp 71) = _)
            have i5 : a.eval (.tmp 5) = .int .i64 K := hin 5 rfl
            clear hin
            have hcst : ∀ v, a.eval (.const v) = v := fun _ => rfl
            have hfnc : ∀ f, a.eval (.func f) = .func (.func f) #[] #[] := fun _ => rfl
            refine want_yes rfl rfl h4 ?_
            unfold Oper.wp
            generalize a.eval = ρ at *
            go_simp
            try go_bits
            first | exact rel_val (Chg.refl _) | (go_simp; exact rel_val (Chg.refl _))
          case ao7 =>
            rintro a wx hE hin (h4 : a.eval (.tmp 71) = _) (h5 : a.eval (.tmp 72) = _) (h6 : a.eval (.tmp 73) = _)
            clear hin
            have hcst : ∀ v, a.eval (.const v) = v := fun _ => rfl
            have hfnc : ∀ f, a.eval (.func f) = .func (.func f) #[] #[] := fun _ => rfl
            refine want_yes rfl rfl h4 ?_
            unfold Oper.wp
            generalize a.eval = ρ at *
            have hKi := HKI.out
            have hKc := HKC.out
            go_simp
            try go_bits
            first | exact rel_val (Chg.refl _) | (go_simp; exact rel_val (Chg.refl _))
          case ao8 =>
            rintro a wx hE hin (h4 : a.eval (.tmp 71) = _) (h7 : a.eval (.tmp 74) = _)
            clear hin
            have hcst : ∀ v, a.eval (.const v) = v := fun _ => rfl
            have hfnc : ∀ f, a.eval (.func f) = .func (.func f) #[] #[] := fun _ => rfl
            refine want_yes rfl rfl h4 ?_
            unfold Oper.wp
            generalize a.eval = ρ at *
            go_simp
            refine (bits_calls (ps.take K) A _ _ wx HTK.out (by omega) (RT.out.chg hE) HOT.out).mono ?_
            rintro e w' ⟨rfl, hb⟩
            exact rel_val (.of_below hb)
          case ao9 =>
            rintro a wx hE hin (h4 : a.eval (.tmp 71) = _)
            have i0 : a.eval (.tmp 0) = .slice A ps.length c := hin 0 rfl
            clear hin
            have hcst : ∀ v, a.eval (.const v) = v := fun _ => rfl
            have hfnc : ∀ f, a.eval (.func f) = .func (.func f) #[] #[] := fun _ => rfl
            refine want_yes rfl rfl h4 ?_
            unfold Oper.wp
            generalize a.eval = ρ at *
            go_simp
            try go_bits
            first | exact rel_val (Chg.refl _) | (go_simp; exact rel_val (Chg.refl _))
          case ao10 =>
            rintro a wx hE hin (h4 : a.eval (.tmp 71) = _)
            have i5 : a.eval (.tmp 5) = .int .i64 K := hin 5 rfl
            clear hin
            have hcst : ∀ v, a.eval (.const v) = v := fun _ => rfl
            have hfnc : ∀ f, a.eval (.func f) = .func (.func f) #[] #[] := fun _ => rfl
            refine want_yes rfl rfl h4 ?_
            unfold Oper.wp
            generalize a.eval = ρ at *
            go_simp
            try go_bits
            first | exact rel_val (Chg.refl _) | (go_simp; exact rel_val (Chg.refl _))
          case ao11 =>
            rintro a wx hE hin (h4 : a.eval (.tmp 71) = _) (h9 : a.eval (.tmp 76) = _) (h10 : a.eval (.tmp 77) = _)
            clear hin
            have hcst : ∀ v, a.eval (.const v) = v := fun _ => rfl
            have hfnc : ∀ f, a.eval (.func f) = .func (.func f) #[] #[] := fun _ => rfl
            refine want_yes rfl rfl h4 ?_
            exact wp_cut 65 _ _ rfl Try.underlying65 (by rw [h9]) (by rw [h10]) HCUT.out (rel_val (Chg.refl _))
          case ao12 =>
            rintro a wx hE hin (h4 : a.eval (.tmp 71) = _) (h11 : a.eval (.tmp 78) = _)
            clear hin
            have hcst : ∀ v, a.eval (.const v) = v := fun _ => rfl
            have hfnc : ∀ f, a.eval (.func f) = .func (.func f) #[] #[] := fun _ => rfl
            refine want_yes rfl rfl h4 ?_
            unfold Oper.wp
            generalize a.eval = ρ at *
            go_simp
            refine (bits_calls (ps.drop K) A' _ _ wx HDK.out (by omega) (RD.out.chg hE) HOD.out).mono ?_
            rintro e w' ⟨rfl, hb⟩
            exact rel_val (.of_below hb)
          case ao13 =>
            rintro a wx hE hin (h4 : a.eval (.tmp 71) = _) (h8 : a.eval (.tmp 75) = _) (h12 : a.eval (.tmp 79) = _)
            clear hin
            have hcst : ∀ v, a.eval (.const v) = v := fun _ => rfl
            have hfnc : ∀ f, a.eval (.func f) = .func (.func f) #[] #[] := fun _ => rfl
            refine want_yes rfl rfl h4 ?_
            unfold Oper.wp
            generalize a.eval = ρ at *
            go_simp
            rw [HOR.out]
            exact rel_val (e := .int .u16 (bitsN ps : Nat)) (Chg.refl _)
          case ao14 =>
            rintro a wx hE hin (h4 : a.eval (.tmp 71) = _)
            have i6 : a.eval (.tmp 6) = .int .u16 (bitsN ps : Nat) := hin 6 rfl
            clear hin
            have hcst : ∀ v, a.eval (.const v) = v := fun _ => rfl
            have hfnc : ∀ f, a.eval (.func f) = .func (.func f) #[] #[] := fun _ => rfl
            refine want_yes rfl rfl h4 ?_
            unfold Oper.wp
            generalize a.eval = ρ at *
            go_simp
            try go_bits
            first | exact rel_val (Chg.refl _) | (go_simp; exact rel_val (Chg.refl _))
          case ao15 =>
            rintro a wx hE hin (h4 : a.eval (.tmp 71) = _) (h13 : a.eval (.tmp 80) = _) (h14 : a.eval (.tmp 81) = _)
            clear hin
            have hcst : ∀ v, a.eval (.const v) = v := fun _ => rfl
            have hfnc : ∀ f, a.eval (.func f) = .func (.func f) #[] #[] := fun _ => rfl
            refine want_yes rfl rfl h4 ?_
            unfold Oper.wp
            generalize a.eval = ρ at *
            go_simp
            try go_bits
            first | exact rel_val (e := .bool true) (Chg.refl _) | (simp only [beq_self_eq_true]; exact rel_val (e := .bool true) (Chg.refl _))
          case ao16 =>
            rintro a wx hE hin (h4 : a.eval (.tmp 71) = _) (h15 : a.eval (.tmp 82) = _)
            clear hin
            have hcst : ∀ v, a.eval (.const v) = v := fun _ => rfl
            have hfnc : ∀ f, a.eval (.func f) = .func (.func f) #[] #[] := fun _ => rfl
            refine want_none rfl ?_
            unfold Oper.wp
            generalize a.eval = ρ at *
            go_simp
            try go_bits
            first | exact rel_val (Chg.refl _) | (go_simp; exact rel_val (Chg.refl _))
          case ao17 =>
            rintro a wx hE hin (h16 : a.eval (.tmp 83) = _)
            clear hin
            have hcst : ∀ v, a.eval (.const v) = v := fun _ => rfl
            have hfnc : ∀ f, a.eval (.func f) = .func (.func f) #[] #[] := fun _ => rfl
            refine want_none rfl ?_
            unfold Oper.wp
            generalize a.eval = ρ at *
            go_simp
            try go_bits
            first | exact rel_val (Chg.refl _) | (go_simp; exact rel_val (Chg.refl _))
          case ao18 =>
            rintro a wx hE hin (h17 : a.eval (.tmp 84) = _)
            clear hin
            have hcst : ∀ v, a.eval (.const v) = v := fun _ => rfl
            have hfnc : ∀ f, a.eval (.func f) = .func (.func f) #[] #[] := fun _ => rfl
            refine want_yes rfl rfl h17 ?_
            unfold Oper.wp
            generalize a.eval = ρ at *
            go_simp
            refine (bits_calls [] none 0 0 wx rfl (by decide) (Rd.nil _ _) (fun p hp => by cases hp)).mono ?_
            rintro e w' ⟨rfl, hb⟩
            exact rel_val (e := .int .u16 0) (.of_below hb)
          case ao19 =>
            rintro a wx hE hin (h17 : a.eval (.tmp 84) = _) (h18 : a.eval (.tmp 85) = _)
            clear hin
            have hcst : ∀ v, a.eval (.const v) = v := fun _ => rfl
            have hfnc : ∀ f, a.eval (.func f) = .func (.func f) #[] #[] := fun _ => rfl
            refine want_yes rfl rfl h17 ?_
            unfold Oper.wp
            generalize a.eval = ρ at *
            go_simp
            try go_bits
            first | exact rel_val (Chg.refl _) | (go_simp; exact rel_val (Chg.refl _))
          case ao20 =>
            rintro a wx hE hin (h17 : a.eval (.tmp 84) = _) (h19 : a.eval (.tmp 86) = _)
            clear hin
            have hcst : ∀ v, a.eval (.const v) = v := fun _ => rfl
            have hfnc : ∀ f, a.eval (.func f) = .func (.func f) #[] #[] := fun _ => rfl
            refine want_none rfl ?_
            unfold Oper.wp
            generalize a.eval = ρ at *
            go_simp
            try go_bits
            first | exact rel_val (Chg.refl _) | (go_simp; exact rel_val (Chg.refl _))
          case ao21 =>
            rintro a wx hE hin (h20 : a.eval (.tmp 87) = _)
            clear hin
            have hcst : ∀ v, a.eval (.const v) = v := fun _ => rfl
            have hfnc : ∀ f, a.eval (.func f) = .func (.func f) #[] #[] := fun _ => rfl
            refine want_none rfl ?_
            unfold Oper.wp
            generalize a.eval = ρ at *
            go_simp
            try go_bits
            first | exact rel_val (Chg.refl _) | (go_simp; exact rel_val (Chg.refl _))
          case ao22 =>
            rintro a wx hE hin (h21 : a.eval (.tmp 88) = _)
            clear hin
            have hcst : ∀ v, a.eval (.const v) = v := fun _ => rfl
            have hfnc : ∀ f, a.eval (.func f) = .func (.func f) #[] #[] := fun _ => rfl
            refine want_yes rfl rfl h21 ?_
            unfold Oper.wp
            generalize a.eval = ρ at *
            go_simp
            refine (wakes7_calls wx).mono ?_
            rintro e w' ⟨rfl, hb⟩
            exact rel_val (.of_below hb)
          case ao23 =>
            rintro a wx hE hin (h21 : a.eval (.tmp 88) = _) (h22 : a.eval (.tmp 89) = _)
            clear hin
            have hcst : ∀ v, a.eval (.const v) = v := fun _ => rfl
            have hfnc : ∀ f, a.eval (.func f) = .func (.func f) #[] #[] := fun _ => rfl
            refine want_none rfl ?_
            unfold Oper.wp
            generalize a.eval = ρ at *
            go_simp
            try go_bits
            first | exact rel_val (Chg.refl _) | (go_simp; exact rel_val (Chg.refl _))
        case afin =>
          intro wx hE
          rintro _ rfl _ rfl _ rfl _ rfl _ rfl _ rfl _ rfl _ rfl _ rfl _ rfl _ rfl _ rfl _ rfl _ rfl _ rfl _ rfl _ rfl _ rfl _ rfl _ rfl _ rfl _ rfl _ rfl _ rfl
          simp only [FinOk, List.take_succ_cons, List.take_zero, List.take_nil, List.drop_succ_cons, List.drop_zero, List.drop_nil, Act.put, List.setIfInBounds_toArray, List.set_cons_succ, List.set_cons_zero]
          have E9 : Hid (Below w.heap.size w wx) := HB.out.trans ((hE.undrew).below (B := w.heap.size) HB.out.size (fun _ _ => id))
          clear hE
          go_wp2
          go_ret
          exact ⟨rfl, E9.out⟩
end Go.Proofs.Ytnpcehlbboeadaa
