/- The walk of DiskNone. -/
import Derived.Test.YtnpcehlbboeadaaSteps
namespace Go.Proofs.Ytnpcehlbboeadaa
open Go.RowKit
set_option linter.unusedVariables false
set_option linter.unusedSimpArgs false

theorem wpList_bs1 {P : Program} {o : Oper} {a : Act} {w : World} {Q : Exit → Act → World → Prop} {ops : Array Oper} {rest : List Oper} (hw : Region.wanted o (yielded ops a.tmps) = true) (t elem : TypeId) (x : Operand) (ho : o.op = .buildSlice t 1 #[(0, x)]) (z : Value) (n : Nat) (us : List Value) (hu : P.underlying t = some (.slice elem)) (hinfo : (P.info? elem).map (fun i => (i.zero, i.size)) = some (some z, n))
    (hz : z.cells.size = n) (hn : 0 < n) (hn2 : n ≤ 1000) (hx : (a.eval x).cells.toList = us) (hl : us.length = n)
    (h : ∀ g w', g = w.heap.size → Bk w' g us → Chg NoS w w' → wpList P ops Q rest (a.put o.dst (.slice (some ⟨g, 0, none⟩) 1 1)) w') : wpList P ops Q (o :: rest) a w :=
  wpl hw fun K hK => wp_bs1 t elem x ho z n us hu hinfo hz hn hn2 hx hl (hK _ _ (h _ _ rfl (Bk.new w us elem) ((Chg.refl w).alloc _)))
def zStep : Value := .agg #[.int .i64 0, .int .i64 0, .int .u8 0, .slice none 0 0]
theorem infoStep : (Try.prog.info? 34).map (fun i => (i.zero, i.size)) = some (some zStep, 4) := by kernel_rfl
set_option maxRecDepth 100000 in
set_option maxHeartbeats 4000000 in
theorem diskNone_calls (w : World) (s : Stp) (hok : StpOk w s) : Calls Try.prog 6 #[.agg (stpC s).toArray] w fun e w' => e = .returned (.bool true) ∧ Below w.heap.size w w' := by
  obtain ⟨vs, hvs⟩ : ∃ vs, stpC s = vs := ⟨_, rfl⟩
  have C1 : Hid (vs[1]? = some (.int .i64 s.i)) := by rw [← hvs]; exact (rfl : (stpC s)[1]? = _)
  have C2 : Hid (vs[2]? = some (vu8 s.v)) := by rw [← hvs]; exact (rfl : (stpC s)[2]? = _)
  have C3 : Hid (vs[3]? = some (.slice s.A s.n s.c)) := by rw [← hvs]; exact (rfl : (stpC s)[3]? = _)
  have HL : Hid (vs.length = 4) := by show _ = _; rw [← hvs]; rfl
  have HF : Hid ([s].flatMap stpC = vs) := by show _ = _; rw [← hvs]; simp
  rw [hvs]
  clear hvs
  go_enter Try.func6, Try.ntmps6
  go_wp2_with (first
    | (refine wpList_ld rfl 34 (.tmp 1) rfl w.heap.size 0 4 vs vs rfl (Bk.new w vs _) (by kernel_rfl) (by kernel_rfl) (by rw [HL.out]; decide) (by rw [List.drop_zero, ← HL.out, List.take_length]) ?_)
    | (refine wpList_bs1 rfl 22 34 (.tmp 6) rfl zStep 4 vs Try.underlying22 infoStep rfl (by decide) (by decide) rfl HL.out ?_))
  intro g2 w2 hg hb hc
  have B2 : Hid (Bk w2 w.heap.size vs) := (Bk.new w vs _).chg hc id
  have E2 : Hid (Below w.heap.size w w2) := ((Below.refl _ _).alloc (Nat.le_refl _) _).trans (hc.below (by simp) (fun _ _ => id))
  have K2 := Lib.hid hb
  clear hb hc hg
  go_wp2_with fail
  refine (fair_calls w2 (some ⟨g2, 0, none⟩) 1 1 [s] rfl (by decide) (by rw [HF.out]; exact K2.out.rd)).mono ?_
  rintro e w' ⟨rfl, rfl⟩
  clear K2
  cases hq : fairB [s] with
  | false =>
    clear hq
    go_wp2_with fail
    refine (wakes5_calls w2).mono ?_
    rintro e w3 ⟨rfl, hb⟩
    have E3 : Hid (Below w.heap.size w w3) := E2.out.trans (hb.mono E2.out.size)
    clear hb
    go_wp2
    go_ret
    exact ⟨rfl, E3.out⟩
  | true =>
    clear hq
    have c1 := Bk.cell B2.out C1.out
    have c3 := Bk.cell B2.out C3.out
    go_wp2_with fail
    refine (diskFuse_nil w2 s.i).mono ?_
    rintro e w' ⟨rfl, rfl⟩
    go_wp2_with fail
    refine (diskUp_nil w2 _).mono ?_
    rintro e w' ⟨rfl, rfl⟩
    go_wp2_with fail
    refine (diskRead_nil w2 s.i).mono ?_
    rintro e w3 ⟨rfl, hb⟩
    have B3 := Lib.hid (B2.out.below hb)
    have E3 : Hid (Below w.heap.size w w3) := E2.out.trans (hb.mono E2.out.size)
    clear hb c1 c3
    generalize hvv : bts (List.replicate 32 0) = vv
    have HVV := Lib.hid hvv
    have HN : Hid (vv.length = 32) := by show _ = _; rw [← hvv, bts_length, List.length_replicate]
    have HO : Hid (∀ u ∈ vv, u.oneCell' = true) := by rw [← hvv]; exact one_bts _
    clear hvv
    go_wp2_with (refine wpList_al rfl 37 rfl (bts (List.replicate 32 0)) (by kernel_rfl) ?_)
    intro g4 w5 hg hb hc hs
    have B5 := Lib.hid (B3.out.chg hc id)
    have E5 : Hid (Below w.heap.size w w5) := E3.out.trans (hc.below E3.out.size (fun _ _ => id))
    have G4 : Hid (w.heap.size < g4) := by show _ < _; rw [hg]; exact B3.out.lt
    have K5 := Lib.hid hb
    clear hb hc hs hg
    go_wp2_with (refine wpList_st rfl 37 (.tmp 4) (.tmp 24) rfl g4 0 32 (bts (List.replicate 32 0)) vv rfl rfl K5.out (by kernel_rfl) HN.out (by decide) HO.out ?_)
    intro w6 hb hc
    rw [splice_whole _ _ (by rw [HN.out]; rfl), ← HVV.out] at hb
    have hg4 := G4.out
    have B6 := Lib.hid (B5.out.chg hc (by omega))
    have E6 : Hid (Below w.heap.size w w6) := E5.out.trans (hc.below E5.out.size (fun _ _ => by omega))
    have K6 := Lib.hid hb
    clear hb hc hg4
    go_wp2_with fail
    apply wp_region_rel 40 (Chg NoS) [(Veq _), (Veq _), (Veq _), (Veq _), (Veq _), (Veq _), (Veq _), (Veq _), (Veq _), (Veq _), (Veq _), (Veq _), (Veq _), (Veq _), (Veq _), (Veq _), (Veq _), (Veq _), (Veq _), (Veq _), (Veq _), (Veq _), (Veq _), (Veq _), (Veq _), (Veq _), (Veq _), (Veq _), (Veq _), (Veq _), (Veq _), (Veq _), (Veq _), (Veq _), (Veq _), (Veq _), (Veq _), (Veq _), (Veq _), (Veq _)] [[], [], [0, 1], [2], [3], [3, 4], [3, 5], [6], [7], [7], [7, 9], [7], [7, 11], [7, 12], [7, 8, 10, 13], [7, 14], [7, 15], [16], [17], [17, 18], [17, 19], [17, 20], [21], [22], [22, 23], [22, 24], [22, 25], [26], [27], [27, 28], [27, 29], [27, 30], [31], [32], [32, 33], [32, 34], [32, 35], [36], [37], [37, 38]] [26, 27, 28, 29, 30, 31, 32, 33, 34, 35, 36, 37, 38, 39, 40, 41, 42, 43, 44, 45, 46, 47, 48, 49, 50, 51, 52, 53, 54, 55, 56, 57, 58, 59, 60, 61, 62, 63, 64, 65] (by kernel_rfl) (by kernel_rfl) rfl rfl rfl Chg.refl (fun _ _ _ => Chg.trans) ⟨Veq.lasts, Veq.lasts, Veq.lasts, Veq.lasts, Veq.lasts, Veq.lasts, Veq.lasts, Veq.lasts, Veq.lasts, Veq.lasts, Veq.lasts, Veq.lasts, Veq.lasts, Veq.lasts, Veq.lasts, Veq.lasts, Veq.lasts, Veq.lasts, Veq.lasts, Veq.lasts, Veq.lasts, Veq.lasts, Veq.lasts, Veq.lasts, Veq.lasts, Veq.lasts, Veq.lasts, Veq.lasts, Veq.lasts, Veq.lasts, Veq.lasts, Veq.lasts, Veq.lasts, Veq.lasts, Veq.lasts, Veq.lasts, Veq.lasts, Veq.lasts, Veq.lasts, Veq.lasts, trivial⟩ ?aops ?afin
    case aops =>
      refine ⟨?ao0, ?ao1, ?ao2, ?ao3, ?ao4, ?ao5, ?ao6, ?ao7, ?ao8, ?ao9, ?ao10, ?ao11, ?ao12, ?ao13, ?ao14, ?ao15, ?ao16, ?ao17, ?ao18, ?ao19, ?ao20, ?ao21, ?ao22, ?ao23, ?ao24, ?ao25, ?ao26, ?ao27, ?ao28, ?ao29, ?ao30, ?ao31, ?ao32, ?ao33, ?ao34, ?ao35, ?ao36, ?ao37, ?ao38, ?ao39, trivial⟩
      case ao0 =>
        intro a wx hE hin
        have i4 : a.eval (.tmp 4) = .pointer (some ⟨g4, 0, none⟩) := hin 4 rfl
        clear hin
        have hcst : ∀ v, a.eval (.const v) = v := fun _ => rfl
        have hfnc : ∀ f, a.eval (.func f) = .func (.func f) #[] #[] := fun _ => rfl
        refine want_none rfl ?_
        exact wp_ld 37 _ rfl g4 0 32 (bts (List.replicate 32 0)) (bts (List.replicate 32 0)) i4 ((K6.out.drew).chg hE id) (by kernel_rfl) (by kernel_rfl) (Nat.le_refl _) rfl (rel_val (Chg.refl _))
      case ao1 =>
        intro a wx hE hin
        clear hin
        have hcst : ∀ v, a.eval (.const v) = v := fun _ => rfl
        have hfnc : ∀ f, a.eval (.func f) = .func (.func f) #[] #[] := fun _ => rfl
        refine want_none rfl ?_
        exact wp_bld 37 [] rfl (bts (List.replicate 32 0)) [] (bts (List.replicate 32 0)) (by kernel_rfl) (by kernel_rfl) trivial rfl (rel_val (Chg.refl _))
      case ao2 =>
        rintro a wx hE hin (h0 : a.eval (.tmp 26) = _) (h1 : a.eval (.tmp 27) = _)
        clear hin
        have hcst : ∀ v, a.eval (.const v) = v := fun _ => rfl
        have hfnc : ∀ f, a.eval (.func f) = .func (.func f) #[] #[] := fun _ => rfl
        refine want_none rfl ?_
        exact wp_eq_bytes false 37 37 _ _ rfl 5 32 Try.underlying37 Try.underlying5 (by kernel_rfl) (by kernel_rfl) (List.replicate 32 0) (List.replicate 32 0) h0 h1 (by rw [List.length_replicate]) (by rw [List.length_replicate]) (rel_val (e := .bool true) (Chg.refl _))
      case ao3 =>
        rintro a wx hE hin (h2 : a.eval (.tmp 28) = _)
        clear hin
        have hcst : ∀ v, a.eval (.const v) = v := fun _ => rfl
        have hfnc : ∀ f, a.eval (.func f) = .func (.func f) #[] #[] := fun _ => rfl
        refine want_none rfl ?_
        unfold Oper.wp
        generalize a.eval = ρ at *
        go_simp
        try go_bits
        first | exact rel_val (Chg.refl _) | (go_simp; exact rel_val (Chg.refl _))
      case ao4 =>
        rintro a wx hE hin (h3 : a.eval (.tmp 29) = _)
        have i5 : a.eval (.tmp 5) = .int .i64 1 := hin 5 rfl
        clear hin
        have hcst : ∀ v, a.eval (.const v) = v := fun _ => rfl
        have hfnc : ∀ f, a.eval (.func f) = .func (.func f) #[] #[] := fun _ => rfl
        refine want_yes rfl rfl h3 ?_
        unfold Oper.wp
        generalize a.eval = ρ at *
        go_simp
        try go_bits
        first | exact rel_val (Chg.refl _) | (go_simp; exact rel_val (Chg.refl _))
      case ao5 =>
        rintro a wx hE hin (h3 : a.eval (.tmp 29) = _) (h4 : a.eval (.tmp 30) = _)
        clear hin
        have hcst : ∀ v, a.eval (.const v) = v := fun _ => rfl
        have hfnc : ∀ f, a.eval (.func f) = .func (.func f) #[] #[] := fun _ => rfl
        refine want_yes rfl rfl h3 ?_
        unfold Oper.wp
        generalize a.eval = ρ at *
        go_simp
        try go_bits
        first | exact rel_val (Chg.refl _) | (go_simp; exact rel_val (Chg.refl _))
      case ao6 =>
        rintro a wx hE hin (h3 : a.eval (.tmp 29) = _) (h5 : a.eval (.tmp 31) = _)
        clear hin
        have hcst : ∀ v, a.eval (.const v) = v := fun _ => rfl
        have hfnc : ∀ f, a.eval (.func f) = .func (.func f) #[] #[] := fun _ => rfl
        refine want_none rfl ?_
        unfold Oper.wp
        generalize a.eval = ρ at *
        go_simp
        try go_bits
        first | exact rel_val (Chg.refl _) | (go_simp; exact rel_val (Chg.refl _))
      case ao7 =>
        rintro a wx hE hin (h6 : a.eval (.tmp 32) = _)
        clear hin
        have hcst : ∀ v, a.eval (.const v) = v := fun _ => rfl
        have hfnc : ∀ f, a.eval (.func f) = .func (.func f) #[] #[] := fun _ => rfl
        refine want_none rfl ?_
        unfold Oper.wp
        generalize a.eval = ρ at *
        go_simp
        try go_bits
        first | exact rel_val (Chg.refl _) | (go_simp; exact rel_val (Chg.refl _))
      case ao8 =>
        rintro a wx hE hin (h7 : a.eval (.tmp 33) = _)
        have i3 : a.eval (.tmp 3) = .pointer none := hin 3 rfl
        clear hin
        have hcst : ∀ v, a.eval (.const v) = v := fun _ => rfl
        have hfnc : ∀ f, a.eval (.func f) = .func (.func f) #[] #[] := fun _ => rfl
        refine want_yes rfl rfl h7 ?_
        unfold Oper.wp
        generalize a.eval = ρ at *
        go_simp
        try go_bits
        first | exact rel_val (Chg.refl _) | (go_simp; exact rel_val (Chg.refl _))
      case ao9 =>
        rintro a wx hE hin (h7 : a.eval (.tmp 33) = _)
        have i1 : a.eval (.tmp 1) = .pointer (some ⟨w.heap.size, 0, none⟩) := hin 1 rfl
        clear hin
        have hcst : ∀ v, a.eval (.const v) = v := fun _ => rfl
        have hfnc : ∀ f, a.eval (.func f) = .func (.func f) #[] #[] := fun _ => rfl
        refine want_yes rfl rfl h7 ?_
        unfold Oper.wp
        generalize a.eval = ρ at *
        go_simp
        try go_bits
        first | exact rel_val (Chg.refl _) | (go_simp; exact rel_val (Chg.refl _))
      case ao10 =>
        rintro a wx hE hin (h7 : a.eval (.tmp 33) = _) (h9 : a.eval (.tmp 35) = _)
        clear hin
        have hcst : ∀ v, a.eval (.const v) = v := fun _ => rfl
        have hfnc : ∀ f, a.eval (.func f) = .func (.func f) #[] #[] := fun _ => rfl
        refine want_yes rfl rfl h7 ?_
        unfold Oper.wp
        generalize a.eval = ρ at *
        have c := Bk.cell (j := 1) ((B6.out.drew).chg hE id) C1.out
        go_simp
        try go_bits
        first | exact rel_val (Chg.refl _) | (go_simp; exact rel_val (Chg.refl _))
      case ao11 =>
        rintro a wx hE hin (h7 : a.eval (.tmp 33) = _)
        have i1 : a.eval (.tmp 1) = .pointer (some ⟨w.heap.size, 0, none⟩) := hin 1 rfl
        clear hin
        have hcst : ∀ v, a.eval (.const v) = v := fun _ => rfl
        have hfnc : ∀ f, a.eval (.func f) = .func (.func f) #[] #[] := fun _ => rfl
        refine want_yes rfl rfl h7 ?_
        unfold Oper.wp
        generalize a.eval = ρ at *
        go_simp
        try go_bits
        first | exact rel_val (Chg.refl _) | (go_simp; exact rel_val (Chg.refl _))
      case ao12 =>
        rintro a wx hE hin (h7 : a.eval (.tmp 33) = _) (h11 : a.eval (.tmp 37) = _)
        clear hin
        have hcst : ∀ v, a.eval (.const v) = v := fun _ => rfl
        have hfnc : ∀ f, a.eval (.func f) = .func (.func f) #[] #[] := fun _ => rfl
        refine want_yes rfl rfl h7 ?_
        unfold Oper.wp
        generalize a.eval = ρ at *
        have c := Bk.cell (j := 2) ((B6.out.drew).chg hE id) C2.out
        go_simp
        try go_bits
        first | exact rel_val (Chg.refl _) | (go_simp; exact rel_val (Chg.refl _))
      case ao13 =>
        rintro a wx hE hin (h7 : a.eval (.tmp 33) = _) (h12 : a.eval (.tmp 38) = _)
        clear hin
        have hcst : ∀ v, a.eval (.const v) = v := fun _ => rfl
        have hfnc : ∀ f, a.eval (.func f) = .func (.func f) #[] #[] := fun _ => rfl
        refine want_yes rfl rfl h7 ?_
        unfold Oper.wp
        generalize a.eval = ρ at *
        go_simp
        refine (fill_calls _ wx).mono ?_
        rintro e w' ⟨rfl, hb⟩
        exact rel_val (.of_below hb)
      case ao14 =>
        rintro a wx hE hin (h7 : a.eval (.tmp 33) = _) (h8 : a.eval (.tmp 34) = _) (h10 : a.eval (.tmp 36) = _) (h13 : a.eval (.tmp 39) = _)
        clear hin
        have hcst : ∀ v, a.eval (.const v) = v := fun _ => rfl
        have hfnc : ∀ f, a.eval (.func f) = .func (.func f) #[] #[] := fun _ => rfl
        refine want_yes rfl rfl h7 ?_
        unfold Oper.wp
        generalize a.eval = ρ at *
        go_simp
        refine (diskWrite_nil wx _ _).mono ?_
        rintro e w' ⟨rfl, hb⟩
        exact rel_val (.of_below hb)
      case ao15 =>
        rintro a wx hE hin (h7 : a.eval (.tmp 33) = _) (h14 : a.eval (.tmp 40) = _)
        clear hin
        have hcst : ∀ v, a.eval (.const v) = v := fun _ => rfl
        have hfnc : ∀ f, a.eval (.func f) = .func (.func f) #[] #[] := fun _ => rfl
        refine want_yes rfl rfl h7 ?_
        unfold Oper.wp
        generalize a.eval = ρ at *
        go_simp
        try go_bits
        first | exact rel_val (Chg.refl _) | (go_simp; exact rel_val (Chg.refl _))
      case ao16 =>
        rintro a wx hE hin (h7 : a.eval (.tmp 33) = _) (h15 : a.eval (.tmp 41) = _)
        clear hin
        have hcst : ∀ v, a.eval (.const v) = v := fun _ => rfl
        have hfnc : ∀ f, a.eval (.func f) = .func (.func f) #[] #[] := fun _ => rfl
        refine want_none rfl ?_
        unfold Oper.wp
        generalize a.eval = ρ at *
        go_simp
        try go_bits
        first | exact rel_val (Chg.refl _) | (go_simp; exact rel_val (Chg.refl _))
      case ao17 =>
        rintro a wx hE hin (h16 : a.eval (.tmp 42) = _)
        clear hin
        have hcst : ∀ v, a.eval (.const v) = v := fun _ => rfl
        have hfnc : ∀ f, a.eval (.func f) = .func (.func f) #[] #[] := fun _ => rfl
        refine want_none rfl ?_
        unfold Oper.wp
        generalize a.eval = ρ at *
        go_simp
        try go_bits
        first | exact rel_val (Chg.refl _) | (go_simp; exact rel_val (Chg.refl _))
      case ao18 =>
        rintro a wx hE hin (h17 : a.eval (.tmp 43) = _)
        have i3 : a.eval (.tmp 3) = .pointer none := hin 3 rfl
        clear hin
        have hcst : ∀ v, a.eval (.const v) = v := fun _ => rfl
        have hfnc : ∀ f, a.eval (.func f) = .func (.func f) #[] #[] := fun _ => rfl
        refine want_yes rfl rfl h17 ?_
        unfold Oper.wp
        generalize a.eval = ρ at *
        go_simp
        try go_bits
        first | exact rel_val (Chg.refl _) | (go_simp; exact rel_val (Chg.refl _))
      case ao19 =>
        rintro a wx hE hin (h17 : a.eval (.tmp 43) = _) (h18 : a.eval (.tmp 44) = _)
        clear hin
        have hcst : ∀ v, a.eval (.const v) = v := fun _ => rfl
        have hfnc : ∀ f, a.eval (.func f) = .func (.func f) #[] #[] := fun _ => rfl
        refine want_yes rfl rfl h17 ?_
        unfold Oper.wp
        generalize a.eval = ρ at *
        go_simp
        refine (diskFlush_nil wx).mono ?_
        rintro e w' ⟨rfl, rfl⟩
        exact rel_val (Chg.refl _)
      case ao20 =>
        rintro a wx hE hin (h17 : a.eval (.tmp 43) = _) (h19 : a.eval (.tmp 45) = _)
        clear hin
        have hcst : ∀ v, a.eval (.const v) = v := fun _ => rfl
        have hfnc : ∀ f, a.eval (.func f) = .func (.func f) #[] #[] := fun _ => rfl
        refine want_yes rfl rfl h17 ?_
        unfold Oper.wp
        generalize a.eval = ρ at *
        go_simp
        try go_bits
        first | exact rel_val (Chg.refl _) | (go_simp; exact rel_val (Chg.refl _))
      case ao21 =>
        rintro a wx hE hin (h17 : a.eval (.tmp 43) = _) (h20 : a.eval (.tmp 46) = _)
        clear hin
        have hcst : ∀ v, a.eval (.const v) = v := fun _ => rfl
        have hfnc : ∀ f, a.eval (.func f) = .func (.func f) #[] #[] := fun _ => rfl
        refine want_none rfl ?_
        unfold Oper.wp
        generalize a.eval = ρ at *
        go_simp
        try go_bits
        first | exact rel_val (Chg.refl _) | (go_simp; exact rel_val (Chg.refl _))
      case ao22 =>
        rintro a wx hE hin (h21 : a.eval (.tmp 47) = _)
        clear hin
        have hcst : ∀ v, a.eval (.const v) = v := fun _ => rfl
        have hfnc : ∀ f, a.eval (.func f) = .func (.func f) #[] #[] := fun _ => rfl
        refine want_none rfl ?_
        unfold Oper.wp
        generalize a.eval = ρ at *
        go_simp
        try go_bits
        first | exact rel_val (Chg.refl _) | (go_simp; exact rel_val (Chg.refl _))
      case ao23 =>
        rintro a wx hE hin (h22 : a.eval (.tmp 48) = _)
        have i3 : a.eval (.tmp 3) = .pointer none := hin 3 rfl
        clear hin
        have hcst : ∀ v, a.eval (.const v) = v := fun _ => rfl
        have hfnc : ∀ f, a.eval (.func f) = .func (.func f) #[] #[] := fun _ => rfl
        refine want_yes rfl rfl h22 ?_
        unfold Oper.wp
        generalize a.eval = ρ at *
        go_simp
        try go_bits
        first | exact rel_val (Chg.refl _) | (go_simp; exact rel_val (Chg.refl _))
      case ao24 =>
        rintro a wx hE hin (h22 : a.eval (.tmp 48) = _) (h23 : a.eval (.tmp 49) = _)
        clear hin
        have hcst : ∀ v, a.eval (.const v) = v := fun _ => rfl
        have hfnc : ∀ f, a.eval (.func f) = .func (.func f) #[] #[] := fun _ => rfl
        refine want_yes rfl rfl h22 ?_
        unfold Oper.wp
        generalize a.eval = ρ at *
        go_simp
        refine (diskLoose_nil wx).mono ?_
        rintro e w' ⟨rfl, rfl⟩
        exact rel_val (Chg.refl _)
      case ao25 =>
        rintro a wx hE hin (h22 : a.eval (.tmp 48) = _) (h24 : a.eval (.tmp 50) = _)
        clear hin
        have hcst : ∀ v, a.eval (.const v) = v := fun _ => rfl
        have hfnc : ∀ f, a.eval (.func f) = .func (.func f) #[] #[] := fun _ => rfl
        refine want_yes rfl rfl h22 ?_
        unfold Oper.wp
        generalize a.eval = ρ at *
        go_simp
        try go_bits
        first | exact rel_val (Chg.refl _) | (go_simp; exact rel_val (Chg.refl _))
      case ao26 =>
        rintro a wx hE hin (h22 : a.eval (.tmp 48) = _) (h25 : a.eval (.tmp 51) = _)
        clear hin
        have hcst : ∀ v, a.eval (.const v) = v := fun _ => rfl
        have hfnc : ∀ f, a.eval (.func f) = .func (.func f) #[] #[] := fun _ => rfl
        refine want_none rfl ?_
        unfold Oper.wp
        generalize a.eval = ρ at *
        go_simp
        try go_bits
        first | exact rel_val (Chg.refl _) | (go_simp; exact rel_val (Chg.refl _))
      case ao27 =>
        rintro a wx hE hin (h26 : a.eval (.tmp 52) = _)
        clear hin
        have hcst : ∀ v, a.eval (.const v) = v := fun _ => rfl
        have hfnc : ∀ f, a.eval (.func f) = .func (.func f) #[] #[] := fun _ => rfl
        refine want_none rfl ?_
        unfold Oper.wp
        generalize a.eval = ρ at *
        go_simp
        try go_bits
        first | exact rel_val (Chg.refl _) | (go_simp; exact rel_val (Chg.refl _))
      case ao28 =>
        rintro a wx hE hin (h27 : a.eval (.tmp 53) = _)
        have i3 : a.eval (.tmp 3) = .pointer none := hin 3 rfl
        clear hin
        have hcst : ∀ v, a.eval (.const v) = v := fun _ => rfl
        have hfnc : ∀ f, a.eval (.func f) = .func (.func f) #[] #[] := fun _ => rfl
        refine want_yes rfl rfl h27 ?_
        unfold Oper.wp
        generalize a.eval = ρ at *
        go_simp
        try go_bits
        first | exact rel_val (Chg.refl _) | (go_simp; exact rel_val (Chg.refl _))
      case ao29 =>
        rintro a wx hE hin (h27 : a.eval (.tmp 53) = _) (h28 : a.eval (.tmp 54) = _)
        clear hin
        have hcst : ∀ v, a.eval (.const v) = v := fun _ => rfl
        have hfnc : ∀ f, a.eval (.func f) = .func (.func f) #[] #[] := fun _ => rfl
        refine want_yes rfl rfl h27 ?_
        unfold Oper.wp
        generalize a.eval = ρ at *
        go_simp
        refine (diskLen_nil wx).mono ?_
        rintro e w' ⟨rfl, rfl⟩
        exact rel_val (Chg.refl _)
      case ao30 =>
        rintro a wx hE hin (h27 : a.eval (.tmp 53) = _) (h29 : a.eval (.tmp 55) = _)
        clear hin
        have hcst : ∀ v, a.eval (.const v) = v := fun _ => rfl
        have hfnc : ∀ f, a.eval (.func f) = .func (.func f) #[] #[] := fun _ => rfl
        refine want_yes rfl rfl h27 ?_
        unfold Oper.wp
        generalize a.eval = ρ at *
        go_simp
        try go_bits
        first | exact rel_val (Chg.refl _) | (go_simp; exact rel_val (Chg.refl _))
      case ao31 =>
        rintro a wx hE hin (h27 : a.eval (.tmp 53) = _) (h30 : a.eval (.tmp 56) = _)
        clear hin
        have hcst : ∀ v, a.eval (.const v) = v := fun _ => rfl
        have hfnc : ∀ f, a.eval (.func f) = .func (.func f) #[] #[] := fun _ => rfl
        refine want_none rfl ?_
        unfold Oper.wp
        generalize a.eval = ρ at *
        go_simp
        try go_bits
        first | exact rel_val (Chg.refl _) | (go_simp; exact rel_val (Chg.refl _))
      case ao32 =>
        rintro a wx hE hin (h31 : a.eval (.tmp 57) = _)
        clear hin
        have hcst : ∀ v, a.eval (.const v) = v := fun _ => rfl
        have hfnc : ∀ f, a.eval (.func f) = .func (.func f) #[] #[] := fun _ => rfl
        refine want_none rfl ?_
        unfold Oper.wp
        generalize a.eval = ρ at *
        go_simp
        try go_bits
        first | exact rel_val (Chg.refl _) | (go_simp; exact rel_val (Chg.refl _))
      case ao33 =>
        rintro a wx hE hin (h32 : a.eval (.tmp 58) = _)
        have i3 : a.eval (.tmp 3) = .pointer none := hin 3 rfl
        clear hin
        have hcst : ∀ v, a.eval (.const v) = v := fun _ => rfl
        have hfnc : ∀ f, a.eval (.func f) = .func (.func f) #[] #[] := fun _ => rfl
        refine want_yes rfl rfl h32 ?_
        unfold Oper.wp
        generalize a.eval = ρ at *
        go_simp
        try go_bits
        first | exact rel_val (Chg.refl _) | (go_simp; exact rel_val (Chg.refl _))
      case ao34 =>
        rintro a wx hE hin (h32 : a.eval (.tmp 58) = _) (h33 : a.eval (.tmp 59) = _)
        clear hin
        have hcst : ∀ v, a.eval (.const v) = v := fun _ => rfl
        have hfnc : ∀ f, a.eval (.func f) = .func (.func f) #[] #[] := fun _ => rfl
        refine want_yes rfl rfl h32 ?_
        unfold Oper.wp
        generalize a.eval = ρ at *
        go_simp
        refine (diskDown_nil wx).mono ?_
        rintro e w' ⟨rfl, rfl⟩
        exact rel_val (Chg.refl _)
      case ao35 =>
        rintro a wx hE hin (h32 : a.eval (.tmp 58) = _) (h34 : a.eval (.tmp 60) = _)
        clear hin
        have hcst : ∀ v, a.eval (.const v) = v := fun _ => rfl
        have hfnc : ∀ f, a.eval (.func f) = .func (.func f) #[] #[] := fun _ => rfl
        refine want_yes rfl rfl h32 ?_
        unfold Oper.wp
        generalize a.eval = ρ at *
        go_simp
        try go_bits
        first | exact rel_val (Chg.refl _) | (go_simp; exact rel_val (Chg.refl _))
      case ao36 =>
        rintro a wx hE hin (h32 : a.eval (.tmp 58) = _) (h35 : a.eval (.tmp 61) = _)
        clear hin
        have hcst : ∀ v, a.eval (.const v) = v := fun _ => rfl
        have hfnc : ∀ f, a.eval (.func f) = .func (.func f) #[] #[] := fun _ => rfl
        refine want_none rfl ?_
        unfold Oper.wp
        generalize a.eval = ρ at *
        go_simp
        try go_bits
        first | exact rel_val (Chg.refl _) | (go_simp; exact rel_val (Chg.refl _))
      case ao37 =>
        rintro a wx hE hin (h36 : a.eval (.tmp 62) = _)
        clear hin
        have hcst : ∀ v, a.eval (.const v) = v := fun _ => rfl
        have hfnc : ∀ f, a.eval (.func f) = .func (.func f) #[] #[] := fun _ => rfl
        refine want_none rfl ?_
        unfold Oper.wp
        generalize a.eval = ρ at *
        go_simp
        try go_bits
        first | exact rel_val (Chg.refl _) | (go_simp; exact rel_val (Chg.refl _))
      case ao38 =>
        rintro a wx hE hin (h37 : a.eval (.tmp 63) = _)
        clear hin
        have hcst : ∀ v, a.eval (.const v) = v := fun _ => rfl
        have hfnc : ∀ f, a.eval (.func f) = .func (.func f) #[] #[] := fun _ => rfl
        refine want_yes rfl rfl h37 ?_
        unfold Oper.wp
        generalize a.eval = ρ at *
        go_simp
        refine (wakes5_calls wx).mono ?_
        rintro e w' ⟨rfl, hb⟩
        exact rel_val (.of_below hb)
      case ao39 =>
        rintro a wx hE hin (h37 : a.eval (.tmp 63) = _) (h38 : a.eval (.tmp 64) = _)
        clear hin
        have hcst : ∀ v, a.eval (.const v) = v := fun _ => rfl
        have hfnc : ∀ f, a.eval (.func f) = .func (.func f) #[] #[] := fun _ => rfl
        refine want_none rfl ?_
        unfold Oper.wp
        generalize a.eval = ρ at *
        go_simp
        try go_bits
        first | exact rel_val (Chg.refl _) | (go_simp; exact rel_val (Chg.refl _))
    case afin =>
      intro wx hE
      rintro _ rfl _ rfl _ rfl _ rfl _ rfl _ rfl _ rfl _ rfl _ rfl _ rfl _ rfl _ rfl _ rfl _ rfl _ rfl _ rfl _ rfl _ rfl _ rfl _ rfl _ rfl _ rfl _ rfl _ rfl _ rfl _ rfl _ rfl _ rfl _ rfl _ rfl _ rfl _ rfl _ rfl _ rfl _ rfl _ rfl _ rfl _ rfl _ rfl _ rfl
      simp only [FinOk, List.take_succ_cons, List.take_zero, List.take_nil, List.drop_succ_cons, List.drop_zero, List.drop_nil, Act.put, List.setIfInBounds_toArray, List.set_cons_succ, List.set_cons_zero]
      have HE : Hid (Below w.heap.size w wx) := E6.out.trans ((hE.undrew).below (B := w.heap.size) E6.out.size (fun _ _ => id))
      clear hE
      go_wp2
      go_ret
      exact ⟨rfl, HE.out⟩
end Go.Proofs.Ytnpcehlbboeadaa
