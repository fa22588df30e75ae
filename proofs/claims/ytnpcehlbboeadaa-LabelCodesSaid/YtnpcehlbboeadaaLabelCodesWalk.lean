/- The walk of LabelCodes. -/
import Derived.Test.YtnpcehlbboeadaaLabRefDec
import Derived.ArgAppend
namespace Go.Proofs.Ytnpcehlbboeadaa
open Go.RowKit
set_option linter.unusedVariables false
set_option linter.unusedSimpArgs false

theorem infoPut2 : (Try.prog.info? 84).map (fun i => (i.zero, i.size, i.bytes)) = some (some zPut, 33, 40) := by kernel_rfl
/-- append onto an empty slice without capacity. -/
theorem run_append_empty {P : Program} (w : World) (t ty e : TypeId) (z : Value) (size bytes : Nat) (ht : P.underlying t = some (.slice e)) (hinfo : (P.info? e).map (fun i => (i.zero, i.size, i.bytes)) = some (some z, size, bytes))
    (hzs : z.cells.size = size) (hsz : 0 < size) (hby : 0 < bytes) (b : Addr) (A : Option Addr) (m c : Nat) (ys : List Value) (hl : ys.length = m * size) (HR : Rd w A ys) (hbytes : m * bytes ≤ 140737488355328) :
    ∃ A1 c1 w', (Builtin.append_ #[t, t] ty #[.slice (some b) 0 0, .slice A m c]).run P w = .ok (.slice A1 m c1) w' ∧ Rd w' A1 ys ∧ Chg NoS w w' := by
  obtain ⟨i0, hi, hzz⟩ := Option.map_eq_some_iff.1 hinfo
  simp only [Prod.mk.injEq] at hzz
  obtain ⟨hz0, hz1, hz2⟩ := hzz
  rcases Nat.eq_zero_or_pos m with h0 | h0
  · subst h0
    have hy : ys = [] := List.eq_nil_of_length_eq_zero (by omega)
    subst hy
    refine ⟨some b, 0, w, ?_, Rd.nil _ _, Chg.refl w⟩
    cases A with
    | none => simp [Builtin.append_, run_underlying ht, sizeOf, typeInfo, hi, Builtin.lenOf, Builtin.firstCells, storeCells]
    | some ad =>
      have hl0 := run_loadCells_list (P := P) w ad [] (fun j v h => by simp at h)
      simp only [List.length_nil] at hl0
      simp [Builtin.append_, run_underlying ht, sizeOf, typeInfo, hi, Builtin.lenOf, Builtin.firstCells, storeCells, hl0]
  · obtain ⟨ad, rfl, _⟩ := HR.at_ 0 (by rw [hl]; exact Nat.mul_pos h0 hsz)
    have hm : m ≤ 140737488355328 := Nat.le_trans (Nat.le_mul_of_pos_right _ hby) hbytes
    obtain ⟨v', w', hr, ho, hg⟩ := run_append_arg_grows (P := P) w t ty e i0 z size bytes ht hi hz0 hz1 hz2 hzs hsz b 0 0 [] (by simp) (fun j u h => by simp at h) ad m c ys hl
      (fun j u hu => by obtain ⟨ad', e', hc⟩ := HR j u hu; injection e' with e'; subst e'; exact hc) (by omega) (by simp only [maxLen]; omega) (by simpa using hbytes)
    rw [Nat.zero_add, List.nil_append] at ho
    obtain ⟨A1, c1, rfl, hrd, _, _⟩ := own_rd ho
    exact ⟨A1, c1, w', hr, hrd, ⟨hg.os, hg.tape, hg.output, hg.size, fun k hk _ => hg.block k hk (fun h => by cases h)⟩⟩
theorem wp_append_empty {P : Program} {o : Oper} {a : Act} {w : World} {K : Act → World → Prop} {Q : Exit → Act → World → Prop} (s x : Operand) (t : TypeId) (ho : o.op = .call { callee := .builtin .append, args := #[s, x], argTypes := #[t, t] }) (e : TypeId) (z : Value) (size bytes : Nat) (ht : P.underlying t = some (.slice e)) (hinfo : (P.info? e).map (fun i => (i.zero, i.size, i.bytes)) = some (some z, size, bytes))
    (hzs : z.cells.size = size) (hsz : 0 < size) (hby : 0 < bytes) (b : Addr) (hs : a.eval s = .slice (some b) 0 0) (A : Option Addr) (m c : Nat) (ys : List Value) (hx : a.eval x = .slice A m c) (hl : ys.length = m * size) (HR : Rd w A ys) (hbytes : m * bytes ≤ 140737488355328)
    (h : ∀ A1 c1 w', Rd w' A1 ys → Chg NoS w w' → K (a.put o.dst (.slice A1 m c1)) w') : o.wp P a w K Q := by
  obtain ⟨A1, c1, w', hr, h1, h2⟩ := run_append_empty (P := P) w t o.type e z size bytes ht hinfo hzs hsz hby b A m c ys hl HR hbytes
  unfold Oper.wp execOp
  simp only [ho, resolve, invoke, builtin, Sem.run_bind, Sem.run_pure, Result.andThen_ok, List.map_toArray, List.map_cons, List.map_nil, hs, hx, hr]
  exact h A1 c1 w' h1 h2
section
variable {H : Type} {enc : TypeId × Value → H} {W : World}
theorem cAsked : Try.prog.cellsOf 67 = 5 := by kernel_rfl
theorem cN4 : Try.prog.cellsOf 64 = 4 := by kernel_rfl
theorem cLP : Try.prog.cellsOf 65 = 1 := by kernel_rfl
set_option maxRecDepth 100000 in
theorem TC.asked {cs : List Value} (h : TC enc Try.prog W 67 cs) : ∃ a0 a1 a2 a3 A n c ps, cs = [vu32 a0, vu32 a1, vu32 a2, vu32 a3, .slice A n c] ∧ ps.length = n ∧ n ≤ c ∧ c ≤ 9223372036854775807 ∧ Rd W A (ps.flatMap putC) ∧ PutsOk ps := by
  obtain ⟨hl, hf⟩ := h.struct Try.underlying67
  rw [cAsked] at hl
  match cs, hl with
  | [a, b, c, d, e], _ =>
    have f0 : TC enc Try.prog W 64 (([a, b, c, d, e].drop 0).take (Try.prog.cellsOf 64)) := hf 0 _ rfl
    have f1 : TC enc Try.prog W 65 (([a, b, c, d, e].drop 4).take (Try.prog.cellsOf 65)) := hf 1 _ rfl
    rw [cN4] at f0
    rw [cLP] at f1
    obtain ⟨l4, hl4, h4⟩ := f0.arr_u32 Try.underlying64 Try.underlying60 c32 cN4
    obtain ⟨a0, a1, a2, a3, rfl⟩ := four_of hl4
    obtain ⟨A, n, cap, ps, h5, h6, h7, h8, h9, h10⟩ := f1.puts
    simp at h4 h5
    exact ⟨a0, a1, a2, a3, A, n, cap, ps, by simp [h4, h5], h6, h7, h8, h9, h10⟩
end
set_option maxRecDepth 100000 in
set_option maxHeartbeats 8000000 in
theorem labelCodes_calls (w : World) (l : Lab) (b : List UInt8) (a0 a1 a2 a3 : UInt32) (Ap : Option Addr) (np cp : Nat) (ps : List PutV) (hbl : b.length = 32) (hpl : ps.length = np) (hnc : np ≤ cp) (hcm : cp ≤ 9223372036854775807) (hr : Rd w Ap (ps.flatMap putC)) (ho : PutsOk ps) :
    Calls Try.prog 8 #[.agg (labC l).toArray, .agg (bts b).toArray, .agg #[vu32 a0, vu32 a1, vu32 a2, vu32 a3, .slice Ap np cp]] w fun e w' => e = .returned (.bool true) ∧ Below w.heap.size w w' := by
  subst hpl
  have HbL := Lib.hid hbl
  have HPO := Lib.hid ho
  obtain ⟨kk, hkk⟩ : ∃ kk, (labDec b).1 = kk := ⟨_, rfl⟩
  obtain ⟨ee, hee⟩ : ∃ ee, (labDec b).2 = ee := ⟨_, rfl⟩
  have HKK := Lib.hid hkk
  have HEE := Lib.hid hee
  have HR0 := Lib.hid hr
  have HPF : Hid ((ps.flatMap putC).length = ps.length * 33) := flat_length putC 33 ps (fun p hp => putC_len (ho p hp).1)
  clear hbl ho hr hkk hee
  obtain ⟨va, hva⟩ : ∃ va, [vu32 a0, vu32 a1, vu32 a2, vu32 a3, .slice Ap ps.length cp] = va := ⟨_, rfl⟩
  have DA0 : Hid (va[0]? = some (vu32 a0)) := by rw [← hva]; exact (rfl : _ = _)
  have DA1 : Hid (va[1]? = some (vu32 a1)) := by rw [← hva]; exact (rfl : _ = _)
  have DA2 : Hid (va[2]? = some (vu32 a2)) := by rw [← hva]; exact (rfl : _ = _)
  have DA3 : Hid (va[3]? = some (vu32 a3)) := by rw [← hva]; exact (rfl : _ = _)
  have DA4 : Hid (va[4]? = some (.slice Ap ps.length cp)) := by rw [← hva]; exact (rfl : _ = _)
  rw [show (#[vu32 a0, vu32 a1, vu32 a2, vu32 a3, .slice Ap ps.length cp] : Array Value) = va.toArray by rw [← hva]]
  clear hva
  obtain ⟨w0, hw0⟩ : ∃ w0, ((w.alloc (.cells (labC l).toArray 63)).alloc (.cells (bts b).toArray 37)).alloc (.cells va.toArray 67) = w0 := ⟨_, rfl⟩
  have A0 : Hid (Bk w0 w.heap.size (labC l)) := by rw [← hw0]; exact ((Bk.new w (labC l) _).alloc _).alloc _
  have B0 : Hid (Bk w0 (w.heap.size + 1) (bts b)) := by rw [← hw0]; exact (Bk.new_at (by simp) rfl).alloc _
  have C0 : Hid (Bk w0 (w.heap.size + 1 + 1) va) := by rw [← hw0]; exact Bk.new_at (by simp) rfl
  have E0 : Hid (Below w.heap.size w w0) := by rw [← hw0]; exact (((Below.refl _ _).alloc (Nat.le_refl _) _).alloc (by simp) _).alloc (by simp; omega) _
  have c4 := C0.out.cell DA4.out
  have HW0 := Lib.hid hw0
  by_cases h100 : 100 < ps.length
  · have h100i : (100 : Int) < (ps.length : Int) := by omega
    go_enter Try.func8, Try.ntmps8
    go_wp2_with fail
    refine (wakes7_calls w0).mono ?_
    rintro e w9 ⟨rfl, hb⟩
    have E9 : Hid (Below w.heap.size w w9) := E0.out.trans (hb.mono E0.out.size)
    clear hb
    go_wp2
    go_ret
    exact ⟨rfl, E9.out⟩
  · have h100i : ¬ ((100 : Int) < (ps.length : Int)) := by omega
    have HP100 : Hid (ps.length ≤ 100) := by show _ ≤ _; omega
    go_enter Try.func8, Try.ntmps8
    go_wp2_with (refine wpList_ld rfl 37 (.tmp 4) rfl (w.heap.size + 1) 0 32 (bts b) (bts b) rfl B0.out (by kernel_rfl) (by kernel_rfl) (by rw [bts_length, HbL.out]; decide) (by rw [List.drop_zero, List.take_of_length_le (by rw [bts_length, HbL.out]; decide)]) ?_)
    refine (labDecode_calls b w0 HbL.out).mono ?_
    rintro e w3a ⟨rfl, hb⟩
    rw [HKK.out, HEE.out]
    have E3a : Hid (Below w.heap.size w w3a) := E0.out.trans (hb.mono E0.out.size)
    have A3a := Lib.hid (A0.out.below hb)
    have B3a := Lib.hid (B0.out.below hb)
    have C3a := Lib.hid (C0.out.below hb)
    clear hb
    go_wp2_with (refine wpList_al rfl 63 rfl (labC zLab) (by kernel_rfl) ?_)
    intro g7 w3b hg hb hc hs
    have E3b : Hid (Below w.heap.size w w3b) := E3a.out.trans (hc.below E3a.out.size (fun _ _ => id))
    have Gg7 : Hid (w.heap.size + 1 + 1 < g7) := by show _ < _; rw [hg]; exact C3a.out.lt
    have A3b := Lib.hid (A3a.out.chg hc id)
    have B3b := Lib.hid (B3a.out.chg hc id)
    have C3b := Lib.hid (C3a.out.chg hc id)
    have K3b := Lib.hid hb
    clear hg hb hc hs
    go_wp2_with (refine wpList_st rfl 63 (.tmp 7) (.tmp 19) rfl g7 0 5 (labC zLab) (labC kk) rfl rfl K3b.out (by kernel_rfl) rfl (by decide) (one_lab _) ?_)
    intro w3 hb hc
    rw [splice_whole (labC zLab) (labC kk) rfl] at hb
    have hgx := Gg7.out
    have E3 : Hid (Below w.heap.size w w3) := E3b.out.trans (hc.below E3b.out.size (fun _ _ => by omega))
    have A3 := Lib.hid (A3b.out.chg hc (by omega))
    have B3 := Lib.hid (B3b.out.chg hc (by omega))
    have C3 := Lib.hid (C3b.out.chg hc (by omega))
    have M3 := Lib.hid hb
    clear hb hc hgx

    clear c4 hw0
    go_wp2_with (refine wpList_ld rfl 37 (.tmp 4) rfl (w.heap.size + 1) 0 32 (bts b) (bts b) rfl B3.out (by kernel_rfl) (by kernel_rfl) (by rw [bts_length, HbL.out]; decide) (by rw [List.drop_zero, List.take_of_length_le (by rw [bts_length, HbL.out]; decide)]) ?_)
    refine (refLabDecode_calls b w3 HbL.out).mono ?_
    rintro e w5a ⟨rfl, hb⟩
    rw [HKK.out, HEE.out]
    have E5a : Hid (Below w.heap.size w w5a) := E3.out.trans (hb.mono E3.out.size)
    have A5a := Lib.hid (A3.out.below hb)
    have B5a := Lib.hid (B3.out.below hb)
    have C5a := Lib.hid (C3.out.below hb)
    have M5a := Lib.hid (M3.out.below hb)
    clear hb
    go_wp2_with (refine wpList_al rfl 63 rfl (labC zLab) (by kernel_rfl) ?_)
    intro g9 w5b hg hb hc hs
    have E5b : Hid (Below w.heap.size w w5b) := E5a.out.trans (hc.below E5a.out.size (fun _ _ => id))
    have Gg9 : Hid (w.heap.size + 1 + 1 < g9) := by show _ < _; rw [hg]; exact C5a.out.lt
    have GMg9 : Hid (g7 < g9) := by show _ < _; rw [hg]; exact M5a.out.lt
    have A5b := Lib.hid (A5a.out.chg hc id)
    have B5b := Lib.hid (B5a.out.chg hc id)
    have C5b := Lib.hid (C5a.out.chg hc id)
    have M5b := Lib.hid (M5a.out.chg hc id)
    have K5b := Lib.hid hb
    clear hg hb hc hs
    go_wp2_with (refine wpList_st rfl 63 (.tmp 9) (.tmp 24) rfl g9 0 5 (labC zLab) (labC kk) rfl rfl K5b.out (by kernel_rfl) rfl (by decide) (one_lab _) ?_)
    intro w5 hb hc
    rw [splice_whole (labC zLab) (labC kk) rfl] at hb
    have hgx := Gg9.out
    have hgM := GMg9.out
    have E5 : Hid (Below w.heap.size w w5) := E5b.out.trans (hc.below E5b.out.size (fun _ _ => by omega))
    have A5 := Lib.hid (A5b.out.chg hc (by omega))
    have B5 := Lib.hid (B5b.out.chg hc (by omega))
    have C5 := Lib.hid (C5b.out.chg hc (by omega))
    have M5 := Lib.hid (M5b.out.chg hc (by omega))
    have N5 := Lib.hid hb
    clear hb hc hgx hgM

    have A9 := A5
    have B9 := B5
    have C9 := C5
    have M9 := M5
    have N9 := N5
    have E9 := E5
    have HPR : Hid (Rd w5 Ap (ps.flatMap putC)) := HR0.out.below E5.out
    go_wp2_with fail
    apply wp_region_rel 58 (Chg NoS) [(Veq _), (Veq _), (Veq _), (Veq _), (Veq _), (Veq _), (Veq _), (Veq _), (Veq _), (Veq _), (Veq _), (Veq _), (Veq _), (Veq _), (Veq _), (Veq _), (Veq _), (Veq _), (Veq _), (Veq _), (Veq _), (Veq _), (Veq _), (Veq _), (Veq _), (Veq _), (Veq _), (Veq _), (Veq _), (Veq _), (Veq _), (Veq _), (Veq _), (Veq _), (Veq _), (Veq _), (Veq _), (Veq _), (Veq _), (Veq _), (Veq _), (Veq _), (Veq _), (Veq _), (Veq _), (RowAt NoS 0 _), (Veq _), (Veq _), (SlAt ps.length (ps.flatMap putC)), (Veq _), (Veq _), (Veq _), (Veq _), (Veq _), (Veq _), (Veq _), (Veq _), (Veq _)] [[], [0], [], [2], [1, 3], [4], [5], [5], [5, 6, 7], [5, 8], [9], [10], [10], [10, 11, 12], [10, 13], [14], [15], [15, 16], [15, 17], [15], [15, 19], [15, 20], [15], [15, 22], [15, 23], [15], [15, 25], [15, 26], [15, 18, 21, 24, 27], [15], [15, 29], [15, 30], [15], [15, 32], [15, 33], [15], [15, 35], [15, 36], [15], [15, 38], [15, 39], [15, 31, 34, 37, 40], [15, 28, 41], [15, 42], [43], [44], [44], [44, 46], [44, 45, 47], [44, 48], [44], [44, 50], [44, 51], [44, 49, 52], [44, 53], [54], [55], [55, 56]] [26, 27, 28, 29, 30, 31, 32, 33, 34, 35, 36, 37, 38, 39, 40, 41, 42, 43, 44, 45, 46, 47, 48, 49, 50, 51, 52, 53, 54, 55, 56, 57, 58, 59, 60, 61, 62, 63, 64, 65, 66, 67, 68, 69, 70, 71, 72, 73, 74, 75, 76, 77, 78, 79, 80, 81, 82, 83] (by kernel_rfl) (by kernel_rfl) rfl rfl rfl Chg.refl (fun _ _ _ => Chg.trans) ⟨Veq.lasts, Veq.lasts, Veq.lasts, Veq.lasts, Veq.lasts, Veq.lasts, Veq.lasts, Veq.lasts, Veq.lasts, Veq.lasts, Veq.lasts, Veq.lasts, Veq.lasts, Veq.lasts, Veq.lasts, Veq.lasts, Veq.lasts, Veq.lasts, Veq.lasts, Veq.lasts, Veq.lasts, Veq.lasts, Veq.lasts, Veq.lasts, Veq.lasts, Veq.lasts, Veq.lasts, Veq.lasts, Veq.lasts, Veq.lasts, Veq.lasts, Veq.lasts, Veq.lasts, Veq.lasts, Veq.lasts, Veq.lasts, Veq.lasts, Veq.lasts, Veq.lasts, Veq.lasts, Veq.lasts, Veq.lasts, Veq.lasts, Veq.lasts, Veq.lasts, RowAt.lasts, Veq.lasts, Veq.lasts, SlAt.lasts, Veq.lasts, Veq.lasts, Veq.lasts, Veq.lasts, Veq.lasts, Veq.lasts, Veq.lasts, Veq.lasts, Veq.lasts, trivial⟩ ?aops ?afin
    case aops =>
      refine ⟨?ao0, ?ao1, ?ao2, ?ao3, ?ao4, ?ao5, ?ao6, ?ao7, ?ao8, ?ao9, ?ao10, ?ao11, ?ao12, ?ao13, ?ao14, ?ao15, ?ao16, ?ao17, ?ao18, ?ao19, ?ao20, ?ao21, ?ao22, ?ao23, ?ao24, ?ao25, ?ao26, ?ao27, ?ao28, ?ao29, ?ao30, ?ao31, ?ao32, ?ao33, ?ao34, ?ao35, ?ao36, ?ao37, ?ao38, ?ao39, ?ao40, ?ao41, ?ao42, ?ao43, ?ao44, ?ao45, ?ao46, ?ao47, ?ao48, ?ao49, ?ao50, ?ao51, ?ao52, ?ao53, ?ao54, ?ao55, ?ao56, ?ao57, trivial⟩
      case ao0 =>
        intro a wx hE hin
        have i3 : a.eval (.tmp 3) = .pointer (some ⟨w.heap.size, 0, none⟩) := hin 3 rfl
        clear hin
        have hcst : ∀ v, a.eval (.const v) = v := fun _ => rfl
        have hfnc : ∀ f, a.eval (.func f) = .func (.func f) #[] #[] := fun _ => rfl
        refine want_none rfl ?_
        exact wp_ld 63 _ rfl w.heap.size 0 5 (labC l) (labC l) i3 ((A9.out.drew).chg hE id) (by kernel_rfl) (by kernel_rfl) (Nat.le_refl _) rfl (rel_val (Chg.refl _))
      case ao1 =>
        rintro a wx hE hin (h0 : a.eval (.tmp 26) = _)
        clear hin
        have hcst : ∀ v, a.eval (.const v) = v := fun _ => rfl
        have hfnc : ∀ f, a.eval (.func f) = .func (.func f) #[] #[] := fun _ => rfl
        refine want_none rfl ?_
        unfold Oper.wp
        generalize a.eval = ρ at *
        go_simp
        refine (labEncode_calls l wx).mono ?_
        rintro e w' ⟨rfl, hb⟩
        exact rel_val (.of_below hb)
      case ao2 =>
        intro a wx hE hin
        have i3 : a.eval (.tmp 3) = .pointer (some ⟨w.heap.size, 0, none⟩) := hin 3 rfl
        clear hin
        have hcst : ∀ v, a.eval (.const v) = v := fun _ => rfl
        have hfnc : ∀ f, a.eval (.func f) = .func (.func f) #[] #[] := fun _ => rfl
        refine want_none rfl ?_
        exact wp_ld 63 _ rfl w.heap.size 0 5 (labC l) (labC l) i3 ((A9.out.drew).chg hE id) (by kernel_rfl) (by kernel_rfl) (Nat.le_refl _) rfl (rel_val (Chg.refl _))
      case ao3 =>
        rintro a wx hE hin (h2 : a.eval (.tmp 28) = _)
        clear hin
        have hcst : ∀ v, a.eval (.const v) = v := fun _ => rfl
        have hfnc : ∀ f, a.eval (.func f) = .func (.func f) #[] #[] := fun _ => rfl
        refine want_none rfl ?_
        unfold Oper.wp
        generalize a.eval = ρ at *
        go_simp
        refine (refLabEncode_calls l wx).mono ?_
        rintro e w' ⟨rfl, hb⟩
        exact rel_val (.of_below hb)
      case ao4 =>
        rintro a wx hE hin (h1 : a.eval (.tmp 27) = _) (h3 : a.eval (.tmp 29) = _)
        clear hin
        have hcst : ∀ v, a.eval (.const v) = v := fun _ => rfl
        have hfnc : ∀ f, a.eval (.func f) = .func (.func f) #[] #[] := fun _ => rfl
        refine want_none rfl ?_
        exact wp_eq_bytes false 37 37 _ _ rfl 5 32 Try.underlying37 Try.underlying5 (by kernel_rfl) (by kernel_rfl) (labEnc l) (labEnc l) h1 h3 (labEnc_length l) (labEnc_length l) (by rw [show (false ^^ decide (labEnc l = labEnc l)) = true by simp]; exact rel_val (e := .bool true) (Chg.refl _))
      case ao5 =>
        rintro a wx hE hin (h4 : a.eval (.tmp 30) = _)
        clear hin
        have hcst : ∀ v, a.eval (.const v) = v := fun _ => rfl
        have hfnc : ∀ f, a.eval (.func f) = .func (.func f) #[] #[] := fun _ => rfl
        refine want_none rfl ?_
        unfold Oper.wp
        generalize a.eval = ρ at *
        go_simp
        try go_bits
        first | exact rel_val (Chg.refl _) | (go_simp; exact rel_val (Chg.refl _))
      case ao6 =>
        rintro a wx hE hin (h5 : a.eval (.tmp 31) = _)
        have i7 : a.eval (.tmp 7) = .pointer (some ⟨g7, 0, none⟩) := hin 7 rfl
        clear hin
        have hcst : ∀ v, a.eval (.const v) = v := fun _ => rfl
        have hfnc : ∀ f, a.eval (.func f) = .func (.func f) #[] #[] := fun _ => rfl
        refine want_yes rfl rfl h5 ?_
        exact wp_ld 63 _ rfl g7 0 5 (labC kk) (labC kk) i7 ((M9.out.drew).chg hE id) (by kernel_rfl) (by kernel_rfl) (Nat.le_refl _) rfl (rel_val (Chg.refl _))
      case ao7 =>
        rintro a wx hE hin (h5 : a.eval (.tmp 31) = _)
        have i9 : a.eval (.tmp 9) = .pointer (some ⟨g9, 0, none⟩) := hin 9 rfl
        clear hin
        have hcst : ∀ v, a.eval (.const v) = v := fun _ => rfl
        have hfnc : ∀ f, a.eval (.func f) = .func (.func f) #[] #[] := fun _ => rfl
        refine want_yes rfl rfl h5 ?_
        exact wp_ld 63 _ rfl g9 0 5 (labC kk) (labC kk) i9 ((N9.out.drew).chg hE id) (by kernel_rfl) (by kernel_rfl) (Nat.le_refl _) rfl (rel_val (Chg.refl _))
      case ao8 =>
        rintro a wx hE hin (h5 : a.eval (.tmp 31) = _) (h6 : a.eval (.tmp 32) = _) (h7 : a.eval (.tmp 33) = _)
        clear hin
        have hcst : ∀ v, a.eval (.const v) = v := fun _ => rfl
        have hfnc : ∀ f, a.eval (.func f) = .func (.func f) #[] #[] := fun _ => rfl
        refine want_yes rfl rfl h5 ?_
        exact wp_eq_lab false 63 _ _ rfl kk kk h6 h7 (by rw [show (false ^^ decide (kk = kk)) = true by simp]; exact rel_val (e := .bool true) (Chg.refl _))
      case ao9 =>
        rintro a wx hE hin (h5 : a.eval (.tmp 31) = _) (h8 : a.eval (.tmp 34) = _)
        clear hin
        have hcst : ∀ v, a.eval (.const v) = v := fun _ => rfl
        have hfnc : ∀ f, a.eval (.func f) = .func (.func f) #[] #[] := fun _ => rfl
        refine want_none rfl ?_
        unfold Oper.wp
        generalize a.eval = ρ at *
        go_simp
        try go_bits
        first | exact rel_val (Chg.refl _) | (go_simp; exact rel_val (Chg.refl _))
      case ao10 =>
        rintro a wx hE hin (h9 : a.eval (.tmp 35) = _)
        clear hin
        have hcst : ∀ v, a.eval (.const v) = v := fun _ => rfl
        have hfnc : ∀ f, a.eval (.func f) = .func (.func f) #[] #[] := fun _ => rfl
        refine want_none rfl ?_
        unfold Oper.wp
        generalize a.eval = ρ at *
        go_simp
        try go_bits
        first | exact rel_val (Chg.refl _) | (go_simp; exact rel_val (Chg.refl _))
      case ao11 =>
        rintro a wx hE hin (h10 : a.eval (.tmp 36) = _)
        have i8 : a.eval (.tmp 8) = .int .i64 ee := hin 8 rfl
        clear hin
        have hcst : ∀ v, a.eval (.const v) = v := fun _ => rfl
        have hfnc : ∀ f, a.eval (.func f) = .func (.func f) #[] #[] := fun _ => rfl
        refine want_yes rfl rfl h10 ?_
        unfold Oper.wp
        generalize a.eval = ρ at *
        go_simp
        try go_bits
        first | exact rel_val (Chg.refl _) | (go_simp; exact rel_val (Chg.refl _))
      case ao12 =>
        rintro a wx hE hin (h10 : a.eval (.tmp 36) = _)
        have i10 : a.eval (.tmp 10) = .int .i64 ee := hin 10 rfl
        clear hin
        have hcst : ∀ v, a.eval (.const v) = v := fun _ => rfl
        have hfnc : ∀ f, a.eval (.func f) = .func (.func f) #[] #[] := fun _ => rfl
        refine want_yes rfl rfl h10 ?_
        unfold Oper.wp
        generalize a.eval = ρ at *
        go_simp
        try go_bits
        first | exact rel_val (Chg.refl _) | (go_simp; exact rel_val (Chg.refl _))
      case ao13 =>
        rintro a wx hE hin (h10 : a.eval (.tmp 36) = _) (h11 : a.eval (.tmp 37) = _) (h12 : a.eval (.tmp 38) = _)
        clear hin
        have hcst : ∀ v, a.eval (.const v) = v := fun _ => rfl
        have hfnc : ∀ f, a.eval (.func f) = .func (.func f) #[] #[] := fun _ => rfl
        refine want_yes rfl rfl h10 ?_
        unfold Oper.wp
        generalize a.eval = ρ at *
        go_simp
        try go_bits
        first | exact rel_val (e := .bool true) (Chg.refl _) | (simp only [beq_self_eq_true]; exact rel_val (e := .bool true) (Chg.refl _))
      case ao14 =>
        rintro a wx hE hin (h10 : a.eval (.tmp 36) = _) (h13 : a.eval (.tmp 39) = _)
        clear hin
        have hcst : ∀ v, a.eval (.const v) = v := fun _ => rfl
        have hfnc : ∀ f, a.eval (.func f) = .func (.func f) #[] #[] := fun _ => rfl
        refine want_none rfl ?_
        unfold Oper.wp
        generalize a.eval = ρ at *
        go_simp
        try go_bits
        first | exact rel_val (Chg.refl _) | (go_simp; exact rel_val (Chg.refl _))
      case ao15 =>
        rintro a wx hE hin (h14 : a.eval (.tmp 40) = _)
        clear hin
        have hcst : ∀ v, a.eval (.const v) = v := fun _ => rfl
        have hfnc : ∀ f, a.eval (.func f) = .func (.func f) #[] #[] := fun _ => rfl
        refine want_none rfl ?_
        unfold Oper.wp
        generalize a.eval = ρ at *
        go_simp
        try go_bits
        first | exact rel_val (Chg.refl _) | (go_simp; exact rel_val (Chg.refl _))
      case ao16 =>
        rintro a wx hE hin (h15 : a.eval (.tmp 41) = _)
        have i5 : a.eval (.tmp 5) = .pointer (some ⟨(w.heap.size + 1 + 1), 0, none⟩) := hin 5 rfl
        clear hin
        have hcst : ∀ v, a.eval (.const v) = v := fun _ => rfl
        have hfnc : ∀ f, a.eval (.func f) = .func (.func f) #[] #[] := fun _ => rfl
        refine want_yes rfl rfl h15 ?_
        unfold Oper.wp
        generalize a.eval = ρ at *
        go_simp
        try go_bits
        first | exact rel_val (Chg.refl _) | (go_simp; exact rel_val (Chg.refl _))
      case ao17 =>
        rintro a wx hE hin (h15 : a.eval (.tmp 41) = _) (h16 : a.eval (.tmp 42) = _)
        clear hin
        have hcst : ∀ v, a.eval (.const v) = v := fun _ => rfl
        have hfnc : ∀ f, a.eval (.func f) = .func (.func f) #[] #[] := fun _ => rfl
        refine want_yes rfl rfl h15 ?_
        unfold Oper.wp
        generalize a.eval = ρ at *
        go_simp
        try go_bits
        first | exact rel_val (Chg.refl _) | (go_simp; exact rel_val (Chg.refl _))
      case ao18 =>
        rintro a wx hE hin (h15 : a.eval (.tmp 41) = _) (h17 : a.eval (.tmp 43) = _)
        clear hin
        have hcst : ∀ v, a.eval (.const v) = v := fun _ => rfl
        have hfnc : ∀ f, a.eval (.func f) = .func (.func f) #[] #[] := fun _ => rfl
        refine want_yes rfl rfl h15 ?_
        unfold Oper.wp
        generalize a.eval = ρ at *
        have c := Bk.cell ((C9.out.drew).chg hE id) DA0.out
        go_simp
        try go_bits
        first | exact rel_val (Chg.refl _) | (go_simp; exact rel_val (Chg.refl _))
      case ao19 =>
        rintro a wx hE hin (h15 : a.eval (.tmp 41) = _)
        have i5 : a.eval (.tmp 5) = .pointer (some ⟨(w.heap.size + 1 + 1), 0, none⟩) := hin 5 rfl
        clear hin
        have hcst : ∀ v, a.eval (.const v) = v := fun _ => rfl
        have hfnc : ∀ f, a.eval (.func f) = .func (.func f) #[] #[] := fun _ => rfl
        refine want_yes rfl rfl h15 ?_
        unfold Oper.wp
        generalize a.eval = ρ at *
        go_simp
        try go_bits
        first | exact rel_val (Chg.refl _) | (go_simp; exact rel_val (Chg.refl _))
      case ao20 =>
        rintro a wx hE hin (h15 : a.eval (.tmp 41) = _) (h19 : a.eval (.tmp 45) = _)
        clear hin
        have hcst : ∀ v, a.eval (.const v) = v := fun _ => rfl
        have hfnc : ∀ f, a.eval (.func f) = .func (.func f) #[] #[] := fun _ => rfl
        refine want_yes rfl rfl h15 ?_
        unfold Oper.wp
        generalize a.eval = ρ at *
        go_simp
        try go_bits
        first | exact rel_val (Chg.refl _) | (go_simp; exact rel_val (Chg.refl _))
      case ao21 =>
        rintro a wx hE hin (h15 : a.eval (.tmp 41) = _) (h20 : a.eval (.tmp 46) = _)
        clear hin
        have hcst : ∀ v, a.eval (.const v) = v := fun _ => rfl
        have hfnc : ∀ f, a.eval (.func f) = .func (.func f) #[] #[] := fun _ => rfl
        refine want_yes rfl rfl h15 ?_
        unfold Oper.wp
        generalize a.eval = ρ at *
        have c := Bk.cell ((C9.out.drew).chg hE id) DA1.out
        go_simp
        try go_bits
        first | exact rel_val (Chg.refl _) | (go_simp; exact rel_val (Chg.refl _))
      case ao22 =>
        rintro a wx hE hin (h15 : a.eval (.tmp 41) = _)
        have i5 : a.eval (.tmp 5) = .pointer (some ⟨(w.heap.size + 1 + 1), 0, none⟩) := hin 5 rfl
        clear hin
        have hcst : ∀ v, a.eval (.const v) = v := fun _ => rfl
        have hfnc : ∀ f, a.eval (.func f) = .func (.func f) #[] #[] := fun _ => rfl
        refine want_yes rfl rfl h15 ?_
        unfold Oper.wp
        generalize a.eval = ρ at *
        go_simp
        try go_bits
        first | exact rel_val (Chg.refl _) | (go_simp; exact rel_val (Chg.refl _))
      case ao23 =>
        rintro a wx hE hin (h15 : a.eval (.tmp 41) = _) (h22 : a.eval (.tmp 48) = _)
        clear hin
        have hcst : ∀ v, a.eval (.const v) = v := fun _ => rfl
        have hfnc : ∀ f, a.eval (.func f) = .func (.func f) #[] #[] := fun _ => rfl
        refine want_yes rfl rfl h15 ?_
        unfold Oper.wp
        generalize a.eval = ρ at *
        go_simp
        try go_bits
        first | exact rel_val (Chg.refl _) | (go_simp; exact rel_val (Chg.refl _))
      case ao24 =>
        rintro a wx hE hin (h15 : a.eval (.tmp 41) = _) (h23 : a.eval (.tmp 49) = _)
        clear hin
        have hcst : ∀ v, a.eval (.const v) = v := fun _ => rfl
        have hfnc : ∀ f, a.eval (.func f) = .func (.func f) #[] #[] := fun _ => rfl
        refine want_yes rfl rfl h15 ?_
        unfold Oper.wp
        generalize a.eval = ρ at *
        have c := Bk.cell ((C9.out.drew).chg hE id) DA2.out
        go_simp
        try go_bits
        first | exact rel_val (Chg.refl _) | (go_simp; exact rel_val (Chg.refl _))
      case ao25 =>
        rintro a wx hE hin (h15 : a.eval (.tmp 41) = _)
        have i5 : a.eval (.tmp 5) = .pointer (some ⟨(w.heap.size + 1 + 1), 0, none⟩) := hin 5 rfl
        clear hin
        have hcst : ∀ v, a.eval (.const v) = v := fun _ => rfl
        have hfnc : ∀ f, a.eval (.func f) = .func (.func f) #[] #[] := fun _ => rfl
        refine want_yes rfl rfl h15 ?_
        unfold Oper.wp
        generalize a.eval = ρ at *
        go_simp
        try go_bits
        first | exact rel_val (Chg.refl _) | (go_simp; exact rel_val (Chg.refl _))
      case ao26 =>
        rintro a wx hE hin (h15 : a.eval (.tmp 41) = _) (h25 : a.eval (.tmp 51) = _)
        clear hin
        have hcst : ∀ v, a.eval (.const v) = v := fun _ => rfl
        have hfnc : ∀ f, a.eval (.func f) = .func (.func f) #[] #[] := fun _ => rfl
        refine want_yes rfl rfl h15 ?_
        unfold Oper.wp
        generalize a.eval = ρ at *
        go_simp
        try go_bits
        first | exact rel_val (Chg.refl _) | (go_simp; exact rel_val (Chg.refl _))
      case ao27 =>
        rintro a wx hE hin (h15 : a.eval (.tmp 41) = _) (h26 : a.eval (.tmp 52) = _)
        clear hin
        have hcst : ∀ v, a.eval (.const v) = v := fun _ => rfl
        have hfnc : ∀ f, a.eval (.func f) = .func (.func f) #[] #[] := fun _ => rfl
        refine want_yes rfl rfl h15 ?_
        unfold Oper.wp
        generalize a.eval = ρ at *
        have c := Bk.cell ((C9.out.drew).chg hE id) DA3.out
        go_simp
        try go_bits
        first | exact rel_val (Chg.refl _) | (go_simp; exact rel_val (Chg.refl _))
      case ao28 =>
        rintro a wx hE hin (h15 : a.eval (.tmp 41) = _) (h18 : a.eval (.tmp 44) = _) (h21 : a.eval (.tmp 47) = _) (h24 : a.eval (.tmp 50) = _) (h27 : a.eval (.tmp 53) = _)
        clear hin
        have hcst : ∀ v, a.eval (.const v) = v := fun _ => rfl
        have hfnc : ∀ f, a.eval (.func f) = .func (.func f) #[] #[] := fun _ => rfl
        refine want_yes rfl rfl h15 ?_
        unfold Oper.wp
        generalize a.eval = ρ at *
        go_simp
        refine (later_calls a0 a1 a2 a3 wx).mono ?_
        rintro e w' ⟨rfl, rfl⟩
        exact rel_val (Chg.refl _)
      case ao29 =>
        rintro a wx hE hin (h15 : a.eval (.tmp 41) = _)
        have i5 : a.eval (.tmp 5) = .pointer (some ⟨(w.heap.size + 1 + 1), 0, none⟩) := hin 5 rfl
        clear hin
        have hcst : ∀ v, a.eval (.const v) = v := fun _ => rfl
        have hfnc : ∀ f, a.eval (.func f) = .func (.func f) #[] #[] := fun _ => rfl
        refine want_yes rfl rfl h15 ?_
        unfold Oper.wp
        generalize a.eval = ρ at *
        go_simp
        try go_bits
        first | exact rel_val (Chg.refl _) | (go_simp; exact rel_val (Chg.refl _))
      case ao30 =>
        rintro a wx hE hin (h15 : a.eval (.tmp 41) = _) (h29 : a.eval (.tmp 55) = _)
        clear hin
        have hcst : ∀ v, a.eval (.const v) = v := fun _ => rfl
        have hfnc : ∀ f, a.eval (.func f) = .func (.func f) #[] #[] := fun _ => rfl
        refine want_yes rfl rfl h15 ?_
        unfold Oper.wp
        generalize a.eval = ρ at *
        go_simp
        try go_bits
        first | exact rel_val (Chg.refl _) | (go_simp; exact rel_val (Chg.refl _))
      case ao31 =>
        rintro a wx hE hin (h15 : a.eval (.tmp 41) = _) (h30 : a.eval (.tmp 56) = _)
        clear hin
        have hcst : ∀ v, a.eval (.const v) = v := fun _ => rfl
        have hfnc : ∀ f, a.eval (.func f) = .func (.func f) #[] #[] := fun _ => rfl
        refine want_yes rfl rfl h15 ?_
        unfold Oper.wp
        generalize a.eval = ρ at *
        have c := Bk.cell ((C9.out.drew).chg hE id) DA0.out
        go_simp
        try go_bits
        first | exact rel_val (Chg.refl _) | (go_simp; exact rel_val (Chg.refl _))
      case ao32 =>
        rintro a wx hE hin (h15 : a.eval (.tmp 41) = _)
        have i5 : a.eval (.tmp 5) = .pointer (some ⟨(w.heap.size + 1 + 1), 0, none⟩) := hin 5 rfl
        clear hin
        have hcst : ∀ v, a.eval (.const v) = v := fun _ => rfl
        have hfnc : ∀ f, a.eval (.func f) = .func (.func f) #[] #[] := fun _ => rfl
        refine want_yes rfl rfl h15 ?_
        unfold Oper.wp
        generalize a.eval = ρ at *
        go_simp
        try go_bits
        first | exact rel_val (Chg.refl _) | (go_simp; exact rel_val (Chg.refl _))
      case ao33 =>
        rintro a wx hE hin (h15 : a.eval (.tmp 41) = _) (h32 : a.eval (.tmp 58) = _)
        clear hin
        have hcst : ∀ v, a.eval (.const v) = v := fun _ => rfl
        have hfnc : ∀ f, a.eval (.func f) = .func (.func f) #[] #[] := fun _ => rfl
        refine want_yes rfl rfl h15 ?_
        unfold Oper.wp
        generalize a.eval = ρ at *
        go_simp
        try go_bits
        first | exact rel_val (Chg.refl _) | (go_simp; exact rel_val (Chg.refl _))
      case ao34 =>
        rintro a wx hE hin (h15 : a.eval (.tmp 41) = _) (h33 : a.eval (.tmp 59) = _)
        clear hin
        have hcst : ∀ v, a.eval (.const v) = v := fun _ => rfl
        have hfnc : ∀ f, a.eval (.func f) = .func (.func f) #[] #[] := fun _ => rfl
        refine want_yes rfl rfl h15 ?_
        unfold Oper.wp
        generalize a.eval = ρ at *
        have c := Bk.cell ((C9.out.drew).chg hE id) DA1.out
        go_simp
        try go_bits
        first | exact rel_val (Chg.refl _) | (go_simp; exact rel_val (Chg.refl _))
      case ao35 =>
        rintro a wx hE hin (h15 : a.eval (.tmp 41) = _)
        have i5 : a.eval (.tmp 5) = .pointer (some ⟨(w.heap.size + 1 + 1), 0, none⟩) := hin 5 rfl
        clear hin
        have hcst : ∀ v, a.eval (.const v) = v := fun _ => rfl
        have hfnc : ∀ f, a.eval (.func f) = .func (.func f) #[] #[] := fun _ => rfl
        refine want_yes rfl rfl h15 ?_
        unfold Oper.wp
        generalize a.eval = ρ at *
        go_simp
        try go_bits
        first | exact rel_val (Chg.refl _) | (go_simp; exact rel_val (Chg.refl _))
      case ao36 =>
        rintro a wx hE hin (h15 : a.eval (.tmp 41) = _) (h35 : a.eval (.tmp 61) = _)
        clear hin
        have hcst : ∀ v, a.eval (.const v) = v := fun _ => rfl
        have hfnc : ∀ f, a.eval (.func f) = .func (.func f) #[] #[] := fun _ => rfl
        refine want_yes rfl rfl h15 ?_
        unfold Oper.wp
        generalize a.eval = ρ at *
        go_simp
        try go_bits
        first | exact rel_val (Chg.refl _) | (go_simp; exact rel_val (Chg.refl _))
      case ao37 =>
        rintro a wx hE hin (h15 : a.eval (.tmp 41) = _) (h36 : a.eval (.tmp 62) = _)
        clear hin
        have hcst : ∀ v, a.eval (.const v) = v := fun _ => rfl
        have hfnc : ∀ f, a.eval (.func f) = .func (.func f) #[] #[] := fun _ => rfl
        refine want_yes rfl rfl h15 ?_
        unfold Oper.wp
        generalize a.eval = ρ at *
        have c := Bk.cell ((C9.out.drew).chg hE id) DA2.out
        go_simp
        try go_bits
        first | exact rel_val (Chg.refl _) | (go_simp; exact rel_val (Chg.refl _))
      case ao38 =>
        rintro a wx hE hin (h15 : a.eval (.tmp 41) = _)
        have i5 : a.eval (.tmp 5) = .pointer (some ⟨(w.heap.size + 1 + 1), 0, none⟩) := hin 5 rfl
        clear hin
        have hcst : ∀ v, a.eval (.const v) = v := fun _ => rfl
        have hfnc : ∀ f, a.eval (.func f) = .func (.func f) #[] #[] := fun _ => rfl
        refine want_yes rfl rfl h15 ?_
        unfold Oper.wp
        generalize a.eval = ρ at *
        go_simp
        try go_bits
        first | exact rel_val (Chg.refl _) | (go_simp; exact rel_val (Chg.refl _))
      case ao39 =>
        rintro a wx hE hin (h15 : a.eval (.tmp 41) = _) (h38 : a.eval (.tmp 64) = _)
        clear hin
        have hcst : ∀ v, a.eval (.const v) = v := fun _ => rfl
        have hfnc : ∀ f, a.eval (.func f) = .func (.func f) #[] #[] := fun _ => rfl
        refine want_yes rfl rfl h15 ?_
        unfold Oper.wp
        generalize a.eval = ρ at *
        go_simp
        try go_bits
        first | exact rel_val (Chg.refl _) | (go_simp; exact rel_val (Chg.refl _))
      case ao40 =>
        rintro a wx hE hin (h15 : a.eval (.tmp 41) = _) (h39 : a.eval (.tmp 65) = _)
        clear hin
        have hcst : ∀ v, a.eval (.const v) = v := fun _ => rfl
        have hfnc : ∀ f, a.eval (.func f) = .func (.func f) #[] #[] := fun _ => rfl
        refine want_yes rfl rfl h15 ?_
        unfold Oper.wp
        generalize a.eval = ρ at *
        have c := Bk.cell ((C9.out.drew).chg hE id) DA3.out
        go_simp
        try go_bits
        first | exact rel_val (Chg.refl _) | (go_simp; exact rel_val (Chg.refl _))
      case ao41 =>
        rintro a wx hE hin (h15 : a.eval (.tmp 41) = _) (h31 : a.eval (.tmp 57) = _) (h34 : a.eval (.tmp 60) = _) (h37 : a.eval (.tmp 63) = _) (h40 : a.eval (.tmp 66) = _)
        clear hin
        have hcst : ∀ v, a.eval (.const v) = v := fun _ => rfl
        have hfnc : ∀ f, a.eval (.func f) = .func (.func f) #[] #[] := fun _ => rfl
        refine want_yes rfl rfl h15 ?_
        unfold Oper.wp
        generalize a.eval = ρ at *
        go_simp
        refine (refLater_calls a0 a1 a2 a3 wx).mono ?_
        rintro e w' ⟨rfl, rfl⟩
        exact rel_val (Chg.refl _)
      case ao42 =>
        rintro a wx hE hin (h15 : a.eval (.tmp 41) = _) (h28 : a.eval (.tmp 54) = _) (h41 : a.eval (.tmp 67) = _)
        clear hin
        have hcst : ∀ v, a.eval (.const v) = v := fun _ => rfl
        have hfnc : ∀ f, a.eval (.func f) = .func (.func f) #[] #[] := fun _ => rfl
        refine want_yes rfl rfl h15 ?_
        unfold Oper.wp
        generalize a.eval = ρ at *
        go_simp
        try go_bits
        first | exact rel_val (e := .bool true) (Chg.refl _) | (simp only [beq_self_eq_true]; exact rel_val (e := .bool true) (Chg.refl _))
      case ao43 =>
        rintro a wx hE hin (h15 : a.eval (.tmp 41) = _) (h42 : a.eval (.tmp 68) = _)
        clear hin
        have hcst : ∀ v, a.eval (.const v) = v := fun _ => rfl
        have hfnc : ∀ f, a.eval (.func f) = .func (.func f) #[] #[] := fun _ => rfl
        refine want_none rfl ?_
        unfold Oper.wp
        generalize a.eval = ρ at *
        go_simp
        try go_bits
        first | exact rel_val (Chg.refl _) | (go_simp; exact rel_val (Chg.refl _))
      case ao44 =>
        rintro a wx hE hin (h43 : a.eval (.tmp 69) = _)
        clear hin
        have hcst : ∀ v, a.eval (.const v) = v := fun _ => rfl
        have hfnc : ∀ f, a.eval (.func f) = .func (.func f) #[] #[] := fun _ => rfl
        refine want_none rfl ?_
        unfold Oper.wp
        generalize a.eval = ρ at *
        go_simp
        try go_bits
        first | exact rel_val (Chg.refl _) | (go_simp; exact rel_val (Chg.refl _))
      case ao45 =>
        rintro a wx hE hin (h44 : a.eval (.tmp 70) = _)
        clear hin
        have hcst : ∀ v, a.eval (.const v) = v := fun _ => rfl
        have hfnc : ∀ f, a.eval (.func f) = .func (.func f) #[] #[] := fun _ => rfl
        refine want_yes rfl rfl h44 ?_
        unfold Oper.wp
        generalize a.eval = ρ at *
        go_simp
        try go_bits
        exact rel_row (id)
      case ao46 =>
        rintro a wx hE hin (h44 : a.eval (.tmp 70) = _)
        have i5 : a.eval (.tmp 5) = .pointer (some ⟨(w.heap.size + 1 + 1), 0, none⟩) := hin 5 rfl
        clear hin
        have hcst : ∀ v, a.eval (.const v) = v := fun _ => rfl
        have hfnc : ∀ f, a.eval (.func f) = .func (.func f) #[] #[] := fun _ => rfl
        refine want_yes rfl rfl h44 ?_
        unfold Oper.wp
        generalize a.eval = ρ at *
        go_simp
        try go_bits
        first | exact rel_val (Chg.refl _) | (go_simp; exact rel_val (Chg.refl _))
      case ao47 =>
        rintro a wx hE hin (h44 : a.eval (.tmp 70) = _) (h46 : a.eval (.tmp 72) = _)
        clear hin
        have hcst : ∀ v, a.eval (.const v) = v := fun _ => rfl
        have hfnc : ∀ f, a.eval (.func f) = .func (.func f) #[] #[] := fun _ => rfl
        refine want_yes rfl rfl h44 ?_
        unfold Oper.wp
        generalize a.eval = ρ at *
        have c := Bk.cell ((C9.out.drew).chg hE id) DA4.out
        go_simp
        try go_bits
        first | exact rel_val (Chg.refl _) | (go_simp; exact rel_val (Chg.refl _))
      case ao48 =>
        rintro a wx hE hin (h44 : a.eval (.tmp 70) = _) ⟨g45, h45, s45, t45, f45, c45⟩ (h47 : a.eval (.tmp 73) = _)
        clear hin
        have hcst : ∀ v, a.eval (.const v) = v := fun _ => rfl
        have hfnc : ∀ f, a.eval (.func f) = .func (.func f) #[] #[] := fun _ => rfl
        refine want_yes rfl rfl h44 ?_
        exact wp_append_empty _ _ 65 rfl 84 zPut 33 40 Try.underlying65 infoPut2 rfl (by decide) (by decide) ⟨g45, 0, none⟩ h45 Ap ps.length cp (ps.flatMap putC) h47 HPF.out (HPR.out.drew.chg hE) (by have := HP100.out; omega) (fun A1 c1 w1 hr1 hc1 => ⟨_, rfl, ⟨A1, c1, rfl, hr1⟩, hc1⟩)
      case ao49 =>
        rintro a wx hE hin (h44 : a.eval (.tmp 70) = _) ⟨A48, c48, h48, r48⟩
        clear hin
        have hcst : ∀ v, a.eval (.const v) = v := fun _ => rfl
        have hfnc : ∀ f, a.eval (.func f) = .func (.func f) #[] #[] := fun _ => rfl
        refine want_yes rfl rfl h44 ?_
        unfold Oper.wp
        generalize a.eval = ρ at *
        go_simp
        refine (bits_calls ps A48 _ c48 wx rfl (by have := HP100.out; omega) r48 HPO.out).mono ?_
        rintro e w' ⟨rfl, hb⟩
        exact rel_val (.of_below hb)
      case ao50 =>
        rintro a wx hE hin (h44 : a.eval (.tmp 70) = _)
        have i5 : a.eval (.tmp 5) = .pointer (some ⟨(w.heap.size + 1 + 1), 0, none⟩) := hin 5 rfl
        clear hin
        have hcst : ∀ v, a.eval (.const v) = v := fun _ => rfl
        have hfnc : ∀ f, a.eval (.func f) = .func (.func f) #[] #[] := fun _ => rfl
        refine want_yes rfl rfl h44 ?_
        unfold Oper.wp
        generalize a.eval = ρ at *
        go_simp
        try go_bits
        first | exact rel_val (Chg.refl _) | (go_simp; exact rel_val (Chg.refl _))
      case ao51 =>
        rintro a wx hE hin (h44 : a.eval (.tmp 70) = _) (h50 : a.eval (.tmp 76) = _)
        clear hin
        have hcst : ∀ v, a.eval (.const v) = v := fun _ => rfl
        have hfnc : ∀ f, a.eval (.func f) = .func (.func f) #[] #[] := fun _ => rfl
        refine want_yes rfl rfl h44 ?_
        unfold Oper.wp
        generalize a.eval = ρ at *
        have c := Bk.cell ((C9.out.drew).chg hE id) DA4.out
        go_simp
        try go_bits
        first | exact rel_val (Chg.refl _) | (go_simp; exact rel_val (Chg.refl _))
      case ao52 =>
        rintro a wx hE hin (h44 : a.eval (.tmp 70) = _) (h51 : a.eval (.tmp 77) = _)
        clear hin
        have hcst : ∀ v, a.eval (.const v) = v := fun _ => rfl
        have hfnc : ∀ f, a.eval (.func f) = .func (.func f) #[] #[] := fun _ => rfl
        refine want_yes rfl rfl h44 ?_
        unfold Oper.wp
        generalize a.eval = ρ at *
        go_simp
        refine (refBits_calls ps Ap _ cp wx rfl (by have := HP100.out; omega) (HPR.out.drew.chg hE) HPO.out).mono ?_
        rintro e w' ⟨rfl, rfl⟩
        exact rel_val (Chg.refl _)
      case ao53 =>
        rintro a wx hE hin (h44 : a.eval (.tmp 70) = _) (h49 : a.eval (.tmp 75) = _) (h52 : a.eval (.tmp 78) = _)
        clear hin
        have hcst : ∀ v, a.eval (.const v) = v := fun _ => rfl
        have hfnc : ∀ f, a.eval (.func f) = .func (.func f) #[] #[] := fun _ => rfl
        refine want_yes rfl rfl h44 ?_
        unfold Oper.wp
        generalize a.eval = ρ at *
        go_simp
        try go_bits
        first | exact rel_val (e := .bool true) (Chg.refl _) | (simp only [beq_self_eq_true]; exact rel_val (e := .bool true) (Chg.refl _))
      case ao54 =>
        rintro a wx hE hin (h44 : a.eval (.tmp 70) = _) (h53 : a.eval (.tmp 79) = _)
        clear hin
        have hcst : ∀ v, a.eval (.const v) = v := fun _ => rfl
        have hfnc : ∀ f, a.eval (.func f) = .func (.func f) #[] #[] := fun _ => rfl
        refine want_none rfl ?_
        unfold Oper.wp
        generalize a.eval = ρ at *
        go_simp
        try go_bits
        first | exact rel_val (Chg.refl _) | (go_simp; exact rel_val (Chg.refl _))
      case ao55 =>
        rintro a wx hE hin (h54 : a.eval (.tmp 80) = _)
        clear hin
        have hcst : ∀ v, a.eval (.const v) = v := fun _ => rfl
        have hfnc : ∀ f, a.eval (.func f) = .func (.func f) #[] #[] := fun _ => rfl
        refine want_none rfl ?_
        unfold Oper.wp
        generalize a.eval = ρ at *
        go_simp
        try go_bits
        first | exact rel_val (Chg.refl _) | (go_simp; exact rel_val (Chg.refl _))
      case ao56 =>
        rintro a wx hE hin (h55 : a.eval (.tmp 81) = _)
        clear hin
        have hcst : ∀ v, a.eval (.const v) = v := fun _ => rfl
        have hfnc : ∀ f, a.eval (.func f) = .func (.func f) #[] #[] := fun _ => rfl
        refine want_yes rfl rfl h55 ?_
        unfold Oper.wp
        generalize a.eval = ρ at *
        go_simp
        refine (wakes7_calls wx).mono ?_
        rintro e w' ⟨rfl, hb⟩
        exact rel_val (.of_below hb)
      case ao57 =>
        rintro a wx hE hin (h55 : a.eval (.tmp 81) = _) (h56 : a.eval (.tmp 82) = _)
        clear hin
        have hcst : ∀ v, a.eval (.const v) = v := fun _ => rfl
        have hfnc : ∀ f, a.eval (.func f) = .func (.func f) #[] #[] := fun _ => rfl
        refine want_none rfl ?_
        unfold Oper.wp
        generalize a.eval = ρ at *
        go_simp
        try go_bits
        first | exact rel_val (Chg.refl _) | (go_simp; exact rel_val (Chg.refl _))
    case afin =>
      intro wx hE
      rintro _ rfl _ rfl _ rfl _ rfl _ rfl _ rfl _ rfl _ rfl _ rfl _ rfl _ rfl _ rfl _ rfl _ rfl _ rfl _ rfl _ rfl _ rfl _ rfl _ rfl _ rfl _ rfl _ rfl _ rfl _ rfl _ rfl _ rfl _ rfl _ rfl _ rfl _ rfl _ rfl _ rfl _ rfl _ rfl _ rfl _ rfl _ rfl _ rfl _ rfl _ rfl _ rfl _ rfl _ rfl _ rfl _ ⟨g45, rfl, s45, t45, f45, c45⟩ _ rfl _ rfl _ ⟨A48, c48, rfl, r48⟩ _ rfl _ rfl _ rfl _ rfl _ rfl _ rfl _ rfl _ rfl _ rfl
      simp only [FinOk, List.take_succ_cons, List.take_zero, List.take_nil, List.drop_succ_cons, List.drop_zero, List.drop_nil, Act.put, List.setIfInBounds_toArray, List.set_cons_succ, List.set_cons_zero]
      have EX : Hid (Below w.heap.size w wx) := E9.out.trans ((hE.undrew).below (B := w.heap.size) E9.out.size (fun _ _ => id))
      clear hE
      go_wp2
      go_ret
      exact ⟨rfl, EX.out⟩
end Go.Proofs.Ytnpcehlbboeadaa
