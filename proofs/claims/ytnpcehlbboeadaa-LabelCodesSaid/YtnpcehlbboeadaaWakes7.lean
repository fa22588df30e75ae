/- The walk of the statements' own trial of labels. -/
import Derived.Test.YtnpcehlbboeadaaLabEq
import Derived.Test.YtnpcehlbboeadaaBs
namespace Go.Proofs.Ytnpcehlbboeadaa
open Go.RowKit
set_option linter.unusedVariables false
set_option linter.unusedSimpArgs false

theorem run_bs2 {P : Program} (w : World) (t elem : TypeId) (z : Value) (n : Nat) (v u : Value) (us ts : List Value) (hu : P.underlying t = some (.slice elem)) (hinfo : (P.info? elem).map (fun i => (i.zero, i.size)) = some (some z, n))
    (hz : z.cells.size = n) (hn : 0 < n) (hn2 : n ≤ 1000) (hx : v.cells.toList = us) (hl : us.length = n) (hy : u.cells.toList = ts) (hl2 : ts.length = n) :
    (Instr.buildSlice t 2 #[(0, v), (1, u)]).run P w = .ok (.slice (some ⟨w.heap.size, 0, none⟩) 2 2) (w.alloc (.cells (us ++ ts).toArray elem)) := by
  obtain ⟨i0, hi, hzz⟩ := Option.map_eq_some_iff.1 hinfo
  simp only [Prod.mk.injEq] at hzz
  obtain ⟨hz0, hz1⟩ := hzz
  have hbig : ¬ (2 * n > 2 ^ 24) := by omega
  have hne : ¬ (2 * n = 0) := by omega
  obtain ⟨zs, hzs⟩ : ∃ zs : List Value, zs.toArray = (Array.range (2 * n)).map (z.cells[· % z.cells.size]!) := ⟨_, Array.toArray_toList⟩
  have hzl : zs.length = 2 * n := by
    have := congrArg Array.size hzs
    simpa using this
  have hf : Instr.fill (fun i => some (i * n, n)) zs.toArray [(0, v), (1, u)] = some (us ++ ts).toArray := by
    rw [fill_step (place := fun i => some (i * n, n)) (off := 0) hx (by simp [hl]) (by omega), fill_step (place := fun i => some (i * n, n)) (off := n) hy (by simp [hl2]) (by rw [length_splice _ _ _ (by omega)]; omega), Instr.fill]
    congr 2
    simp only [splice, List.take_zero, List.nil_append, Nat.zero_add]
    rw [List.take_append_of_le_length (by omega), List.take_of_length_le (by omega), List.drop_append, List.drop_eq_nil_of_le (show us.length ≤ n + ts.length by omega), List.nil_append, List.drop_drop, List.drop_eq_nil_of_le (by omega), List.append_nil]
  rw [hzs] at hf
  simp only [Instr.buildSlice, Sem.run_bind, run_underlying hu, Result.andThen_ok, sizeOf, typeInfo, run_program, hi, Sem.run_pure, hz1, if_neg hbig, if_neg hne, zeroValue, hz0, hf]
  simp [newRow]
theorem wpList_bs2 {P : Program} {o : Oper} {a : Act} {w : World} {Q : Exit → Act → World → Prop} {ops : Array Oper} {rest : List Oper} (hw : Region.wanted o (yielded ops a.tmps) = true) (t elem : TypeId) (x y : Operand) (ho : o.op = .buildSlice t 2 #[(0, x), (1, y)]) (z : Value) (n : Nat) (us ts : List Value) (hu : P.underlying t = some (.slice elem)) (hinfo : (P.info? elem).map (fun i => (i.zero, i.size)) = some (some z, n))
    (hz : z.cells.size = n) (hn : 0 < n) (hn2 : n ≤ 1000) (hx : (a.eval x).cells.toList = us) (hl : us.length = n) (hy : (a.eval y).cells.toList = ts) (hl2 : ts.length = n)
    (h : ∀ g w', g = w.heap.size → Bk w' g (us ++ ts) → Chg NoS w w' → wpList P ops Q rest (a.put o.dst (.slice (some ⟨g, 0, none⟩) 2 2)) w') : wpList P ops Q (o :: rest) a w := by
  refine wpl hw fun K hK => ?_
  unfold Oper.wp execOp
  simp only [ho, Sem.run_bind, List.map_toArray, List.map_cons, List.map_nil, run_bs2 w t elem z n _ _ us ts hu hinfo hz hn hn2 hx hl hy hl2, Result.andThen_ok]
  exact hK _ _ (h _ _ rfl (Bk.new w (us ++ ts) elem) ((Chg.refl w).alloc _))
def zPut : Value := .agg (.int .i64 0 :: bts (List.replicate 32 0)).toArray
theorem infoPut : (Try.prog.info? 84).map (fun i => (i.zero, i.size)) = some (some zPut, 33) := by kernel_rfl
def l7 : Lab := ⟨258, 3, 4, 5, 2048⟩
theorem l7_dec : labDec (labEnc l7) = (l7, 0) := by decide +kernel
theorem z7_dec : labDec (List.replicate 32 0) = (zLab, 0) := by rw [labDec, if_pos rfl]
def p3 : PutV := ⟨3, List.replicate 32 0⟩
def p12 : PutV := ⟨12, List.replicate 32 0⟩
theorem bits7 : bitsN [p3, p12] = 8 := by decide +kernel
theorem puts7 : PutsOk [p3, p12] := by
  intro p hp
  simp only [List.mem_cons, List.not_mem_nil, or_false] at hp
  rcases hp with rfl | rfl
  · exact ⟨by decide +kernel, by decide, by decide⟩
  · exact ⟨by decide +kernel, by decide, by decide⟩
theorem w7_0 : (bts (labEnc l7))[0]? = some (.int .u8 76) := rfl
theorem w7_1 : (bts (labEnc l7))[1]? = some (.int .u8 2) := rfl
theorem w7_2 : (bts (labEnc l7))[2]? = some (.int .u8 1) := rfl
theorem w7_16 : (bts (labEnc l7))[16]? = some (.int .u8 8) := rfl
set_option maxRecDepth 100000 in
set_option maxHeartbeats 8000000 in
theorem wakes7_calls (w : World) : Calls Try.prog 31 #[] w fun e w' => e = .returned (.bool true) ∧ Below w.heap.size w w' := by
  have HD := Lib.hid l7_dec
  have HW0 := Lib.hid w7_0
  have HW1 := Lib.hid w7_1
  have HW2 := Lib.hid w7_2
  have HW16 := Lib.hid w7_16
  have HWL := Lib.hid (labEnc_length l7)
  have HEN : Hid (labEnc l7 = labEnc l7) := rfl
  obtain ⟨W, hW⟩ : ∃ W, labEnc l7 = W := ⟨_, rfl⟩
  rw [hW] at HD HW0 HW1 HW2 HW16 HWL
  have HWE := Lib.hid hW
  clear hW HEN
  go_enter Try.func31, Try.ntmps31
  go_wp2_with (first
    | (refine wpList_bld rfl 63 [(0, .const (.int .u32 258)), (1, .const (.int .u32 3)), (2, .const (.int .u32 4)), (3, .const (.int .u16 5)), (4, .const (.int .u16 2048))] rfl (labC zLab) [(0, [vu32 l7.e]), (1, [vu32 l7.s]), (2, [vu32 l7.n]), (3, [vu16 l7.d]), (4, [vu16 l7.la])] (labC l7) (by kernel_rfl) (by kernel_rfl) ⟨rfl, ⟨1, rfl, by kernel_rfl, by decide⟩, rfl, ⟨1, rfl, by kernel_rfl, by decide⟩, rfl, ⟨1, rfl, by kernel_rfl, by decide⟩, rfl, ⟨1, rfl, by kernel_rfl, by decide⟩, rfl, ⟨1, rfl, by kernel_rfl, by decide⟩, trivial⟩ rfl ?_)
    | (refine wpList_al rfl 63 rfl (labC zLab) (by kernel_rfl) ?_))
  intro g1 w1 hg hb hc hs
  have E1 : Hid (Below w.heap.size w w1) := hc.below (Nat.le_refl _) (fun _ _ => id)
  have G1 : Hid (w.heap.size ≤ g1) := by show _ ≤ _; rw [hg]; exact Nat.le_refl _
  have K1 := Lib.hid hb
  clear hg hb hc hs
  go_wp2_with (refine wpList_st rfl 63 (.tmp 1) (.tmp 7) rfl g1 0 5 (labC zLab) (labC l7) rfl rfl K1.out (by kernel_rfl) rfl (by decide) (one_lab _) ?_)
  intro w2 hb hc
  rw [splice_whole (labC zLab) (labC l7) rfl] at hb
  have E2 : Hid (Below w.heap.size w w2) := E1.out.trans (hc.below E1.out.size (fun _ _ => by have := G1.out; omega))
  have K2 := Lib.hid hb
  clear hb hc
  go_wp2_with (refine wpList_ld rfl 63 (.tmp 1) rfl g1 0 5 (labC l7) (labC l7) rfl K2.out (by kernel_rfl) (by kernel_rfl) (Nat.le_refl _) rfl ?_)
  refine (labEncode_calls l7 w2).mono ?_
  rintro e w3 ⟨rfl, hb⟩
  rw [HWE.out]
  have K3 := Lib.hid (K2.out.below hb)
  have E3 : Hid (Below w.heap.size w w3) := E2.out.trans (hb.mono E2.out.size)
  clear hb
  go_wp2_with (refine wpList_al rfl 37 rfl (bts (List.replicate 32 0)) (by kernel_rfl) ?_)
  intro g2 w4 hg hb hc hs
  have E4 : Hid (Below w.heap.size w w4) := E3.out.trans (hc.below E3.out.size (fun _ _ => id))
  have G2 : Hid (g1 < g2) := by show _ < _; rw [hg]; exact K3.out.lt
  have K4 := Lib.hid (K3.out.chg hc id)
  have L4 := Lib.hid hb
  clear hg hb hc hs
  go_wp2_with (refine wpList_st rfl 37 (.tmp 2) (.tmp 9) rfl g2 0 32 (bts (List.replicate 32 0)) (bts W) rfl rfl L4.out (by kernel_rfl) (by rw [bts_length, HWL.out]) (by decide) (one_bts _) ?_)
  intro w5 hb hc
  rw [splice_whole _ _ (by rw [bts_length, HWL.out]; rfl)] at hb
  have E5 : Hid (Below w.heap.size w w5) := E4.out.trans (hc.below E4.out.size (fun _ _ => by have := G1.out; have := G2.out; omega))
  have K5 := Lib.hid (K4.out.chg hc (by have := G2.out; omega))
  have L5 := Lib.hid hb
  clear hb hc
  go_wp2_with (refine wpList_ld rfl 37 (.tmp 2) rfl g2 0 32 (bts W) (bts W) rfl L5.out (by kernel_rfl) (by kernel_rfl) (by rw [bts_length, HWL.out]; decide) (by rw [List.drop_zero, List.take_of_length_le (by rw [bts_length, HWL.out]; decide)]) ?_)
  refine (labDecode_calls W w5 HWL.out).mono ?_
  rintro e w6 ⟨rfl, hb⟩
  rw [HD.out]
  have E6 : Hid (Below w.heap.size w w6) := E5.out.trans (hb.mono E5.out.size)
  have K6 := Lib.hid (K5.out.below hb)
  have L6 := Lib.hid (L5.out.below hb)
  clear hb
  go_wp2_with (refine wpList_al rfl 63 rfl (labC zLab) (by kernel_rfl) ?_)
  intro g3 w7 hg hb hc hs
  have E7 : Hid (Below w.heap.size w w7) := E6.out.trans (hc.below E6.out.size (fun _ _ => id))
  have G3 : Hid (g2 < g3) := by show _ < _; rw [hg]; exact L6.out.lt
  have K7 := Lib.hid (K6.out.chg hc id)
  have L7 := Lib.hid (L6.out.chg hc id)
  have M7 := Lib.hid hb
  clear hg hb hc hs
  go_wp2_with (refine wpList_st rfl 63 (.tmp 3) (.tmp 13) rfl g3 0 5 (labC zLab) (labC l7) rfl rfl M7.out (by kernel_rfl) rfl (by decide) (one_lab _) ?_)
  intro w8 hb hc
  rw [splice_whole (labC zLab) (labC l7) rfl] at hb
  have E8 : Hid (Below w.heap.size w w8) := E7.out.trans (hc.below E7.out.size (fun _ _ => by have := G1.out; have := G2.out; have := G3.out; omega))
  have K8 := Lib.hid (K7.out.chg hc (by have := G2.out; have := G3.out; omega))
  have L8 := Lib.hid (L7.out.chg hc (by have := G3.out; omega))
  have M8 := Lib.hid hb
  clear hb hc
  go_wp2_with (refine wpList_bld rfl 37 [] rfl (bts (List.replicate 32 0)) [] (bts (List.replicate 32 0)) (by kernel_rfl) (by kernel_rfl) trivial rfl ?_)
  refine (labDecode_calls (List.replicate 32 0) w8 (by rw [List.length_replicate])).mono ?_
  rintro e w9 ⟨rfl, hb⟩
  rw [z7_dec]
  have E9 : Hid (Below w.heap.size w w9) := E8.out.trans (hb.mono E8.out.size)
  have K9 := Lib.hid (K8.out.below hb)
  have L9 := Lib.hid (L8.out.below hb)
  have M9 := Lib.hid (M8.out.below hb)
  clear hb
  go_wp2_with (refine wpList_al rfl 63 rfl (labC zLab) (by kernel_rfl) ?_)
  intro g5 w10 hg hb hc hs
  have E10 : Hid (Below w.heap.size w w10) := E9.out.trans (hc.below E9.out.size (fun _ _ => id))
  have G5 : Hid (g3 < g5) := by show _ < _; rw [hg]; exact M9.out.lt
  have K10 := Lib.hid (K9.out.chg hc id)
  have L10 := Lib.hid (L9.out.chg hc id)
  have M10 := Lib.hid (M9.out.chg hc id)
  have N10 := Lib.hid hb
  clear hg hb hc hs
  go_wp2_with (refine wpList_st rfl 63 (.tmp 5) (.tmp 18) rfl g5 0 5 (labC zLab) (labC zLab) rfl rfl N10.out (by kernel_rfl) rfl (by decide) (one_lab _) ?_)
  intro w11 hb hc
  rw [splice_whole (labC zLab) (labC zLab) rfl] at hb
  have E11 : Hid (Below w.heap.size w w11) := E10.out.trans (hc.below E10.out.size (fun _ _ => by have := G1.out; have := G2.out; have := G3.out; have := G5.out; omega))
  have K11 := Lib.hid (K10.out.chg hc (by have := G2.out; have := G3.out; have := G5.out; omega))
  have L11 := Lib.hid (L10.out.chg hc (by have := G3.out; have := G5.out; omega))
  have M11 := Lib.hid (M10.out.chg hc (by have := G5.out; omega))
  have N11 := Lib.hid hb
  clear hb hc
  have c0 := L11.out.cell HW0.out
  have c1 := L11.out.cell HW1.out
  have c2 := L11.out.cell HW2.out
  have c16 := L11.out.cell HW16.out
  go_wp2_with (first
    | (refine wpList_ld rfl 63 (.tmp 3) rfl g3 0 5 (labC l7) (labC l7) rfl M11.out (by kernel_rfl) (by kernel_rfl) (Nat.le_refl _) rfl ?_)
    | (refine wpList_ld rfl 63 (.tmp 1) rfl g1 0 5 (labC l7) (labC l7) rfl K11.out (by kernel_rfl) (by kernel_rfl) (Nat.le_refl _) rfl ?_)
    | (refine wpList_ld rfl 63 (.tmp 5) rfl g5 0 5 (labC zLab) (labC zLab) rfl N11.out (by kernel_rfl) (by kernel_rfl) (Nat.le_refl _) rfl ?_)
    | (refine wpList_bld rfl 63 [] rfl (labC zLab) [] (labC zLab) (by kernel_rfl) (by kernel_rfl) trivial rfl ?_)
    | (refine wpList_eq_lab rfl false 63 (.tmp 43) (.tmp 44) rfl l7 l7 rfl rfl true (by simp) ?_)
    | (refine wpList_eq_lab rfl false 63 (.tmp 52) (.tmp 53) rfl zLab zLab rfl rfl true (by simp) ?_))
  refine (later_calls 2 0 1 9 w11).mono ?_
  rintro e w' ⟨rfl, rfl⟩
  rw [show laterB 2 0 1 9 = true by decide +kernel]
  go_wp2_with fail
  refine (later_calls 1 9 1 9 w11).mono ?_
  rintro e w' ⟨rfl, rfl⟩
  rw [show laterB 1 9 1 9 = false by decide +kernel]
  clear c0 c1 c2 c16
  go_wp2_with (first
    | (refine wpList_bld rfl 84 [(0, .const (.int .i64 3))] rfl (.int .i64 0 :: bts (List.replicate 32 0)) [(0, [.int .i64 3])] (putC p3) (by kernel_rfl) (by kernel_rfl) ⟨rfl, ⟨1, rfl, by kernel_rfl, by decide⟩, trivial⟩ rfl ?_)
    | (refine wpList_bld rfl 84 [(0, .const (.int .i64 12))] rfl (.int .i64 0 :: bts (List.replicate 32 0)) [(0, [.int .i64 12])] (putC p12) (by kernel_rfl) (by kernel_rfl) ⟨rfl, ⟨1, rfl, by kernel_rfl, by decide⟩, trivial⟩ rfl ?_)
    | (refine wpList_bs2 rfl 65 84 (.tmp 64) (.tmp 65) rfl zPut 33 (putC p3) (putC p12) Try.underlying65 infoPut rfl (by decide) (by decide) rfl rfl rfl rfl ?_))
  intro g6 w12 hg hb hc
  have E12 : Hid (Below w.heap.size w w12) := E11.out.trans (hc.below E11.out.size (fun _ _ => id))
  have B12 := Lib.hid hb
  clear hg hb hc
  go_wp2_with fail
  refine (bits_calls [p3, p12] (some ⟨g6, 0, none⟩) 2 2 w12 rfl (by decide) ?_ puts7).mono ?_
  · have := B12.out.rd
    simpa [List.flatMap_cons] using this
  rintro e w13 ⟨rfl, hb⟩
  rw [bits7]
  have E13 : Hid (Below w.heap.size w w13) := E12.out.trans (hb.mono E12.out.size)
  clear hb
  go_wp2
  go_ret
  exact ⟨rfl, E13.out⟩
end Go.Proofs.Ytnpcehlbboeadaa
