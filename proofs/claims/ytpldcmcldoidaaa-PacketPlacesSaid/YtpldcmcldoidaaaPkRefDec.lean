import Derived.Test.YtpldcmcldoidaaaPkRefEnc
import Derived.Test.YtpldcmcldoidaaaPkPlain
import Derived.Test.YtpldcmcldoidaaaKeep

/- The walk of the reference's Decode of packets. -/
namespace Go.Proofs.Ytpldcmcldoidaaa
open Go.RowKit
set_option linter.unusedVariables false
set_option linter.unusedSimpArgs false

theorem wpList_bs1R {P : Program} {o : Oper} {a : Act} {w : World} {Q : Exit → Act → World → Prop} {ops : Array Oper} {rest : List Oper} (hw : Region.wanted o (yielded ops a.tmps) = true) (t elem : TypeId) (x : Operand) (ho : o.op = .buildSlice t 1 #[(0, x)]) (z : Value) (n : Nat) (us : List Value) (hu : P.underlying t = some (.slice elem)) (hinfo : (P.info? elem).map (fun i => (i.zero, i.size)) = some (some z, n))
    (hz : z.cells.size = n) (hn : 0 < n) (hn2 : n ≤ 1000) (hx : (a.eval x).cells.toList = us) (hl : us.length = n)
    (h : ∀ g w', g = w.heap.size → Bk w' g us → Chg NoS w w' → wpList P ops Q rest (a.put o.dst (.slice (some ⟨g, 0, none⟩) 1 1)) w') : wpList P ops Q (o :: rest) a w :=
  wpl hw fun K hK => wp_bs1 t elem x ho z n us hu hinfo hz hn hn2 hx hl (hK _ _ (h _ _ rfl (Bk.new w us elem) ((Chg.refl w).alloc _)))
theorem bts_drop' (l : List UInt8) (n : Nat) : bts (l.drop n) = (bts l).drop n := by simp [bts]
theorem bts_take' (l : List UInt8) (n : Nat) : bts (l.take n) = (bts l).take n := by simp [bts]
/-- Whoever tells another length by its count is no packet. -/
theorem decP_count {b : List UInt8} (h12 : 12 ≤ b.length) (h : ¬ b.length = 12 + 33 * (b.getD 9 0).toNat) : decP b = ((0, 0, 0, []), 11) := if_neg (fun ⟨h1, h2, h3⟩ => h (by
  have hN := h1.2
  have hl : b.length = 33 * nD b + 12 := by unfold nD; omega
  have h5 : (putsN b (nD b)).length ≤ 5 := (goodP_at h2).2.2.1
  rw [putsN_len] at h5
  have h9 := encP_n (kD b).toNat (eD b) (qD b) (putsN b (nD b))
  rw [h3, putsN_len] at h9
  rw [h9, show (UInt8.ofNat (nD b)).toNat = nD b from (by rw [UInt8.toNat_ofNat']; exact Nat.mod_eq_of_lt (by omega))]
  omega))
def RDecRel (w : World) (gr : Nat) (K : Int) (e q : UInt32) (b : List UInt8) (N : Nat) (v5 : Value) (wr : World) : Prop := ∃ (k : Nat) (v : Value) (c : Nat) (A : Option Addr), k ≤ N ∧ v5 = .int .i64 k ∧ v = .slice A k c ∧ wr.ownsRow (gr + 1) 48 33 v k ((putsN b k).flatMap putC) ∧ Bk wr gr (pktC K e q A k c) ∧ Bk wr w.heap.size zPkD ∧ Below w.heap.size w wr
set_option maxRecDepth 100000 in
set_option maxHeartbeats 16000000 in
theorem refPackDecode_calls (b : List UInt8) (A0 : Option Addr) (n c : Nat) (w : World) (hl : b.length = n) (hnc : n ≤ c) (hcm : c ≤ 9223372036854775807) (hm : n ≤ 33000) (hr : Rd w A0 (bts b)) :
    Calls Try.prog 11 #[.slice A0 n c] w (DecPost w (decP b)) := by
  have HR := Lib.hid hr
  have HBL := Lib.hid hl
  have HNC := Lib.hid hnc
  have HCM := Lib.hid hcm
  clear hr hl
  go_enter Try.func11, Try.ntmps11
  go_wp2_with (refine wpList_al rfl 25 rfl zPkD (by kernel_rfl) ?_)
  intro g0 w1 hg hbk hc hs
  subst hg
  have K1 := Lib.hid hbk
  have E1 : Hid (Below w.heap.size w w1) := hc.below (Nat.le_refl _) (fun _ _ => id)
  clear hbk hc hs
  by_cases h12 : n < 12
  · have h12i : (n : Int) < 12 := by omega
    have HF : Hid (decP b = ((0, 0, 0, []), 11)) := decP_len (fun h => by have := h.1; have := HBL.out; omega)
    clear h12
    go_wp2_with (first
      | (refine wpList_bld rfl 25 [] rfl zPkD [] zPkD (by kernel_rfl) (by kernel_rfl) trivial rfl ?_)
      | (refine wpList_st rfl 25 (.tmp 2) (.tmp 23) rfl w.heap.size 0 4 zPkD zPkD rfl rfl K1.out (by kernel_rfl) rfl (by decide) (one_pktD _ _ _ _ _ _) ?_))
    intro w9 hbk hc
    rw [splice_whole zPkD zPkD rfl] at hbk
    have K9 := Lib.hid hbk
    have E9 : Hid (Below w.heap.size w w9) := E1.out.trans (hc.below E1.out.size (fun j hj he => by omega))
    clear hbk hc
    go_wp2_with fail
    (try simp only [Exit.inBlock, Exit.then])
    refine bodyPost_ret (res_cell_tmp rfl _ _ w.heap.size 4 _ rfl K9.out (by kernel_rfl) (by kernel_rfl) rfl) rfl ?_
    rw [DecPost, HF.out]
    exact ⟨none, 0, rfl, Rd.nil _ _, Nat.le_refl _, by decide, (fun p hp => by cases hp), E9.out⟩
  have h12i : ¬ ((n : Int) < 12) := by omega
  have h12n : 9 < n := by omega
  have h12p : (9 : Int) < (n : Int) := by omega
  obtain ⟨A, hA, _⟩ := HR.out.bt 9 (by rw [HBL.out]; omega)
  subst hA
  obtain ⟨N, hNN⟩ : ∃ N, (b.getD 9 0).toNat = N := ⟨_, rfl⟩
  have hN256 : N < 256 := by rw [← hNN]; exact (b.getD 9 0).toNat_lt
  have HB9 : Hid (∀ u, Below w.heap.size w u → u.cell? (A.add 9) = some (.int .u8 (N : Int))) := fun u hu => by
    obtain ⟨ad', h1, h2⟩ := (HR.out.below hu).bt 9 (by rw [HBL.out]; omega)
    injection h1 with h1
    subst h1
    rw [h2, vu8, hNN]
  have c9 : w1.cell? { block := A.block, off := A.off + 9 } = some (.int .u8 (N : Int)) := HB9.out w1 E1.out
  by_cases hlen : n = 12 + 33 * N
  case neg =>
    have hleni : ¬ ((n : Int) = 12 + 33 * (N : Int)) := by omega
    have HF : Hid (decP b = ((0, 0, 0, []), 11)) := decP_count (by rw [HBL.out]; omega) (by rw [HBL.out, hNN]; exact hlen)
    clear hlen
    go_wp2_with (first
      | (refine wpList_bld rfl 25 [] rfl zPkD [] zPkD (by kernel_rfl) (by kernel_rfl) trivial rfl ?_)
      | (refine wpList_st rfl 25 (.tmp 2) (.tmp 23) rfl w.heap.size 0 4 zPkD zPkD rfl rfl K1.out (by kernel_rfl) rfl (by decide) (one_pktD _ _ _ _ _ _) ?_))
    intro w9 hbk hc
    rw [splice_whole zPkD zPkD rfl] at hbk
    have K9 := Lib.hid hbk
    have E9 : Hid (Below w.heap.size w w9) := E1.out.trans (hc.below E1.out.size (fun j hj he => by omega))
    clear hbk hc
    go_wp2_with fail
    (try simp only [Exit.inBlock, Exit.then])
    refine bodyPost_ret (res_cell_tmp rfl _ _ w.heap.size 4 _ rfl K9.out (by kernel_rfl) (by kernel_rfl) rfl) rfl ?_
    rw [DecPost, HF.out]
    exact ⟨none, 0, rfl, Rd.nil _ _, Nat.le_refl _, by decide, (fun p hp => by cases hp), E9.out⟩
  have hleni : (n : Int) = 12 + 33 * (N : Int) := by omega
  have hl2 : decide ((n : Int) = 12 + 33 * (N : Int)) = true := decide_eq_true hleni
  have hl3 : ((n : Int) == 12 + 33 * (N : Int)) = true := beq_iff_eq.2 hleni
  have hl4 : ((n : Int) != 12 + 33 * (N : Int)) = false := by rw [bne, hl3]; rfl
  clear hleni
  have HN : Hid (n = 33 * N + 12) := by show _ = _; omega
  have HNL : Hid (b.length = 33 * N + 12) := by have := HBL.out; show _ = _; omega
  have HLB : Hid (lenOkD b) := ⟨by have := HBL.out; omega, by have := HBL.out; omega⟩
  have HNN : Hid (nD b = N) := by show (b.length - 12) / 33 = N; have := HBL.out; omega
  clear h12 hlen hNN
  obtain ⟨kn, hkn⟩ : ∃ kn, (b.getD 0 0).toNat = kn := ⟨_, rfl⟩
  have hkn256 : kn < 256 := by rw [← hkn]; exact (b.getD 0 0).toNat_lt
  obtain ⟨K, hK⟩ : ∃ K : Int, (kn : Int) = K := ⟨_, rfl⟩
  have HKN := Lib.hid hK
  have HKK : Hid (kD b = K) := by show ((b.getD 0 0).toNat : Int) = K; rw [hkn, hK]
  have HB0 : Hid (∀ u, Below w.heap.size w u → u.cell? A = some (.int .u8 (kn : Int))) := fun u hu => by
    obtain ⟨ad', h1, h2⟩ := (HR.out.below hu).bt 0 (by rw [HNL.out]; omega)
    injection h1 with h1
    subst h1
    rw [← hkn]
    exact h2
  have L4a : Hid (((b.drop 1).take 4).length = 4) := by show _ = _; rw [List.length_take, List.length_drop, HNL.out]; omega
  have L4b : Hid (((b.drop 5).take 4).length = 4) := by show _ = _; rw [List.length_take, List.length_drop, HNL.out]; omega
  have R4a : Hid (∀ u, Below w.heap.size w u → Rd u (some (A.add 1)) (bts ((b.drop 1).take 4))) := fun u hu => by
    have h := ((HR.out.below hu).drop 1).take 4
    rwa [bts_drop, bts_take] at h
  have R4b : Hid (∀ u, Below w.heap.size w u → Rd u (some (A.add 5)) (bts ((b.drop 5).take 4))) := fun u hu => by
    have h := ((HR.out.below hu).drop 5).take 4
    rwa [bts_drop, bts_take] at h
  obtain ⟨e, he⟩ : ∃ e, eD b = e := ⟨_, rfl⟩
  have HE4 := Lib.hid he
  have HE : Hid ((.int .u32 (num ((b.drop 1).take 4) : Nat) : Value) = vu32 e) := by show _ = _; rw [← he]; exact vu32_numD L4a.out
  obtain ⟨q, hq⟩ : ∃ q, qD b = q := ⟨_, rfl⟩
  have HQ4 := Lib.hid hq
  have HQ : Hid ((.int .u32 (num ((b.drop 5).take 4) : Nat) : Value) = vu32 q) := by show _ = _; rw [← hq]; exact vu32_numD L4b.out
  clear he hq hkn hK
  have hnc2 := HNC.out
  have hn0 : 0 < n := by omega
  have hn5 : (5 : Int) ≤ (c : Int) := by omega
  have hn9 : (9 : Int) ≤ (c : Int) := by omega
  have hc1 : ¬ (c = 1) := by omega
  have hc5 : ¬ (c = 5) := by omega
  have hc5n : 5 ≤ c := by omega
  have hc9n : 9 ≤ c := by omega
  go_wp2_with fail
  have h0n : (0 : Int) < (n : Int) := by omega
  apply wp_region_rel 12 (Chg NoS) [(Veq _), (Veq _), (Veq _), (Veq _), (Veq _), (Veq _), (Veq _), (Veq _), (Veq _), (Veq _), (Veq (.agg (pktC K e q none 0 0).toArray)), (PtrAt NoS w1.heap.size zPkD)] [[], [0], [1], [2], [], [4], [5], [], [7], [8], [3, 6, 9], []] [24, 25, 26, 27, 28, 29, 30, 31, 32, 33, 34, 4] (by kernel_rfl) (by kernel_rfl) rfl rfl rfl Chg.refl (fun _ _ _ => Chg.trans) ⟨Veq.lasts, Veq.lasts, Veq.lasts, Veq.lasts, Veq.lasts, Veq.lasts, Veq.lasts, Veq.lasts, Veq.lasts, Veq.lasts, Veq.lasts, PtrAt.lasts, trivial⟩ ?aops ?afin
  case aops =>
    refine ⟨?ao0, ?ao1, ?ao2, ?ao3, ?ao4, ?ao5, ?ao6, ?ao7, ?ao8, ?ao9, ?ao10, ?ao11, trivial⟩
    case ao0 =>
      intro a wx hE hin
      have i0 : a.eval (.tmp 0) = .slice (some A) n c := hin 0 rfl
      clear hin
      have hcst : ∀ v, a.eval (.const v) = v := fun _ => rfl
      have hfnc : ∀ f, a.eval (.func f) = .func (.func f) #[] #[] := fun _ => rfl
      refine want_none rfl ?_
      unfold Oper.wp
      generalize a.eval = ρ at *
      go_simp
      try go_bits
      first | exact rel_val (Chg.refl _) | (go_simp; exact rel_val (Chg.refl _))
    case ao1 =>
      rintro a wx hE hin (h0 : a.eval (.tmp 24) = _)
      clear hin
      have hcst : ∀ v, a.eval (.const v) = v := fun _ => rfl
      have hfnc : ∀ f, a.eval (.func f) = .func (.func f) #[] #[] := fun _ => rfl
      refine want_none rfl ?_
      unfold Oper.wp
      generalize a.eval = ρ at *
      go_simp
      try go_bits
      first | exact rel_val (Chg.refl _) | (go_simp; exact rel_val (Chg.refl _))
    case ao2 =>
      rintro a wx hE hin (h1 : a.eval (.tmp 25) = _)
      clear hin
      have hcst : ∀ v, a.eval (.const v) = v := fun _ => rfl
      have hfnc : ∀ f, a.eval (.func f) = .func (.func f) #[] #[] := fun _ => rfl
      refine want_none rfl ?_
      unfold Oper.wp
      generalize a.eval = ρ at *
      have c := HB0.out wx (E1.out.trans (hE.undrew.below E1.out.size (fun _ _ => id)))
      go_simp
      try go_bits
      first | exact rel_val (Chg.refl _) | (go_simp; exact rel_val (Chg.refl _))
    case ao3 =>
      rintro a wx hE hin (h2 : a.eval (.tmp 26) = _)
      clear hin
      have hcst : ∀ v, a.eval (.const v) = v := fun _ => rfl
      have hfnc : ∀ f, a.eval (.func f) = .func (.func f) #[] #[] := fun _ => rfl
      refine want_none rfl ?_
      unfold Oper.wp
      generalize a.eval = ρ at *
      go_simp
      try go_bits
      first | exact rel_val (Chg.refl _) | (go_simp; exact rel_val (Chg.refl _))
    case ao4 =>
      intro a wx hE hin
      have i0 : a.eval (.tmp 0) = .slice (some A) n c := hin 0 rfl
      clear hin
      have hcst : ∀ v, a.eval (.const v) = v := fun _ => rfl
      have hfnc : ∀ f, a.eval (.func f) = .func (.func f) #[] #[] := fun _ => rfl
      refine want_none rfl ?_
      unfold Oper.wp
      generalize a.eval = ρ at *
      go_simp
      try go_bits
      first | exact rel_val (Chg.refl _) | (go_simp; exact rel_val (Chg.refl _))
    case ao5 =>
      rintro a wx hE hin (h4 : a.eval (.tmp 28) = _)
      clear hin
      have hcst : ∀ v, a.eval (.const v) = v := fun _ => rfl
      have hfnc : ∀ f, a.eval (.func f) = .func (.func f) #[] #[] := fun _ => rfl
      refine want_none rfl ?_
      unfold Oper.wp
      generalize a.eval = ρ at *
      go_simp
      try go_bits
      first | exact rel_val (Chg.refl _) | (go_simp; exact rel_val (Chg.refl _))
    case ao6 =>
      rintro a wx hE hin (h5 : a.eval (.tmp 29) = _)
      clear hin
      have hcst : ∀ v, a.eval (.const v) = v := fun _ => rfl
      have hfnc : ∀ f, a.eval (.func f) = .func (.func f) #[] #[] := fun _ => rfl
      refine want_none rfl ?_
      unfold Oper.wp
      generalize a.eval = ρ at *
      go_simp
      refine (refNum_calls ((b.drop 1).take 4) (some (A.add 1)) 4 _ wx L4a.out (by decide) (R4a.out wx (E1.out.trans (hE.undrew.below E1.out.size (fun _ _ => id))))).mono ?_
      rintro e w' ⟨rfl, rfl⟩
      exact rel_val (Chg.refl _)
    case ao7 =>
      intro a wx hE hin
      have i0 : a.eval (.tmp 0) = .slice (some A) n c := hin 0 rfl
      clear hin
      have hcst : ∀ v, a.eval (.const v) = v := fun _ => rfl
      have hfnc : ∀ f, a.eval (.func f) = .func (.func f) #[] #[] := fun _ => rfl
      refine want_none rfl ?_
      unfold Oper.wp
      generalize a.eval = ρ at *
      go_simp
      try go_bits
      first | exact rel_val (Chg.refl _) | (go_simp; exact rel_val (Chg.refl _))
    case ao8 =>
      rintro a wx hE hin (h7 : a.eval (.tmp 31) = _)
      clear hin
      have hcst : ∀ v, a.eval (.const v) = v := fun _ => rfl
      have hfnc : ∀ f, a.eval (.func f) = .func (.func f) #[] #[] := fun _ => rfl
      refine want_none rfl ?_
      unfold Oper.wp
      generalize a.eval = ρ at *
      go_simp
      try go_bits
      first | exact rel_val (Chg.refl _) | (go_simp; exact rel_val (Chg.refl _))
    case ao9 =>
      rintro a wx hE hin (h8 : a.eval (.tmp 32) = _)
      clear hin
      have hcst : ∀ v, a.eval (.const v) = v := fun _ => rfl
      have hfnc : ∀ f, a.eval (.func f) = .func (.func f) #[] #[] := fun _ => rfl
      refine want_none rfl ?_
      unfold Oper.wp
      generalize a.eval = ρ at *
      go_simp
      refine (refNum_calls ((b.drop 5).take 4) (some (A.add 5)) 4 _ wx L4b.out (by decide) (R4b.out wx (E1.out.trans (hE.undrew.below E1.out.size (fun _ _ => id))))).mono ?_
      rintro e w' ⟨rfl, rfl⟩
      exact rel_val (Chg.refl _)
    case ao10 =>
      rintro a wx hE hin (h3 : a.eval (.tmp 27) = _) (h6 : a.eval (.tmp 30) = _) (h9 : a.eval (.tmp 33) = _)
      clear hin
      have hcst : ∀ v, a.eval (.const v) = v := fun _ => rfl
      have hfnc : ∀ f, a.eval (.func f) = .func (.func f) #[] #[] := fun _ => rfl
      refine want_none rfl ?_
      exact wp_bld 25 [(0, .tmp 27), (1, .tmp 30), (2, .tmp 33)] rfl zPkD [(0, [.int .i64 K]), (1, [vu32 e]), (2, [vu32 q])] (pktC K e q none 0 0) (by kernel_rfl) (by kernel_rfl) ⟨by rw [h3, HKN.out]; rfl, ⟨1, rfl, by kernel_rfl, by decide⟩, by rw [h6, HE.out]; rfl, ⟨1, rfl, by kernel_rfl, by decide⟩, by rw [h9, HQ.out]; rfl, ⟨1, rfl, by kernel_rfl, by decide⟩, trivial⟩ rfl (rel_val (Chg.refl _))
    case ao11 =>
      intro a wx hE hin
      clear hin
      have hcst : ∀ v, a.eval (.const v) = v := fun _ => rfl
      have hfnc : ∀ f, a.eval (.func f) = .func (.func f) #[] #[] := fun _ => rfl
      refine want_none rfl ?_
      exact wp_al 25 rfl zPkD (by kernel_rfl) ⟨_, rfl, ⟨wx.heap.size, rfl, hE.size, id, Bk.new _ _ _⟩, (Chg.refl _).alloc _⟩
  case afin =>
    intro wx hE
    rintro _ rfl _ rfl _ rfl _ rfl _ rfl _ rfl _ rfl _ rfl _ rfl _ rfl _ rfl _ ⟨gr, rfl, p9, n9, b9⟩
    simp only [FinOk, List.take_succ_cons, List.take_zero, List.take_nil, List.drop_succ_cons, List.drop_zero, List.drop_nil, Act.put, List.setIfInBounds_toArray, List.set_cons_succ, List.set_cons_zero]
    have N3 : Hid (Bk wx gr zPkD) := b9
    have HGR : Hid (w1.heap.size ≤ gr) := p9
    have E3 : Hid (Below w.heap.size w wx) := E1.out.trans (hE.undrew.below E1.out.size (fun _ _ => id))
    have K3 : Hid (Bk wx w.heap.size zPkD) := K1.out.drew.chg hE id
    have LGR : Hid (w.heap.size < gr) := by have := K1.out.lt; have := HGR.out; show _ < _; omega
    clear hE b9 p9 n9
    go_wp2_with (refine wpList_st rfl 25 (.tmp 4) (.tmp 34) rfl gr 0 4 zPkD (pktC K e q none 0 0) rfl rfl N3.out (by kernel_rfl) rfl (by decide) (one_pktD _ _ _ _ _ _) ?_)
    intro w4 hbk hc
    rw [splice_whole zPkD (pktC K e q none 0 0) rfl] at hbk
    have N4 := Lib.hid hbk
    have E4 : Hid (Below w.heap.size w w4) := E3.out.trans (hc.below E3.out.size (fun j hj he => by have := LGR.out; omega))
    have K4 : Hid (Bk w4 w.heap.size zPkD) := K3.out.chg hc (fun h => by have := LGR.out; omega)
    clear hbk hc K3 E3 N3
    go_wp2_with fail
    have H0 : Hid (RDecRel w gr K e q b N (.int .i64 0) w4) := ⟨0, .slice none 0 0, 0, none, Nat.zero_le _, rfl, rfl, World.ownsRow_nil _ _ _ _, N4.out, K4.out, E4.out⟩
    clear N4 K4 E4
    go_loopw [5] (fun v5 wr => RDecRel w gr K e q b N v5 wr) (fun v5 _ => N - (intOf v5).toNat)
    case atStart => exact H0.out
    case round =>
      obtain ⟨k, v, ck, Ak, hk, rfl, hv, ho, hgr, hk0, hb⟩ := hrel
      have OR := Lib.hid ho
      have GR := Lib.hid hgr
      have KR := Lib.hid hk0
      have ER := Lib.hid hb
      clear ho hgr hk0 hb H0
      have c9 : wr.cell? { block := A.block, off := A.off + 9 } = some (.int .u8 (N : Int)) := HB9.out wr ER.out
      by_cases hlt : k < N
      · have hki : (k : Int) < (N : Int) := by omega
        have hk00 : (0 : Int) ≤ (k : Int) := by omega
        have hN5 : (N : Int) ≤ 255 := by omega
        have hni1 : 10 + 33 * (k : Int) < (n : Int) := by have := HN.out; omega
        have hni2 : 43 + 33 * (k : Int) ≤ (n : Int) := by have := HN.out; omega
        have hni4 : (0 : Int) ≤ 11 + 33 * (k : Int) := by omega
        have hni5 : (0 : Int) ≤ 43 + 33 * (k : Int) := by omega
        have hni6 : (11 : Int) + 33 * (k : Int) ≤ 43 + 33 * (k : Int) := by omega
        have hni3 : 43 + 33 * (k : Int) ≤ (c : Int) := by have := HN.out; have : n ≤ c := HNC.out; omega
        have hnc : n ≤ c := HNC.out
        have hci : (n : Int) ≤ (c : Int) := by omega
        have hcm : (c : Int) ≤ 9223372036854775807 := by have := HCM.out; omega
        obtain ⟨av, hav⟩ : ∃ av, (b.getD (10 + 33 * k) 0).toNat = av := ⟨_, rfl⟩
        have hav256 : av < 256 := by rw [← hav]; exact (b.getD (10 + 33 * k) 0).toNat_lt
        have HAV : Hid ((putAt b k).at_ = (av : Int)) := by show ((b.getD (10 + 33 * k) 0).toNat : Int) = _; rw [hav]
        have HPL : Hid ((putAt b k).data.length = 32) := putAt_len HNL.out hlt
        have HC10 : Hid (∀ u, Below w.heap.size w u → u.cell? (A.add (10 + 33 * k)) = some (.int .u8 (av : Int))) := fun u hu => by
          obtain ⟨ad', h1, h2⟩ := (HR.out.below hu).bt (10 + 33 * k) (by rw [HNL.out]; omega)
          injection h1 with h1
          subst h1
          rw [h2, vu8, hav]
        have HRD : Hid (∀ u, Below w.heap.size w u → Rd u (some (A.add (11 + 33 * k))) (bts (putAt b k).data)) := fun u hu => by
          have h := ((HR.out.below hu).drop (11 + 33 * k)).take 32
          have e : bts (putAt b k).data = ((bts b).drop (11 + 33 * k)).take 32 := by rw [putAt, ← bts_drop', ← bts_take']
          rw [e]
          exact h
        clear hav
        have i10 : ((10 : Int) + 33 * (k : Int)).toNat = 10 + 33 * k := by omega
        have i11 : ((11 : Int) + 33 * (k : Int)).toNat = 11 + 33 * k := by omega
        go_wp2_with (refine wpList_al rfl 48 rfl (.int .i64 0 :: bts (List.replicate 32 0)) (by kernel_rfl) ?_)
        clear c9
        intro gp w5 hg hbk hc hs
        have HGP : Hid (gp = wr.heap.size) := hg
        have P5 := Lib.hid hbk
        have OR5 := Lib.hid (own_chg OR.out hc (fun _ _ => id))
        have GR5 : Hid (Bk w5 gr (pktC K e q Ak k ck)) := GR.out.chg hc id
        have KR5 : Hid (Bk w5 w.heap.size zPkD) := KR.out.chg hc id
        have ER5 : Hid (Below w.heap.size w w5) := ER.out.trans (hc.below ER.out.size (fun _ _ => id))
        have LGP : Hid (gr < gp) := by show _ < _; have := GR.out.lt; have := HGP.out; omega
        have HOW : Hid (∀ j, v.ownBlock = some j → gr + 1 ≤ j ∧ j < gp) := fun j hj => by have := OR.out.lt j hj; have := HGP.out; omega
        clear hg hbk hc hs OR GR KR ER
        have c10 := HC10.out w5 ER5.out
        go_wp2_with (refine wpList_st rfl 3 _ _ rfl gp 0 1 (.int .i64 0 :: bts (List.replicate 32 0)) [.int .i64 (av : Int)] rfl rfl P5.out (by kernel_rfl) rfl (by exact (by decide : 0 + 1 ≤ 33)) (fun u hu => by obtain rfl := List.mem_singleton.1 hu; rfl) ?_)
        clear c10
        intro w6 hbk hc
        have P6 : Hid (Bk w6 gp (.int .i64 (av : Int) :: bts (List.replicate 32 0))) := hbk
        have OR6 := Lib.hid (own_chg OR5.out hc (fun j hj he => by have := (HOW.out j hj).2; omega))
        have GR6 : Hid (Bk w6 gr (pktC K e q Ak k ck)) := GR5.out.chg hc (fun h => by have := LGP.out; omega)
        have KR6 : Hid (Bk w6 w.heap.size zPkD) := KR5.out.chg hc (fun h => by have := LGP.out; have := LGR.out; omega)
        have ER6 : Hid (Below w.heap.size w w6) := ER5.out.trans (hc.below ER5.out.size (fun j hj he => by have := LGP.out; have := LGR.out; omega))
        clear hbk hc OR5 GR5 KR5 ER5 P5
        go_wp2_with fail
        apply wp_region_rel 10 (Chg NoS) [(Veq _), (Veq _), (Veq _), (Veq _), (Veq _), (Veq _), (Veq _), (Veq _), (Veq _), (Veq (.slice (some (A.add (11 + 33 * k))) 32 (c - (11 + 33 * k))))] [[], [0], [], [], [3], [4], [], [6], [7], [2, 5, 8]] [51, 52, 53, 54, 55, 56, 57, 58, 59, 60] (by kernel_rfl) (by kernel_rfl) rfl rfl rfl Chg.refl (fun _ _ _ => Chg.trans) ⟨Veq.lasts, Veq.lasts, Veq.lasts, Veq.lasts, Veq.lasts, Veq.lasts, Veq.lasts, Veq.lasts, Veq.lasts, Veq.lasts, trivial⟩ ?bops ?bfin
        case bops =>
          refine ⟨?bo0, ?bo1, ?bo2, ?bo3, ?bo4, ?bo5, ?bo6, ?bo7, ?bo8, ?bo9, trivial⟩
          case bo0 =>
            intro a wx hE hin
            have i6 : a.eval (.tmp 6) = .pointer (some ⟨gp, 0, none⟩) := hin 6 rfl
            clear hin
            have hcst : ∀ v, a.eval (.const v) = v := fun _ => rfl
            have hfnc : ∀ f, a.eval (.func f) = .func (.func f) #[] #[] := fun _ => rfl
            refine want_none rfl ?_
            unfold Oper.wp
            generalize a.eval = ρ at *
            go_simp
            try go_bits
            first | exact rel_val (Chg.refl _) | (go_simp; exact rel_val (Chg.refl _))
          case bo1 =>
            rintro a wx hE hin (h0 : a.eval (.tmp 51) = _)
            clear hin
            have hcst : ∀ v, a.eval (.const v) = v := fun _ => rfl
            have hfnc : ∀ f, a.eval (.func f) = .func (.func f) #[] #[] := fun _ => rfl
            refine want_none rfl ?_
            unfold Oper.wp
            generalize a.eval = ρ at *
            go_simp
            try go_bits
            first | exact rel_val (Chg.refl _) | (go_simp; exact rel_val (Chg.refl _))
          case bo2 =>
            intro a wx hE hin
            have i0 : a.eval (.tmp 0) = .slice (some A) n c := hin 0 rfl
            clear hin
            have hcst : ∀ v, a.eval (.const v) = v := fun _ => rfl
            have hfnc : ∀ f, a.eval (.func f) = .func (.func f) #[] #[] := fun _ => rfl
            refine want_none rfl ?_
            unfold Oper.wp
            generalize a.eval = ρ at *
            go_simp
            try go_bits
            first | exact rel_val (Chg.refl _) | (go_simp; exact rel_val (Chg.refl _))
          case bo3 =>
            intro a wx hE hin
            have i5 : a.eval (.tmp 5) = .int .i64 (k : Int) := hin 5 rfl
            clear hin
            have hcst : ∀ v, a.eval (.const v) = v := fun _ => rfl
            have hfnc : ∀ f, a.eval (.func f) = .func (.func f) #[] #[] := fun _ => rfl
            refine want_none rfl ?_
            unfold Oper.wp
            generalize a.eval = ρ at *
            go_simp
            try go_bits
            first | exact rel_val (Chg.refl _) | (go_simp; exact rel_val (Chg.refl _))
          case bo4 =>
            rintro a wx hE hin (h3 : a.eval (.tmp 54) = _)
            clear hin
            have hcst : ∀ v, a.eval (.const v) = v := fun _ => rfl
            have hfnc : ∀ f, a.eval (.func f) = .func (.func f) #[] #[] := fun _ => rfl
            refine want_none rfl ?_
            unfold Oper.wp
            generalize a.eval = ρ at *
            go_simp
            try go_bits
            first | exact rel_val (Chg.refl _) | (go_simp; exact rel_val (Chg.refl _))
          case bo5 =>
            rintro a wx hE hin (h4 : a.eval (.tmp 55) = _)
            clear hin
            have hcst : ∀ v, a.eval (.const v) = v := fun _ => rfl
            have hfnc : ∀ f, a.eval (.func f) = .func (.func f) #[] #[] := fun _ => rfl
            refine want_none rfl ?_
            unfold Oper.wp
            generalize a.eval = ρ at *
            go_simp
            try go_bits
            first | exact rel_val (Chg.refl _) | (go_simp; exact rel_val (Chg.refl _))
          case bo6 =>
            intro a wx hE hin
            have i5 : a.eval (.tmp 5) = .int .i64 (k : Int) := hin 5 rfl
            clear hin
            have hcst : ∀ v, a.eval (.const v) = v := fun _ => rfl
            have hfnc : ∀ f, a.eval (.func f) = .func (.func f) #[] #[] := fun _ => rfl
            refine want_none rfl ?_
            unfold Oper.wp
            generalize a.eval = ρ at *
            go_simp
            try go_bits
            first | exact rel_val (Chg.refl _) | (go_simp; exact rel_val (Chg.refl _))
          case bo7 =>
            rintro a wx hE hin (h6 : a.eval (.tmp 57) = _)
            clear hin
            have hcst : ∀ v, a.eval (.const v) = v := fun _ => rfl
            have hfnc : ∀ f, a.eval (.func f) = .func (.func f) #[] #[] := fun _ => rfl
            refine want_none rfl ?_
            unfold Oper.wp
            generalize a.eval = ρ at *
            go_simp
            try go_bits
            first | exact rel_val (Chg.refl _) | (go_simp; exact rel_val (Chg.refl _))
          case bo8 =>
            rintro a wx hE hin (h7 : a.eval (.tmp 58) = _)
            clear hin
            have hcst : ∀ v, a.eval (.const v) = v := fun _ => rfl
            have hfnc : ∀ f, a.eval (.func f) = .func (.func f) #[] #[] := fun _ => rfl
            refine want_none rfl ?_
            unfold Oper.wp
            generalize a.eval = ρ at *
            go_simp
            try go_bits
            first | exact rel_val (Chg.refl _) | (go_simp; exact rel_val (Chg.refl _))
          case bo9 =>
            rintro a wx hE hin (h2 : a.eval (.tmp 53) = _) (h5 : a.eval (.tmp 56) = _) (h8 : a.eval (.tmp 59) = _)
            clear hin
            have hcst : ∀ v, a.eval (.const v) = v := fun _ => rfl
            have hfnc : ∀ f, a.eval (.func f) = .func (.func f) #[] #[] := fun _ => rfl
            refine want_none rfl ?_
            unfold Oper.wp
            generalize a.eval = ρ at *
            go_simp
            rw [if_neg (by omega), show ((43 : Int) + 33 * (k : Int)).toNat - (11 + 33 * k) = 32 by omega]
            exact rel_val (Chg.refl _)
        case bfin =>
          intro wx hE
          rintro _ rfl _ rfl _ rfl _ rfl _ rfl _ rfl _ rfl _ rfl _ rfl _ rfl
          simp only [FinOk, List.take_succ_cons, List.take_zero, List.take_nil, List.drop_succ_cons, List.drop_zero, List.drop_nil, Act.put, List.setIfInBounds_toArray, List.set_cons_succ, List.set_cons_zero]
          have P7 : Hid (Bk wx gp (.int .i64 (av : Int) :: bts (List.replicate 32 0))) := P6.out.drew.chg hE id
          have OR7 : Hid (wx.ownsRow (gr + 1) 48 33 v k ((putsN b k).flatMap putC)) := own_chg (own_drew OR6.out) hE (fun _ _ => id)
          have GR7 : Hid (Bk wx gr (pktC K e q Ak k ck)) := GR6.out.drew.chg hE id
          have KR7 : Hid (Bk wx w.heap.size zPkD) := KR6.out.drew.chg hE id
          have ER7 : Hid (Below w.heap.size w wx) := ER6.out.trans (hE.undrew.below ER6.out.size (fun _ _ => id))
          clear hE
          go_wp2_with (refine wpList_cp rfl _ _ 26 26 5 rfl Try.underlying26 (by kernel_rfl) gp 1 32 32 (some (A.add (11 + 33 * k))) 32 (c - (11 + 33 * k)) (.int .i64 (av : Int) :: bts (List.replicate 32 0)) (bts (putAt b k).data) rfl rfl P7.out (HRD.out wx ER7.out) (by rw [bts_length, HPL.out]) (by exact (by decide : 1 + 32 ≤ 33)) (one_bts _) ?_)
          intro w8 hbk hc
          have P8 : Hid (Bk w8 gp (putC (putAt b k))) := by
            have e : splice (.int .i64 (av : Int) :: bts (List.replicate 32 0)) 1 ((bts (putAt b k).data).take 32) = putC (putAt b k) := by
              rw [List.take_of_length_le (by rw [bts_length, HPL.out]; exact Nat.le_refl _)]
              have h := put_splice (p := putAt b k) HPL.out
              rw [HAV.out] at h
              rw [← h]
              rfl
            rw [← e]
            exact hbk
          have OR8 := Lib.hid (own_chg OR7.out hc (fun j hj he => by have := (HOW.out j hj).2; omega))
          have GR8 : Hid (Bk w8 gr (pktC K e q Ak k ck)) := GR7.out.chg hc (fun h => by have := LGP.out; omega)
          have KR8 : Hid (Bk w8 w.heap.size zPkD) := KR7.out.chg hc (fun h => by have := LGP.out; have := LGR.out; omega)
          have ER8 : Hid (Below w.heap.size w w8) := ER7.out.trans (hc.below ER7.out.size (fun j hj he => by have := LGP.out; have := LGR.out; omega))
          clear hbk hc OR7 GR7 KR7 ER7 P7
          obtain ⟨vp, hvp⟩ : ∃ vp, putC (putAt b k) = vp := ⟨_, rfl⟩
          have HVP := Lib.hid hvp
          have HVL : Hid (vp.length = 33) := by show _ = _; rw [← hvp]; exact putC_len HPL.out
          have HVO : Hid (∀ u ∈ vp, u.oneCell' = true) := by rw [← hvp]; exact one_put _
          rw [hvp] at P8
          clear hvp
          subst hv
          have D3 : Hid ((pktC K e q Ak k ck)[3]? = some (.slice Ak k ck)) := rfl
          have d3 := GR8.out.cell D3.out
          go_wp2_with (first
            | (refine wpList_ld rfl 48 (.tmp 6) rfl gp 0 33 vp vp rfl P8.out (by kernel_rfl) (by kernel_rfl) (by rw [HVL.out]; decide) (by rw [List.drop_zero, List.take_of_length_le (by rw [HVL.out]; exact Nat.le_refl _)]) ?_)
            | (refine wpList_bs1R rfl 23 48 (.tmp 64) rfl zPut 33 vp Try.underlying23 infoPut rfl (by decide) (by decide) rfl HVL.out ?_))
          intro g5 w8' hg5 hb5 hc5
          have HG5 : Hid (g5 = w8.heap.size) := hg5
          have B5 := Lib.hid hb5
          have OR8' := Lib.hid (own_chg OR8.out hc5 (fun _ _ => id))
          have GR8' : Hid (Bk w8' gr (pktC K e q Ak k ck)) := GR8.out.chg hc5 id
          have KR8' : Hid (Bk w8' w.heap.size zPkD) := KR8.out.chg hc5 id
          have ER8' : Hid (Below w.heap.size w w8') := ER8.out.trans (hc5.below ER8.out.size (fun _ _ => id))
          clear d3 hg5 hb5 hc5 OR8 GR8 KR8 ER8
          go_wp2_with (at_builtin; refine wpList_append_rd rfl (.tmp 63) (.tmp 65) 23 rfl (gr + 1) 48 zPut 33 40 Try.underlying23 infoPutQ rfl (by decide) (by decide) (.slice Ak k ck) k ((putsN b k).flatMap putC) rfl OR8'.out (some ⟨g5, 0, none⟩) 1 1 vp rfl HVL.out B5.out.rd HVO.out (by omega) (by have := GR8'.out.lt; omega) ?_)
          intro v2 w9 hown hg hat
          have hch : Chg (fun j => (Value.slice Ak k ck).ownBlock = some j) w8' w9 := ⟨hg.os, hg.tape, hg.output, hg.size, fun j hj hne => hg.block j hj (fun he => hne he.symm)⟩
          have OR9 : Hid (w9.ownsRow (gr + 1) 48 33 v2 (k + 1) ((putsN b (k + 1)).flatMap putC)) := by
            have e : (putsN b (k + 1)).flatMap putC = (putsN b k).flatMap putC ++ vp := by
              rw [putsN, List.range_succ, List.map_append, List.flatMap_append, List.map_singleton, List.flatMap_singleton, ← HVP.out]
              rfl
            rw [e]
            exact hown
          have GR9 : Hid (Bk w9 gr (pktC K e q Ak k ck)) := GR8'.out.chg hch (fun he => by have := (HOW.out _ he).1; omega)
          have KR9 : Hid (Bk w9 w.heap.size zPkD) := KR8'.out.chg hch (fun he => by have := (HOW.out _ he).1; have := LGR.out; omega)
          have ER9 : Hid (Below w.heap.size w w9) := ER8'.out.trans (hch.below ER8'.out.size (fun j hj he => by have := (HOW.out _ he).1; have := LGR.out; omega))
          clear hown hg hat hch OR8' GR8' KR8' ER8'
          obtain ⟨A9, c9', rfl, _, _, _⟩ := own_rd OR9.out
          go_wp2_with (refine wpList_st rfl 23 _ (.tmp 66) rfl gr 3 1 (pktC K e q Ak k ck) [.slice A9 (k + 1) c9'] rfl rfl GR9.out (by kernel_rfl) rfl (by exact (by decide : 3 + 1 ≤ 4)) (fun u hu => by obtain rfl := List.mem_singleton.1 hu; rfl) ?_)
          intro wa hbk hc
          have GRa : Hid (Bk wa gr (pktC K e q A9 (k + 1) c9')) := hbk
          have ORa : Hid (wa.ownsRow (gr + 1) 48 33 (.slice A9 (k + 1) c9') (k + 1) ((putsN b (k + 1)).flatMap putC)) := own_chg OR9.out hc (fun j hj he => by have := (OR9.out.lt j hj).1; omega)
          have KRa : Hid (Bk wa w.heap.size zPkD) := KR9.out.chg hc (fun h => by have := LGR.out; omega)
          have ERa : Hid (Below w.heap.size w wa) := ER9.out.trans (hc.below ER9.out.size (fun j hj he => by have := LGR.out; omega))
          clear hbk hc
          go_wp2_with fail
          go_roundw
          case rel => exact ⟨k + 1, _, c9', A9, by omega, by go_num, rfl, ORa.out, GRa.out, KRa.out, ERa.out⟩
          case measure => simp [intOf]; omega
      · have hke : k = N := by omega
        subst hke
        have hki : ¬ (((k : Nat) : Int) < (k : Int)) := by omega
        subst hv
        have HRP := Lib.hid (own_rdQ OR.out)
        obtain ⟨A5', c5', he5, _, hn5, hm5⟩ := own_rd OR.out
        injection he5 with h51 _ h53
        subst h51
        subst h53
        have HN5 := Lib.hid hn5
        have HM5 := Lib.hid hm5
        clear hn5 hm5
        go_wp2_with (refine wpList_ld rfl 25 (.tmp 4) rfl gr 0 4 (pktC K e q Ak k ck) (pktC K e q Ak k ck) rfl GR.out (by kernel_rfl) (by kernel_rfl) (by exact (by decide : 0 + 4 ≤ 4)) rfl ?_)
        refine (refPackEncode_calls K e q (putsN b k) Ak k ck wr (putsN_len _ _) (by omega) HRP.out (putsN_ok HNL.out)).mono ?_
        intro en w6 hp
        have HDP := Lib.hid hp
        clear hp c9
        by_cases hgood : goodP K (putsN b k) = true
        case neg =>
          have hp := HDP.out
          unfold RefEncPost at hp
          rw [if_neg hgood] at hp
          obtain ⟨rfl, hb⟩ := hp
          have E6 : Hid (Below w.heap.size w w6) := ER.out.trans (hb.mono ER.out.size)
          have K6 : Hid (Bk w6 w.heap.size zPkD) := KR.out.below hb
          have HF : Hid (decP b = ((0, 0, 0, []), 11)) := decP_no HLB.out (fun h => hgood (by rw [HNN.out, HKK.out] at h; exact h.1))
          clear hb HDP
          go_wp2_with (first
            | (refine wpList_bld rfl 25 [] rfl zPkD [] zPkD (by kernel_rfl) (by kernel_rfl) trivial rfl ?_)
            | (refine wpList_st rfl 25 (.tmp 2) (.tmp 82) rfl w.heap.size 0 4 zPkD zPkD rfl rfl K6.out (by kernel_rfl) rfl (by decide) (one_pktD _ _ _ _ _ _) ?_))
          intro w9 hbk hc
          rw [splice_whole zPkD zPkD rfl] at hbk
          have K9 := Lib.hid hbk
          have E9 : Hid (Below w.heap.size w w9) := E6.out.trans (hc.below E6.out.size (fun j hj he => by omega))
          clear hbk hc
          go_wp2_with fail
          (try simp only [Exit.inBlock, Exit.then])
          refine bodyPost_ret (res_cell_tmp rfl _ _ w.heap.size 4 _ rfl K9.out (by kernel_rfl) (by kernel_rfl) rfl) rfl ?_
          rw [DecPost, HF.out]
          exact ⟨none, 0, rfl, Rd.nil _ _, Nat.le_refl _, by decide, (fun p hp => by cases hp), E9.out⟩
        have HGD := Lib.hid hgood
        have hp := HDP.out
        unfold RefEncPost at hp
        rw [if_pos hgood] at hp
        obtain ⟨A6, c6, rfl, hr6, hc6, hm6, hb⟩ := hp
        have E6 : Hid (Below w.heap.size w w6) := ER.out.trans (hb.mono ER.out.size)
        have K6 : Hid (Bk w6 w.heap.size zPkD) := KR.out.below hb
        have N6 : Hid (Bk w6 gr (pktC K e q Ak k ck)) := GR.out.below hb
        have O6 : Hid (w6.ownsRow (gr + 1) 48 33 (.slice Ak k ck) k ((putsN b k).flatMap putC)) := own_chg OR.out (Chg.of_below (S := NoS) hb) (fun _ _ => id)
        have R6 := Lib.hid hr6
        clear hb hr6 hc6 hm6 HDP
        obtain ⟨l6, hl6⟩ : ∃ l6, encP K.toNat e q (putsN b k) = l6 := ⟨_, rfl⟩
        have HL6 := Lib.hid hl6
        rw [hl6] at R6 ⊢
        clear hl6 hgood
        have k1 := conv_rd (P := Try.prog) w6 26 5 Try.underlying26 Try.underlying5 A6 l6.length c6 l6 rfl R6.out 9 Try.underlying9
        have k2 := conv_rd (P := Try.prog) w6 26 5 Try.underlying26 Try.underlying5 (some A) n c b HBL.out (HR.out.below E6.out) 9 Try.underlying9
        have HI := Lib.hid (strOf_inj l6 b)
        generalize strOf l6 = sx at *
        generalize strOf b = sy at *
        by_cases heq : l6 = b
        case neg =>
          have hq : (sx.toList == sy.toList) = false := by rw [HI.out]; exact decide_eq_false heq
          have HF : Hid (decP b = ((0, 0, 0, []), 11)) := decP_no HLB.out (fun h => heq (by rw [HNN.out, HKK.out, HE4.out, HQ4.out] at h; rw [← HL6.out]; exact h.2))
          clear heq
          go_wp2_with (first
            | (refine wpList_bld rfl 25 [] rfl zPkD [] zPkD (by kernel_rfl) (by kernel_rfl) trivial rfl ?_)
            | (refine wpList_st rfl 25 (.tmp 2) (.tmp 82) rfl w.heap.size 0 4 zPkD zPkD rfl rfl K6.out (by kernel_rfl) rfl (by decide) (one_pktD _ _ _ _ _ _) ?_))
          intro w9 hbk hc
          rw [splice_whole zPkD zPkD rfl] at hbk
          have K9 := Lib.hid hbk
          have E9 : Hid (Below w.heap.size w w9) := E6.out.trans (hc.below E6.out.size (fun j hj he => by omega))
          clear hbk hc
          go_wp2_with fail
          (try simp only [Exit.inBlock, Exit.then])
          refine bodyPost_ret (res_cell_tmp rfl _ _ w.heap.size 4 _ rfl K9.out (by kernel_rfl) (by kernel_rfl) rfl) rfl ?_
          rw [DecPost, HF.out]
          exact ⟨none, 0, rfl, Rd.nil _ _, Nat.le_refl _, by decide, (fun p hp => by cases hp), E9.out⟩
        have hq : (sx.toList == sy.toList) = true := by rw [HI.out]; exact decide_eq_true heq
        have HF : Hid (decP b = ((K, e, q, putsN b k), 0)) := by
          have h := decP_yes HLB.out (by rw [HNN.out, HKK.out]; exact HGD.out) (by rw [HNN.out, HKK.out, HE4.out, HQ4.out, HL6.out]; exact heq)
          rw [HNN.out, HKK.out, HE4.out, HQ4.out] at h
          exact h
        clear heq
        go_wp2_with (first
          | (refine wpList_ld rfl 25 (.tmp 4) rfl gr 0 4 (pktC K e q Ak k ck) (pktC K e q Ak k ck) rfl N6.out (by kernel_rfl) (by kernel_rfl) (by exact (by decide : 0 + 4 ≤ 4)) rfl ?_)
          | (refine wpList_st rfl 25 (.tmp 2) (.tmp 83) rfl w.heap.size 0 4 zPkD (pktC K e q Ak k ck) rfl rfl K6.out (by kernel_rfl) rfl (by decide) (one_pktD _ _ _ _ _ _) ?_))
        intro w8 hbk hc
        rw [splice_whole zPkD (pktC K e q Ak k ck) rfl] at hbk
        have K8 := Lib.hid hbk
        have E8 : Hid (Below w.heap.size w w8) := E6.out.trans (hc.below E6.out.size (fun j hj he => by omega))
        have O8 : Hid (w8.ownsRow (gr + 1) 48 33 (.slice Ak k ck) k ((putsN b k).flatMap putC)) := own_chg O6.out hc (fun j hj he => by have := (O6.out.lt j hj).1; have := LGR.out; omega)
        clear hbk hc
        go_wp2_with fail
        (try simp only [Exit.inBlock, Exit.then])
        refine bodyPost_ret (res_cell_tmp rfl _ _ w.heap.size 4 _ rfl K8.out (by kernel_rfl) (by kernel_rfl) rfl) rfl ?_
        rw [DecPost, HF.out]
        refine ⟨Ak, ck, ?_, own_rdQ O8.out, ?_, HM5.out, putsN_ok HNL.out, E8.out⟩
        · show _ = Ending.returned (.tuple #[.agg (pktC K e q Ak (putsN b k).length ck).toArray, .int .i64 0])
          rw [putsN_len]
          rfl
        · show (putsN b k).length ≤ ck
          rw [putsN_len]
          exact HN5.out
end Go.Proofs.Ytpldcmcldoidaaa
