
/- law24's reference sender: Send. -/
import Derived.Test.YtjkkbkjejcjfiaaSndRef
namespace Go.Proofs.Ytjkkbkjejcjfiaa
open Go.RowKit
set_option linter.unusedVariables false
set_option linter.unusedSimpArgs false

/-! ### stores into one block, among operations that may come in any order -/
def Ev (q : Nat) (fin : List Value) (w w' : World) : Prop := Chg (· = q) w w' ∧ ∀ vs, Bk w q vs → vs.length = fin.length → ∃ vs', Bk w' q vs' ∧ vs'.length = fin.length ∧ ∀ j : Nat, vs[j]? = fin[j]? → vs'[j]? = fin[j]?
theorem Ev.refl {q : Nat} {fin : List Value} (w : World) : Ev q fin w w := ⟨Chg.refl _, fun vs h hl => ⟨vs, h, hl, fun _ h => h⟩⟩
theorem Ev.trans {q : Nat} {fin : List Value} {a b c : World} (h : Ev q fin a b) (k : Ev q fin b c) : Ev q fin a c := ⟨h.1.trans k.1, fun vs hb hl => by
  obtain ⟨v1, h1, h2, h3⟩ := h.2 vs hb hl
  obtain ⟨v2, k1, k2, k3⟩ := k.2 v1 h1 h2
  exact ⟨v2, k1, k2, fun j hj => k3 j (h3 j hj)⟩⟩
/-- n cells from off on are what they shall be. -/
def StF (q off n : Nat) (fin : List Value) : Fact := fun w _ => ∃ vs, Bk w q vs ∧ vs.length = fin.length ∧ ∀ j : Nat, j < n → vs[off + j]? = fin[off + j]?
theorem StF.lasts {q off n : Nat} {fin : List Value} : ∀ w w' v, Ev q fin w w' → StF q off n fin w v → StF q off n fin w' v := fun _ _ _ h ⟨vs, hb, hl, hj⟩ => by
  obtain ⟨v1, h1, h2, h3⟩ := h.2 vs hb hl
  exact ⟨v1, h1, h2, fun j hn => h3 _ (hj j hn)⟩
theorem st_step {w w' : World} {q off : Nat} {fin vs us : List Value} (h : Bk w q vs) (hl : vs.length = fin.length) (hb : Bk w' q (splice vs off us)) (hc : Chg (· = q) w w') (hle : off + us.length ≤ fin.length) (hus : ∀ j, j < us.length → us[j]? = fin[off + j]?) : StF q off us.length fin w' undef ∧ Ev q fin w w' := by
  have hlen : (splice vs off us).length = fin.length := by simp only [splice, List.length_append, List.length_take, List.length_drop]; omega
  have hin : ∀ j, j < us.length → (splice vs off us)[off + j]? = fin[off + j]? := fun j hj => by
    rw [← hus j hj, splice, List.getElem?_append_right (by rw [List.length_take]; omega), List.length_take, Nat.min_eq_left (by omega), List.getElem?_append_left (by omega)]
    congr 1
    omega
  refine ⟨⟨_, hb, hlen, hin⟩, hc, fun v0 hv0 _ => ?_⟩
  obtain rfl := hv0.inj h
  refine ⟨_, hb, hlen, fun j hj => ?_⟩
  rcases Nat.lt_or_ge j off with h1 | h1
  · rw [← hj, splice, List.getElem?_append_left (by rw [List.length_take]; omega), List.getElem?_take, if_pos h1]
  · rcases Nat.lt_or_ge j (off + us.length) with h2 | h2
    · have := hin (j - off) (by omega)
      rwa [show off + (j - off) = j by omega] at this
    · rw [← hj, splice, List.getElem?_append_right (by rw [List.length_take]; omega), List.length_take, Nat.min_eq_left (by omega), List.getElem?_append_right (by omega), List.getElem?_drop]
      congr 1
      omega
theorem one_at {u : Value} {fin : List Value} {off : Nat} (h : fin[off]? = some u) : ∀ j, j < [u].length → [u][j]? = fin[off + j]? := fun j hj => by
  obtain rfl : j = 0 := by simp at hj; exact hj
  exact h.symm
theorem st_all {w : World} {q : Nat} {fin vs : List Value} (h : Bk w q vs) (hl : vs.length = fin.length) (h12 : fin.length = 12) (f0 : StF q 0 1 fin w undef) (f2 : StF q 2 4 fin w undef) (f10 : StF q 10 1 fin w undef) (f11 : StF q 11 1 fin w undef)
    (e1 : vs[1]? = fin[1]?) (e6 : vs[6]? = fin[6]?) (e7 : vs[7]? = fin[7]?) (e8 : vs[8]? = fin[8]?) (e9 : vs[9]? = fin[9]?) : vs = fin := by
  have hF : ∀ {off n : Nat}, StF q off n fin w undef → ∀ j, j < n → vs[off + j]? = fin[off + j]? := fun hf j hj => by
    obtain ⟨us, h1, _, h3⟩ := hf
    rw [h.inj h1]
    exact h3 j hj
  apply List.ext_getElem?
  intro i
  rcases Nat.lt_or_ge i 12 with hi | hi
  · match i, hi with
    | 0, _ => exact hF f0 0 (by decide)
    | 1, _ => exact e1
    | 2, _ => exact hF f2 0 (by decide)
    | 3, _ => exact hF f2 1 (by decide)
    | 4, _ => exact hF f2 2 (by decide)
    | 5, _ => exact hF f2 3 (by decide)
    | 6, _ => exact e6
    | 7, _ => exact e7
    | 8, _ => exact e8
    | 9, _ => exact e9
    | 10, _ => exact hF f10 0 (by decide)
    | 11, _ => exact hF f11 0 (by decide)
  · rw [List.getElem?_eq_none (by omega), List.getElem?_eq_none (by omega)]
set_option maxRecDepth 100000 in
set_option maxHeartbeats 16000000 in
theorem refSend_calls (w : World) (q : Nat) (v : SV) (hs : QSt w q v) (p : PkV) (A1 : Option Addr) (n1 c1 : Nat) (hl : p.ps.length = n1) (hm : n1 ≤ 9223372036854775807) (hr : RdN (q + 1) w A1 (p.ps.flatMap putC)) (ho : PutsOk p.ps) : Calls Try.prog 26 #[.pointer (some ⟨q, 0, none⟩), .agg (pktC p.k p.e p.q A1 n1 c1).toArray] w (QPost w q (v.send p) (.int .i64 (v.sendE p))) := by
  obtain ⟨A, n, c, B, m, d, h⟩ := hs
  have HS := Lib.hid h
  have HR := Lib.hid hr
  have HO := Lib.hid ho
  have HL := Lib.hid hl
  clear hr ho h
  obtain ⟨bx, hbx⟩ : ∃ bx, pktC p.k p.e p.q A1 n1 c1 = bx := ⟨_, rfl⟩
  have HBX := Lib.hid hbx
  have D0 : Hid (bx[0]? = some (.int .i64 p.k)) := by rw [← hbx]; exact (rfl : _ = _)
  have D1 : Hid (bx[1]? = some (vu32 p.e)) := by rw [← hbx]; exact (rfl : _ = _)
  have D2 : Hid (bx[2]? = some (vu32 p.q)) := by rw [← hbx]; exact (rfl : _ = _)
  have HBL : Hid (bx.length = 4) := by show _ = _; rw [← hbx]; rfl
  rw [hbx]
  clear hbx
  have HNO : Hid (∀ (z : Int) (w' : World), v.sendE p = z → ¬ z = 0 → Below w.heap.size w w' → QPost w q (v.send p) (.int .i64 (v.sendE p)) (.returned (.int .i64 z)) w') := fun z w' h1 h2 hb => by
    rw [SV.send, h1, if_neg h2]
    exact ⟨rfl, ⟨A, n, c, B, m, d, HS.out.below hb⟩, (Chg.of_below (S := NoS) hb).mono (fun _ hj => hj.elim)⟩
  go_enter Try.func26, Try.ntmps26
  go_wp2_with (refine wpList_ld rfl 25 (.tmp 3) rfl w.heap.size 0 4 bx bx rfl (Bk.new w bx _) (by kernel_rfl) (by kernel_rfl) (by rw [HBL.out]; decide) (by rw [List.drop_zero, List.take_of_length_le (by rw [HBL.out]; exact Nat.le_refl _)]) ?_)
  refine calls_at fun w0 hw0 => ?_
  have KX0 : Hid (Bk w0 w.heap.size bx) := by rw [← hw0]; exact Bk.new w bx _
  have E0 : Hid (Below w.heap.size w w0) := by rw [← hw0]; exact (Below.refl _ _).alloc (Nat.le_refl _) _
  clear hw0
  rw [← HBX.out]
  refine (refPackGood_calls p.k p.e p.q p.ps A1 n1 c1 w0 hl hm (HR.out.rd.below E0.out) HO.out).mono ?_
  rintro en w1 ⟨rfl, hb⟩
  have KX1 := Lib.hid (KX0.out.below hb)
  have E1 : Hid (Below w.heap.size w w1) := E0.out.trans (hb.mono E0.out.size)
  have c0 := KX1.out.cell D0.out
  clear hb KX0 E0 hl hm
  by_cases hg : goodP p.k p.ps = true
  case neg =>
    have HF : Hid (v.sendE p = 1) := by show _ = _; rw [SV.sendE, if_neg (fun h => hg h.1)]
    rw [Bool.not_eq_true] at hg
    rw [hg]
    clear hg
    go_wp2_with fail
    (try simp only [Exit.inBlock, Exit.then])
    go_ret
    exact HNO.out 1 _ HF.out (by decide) E1.out
  have HG := Lib.hid hg
  have hgp := goodP_at hg
  have hkk : p.k = 1 ∨ p.k = 2 ∨ p.k = 3 ∨ p.k = 4 := by have := hgp.1; have := hgp.2.1; omega
  rw [hg]
  clear hg
  by_cases hk : p.k = 1 ∨ p.k = 2
  case neg =>
    have HF : Hid (v.sendE p = 1) := by show _ = _; rw [SV.sendE, if_neg (fun h => hk h.2)]
    have hki : (2 : Int) < p.k := by omega
    clear hk hkk
    go_wp2_with fail
    (try simp only [Exit.inBlock, Exit.then])
    go_ret
    exact HNO.out 1 _ HF.out (by decide) E1.out
  have hki : ¬ (2 : Int) < p.k := by omega
  have HN5 : Hid (n1 ≤ 5) := by show _ ≤ _; have := hgp.2.2.1; have := HL.out; omega
  have HK := Lib.hid hk
  clear hk hkk hgp
  have HS1 := Lib.hid (HS.out.below E1.out)
  have d0 : w1.cell? ⟨q, 0, none⟩ = some (.bool v.is) := HS1.out.bk.cell rfl
  cases hi : v.is with
  | true =>
    have HF : Hid (v.sendE p = 19) := by show _ = _; rw [SV.sendE, if_pos ⟨HG.out, HK.out⟩, if_pos hi]
    rw [hi] at d0
    clear hi
    go_wp2_with fail
    (try simp only [Exit.inBlock, Exit.then])
    go_ret
    exact HNO.out 19 _ HF.out (by decide) E1.out
  | false =>
    have HSE : Hid (v.sendE p = 0) := by show _ = _; rw [SV.sendE, if_pos ⟨HG.out, HK.out⟩, if_neg (by rw [hi]; decide)]
    rw [hi] at d0
    clear hi
    obtain ⟨fin, hfc⟩ : ∃ fin, refC ⟨true, p, v.was, v.y, 0, false⟩ A1 n1 c1 B m d = fin := ⟨_, rfl⟩
    have HFC := Lib.hid hfc
    have HFN : Hid (fin.length = 12) := by show _ = _; rw [← hfc]; rfl
    have HFL : Hid ((refC v A n c B m d).length = fin.length) := by show _ = _; rw [← hfc]; rfl
    have KQ1 := Lib.hid HS1.out.bk
    have LQ : Hid (q < w.heap.size) := HS.out.bk.lt
    have E2 : Hid (Chg (· = q) w w1) := (Chg.of_below (S := NoS) E1.out).mono (fun _ hj => hj.elim)
    clear hfc HNO
    go_wp2_with fail
    clear c0 d0 hki
    apply wp_region_rel 17 (Ev q fin) [(Veq _), (Veq _), (Veq _), (Veq _), (Veq (.agg bx.toArray)), (Veq _), (Veq _), (StF q 0 1 fin), (Veq _), (Veq _), (StF q 2 4 fin), (Veq _), (Veq _), (StF q 10 1 fin), (Veq _), (Veq _), (StF q 11 1 fin)] [[], [], [], [], [], [0], [5], [6], [1], [8], [4, 9], [2], [11], [12], [3], [14], [15]] [17, 18, 19, 20, 21, 22, 23, 24, 25, 26, 27, 28, 29] (by kernel_rfl) (by kernel_rfl) rfl rfl rfl Ev.refl (fun _ _ _ => Ev.trans) ⟨Veq.lasts, Veq.lasts, Veq.lasts, Veq.lasts, Veq.lasts, Veq.lasts, Veq.lasts, StF.lasts, Veq.lasts, Veq.lasts, StF.lasts, Veq.lasts, Veq.lasts, StF.lasts, Veq.lasts, Veq.lasts, StF.lasts, trivial⟩ ?aops ?afin
    case aops =>
      refine ⟨?ao0, ?ao1, ?ao2, ?ao3, ?ao4, ?ao5, ?ao6, ?ao7, ?ao8, ?ao9, ?ao10, ?ao11, ?ao12, ?ao13, ?ao14, ?ao15, ?ao16, trivial⟩
      case ao0 =>
        intro a wx hE hin
        have i0 : a.eval (.tmp 0) = .pointer (some ⟨q, 0, none⟩) := hin 0 rfl
        clear hin
        have hcst : ∀ v, a.eval (.const v) = v := fun _ => rfl
        have hfnc : ∀ f, a.eval (.func f) = .func (.func f) #[] #[] := fun _ => rfl
        refine want_none rfl ?_
        unfold Oper.wp
        generalize a.eval = ρ at *
        go_simp
        try go_bits
        first | exact rel_val (Ev.refl _) | (go_simp; exact rel_val (Ev.refl _))
      case ao1 =>
        intro a wx hE hin
        have i0 : a.eval (.tmp 0) = .pointer (some ⟨q, 0, none⟩) := hin 0 rfl
        clear hin
        have hcst : ∀ v, a.eval (.const v) = v := fun _ => rfl
        have hfnc : ∀ f, a.eval (.func f) = .func (.func f) #[] #[] := fun _ => rfl
        refine want_none rfl ?_
        unfold Oper.wp
        generalize a.eval = ρ at *
        go_simp
        try go_bits
        first | exact rel_val (Ev.refl _) | (go_simp; exact rel_val (Ev.refl _))
      case ao2 =>
        intro a wx hE hin
        have i0 : a.eval (.tmp 0) = .pointer (some ⟨q, 0, none⟩) := hin 0 rfl
        clear hin
        have hcst : ∀ v, a.eval (.const v) = v := fun _ => rfl
        have hfnc : ∀ f, a.eval (.func f) = .func (.func f) #[] #[] := fun _ => rfl
        refine want_none rfl ?_
        unfold Oper.wp
        generalize a.eval = ρ at *
        go_simp
        try go_bits
        first | exact rel_val (Ev.refl _) | (go_simp; exact rel_val (Ev.refl _))
      case ao3 =>
        intro a wx hE hin
        have i0 : a.eval (.tmp 0) = .pointer (some ⟨q, 0, none⟩) := hin 0 rfl
        clear hin
        have hcst : ∀ v, a.eval (.const v) = v := fun _ => rfl
        have hfnc : ∀ f, a.eval (.func f) = .func (.func f) #[] #[] := fun _ => rfl
        refine want_none rfl ?_
        unfold Oper.wp
        generalize a.eval = ρ at *
        go_simp
        try go_bits
        first | exact rel_val (Ev.refl _) | (go_simp; exact rel_val (Ev.refl _))
      case ao4 =>
        intro a wx hE hin
        have i3 : a.eval (.tmp 3) = .pointer (some ⟨w.heap.size, 0, none⟩) := hin 3 rfl
        clear hin
        have hcst : ∀ v, a.eval (.const v) = v := fun _ => rfl
        have hfnc : ∀ f, a.eval (.func f) = .func (.func f) #[] #[] := fun _ => rfl
        refine want_none rfl ?_
        exact wp_ld 25 _ rfl w.heap.size 0 4 bx bx i3 (KX1.out.drew.chg hE.1 (by have := LQ.out; omega)) (by kernel_rfl) (by kernel_rfl) (by rw [HBL.out]; decide) (by rw [List.drop_zero, List.take_of_length_le (by rw [HBL.out]; exact Nat.le_refl _)]) (rel_val (Ev.refl _))
      case ao5 =>
        rintro a wx hE hin (h0 : a.eval (.tmp 17) = _)
        clear hin
        have hcst : ∀ v, a.eval (.const v) = v := fun _ => rfl
        have hfnc : ∀ f, a.eval (.func f) = .func (.func f) #[] #[] := fun _ => rfl
        refine want_none rfl ?_
        unfold Oper.wp
        generalize a.eval = ρ at *
        go_simp
        try go_bits
        first | exact rel_val (Ev.refl _) | (go_simp; exact rel_val (Ev.refl _))
      case ao6 =>
        rintro a wx hE hin (h5 : a.eval (.tmp 22) = _)
        clear hin
        have hcst : ∀ v, a.eval (.const v) = v := fun _ => rfl
        have hfnc : ∀ f, a.eval (.func f) = .func (.func f) #[] #[] := fun _ => rfl
        refine want_none rfl ?_
        unfold Oper.wp
        generalize a.eval = ρ at *
        go_simp
        try go_bits
        first | exact rel_val (Ev.refl _) | (go_simp; exact rel_val (Ev.refl _))
      case ao7 =>
        rintro a wx hE hin (h6 : a.eval (.tmp 23) = _)
        clear hin
        have hcst : ∀ v, a.eval (.const v) = v := fun _ => rfl
        have hfnc : ∀ f, a.eval (.func f) = .func (.func f) #[] #[] := fun _ => rfl
        refine want_none rfl ?_
        obtain ⟨vs, hvs, hvl, _⟩ := hE.2 _ KQ1.out HFL.out
        refine wp_st 4 _ _ rfl q 0 vs [.bool true] h6 rfl hvs (by kernel_rfl) (by rw [hvl, HFN.out]; first | (rw [HBL.out]; decide) | decide) (fun u hu => by obtain rfl := List.mem_singleton.1 hu; rfl) ?_
        intro w2 hb2 hc2
        obtain ⟨hf, he⟩ := st_step hvs hvl hb2 hc2 (by rw [HFN.out]; first | (rw [HBL.out]; decide) | decide) (one_at (by rw [← HFC.out]; rfl))
        exact ⟨_, rfl, by first | exact hf | (rw [HBL.out] at hf; exact hf), he⟩
      case ao8 =>
        rintro a wx hE hin (h1 : a.eval (.tmp 18) = _)
        clear hin
        have hcst : ∀ v, a.eval (.const v) = v := fun _ => rfl
        have hfnc : ∀ f, a.eval (.func f) = .func (.func f) #[] #[] := fun _ => rfl
        refine want_none rfl ?_
        unfold Oper.wp
        generalize a.eval = ρ at *
        go_simp
        try go_bits
        first | exact rel_val (Ev.refl _) | (go_simp; exact rel_val (Ev.refl _))
      case ao9 =>
        rintro a wx hE hin (h8 : a.eval (.tmp 24) = _)
        clear hin
        have hcst : ∀ v, a.eval (.const v) = v := fun _ => rfl
        have hfnc : ∀ f, a.eval (.func f) = .func (.func f) #[] #[] := fun _ => rfl
        refine want_none rfl ?_
        unfold Oper.wp
        generalize a.eval = ρ at *
        go_simp
        try go_bits
        first | exact rel_val (Ev.refl _) | (go_simp; exact rel_val (Ev.refl _))
      case ao10 =>
        rintro a wx hE hin (h4 : a.eval (.tmp 21) = _) (h9 : a.eval (.tmp 25) = _)
        clear hin
        have hcst : ∀ v, a.eval (.const v) = v := fun _ => rfl
        have hfnc : ∀ f, a.eval (.func f) = .func (.func f) #[] #[] := fun _ => rfl
        refine want_none rfl ?_
        obtain ⟨vs, hvs, hvl, _⟩ := hE.2 _ KQ1.out HFL.out
        refine wp_st 25 _ _ rfl q 2 vs bx h9 (by rw [h4]; rfl) hvs (by rw [HBL.out]; kernel_rfl) (by rw [hvl, HFN.out]; first | (rw [HBL.out]; decide) | decide) (by rw [← HBX.out]; exact one_pkt _ _ _ _ _ _) ?_
        intro w2 hb2 hc2
        obtain ⟨hf, he⟩ := st_step hvs hvl hb2 hc2 (by rw [HFN.out]; first | (rw [HBL.out]; decide) | decide) (fun j hj => by rw [HBL.out] at hj; rw [← HFC.out, ← HBX.out]; match j, hj with | 0, _ => rfl | 1, _ => rfl | 2, _ => rfl | 3, _ => rfl)
        exact ⟨_, rfl, by first | exact hf | (rw [HBL.out] at hf; exact hf), he⟩
      case ao11 =>
        rintro a wx hE hin (h2 : a.eval (.tmp 19) = _)
        clear hin
        have hcst : ∀ v, a.eval (.const v) = v := fun _ => rfl
        have hfnc : ∀ f, a.eval (.func f) = .func (.func f) #[] #[] := fun _ => rfl
        refine want_none rfl ?_
        unfold Oper.wp
        generalize a.eval = ρ at *
        go_simp
        try go_bits
        first | exact rel_val (Ev.refl _) | (go_simp; exact rel_val (Ev.refl _))
      case ao12 =>
        rintro a wx hE hin (h11 : a.eval (.tmp 26) = _)
        clear hin
        have hcst : ∀ v, a.eval (.const v) = v := fun _ => rfl
        have hfnc : ∀ f, a.eval (.func f) = .func (.func f) #[] #[] := fun _ => rfl
        refine want_none rfl ?_
        unfold Oper.wp
        generalize a.eval = ρ at *
        go_simp
        try go_bits
        first | exact rel_val (Ev.refl _) | (go_simp; exact rel_val (Ev.refl _))
      case ao13 =>
        rintro a wx hE hin (h12 : a.eval (.tmp 27) = _)
        clear hin
        have hcst : ∀ v, a.eval (.const v) = v := fun _ => rfl
        have hfnc : ∀ f, a.eval (.func f) = .func (.func f) #[] #[] := fun _ => rfl
        refine want_none rfl ?_
        obtain ⟨vs, hvs, hvl, _⟩ := hE.2 _ KQ1.out HFL.out
        refine wp_st 3 _ _ rfl q 10 vs [.int .i64 0] h12 rfl hvs (by kernel_rfl) (by rw [hvl, HFN.out]; first | (rw [HBL.out]; decide) | decide) (fun u hu => by obtain rfl := List.mem_singleton.1 hu; rfl) ?_
        intro w2 hb2 hc2
        obtain ⟨hf, he⟩ := st_step hvs hvl hb2 hc2 (by rw [HFN.out]; first | (rw [HBL.out]; decide) | decide) (one_at (by rw [← HFC.out]; rfl))
        exact ⟨_, rfl, by first | exact hf | (rw [HBL.out] at hf; exact hf), he⟩
      case ao14 =>
        rintro a wx hE hin (h3 : a.eval (.tmp 20) = _)
        clear hin
        have hcst : ∀ v, a.eval (.const v) = v := fun _ => rfl
        have hfnc : ∀ f, a.eval (.func f) = .func (.func f) #[] #[] := fun _ => rfl
        refine want_none rfl ?_
        unfold Oper.wp
        generalize a.eval = ρ at *
        go_simp
        try go_bits
        first | exact rel_val (Ev.refl _) | (go_simp; exact rel_val (Ev.refl _))
      case ao15 =>
        rintro a wx hE hin (h14 : a.eval (.tmp 28) = _)
        clear hin
        have hcst : ∀ v, a.eval (.const v) = v := fun _ => rfl
        have hfnc : ∀ f, a.eval (.func f) = .func (.func f) #[] #[] := fun _ => rfl
        refine want_none rfl ?_
        unfold Oper.wp
        generalize a.eval = ρ at *
        go_simp
        try go_bits
        first | exact rel_val (Ev.refl _) | (go_simp; exact rel_val (Ev.refl _))
      case ao16 =>
        rintro a wx hE hin (h15 : a.eval (.tmp 29) = _)
        clear hin
        have hcst : ∀ v, a.eval (.const v) = v := fun _ => rfl
        have hfnc : ∀ f, a.eval (.func f) = .func (.func f) #[] #[] := fun _ => rfl
        refine want_none rfl ?_
        obtain ⟨vs, hvs, hvl, _⟩ := hE.2 _ KQ1.out HFL.out
        refine wp_st 4 _ _ rfl q 11 vs [.bool false] h15 rfl hvs (by kernel_rfl) (by rw [hvl, HFN.out]; first | (rw [HBL.out]; decide) | decide) (fun u hu => by obtain rfl := List.mem_singleton.1 hu; rfl) ?_
        intro w2 hb2 hc2
        obtain ⟨hf, he⟩ := st_step hvs hvl hb2 hc2 (by rw [HFN.out]; first | (rw [HBL.out]; decide) | decide) (one_at (by rw [← HFC.out]; rfl))
        exact ⟨_, rfl, by first | exact hf | (rw [HBL.out] at hf; exact hf), he⟩
    case afin =>
      intro wx hE
      rintro _ rfl _ rfl _ rfl _ rfl _ rfl _ rfl _ rfl hf7 _ rfl _ rfl hf10 _ rfl _ rfl hf13 _ rfl _ rfl hf16
      simp only [FinOk, List.take_succ_cons, List.take_zero, List.take_nil, List.drop_succ_cons, List.drop_zero, List.drop_nil, Act.put, List.setIfInBounds_toArray, List.set_cons_succ, List.set_cons_zero]
      have hpre : ∃ vs, Bk wx q vs ∧ vs.length = fin.length ∧ ∀ j : Nat, (refC v A n c B m d)[j]? = fin[j]? → vs[j]? = fin[j]? := by
        obtain ⟨vs, h1, h2, h3⟩ := hE.2 _ KQ1.out HFL.out
        exact ⟨vs, h1, h2, h3⟩
      obtain ⟨vs, hvs, hvl, hkeep⟩ := hpre
      have hfin : vs = fin := st_all hvs hvl (by rw [HFN.out]) hf7 hf10 hf13 hf16 (hkeep 1 (by rw [← HFC.out]; rfl)) (hkeep 6 (by rw [← HFC.out]; rfl)) (hkeep 7 (by rw [← HFC.out]; rfl)) (hkeep 8 (by rw [← HFC.out]; rfl)) (hkeep 9 (by rw [← HFC.out]; rfl))
      rw [hfin, ← HFC.out] at hvs
      have KQX : Hid (Bk wx q (refC ⟨true, p, v.was, v.y, 0, false⟩ A1 n1 c1 B m d)) := hvs
      have CX : Hid (Chg (· = q) w wx) := (E2.out.trans hE.1.undrew)
      have HQX : Hid (QAt wx q ⟨true, p, v.was, v.y, 0, false⟩ A1 n1 c1 B m d) := ⟨KQX.out, HL.out, HR.out.chg CX.out (fun j hj => by omega), HO.out, HS.out.lm, HS.out.rb.chg CX.out (fun j hj => by omega), HS.out.ob, HN5.out, HS.out.m5⟩
      clear hvs hvl hkeep hfin hf7 hf10 hf13 hf16 hE
      go_wp2_with fail
      (try simp only [Exit.inBlock, Exit.then])
      go_ret
      refine ⟨by rw [HSE.out]; rfl, ?_, CX.out⟩
      rw [SV.send, HSE.out, if_pos rfl]
      exact ⟨A1, n1, c1, B, m, d, HQX.out⟩
end Go.Proofs.Ytjkkbkjejcjfiaa
