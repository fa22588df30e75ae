
/- law24's reference sender: Touch. -/
import Derived.Test.YtjkkbkjejcjfiaaSndRef
namespace Go.Proofs.Ytjkkbkjejcjfiaa
open Go.RowKit
set_option linter.unusedVariables false
set_option linter.unusedSimpArgs false

theorem bitsN_bit (ps : List PutV) (j : Nat) (hj : j < 12) : (bitsN ps).testBit j = ps.any (fun p => decide (p.at_ = (j : Int))) := by
  induction ps with
  | nil => simp [bitsN]
  | cons p ps ih =>
    rw [show p :: ps = [p] ++ ps from rfl, bitsN_append, Nat.testBit_or, ih, List.any_append]
    congr 1
    show ((0 : Nat) ||| bitOf p).testBit j = _
    rw [Nat.zero_or, bitOf]
    split
    · rename_i h
      rw [Nat.testBit_two_pow]
      simp only [List.any_cons, List.any_nil, Bool.or_false]
      by_cases h1 : p.at_ = (j : Int)
      · rw [decide_eq_true h1, decide_eq_true (by omega)]
      · rw [decide_eq_false h1, decide_eq_false (by omega)]
    · rename_i h
      simp only [List.any_cons, List.any_nil, Bool.or_false, Nat.zero_testBit]
      rw [decide_eq_false (by omega)]
theorem and_pow {j m : Nat} : 2 ^ j &&& m ≠ 0 ↔ m.testBit j = true := by
  constructor
  · intro h
    by_cases hb : m.testBit j = true
    · exact hb
    · exfalso
      apply h
      apply Nat.eq_of_testBit_eq
      intro i
      rw [Nat.testBit_and, Nat.testBit_two_pow, Nat.zero_testBit]
      by_cases hi : j = i
      · subst hi
        simp at hb
        simp [hb]
      · simp [hi]
  · intro h h0
    have := congrArg (·.testBit j) h0
    simp [Nat.testBit_and, h] at this
theorem hit_any {v : SV} {ps : List PutV} {p0 : PutV} {l : List PutV} (hi : v.is = true) (hk : v.o.k = 2) (ho : v.o.ps = p0 :: l) (h0 : 0 ≤ p0.at_ ∧ p0.at_ < 12) : hitB v ps = ps.any (fun p => decide (p.at_ = p0.at_)) := by
  have hj : p0.at_.toNat < 12 := by omega
  have hc : ((p0.at_.toNat : Nat) : Int) = p0.at_ := by omega
  have h1 : bitsN (v.o.ps.take 1) = 2 ^ p0.at_.toNat := by
    rw [ho]
    show (0 : Nat) ||| bitOf p0 = _
    rw [Nat.zero_or, bitOf, if_pos h0]
  rw [hitB, hi, decide_eq_true hk, h1, Bool.true_and, Bool.true_and]
  have h2 := bitsN_bit ps p0.at_.toNat hj
  rw [hc] at h2
  rw [← h2]
  by_cases hb : (bitsN ps).testBit p0.at_.toNat = true
  · rw [decide_eq_true (and_pow.2 hb), hb]
  · rw [decide_eq_false (fun h => hb (and_pow.1 h))]
    simp at hb
    rw [hb]
theorem touch_all {v : SV} {ps : List PutV} : v.touch ps = { v with tc := v.tc || hitB v ps } := by
  rw [SV.touch]
  by_cases h : hitB v ps = true
  · rw [if_pos h, h, Bool.or_true]
  · rw [if_neg h]
    simp at h
    rw [h, Bool.or_false]
def TcRel (w : World) (q : Nat) (v : SV) (A : Option Addr) (n c : Nat) (B : Option Addr) (m d : Nat) (ps : List PutV) (a0 : Int) (v4 : Value) (wr : World) : Prop := ∃ (i : Nat) (T : Bool) (u : World), u = wr ∧ i ≤ ps.length ∧ v4 = .int .i64 i ∧ QAt u q { v with tc := T } A n c B m d ∧ Chg (· = q) w u ∧ T = (v.tc || (ps.take i).any (fun p => decide (p.at_ = a0)))
def TnRel (w : World) (v4 : Value) (wr : World) : Prop := v4 = .int .i64 (0 : Nat) ∧ wr = w
set_option maxRecDepth 100000 in
set_option maxHeartbeats 16000000 in
theorem refTouch_calls (w : World) (q : Nat) (v : SV) (hs : QSt w q v) (hgood : v.is = true → goodP v.o.k v.o.ps = true) (ps : List PutV) (A1 : Option Addr) (n1 c1 : Nat) (hl : ps.length = n1) (hm : n1 ≤ 9223372036854775807) (hr : ∀ w', Chg (· = q) w w' → Rd w' A1 (ps.flatMap putC)) (ho : PutsOk ps) : Calls Try.prog 30 #[.pointer (some ⟨q, 0, none⟩), .slice A1 n1 c1] w (QPost w q (v.touch ps) (.tuple #[])) := by
  subst hl
  obtain ⟨A, n, c, B, m, d, h⟩ := hs
  have HS := Lib.hid h
  have HR := Lib.hid hr
  have HO := Lib.hid ho
  have c0 : w.cell? ⟨q, 0, none⟩ = some (.bool v.is) := h.bk.cell rfl
  have c2 : w.cell? ⟨q, 2, none⟩ = some (.int .i64 v.o.k) := h.bk.cell rfl
  clear hr ho h
  by_cases hact : v.is = true ∧ v.o.k = 2
  case neg =>
    have HF : Hid (hitB v ps = false) := by
      show _ = _
      rw [hitB]
      by_cases h1 : v.is = true
      · rw [decide_eq_false (fun h => hact ⟨h1, h⟩), Bool.and_false, Bool.false_and]
      · simp at h1
        rw [h1]; rfl
    have HNO : Hid (∀ w', w = w' → QPost w q (v.touch ps) (.tuple #[]) (.returned (.tuple #[])) w') := fun w' hw => by
      subst hw
      rw [SV.touch, HF.out, if_neg (by decide)]
      exact ⟨rfl, ⟨A, n, c, B, m, d, HS.out⟩, Chg.refl _⟩
    go_enter Try.func30, Try.ntmps30
    go_wp2_with fail
    go_loopw [4] (fun v4 wr => TnRel w v4 wr) (fun v4 _ => 1)
    case atStart => exact ⟨rfl, rfl⟩
    case round =>
      obtain ⟨rfl, rfl⟩ := hrel
      by_cases hz : 0 < ps.length
      case neg =>
        have hzi : ¬ ((0 : Int) < (ps.length : Int)) := by omega
        clear hact
        go_wp2_with fail
        (try simp only [Exit.inBlock, Exit.then])
        exact bodyPost_end (results_none rfl _ _ _) rfl (HNO.out _ rfl)
      have hzi : ((0 : Int) < (ps.length : Int)) := by omega
      cases hi : v.is with
      | false =>
        rw [hi] at c0
        clear hi hact
        go_wp2_with fail
        (try simp only [Exit.inBlock, Exit.then])
        exact bodyPost_end (results_none rfl _ _ _) rfl (HNO.out _ rfl)
      | true =>
        have hk : ¬ v.o.k = 2 := fun h => hact ⟨hi, h⟩
        have n2 : (v.o.k == 2) = false := by rw [beq_eq_false_iff_ne]; exact hk
        rw [hi] at c0
        clear hi hact hk
        go_wp2_with fail
        (try simp only [Exit.inBlock, Exit.then])
        exact bodyPost_end (results_none rfl _ _ _) rfl (HNO.out _ rfl)
  obtain ⟨hi, hk⟩ := hact
  have hgd := hgood hi
  rw [hk, goodP_put (.inr rfl)] at hgd
  have hgg := (of_decide_eq_true hgd : 1 ≤ v.o.ps.length ∧ v.o.ps.length ≤ 5 ∧ (∀ p ∈ v.o.ps, 0 ≤ p.at_ ∧ p.at_ < 12) ∧ (v.o.ps.map (·.at_)).Nodup)
  obtain ⟨p0, l0, hp0⟩ : ∃ p0 l0, v.o.ps = p0 :: l0 := by
    cases hvp : v.o.ps with
    | nil => rw [hvp] at hgg; exact absurd hgg.1 (by decide)
    | cons p l => exact ⟨p, l, rfl⟩
  have h0 := hgg.2.2.1 p0 (by rw [hp0]; exact List.mem_cons_self)
  have hn1 : 0 < n := by have := HS.out.ln; have := hgg.1; omega
  have hn1i : (0 : Int) < (n : Int) := by omega
  obtain ⟨a0, ha0⟩ : ∃ a0, p0.at_ = a0 := ⟨_, rfl⟩
  have HHA : Hid (hitB v ps = ps.any (fun p => decide (p.at_ = a0))) := by show _ = _; rw [← ha0]; exact hit_any hi hk hp0 h0
  obtain ⟨ad2, hA⟩ := puts_some HS.out.ra.rd (show 0 < v.o.ps.length by have := hgg.1; omega)
  subst hA
  have HZ : Hid (∀ T u, QAt u q { v with tc := T } (some ad2) n c B m d → u.cell? (ad2.add (0 * 33)) = some (.int .i64 a0)) := fun T u hq => by
    have h := put_at hq.ra.rd hq.oa (k := 0) (show 0 < v.o.ps.length by have := hgg.1; omega)
    have h2 : (v.o.ps[0]'(by have := hgg.1; omega)).at_ = a0 := by rw [← ha0]; simp [hp0]
    rw [← h2]
    exact h
  have HI := Lib.hid hi
  have HKK := Lib.hid hk
  clear hgd hgg hgood hp0 h0 ha0 hi hk c0 c2
  go_enter Try.func30, Try.ntmps30
  go_wp2_with fail
  go_loopw [4] (fun v4 wr => TcRel w q v (some ad2) n c B m d ps a0 v4 wr) (fun v4 _ => ps.length - (intOf v4).toNat)
  case atStart => exact ⟨0, v.tc, _, rfl, Nat.zero_le _, rfl, HS.out, Chg.refl _, by simp⟩
  case round =>
    obtain ⟨i, T, u, rfl, hi, rfl, hsu, hcw, hT⟩ := hrel
    have HSU := Lib.hid hsu
    have CW := Lib.hid hcw
    have HT := Lib.hid hT
    clear hsu hcw hT
    by_cases hlt : i < ps.length
    case neg =>
      obtain rfl : i = ps.length := by omega
      have hlti : ¬ ((ps.length : Int) < (ps.length : Int)) := by omega
      clear hi hlt
      go_wp2_with fail
      (try simp only [Exit.inBlock, Exit.then])
      refine bodyPost_end (results_none rfl _ _ _) rfl ⟨rfl, ?_, CW.out⟩
      rw [touch_all, HHA.out]
      have h := HT.out
      rw [List.take_length] at h
      rw [← h]
      exact ⟨_, _, _, _, _, _, HSU.out⟩
    have hlti : (i : Int) < (ps.length : Int) := by omega
    have HLT := Lib.hid hlt
    obtain ⟨ad, hA1⟩ := puts_some (HR.out w (Chg.refl _)) hlt
    subst hA1
    obtain ⟨pz, hpz⟩ : ∃ pz : Int, (ps[i]'hlt).at_ = pz := ⟨_, rfl⟩
    have CI : Hid (u.cell? (ad.add (i * 33)) = some (.int .i64 pz)) := by have h := put_at (HR.out u CW.out) HO.out hlt; rw [hpz] at h; exact h
    have CZ : Hid (u.cell? (ad2.add (0 * 33)) = some (.int .i64 a0)) := HZ.out _ _ HSU.out
    have CZ2 : Hid (u.cell? ad2 = some (.int .i64 a0)) := by have h := CZ.out; rwa [show ad2.add (0 * 33) = ad2 from rfl] at h
    have C11 : Hid (u.cell? ⟨q, 11, none⟩ = some (.bool T)) := HSU.out.bk.cell rfl
    have C5 : Hid (u.cell? ⟨q, 5, none⟩ = some (.slice (some ad2) n c)) := HSU.out.bk.cell rfl
    have HTK : Hid ((ps.take (i + 1)).any (fun p => decide (p.at_ = a0)) = ((ps.take i).any (fun p => decide (p.at_ = a0)) || decide (pz = a0))) := by
      show _ = _
      rw [List.take_succ_eq_append_getElem hlt, List.any_append, List.any_cons, List.any_nil, Bool.or_false, hpz]
    have c0 : u.cell? ⟨q, 0, none⟩ = some (.bool true) := by rw [← HI.out]; exact HSU.out.bk.cell rfl
    have c2 : u.cell? ⟨q, 2, none⟩ = some (.int .i64 2) := by rw [← HKK.out]; exact HSU.out.bk.cell rfl
    clear hi hlt hpz
    go_wp2_with fail
    clear c0 c2
    cases T with
    | true =>
      have HNT : Hid (true = (v.tc || (ps.take (i + 1)).any (fun p => decide (p.at_ = a0)))) := by show _ = _; rw [HTK.out, ← Bool.or_assoc, ← HT.out, Bool.true_or]
      apply wp_region_rel 21 (Chg NoS) [(Veq _), (Veq _), (Veq _), (Veq _), (Veq _), (Veq _), (Veq undef), (Veq undef), (Veq undef), (Veq undef), (Veq undef), (Veq undef), (Veq undef), (Veq undef), (Veq undef), (Veq undef), (Veq undef), (Veq undef), (Veq undef), (Veq undef), (Veq _)] [[], [], [1], [2], [3], [4], [5], [5], [5], [5], [5], [5], [5], [5], [5], [5], [5], [5], [5], [5], [5, 19]] [25, 26, 27, 28, 29, 30, 31, 32, 33, 34, 35, 36, 37, 38, 39, 40, 41, 42, 43, 44, 45] (by kernel_rfl) (by kernel_rfl) rfl rfl rfl Chg.refl (fun _ _ _ => Chg.trans) ⟨Veq.lasts, Veq.lasts, Veq.lasts, Veq.lasts, Veq.lasts, Veq.lasts, Veq.lasts, Veq.lasts, Veq.lasts, Veq.lasts, Veq.lasts, Veq.lasts, Veq.lasts, Veq.lasts, Veq.lasts, Veq.lasts, Veq.lasts, Veq.lasts, Veq.lasts, Veq.lasts, Veq.lasts, trivial⟩ ?b0ops ?b0fin
      case b0ops =>
        refine ⟨?b0o0, ?b0o1, ?b0o2, ?b0o3, ?b0o4, ?b0o5, ?b0o6, ?b0o7, ?b0o8, ?b0o9, ?b0o10, ?b0o11, ?b0o12, ?b0o13, ?b0o14, ?b0o15, ?b0o16, ?b0o17, ?b0o18, ?b0o19, ?b0o20, trivial⟩
        case b0o0 =>
          intro a wx hE hin
          have i0 : a.eval (.tmp 0) = .pointer (some ⟨q, 0, none⟩) := hin 0 rfl
          clear hin
          have hcst : ∀ v, a.eval (.const v) = v := fun _ => rfl
          have hfnc : ∀ f, a.eval (.func f) = .func (.func f) #[] #[] := fun _ => rfl
          refine want_none rfl ?_
          unfold Oper.wp
          generalize a.eval = ρ at *
          go_simp
          try go_bits
          first | exact rel_val (Chg.refl _) | (go_simp; exact rel_val (Chg.refl _))
        case b0o1 =>
          intro a wx hE hin
          have i0 : a.eval (.tmp 0) = .pointer (some ⟨q, 0, none⟩) := hin 0 rfl
          clear hin
          have hcst : ∀ v, a.eval (.const v) = v := fun _ => rfl
          have hfnc : ∀ f, a.eval (.func f) = .func (.func f) #[] #[] := fun _ => rfl
          refine want_none rfl ?_
          unfold Oper.wp
          generalize a.eval = ρ at *
          go_simp
          try go_bits
          first | exact rel_val (Chg.refl _) | (go_simp; exact rel_val (Chg.refl _))
        case b0o2 =>
          rintro a wx hE hin (h1 : a.eval (.tmp 26) = _)
          clear hin
          have hcst : ∀ v, a.eval (.const v) = v := fun _ => rfl
          have hfnc : ∀ f, a.eval (.func f) = .func (.func f) #[] #[] := fun _ => rfl
          refine want_none rfl ?_
          unfold Oper.wp
          generalize a.eval = ρ at *
          go_simp
          try go_bits
          first | exact rel_val (Chg.refl _) | (go_simp; exact rel_val (Chg.refl _))
        case b0o3 =>
          rintro a wx hE hin (h2 : a.eval (.tmp 27) = _)
          clear hin
          have hcst : ∀ v, a.eval (.const v) = v := fun _ => rfl
          have hfnc : ∀ f, a.eval (.func f) = .func (.func f) #[] #[] := fun _ => rfl
          refine want_none rfl ?_
          unfold Oper.wp
          generalize a.eval = ρ at *
          go_simp
          try go_bits
          first | exact rel_val (Chg.refl _) | (go_simp; exact rel_val (Chg.refl _))
        case b0o4 =>
          rintro a wx hE hin (h3 : a.eval (.tmp 28) = _)
          clear hin
          have hcst : ∀ v, a.eval (.const v) = v := fun _ => rfl
          have hfnc : ∀ f, a.eval (.func f) = .func (.func f) #[] #[] := fun _ => rfl
          refine want_none rfl ?_
          unfold Oper.wp
          generalize a.eval = ρ at *
          have c := hE.cell (w := u.drew) C11.out id
          go_simp
          try go_bits
          first | exact rel_val (Chg.refl _) | (go_simp; exact rel_val (Chg.refl _))
        case b0o5 =>
          rintro a wx hE hin (h4 : a.eval (.tmp 29) = _)
          clear hin
          have hcst : ∀ v, a.eval (.const v) = v := fun _ => rfl
          have hfnc : ∀ f, a.eval (.func f) = .func (.func f) #[] #[] := fun _ => rfl
          refine want_none rfl ?_
          unfold Oper.wp
          generalize a.eval = ρ at *
          go_simp
          try go_bits
          first | exact rel_val (Chg.refl _) | (go_simp; exact rel_val (Chg.refl _))
        case b0o6 =>
          rintro a wx hE hin (h5 : a.eval (.tmp 30) = _)
          clear hin
          exact want_not rfl rfl h5 rfl
        case b0o7 =>
          rintro a wx hE hin (h5 : a.eval (.tmp 30) = _)
          clear hin
          exact want_not rfl rfl h5 rfl
        case b0o8 =>
          rintro a wx hE hin (h5 : a.eval (.tmp 30) = _)
          clear hin
          exact want_not rfl rfl h5 rfl
        case b0o9 =>
          rintro a wx hE hin (h5 : a.eval (.tmp 30) = _)
          clear hin
          exact want_not rfl rfl h5 rfl
        case b0o10 =>
          rintro a wx hE hin (h5 : a.eval (.tmp 30) = _)
          clear hin
          exact want_not rfl rfl h5 rfl
        case b0o11 =>
          rintro a wx hE hin (h5 : a.eval (.tmp 30) = _)
          clear hin
          exact want_not rfl rfl h5 rfl
        case b0o12 =>
          rintro a wx hE hin (h5 : a.eval (.tmp 30) = _)
          clear hin
          exact want_not rfl rfl h5 rfl
        case b0o13 =>
          rintro a wx hE hin (h5 : a.eval (.tmp 30) = _)
          clear hin
          exact want_not rfl rfl h5 rfl
        case b0o14 =>
          rintro a wx hE hin (h5 : a.eval (.tmp 30) = _)
          clear hin
          exact want_not rfl rfl h5 rfl
        case b0o15 =>
          rintro a wx hE hin (h5 : a.eval (.tmp 30) = _)
          clear hin
          exact want_not rfl rfl h5 rfl
        case b0o16 =>
          rintro a wx hE hin (h5 : a.eval (.tmp 30) = _)
          clear hin
          exact want_not rfl rfl h5 rfl
        case b0o17 =>
          rintro a wx hE hin (h5 : a.eval (.tmp 30) = _)
          clear hin
          exact want_not rfl rfl h5 rfl
        case b0o18 =>
          rintro a wx hE hin (h5 : a.eval (.tmp 30) = _)
          clear hin
          exact want_not rfl rfl h5 rfl
        case b0o19 =>
          rintro a wx hE hin (h5 : a.eval (.tmp 30) = _)
          clear hin
          exact want_not rfl rfl h5 rfl
        case b0o20 =>
          rintro a wx hE hin (h5 : a.eval (.tmp 30) = _) (h19 : a.eval (.tmp 44) = _)
          clear hin
          have hcst : ∀ v, a.eval (.const v) = v := fun _ => rfl
          have hfnc : ∀ f, a.eval (.func f) = .func (.func f) #[] #[] := fun _ => rfl
          refine want_none rfl ?_
          unfold Oper.wp
          generalize a.eval = ρ at *
          go_simp
          try go_bits
          first | exact rel_val (Chg.refl _) | (go_simp; exact rel_val (Chg.refl _))
      case b0fin =>
        intro wx hE
        rintro _ rfl _ rfl _ rfl _ rfl _ rfl _ rfl _ rfl _ rfl _ rfl _ rfl _ rfl _ rfl _ rfl _ rfl _ rfl _ rfl _ rfl _ rfl _ rfl _ rfl _ rfl
        simp only [FinOk, List.take_succ_cons, List.take_zero, List.take_nil, List.drop_succ_cons, List.drop_zero, List.drop_nil, Act.put, List.setIfInBounds_toArray, List.set_cons_succ, List.set_cons_zero]
        have EX : Hid (Chg (· = q) w wx) := CW.out.trans (hE.undrew.mono (fun _ hj => hj.elim))
        have HSX := Lib.hid (HSU.out.below (hE.undrew.below (Nat.le_refl _) (fun _ _ => id)))
        clear hE
        go_wp2_with (refine wpList_st rfl 4 (.tmp 47) (.tmp 45) rfl q 11 1 (refC { v with tc := true } (some ad2) n c B m d) [.bool true] rfl rfl HSX.out.bk (by kernel_rfl) rfl (by show _ ≤ 12; decide) (fun u hu => by obtain rfl := List.mem_singleton.1 hu; rfl) ?_)
        intro w5 hb hc
        have HS5 : Hid (QAt w5 q { v with tc := true } (some ad2) n c B m d) := ⟨hb, HSX.out.ln, HSX.out.ra.chg hc (fun j hj => by omega), HSX.out.oa, HSX.out.lm, HSX.out.rb.chg hc (fun j hj => by omega), HSX.out.ob, HSX.out.n5, HSX.out.m5⟩
        have CW5 : Hid (Chg (· = q) w w5) := EX.out.trans hc
        clear hb hc
        go_wp2_with fail
        go_roundw
        case rel => exact ⟨i + 1, true, _, rfl, HLT.out, by go_num, HS5.out, CW5.out, HNT.out⟩
        case measure => simp [intOf]; have := HLT.out; omega
    | false =>
      by_cases hz : pz = a0
      case pos =>
        have HEQ : Hid ((pz == a0) = true) := by show _ = _; rw [beq_iff_eq]; exact hz
        have HNT : Hid (true = (v.tc || (ps.take (i + 1)).any (fun p => decide (p.at_ = a0)))) := by show _ = _; rw [HTK.out, ← Bool.or_assoc, ← HT.out, decide_eq_true hz, Bool.or_true]
        clear hz
        apply wp_region_rel 21 (Chg NoS) [(Veq _), (Veq _), (Veq _), (Veq _), (Veq _), (Veq _), (Veq _), (Veq _), (Veq _), (Veq _), (Veq _), (Veq _), (Veq _), (Veq _), (Veq _), (Veq _), (Veq _), (Veq _), (Veq _), (Veq (.bool true)), (Veq _)] [[], [], [1], [2], [3], [4], [5], [5], [5, 6, 7], [5, 8], [5, 9], [5], [5, 11], [5, 12], [5, 13], [5, 14], [5, 15], [5, 16], [5, 17], [5, 10, 18], [5, 19]] [25, 26, 27, 28, 29, 30, 31, 32, 33, 34, 35, 36, 37, 38, 39, 40, 41, 42, 43, 44, 45] (by kernel_rfl) (by kernel_rfl) rfl rfl rfl Chg.refl (fun _ _ _ => Chg.trans) ⟨Veq.lasts, Veq.lasts, Veq.lasts, Veq.lasts, Veq.lasts, Veq.lasts, Veq.lasts, Veq.lasts, Veq.lasts, Veq.lasts, Veq.lasts, Veq.lasts, Veq.lasts, Veq.lasts, Veq.lasts, Veq.lasts, Veq.lasts, Veq.lasts, Veq.lasts, Veq.lasts, Veq.lasts, trivial⟩ ?b1ops ?b1fin
        case b1ops =>
          refine ⟨?b1o0, ?b1o1, ?b1o2, ?b1o3, ?b1o4, ?b1o5, ?b1o6, ?b1o7, ?b1o8, ?b1o9, ?b1o10, ?b1o11, ?b1o12, ?b1o13, ?b1o14, ?b1o15, ?b1o16, ?b1o17, ?b1o18, ?b1o19, ?b1o20, trivial⟩
          case b1o0 =>
            intro a wx hE hin
            have i0 : a.eval (.tmp 0) = .pointer (some ⟨q, 0, none⟩) := hin 0 rfl
            clear hin
            have hcst : ∀ v, a.eval (.const v) = v := fun _ => rfl
            have hfnc : ∀ f, a.eval (.func f) = .func (.func f) #[] #[] := fun _ => rfl
            refine want_none rfl ?_
            unfold Oper.wp
            generalize a.eval = ρ at *
            go_simp
            try go_bits
            first | exact rel_val (Chg.refl _) | (go_simp; exact rel_val (Chg.refl _))
          case b1o1 =>
            intro a wx hE hin
            have i0 : a.eval (.tmp 0) = .pointer (some ⟨q, 0, none⟩) := hin 0 rfl
            clear hin
            have hcst : ∀ v, a.eval (.const v) = v := fun _ => rfl
            have hfnc : ∀ f, a.eval (.func f) = .func (.func f) #[] #[] := fun _ => rfl
            refine want_none rfl ?_
            unfold Oper.wp
            generalize a.eval = ρ at *
            go_simp
            try go_bits
            first | exact rel_val (Chg.refl _) | (go_simp; exact rel_val (Chg.refl _))
          case b1o2 =>
            rintro a wx hE hin (h1 : a.eval (.tmp 26) = _)
            clear hin
            have hcst : ∀ v, a.eval (.const v) = v := fun _ => rfl
            have hfnc : ∀ f, a.eval (.func f) = .func (.func f) #[] #[] := fun _ => rfl
            refine want_none rfl ?_
            unfold Oper.wp
            generalize a.eval = ρ at *
            go_simp
            try go_bits
            first | exact rel_val (Chg.refl _) | (go_simp; exact rel_val (Chg.refl _))
          case b1o3 =>
            rintro a wx hE hin (h2 : a.eval (.tmp 27) = _)
            clear hin
            have hcst : ∀ v, a.eval (.const v) = v := fun _ => rfl
            have hfnc : ∀ f, a.eval (.func f) = .func (.func f) #[] #[] := fun _ => rfl
            refine want_none rfl ?_
            unfold Oper.wp
            generalize a.eval = ρ at *
            go_simp
            try go_bits
            first | exact rel_val (Chg.refl _) | (go_simp; exact rel_val (Chg.refl _))
          case b1o4 =>
            rintro a wx hE hin (h3 : a.eval (.tmp 28) = _)
            clear hin
            have hcst : ∀ v, a.eval (.const v) = v := fun _ => rfl
            have hfnc : ∀ f, a.eval (.func f) = .func (.func f) #[] #[] := fun _ => rfl
            refine want_none rfl ?_
            unfold Oper.wp
            generalize a.eval = ρ at *
            have c := hE.cell (w := u.drew) C11.out id
            go_simp
            try go_bits
            first | exact rel_val (Chg.refl _) | (go_simp; exact rel_val (Chg.refl _))
          case b1o5 =>
            rintro a wx hE hin (h4 : a.eval (.tmp 29) = _)
            clear hin
            have hcst : ∀ v, a.eval (.const v) = v := fun _ => rfl
            have hfnc : ∀ f, a.eval (.func f) = .func (.func f) #[] #[] := fun _ => rfl
            refine want_none rfl ?_
            unfold Oper.wp
            generalize a.eval = ρ at *
            go_simp
            try go_bits
            first | exact rel_val (Chg.refl _) | (go_simp; exact rel_val (Chg.refl _))
          case b1o6 =>
            rintro a wx hE hin (h5 : a.eval (.tmp 30) = _)
            have i1 : a.eval (.tmp 1) = .slice (some ad) ps.length c1 := hin 1 rfl
            clear hin
            have hcst : ∀ v, a.eval (.const v) = v := fun _ => rfl
            have hfnc : ∀ f, a.eval (.func f) = .func (.func f) #[] #[] := fun _ => rfl
            refine want_yes rfl rfl h5 ?_
            unfold Oper.wp
            generalize a.eval = ρ at *
            go_simp
            try go_bits
            first | exact rel_val (Chg.refl _) | (go_simp; exact rel_val (Chg.refl _))
          case b1o7 =>
            rintro a wx hE hin (h5 : a.eval (.tmp 30) = _)
            have i4 : a.eval (.tmp 4) = .int .i64 i := hin 4 rfl
            clear hin
            have hcst : ∀ v, a.eval (.const v) = v := fun _ => rfl
            have hfnc : ∀ f, a.eval (.func f) = .func (.func f) #[] #[] := fun _ => rfl
            refine want_yes rfl rfl h5 ?_
            unfold Oper.wp
            generalize a.eval = ρ at *
            go_simp
            try go_bits
            first | exact rel_val (Chg.refl _) | (go_simp; exact rel_val (Chg.refl _))
          case b1o8 =>
            rintro a wx hE hin (h5 : a.eval (.tmp 30) = _) (h6 : a.eval (.tmp 31) = _) (h7 : a.eval (.tmp 32) = _)
            clear hin
            have hcst : ∀ v, a.eval (.const v) = v := fun _ => rfl
            have hfnc : ∀ f, a.eval (.func f) = .func (.func f) #[] #[] := fun _ => rfl
            refine want_yes rfl rfl h5 ?_
            unfold Oper.wp
            generalize a.eval = ρ at *
            go_simp
            try go_bits
            first | exact rel_val (Chg.refl _) | (go_simp; exact rel_val (Chg.refl _))
          case b1o9 =>
            rintro a wx hE hin (h5 : a.eval (.tmp 30) = _) (h8 : a.eval (.tmp 33) = _)
            clear hin
            have hcst : ∀ v, a.eval (.const v) = v := fun _ => rfl
            have hfnc : ∀ f, a.eval (.func f) = .func (.func f) #[] #[] := fun _ => rfl
            refine want_yes rfl rfl h5 ?_
            unfold Oper.wp
            generalize a.eval = ρ at *
            go_simp
            try go_bits
            first | exact rel_val (Chg.refl _) | (go_simp; exact rel_val (Chg.refl _))
          case b1o10 =>
            rintro a wx hE hin (h5 : a.eval (.tmp 30) = _) (h9 : a.eval (.tmp 34) = _)
            clear hin
            have hcst : ∀ v, a.eval (.const v) = v := fun _ => rfl
            have hfnc : ∀ f, a.eval (.func f) = .func (.func f) #[] #[] := fun _ => rfl
            refine want_yes rfl rfl h5 ?_
            unfold Oper.wp
            generalize a.eval = ρ at *
            have c := hE.cell (w := u.drew) CI.out id
            go_simp
            try go_bits
            first | exact rel_val (Chg.refl _) | (go_simp; exact rel_val (Chg.refl _))
          case b1o11 =>
            rintro a wx hE hin (h5 : a.eval (.tmp 30) = _)
            have i0 : a.eval (.tmp 0) = .pointer (some ⟨q, 0, none⟩) := hin 0 rfl
            clear hin
            have hcst : ∀ v, a.eval (.const v) = v := fun _ => rfl
            have hfnc : ∀ f, a.eval (.func f) = .func (.func f) #[] #[] := fun _ => rfl
            refine want_yes rfl rfl h5 ?_
            unfold Oper.wp
            generalize a.eval = ρ at *
            go_simp
            try go_bits
            first | exact rel_val (Chg.refl _) | (go_simp; exact rel_val (Chg.refl _))
          case b1o12 =>
            rintro a wx hE hin (h5 : a.eval (.tmp 30) = _) (h11 : a.eval (.tmp 36) = _)
            clear hin
            have hcst : ∀ v, a.eval (.const v) = v := fun _ => rfl
            have hfnc : ∀ f, a.eval (.func f) = .func (.func f) #[] #[] := fun _ => rfl
            refine want_yes rfl rfl h5 ?_
            unfold Oper.wp
            generalize a.eval = ρ at *
            go_simp
            try go_bits
            first | exact rel_val (Chg.refl _) | (go_simp; exact rel_val (Chg.refl _))
          case b1o13 =>
            rintro a wx hE hin (h5 : a.eval (.tmp 30) = _) (h12 : a.eval (.tmp 37) = _)
            clear hin
            have hcst : ∀ v, a.eval (.const v) = v := fun _ => rfl
            have hfnc : ∀ f, a.eval (.func f) = .func (.func f) #[] #[] := fun _ => rfl
            refine want_yes rfl rfl h5 ?_
            unfold Oper.wp
            generalize a.eval = ρ at *
            go_simp
            try go_bits
            first | exact rel_val (Chg.refl _) | (go_simp; exact rel_val (Chg.refl _))
          case b1o14 =>
            rintro a wx hE hin (h5 : a.eval (.tmp 30) = _) (h13 : a.eval (.tmp 38) = _)
            clear hin
            have hcst : ∀ v, a.eval (.const v) = v := fun _ => rfl
            have hfnc : ∀ f, a.eval (.func f) = .func (.func f) #[] #[] := fun _ => rfl
            refine want_yes rfl rfl h5 ?_
            unfold Oper.wp
            generalize a.eval = ρ at *
            go_simp
            try go_bits
            first | exact rel_val (Chg.refl _) | (go_simp; exact rel_val (Chg.refl _))
          case b1o15 =>
            rintro a wx hE hin (h5 : a.eval (.tmp 30) = _) (h14 : a.eval (.tmp 39) = _)
            clear hin
            have hcst : ∀ v, a.eval (.const v) = v := fun _ => rfl
            have hfnc : ∀ f, a.eval (.func f) = .func (.func f) #[] #[] := fun _ => rfl
            refine want_yes rfl rfl h5 ?_
            unfold Oper.wp
            generalize a.eval = ρ at *
            have c := hE.cell (w := u.drew) C5.out id
            go_simp
            try go_bits
            first | exact rel_val (Chg.refl _) | (go_simp; exact rel_val (Chg.refl _))
          case b1o16 =>
            rintro a wx hE hin (h5 : a.eval (.tmp 30) = _) (h15 : a.eval (.tmp 40) = _)
            clear hin
            have hcst : ∀ v, a.eval (.const v) = v := fun _ => rfl
            have hfnc : ∀ f, a.eval (.func f) = .func (.func f) #[] #[] := fun _ => rfl
            refine want_yes rfl rfl h5 ?_
            unfold Oper.wp
            generalize a.eval = ρ at *
            go_simp
            try go_bits
            first | exact rel_val (Chg.refl _) | (go_simp; exact rel_val (Chg.refl _))
          case b1o17 =>
            rintro a wx hE hin (h5 : a.eval (.tmp 30) = _) (h16 : a.eval (.tmp 41) = _)
            clear hin
            have hcst : ∀ v, a.eval (.const v) = v := fun _ => rfl
            have hfnc : ∀ f, a.eval (.func f) = .func (.func f) #[] #[] := fun _ => rfl
            refine want_yes rfl rfl h5 ?_
            unfold Oper.wp
            generalize a.eval = ρ at *
            go_simp
            try go_bits
            first | exact rel_val (Chg.refl _) | (go_simp; exact rel_val (Chg.refl _))
          case b1o18 =>
            rintro a wx hE hin (h5 : a.eval (.tmp 30) = _) (h17 : a.eval (.tmp 42) = _)
            clear hin
            have hcst : ∀ v, a.eval (.const v) = v := fun _ => rfl
            have hfnc : ∀ f, a.eval (.func f) = .func (.func f) #[] #[] := fun _ => rfl
            refine want_yes rfl rfl h5 ?_
            unfold Oper.wp
            generalize a.eval = ρ at *
            have c := hE.cell (w := u.drew) CZ.out id
            have c' := hE.cell (w := u.drew) CZ2.out id
            go_simp
            try go_bits
            first | exact rel_val (Chg.refl _) | (go_simp; exact rel_val (Chg.refl _))
          case b1o19 =>
            rintro a wx hE hin (h5 : a.eval (.tmp 30) = _) (h10 : a.eval (.tmp 35) = _) (h18 : a.eval (.tmp 43) = _)
            clear hin
            have hcst : ∀ v, a.eval (.const v) = v := fun _ => rfl
            have hfnc : ∀ f, a.eval (.func f) = .func (.func f) #[] #[] := fun _ => rfl
            refine want_yes rfl rfl h5 ?_
            unfold Oper.wp
            generalize a.eval = ρ at *
            go_simp
            try go_bits
            first | exact rel_val (e := .bool true) (Chg.refl _) | (show RelPost _ _ a (some 44) wx (a.put (some 44) (.bool (pz == a0))) wx; rw [HEQ.out]; exact rel_val (Chg.refl _))
          case b1o20 =>
            rintro a wx hE hin (h5 : a.eval (.tmp 30) = _) (h19 : a.eval (.tmp 44) = _)
            clear hin
            have hcst : ∀ v, a.eval (.const v) = v := fun _ => rfl
            have hfnc : ∀ f, a.eval (.func f) = .func (.func f) #[] #[] := fun _ => rfl
            refine want_none rfl ?_
            unfold Oper.wp
            generalize a.eval = ρ at *
            go_simp
            try go_bits
            first | exact rel_val (Chg.refl _) | (go_simp; exact rel_val (Chg.refl _))
        case b1fin =>
          intro wx hE
          rintro _ rfl _ rfl _ rfl _ rfl _ rfl _ rfl _ rfl _ rfl _ rfl _ rfl _ rfl _ rfl _ rfl _ rfl _ rfl _ rfl _ rfl _ rfl _ rfl _ rfl _ rfl
          simp only [FinOk, List.take_succ_cons, List.take_zero, List.take_nil, List.drop_succ_cons, List.drop_zero, List.drop_nil, Act.put, List.setIfInBounds_toArray, List.set_cons_succ, List.set_cons_zero]
          have EX : Hid (Chg (· = q) w wx) := CW.out.trans (hE.undrew.mono (fun _ hj => hj.elim))
          have HSX := Lib.hid (HSU.out.below (hE.undrew.below (Nat.le_refl _) (fun _ _ => id)))
          clear hE
          go_wp2_with (refine wpList_st rfl 4 (.tmp 47) (.tmp 45) rfl q 11 1 (refC { v with tc := false } (some ad2) n c B m d) [.bool true] rfl rfl HSX.out.bk (by kernel_rfl) rfl (by show _ ≤ 12; decide) (fun u hu => by obtain rfl := List.mem_singleton.1 hu; rfl) ?_)
          intro w5 hb hc
          have HS5 : Hid (QAt w5 q { v with tc := true } (some ad2) n c B m d) := ⟨hb, HSX.out.ln, HSX.out.ra.chg hc (fun j hj => by omega), HSX.out.oa, HSX.out.lm, HSX.out.rb.chg hc (fun j hj => by omega), HSX.out.ob, HSX.out.n5, HSX.out.m5⟩
          have CW5 : Hid (Chg (· = q) w w5) := EX.out.trans hc
          clear hb hc
          go_wp2_with fail
          go_roundw
          case rel => exact ⟨i + 1, true, _, rfl, HLT.out, by go_num, HS5.out, CW5.out, HNT.out⟩
          case measure => simp [intOf]; have := HLT.out; omega
      have HEQ : Hid ((pz == a0) = false) := by show _ = _; rw [beq_eq_false_iff_ne]; exact hz
      have HNT : Hid (false = (v.tc || (ps.take (i + 1)).any (fun p => decide (p.at_ = a0)))) := by show _ = _; rw [HTK.out, ← Bool.or_assoc, ← HT.out, decide_eq_false hz, Bool.or_false]
      clear hz
      apply wp_region_rel 21 (Chg NoS) [(Veq _), (Veq _), (Veq _), (Veq _), (Veq _), (Veq _), (Veq _), (Veq _), (Veq _), (Veq _), (Veq _), (Veq _), (Veq _), (Veq _), (Veq _), (Veq _), (Veq _), (Veq _), (Veq _), (Veq (.bool false)), (Veq _)] [[], [], [1], [2], [3], [4], [5], [5], [5, 6, 7], [5, 8], [5, 9], [5], [5, 11], [5, 12], [5, 13], [5, 14], [5, 15], [5, 16], [5, 17], [5, 10, 18], [5, 19]] [25, 26, 27, 28, 29, 30, 31, 32, 33, 34, 35, 36, 37, 38, 39, 40, 41, 42, 43, 44, 45] (by kernel_rfl) (by kernel_rfl) rfl rfl rfl Chg.refl (fun _ _ _ => Chg.trans) ⟨Veq.lasts, Veq.lasts, Veq.lasts, Veq.lasts, Veq.lasts, Veq.lasts, Veq.lasts, Veq.lasts, Veq.lasts, Veq.lasts, Veq.lasts, Veq.lasts, Veq.lasts, Veq.lasts, Veq.lasts, Veq.lasts, Veq.lasts, Veq.lasts, Veq.lasts, Veq.lasts, Veq.lasts, trivial⟩ ?b2ops ?b2fin
      case b2ops =>
        refine ⟨?b2o0, ?b2o1, ?b2o2, ?b2o3, ?b2o4, ?b2o5, ?b2o6, ?b2o7, ?b2o8, ?b2o9, ?b2o10, ?b2o11, ?b2o12, ?b2o13, ?b2o14, ?b2o15, ?b2o16, ?b2o17, ?b2o18, ?b2o19, ?b2o20, trivial⟩
        case b2o0 =>
          intro a wx hE hin
          have i0 : a.eval (.tmp 0) = .pointer (some ⟨q, 0, none⟩) := hin 0 rfl
          clear hin
          have hcst : ∀ v, a.eval (.const v) = v := fun _ => rfl
          have hfnc : ∀ f, a.eval (.func f) = .func (.func f) #[] #[] := fun _ => rfl
          refine want_none rfl ?_
          unfold Oper.wp
          generalize a.eval = ρ at *
          go_simp
          try go_bits
          first | exact rel_val (Chg.refl _) | (go_simp; exact rel_val (Chg.refl _))
        case b2o1 =>
          intro a wx hE hin
          have i0 : a.eval (.tmp 0) = .pointer (some ⟨q, 0, none⟩) := hin 0 rfl
          clear hin
          have hcst : ∀ v, a.eval (.const v) = v := fun _ => rfl
          have hfnc : ∀ f, a.eval (.func f) = .func (.func f) #[] #[] := fun _ => rfl
          refine want_none rfl ?_
          unfold Oper.wp
          generalize a.eval = ρ at *
          go_simp
          try go_bits
          first | exact rel_val (Chg.refl _) | (go_simp; exact rel_val (Chg.refl _))
        case b2o2 =>
          rintro a wx hE hin (h1 : a.eval (.tmp 26) = _)
          clear hin
          have hcst : ∀ v, a.eval (.const v) = v := fun _ => rfl
          have hfnc : ∀ f, a.eval (.func f) = .func (.func f) #[] #[] := fun _ => rfl
          refine want_none rfl ?_
          unfold Oper.wp
          generalize a.eval = ρ at *
          go_simp
          try go_bits
          first | exact rel_val (Chg.refl _) | (go_simp; exact rel_val (Chg.refl _))
        case b2o3 =>
          rintro a wx hE hin (h2 : a.eval (.tmp 27) = _)
          clear hin
          have hcst : ∀ v, a.eval (.const v) = v := fun _ => rfl
          have hfnc : ∀ f, a.eval (.func f) = .func (.func f) #[] #[] := fun _ => rfl
          refine want_none rfl ?_
          unfold Oper.wp
          generalize a.eval = ρ at *
          go_simp
          try go_bits
          first | exact rel_val (Chg.refl _) | (go_simp; exact rel_val (Chg.refl _))
        case b2o4 =>
          rintro a wx hE hin (h3 : a.eval (.tmp 28) = _)
          clear hin
          have hcst : ∀ v, a.eval (.const v) = v := fun _ => rfl
          have hfnc : ∀ f, a.eval (.func f) = .func (.func f) #[] #[] := fun _ => rfl
          refine want_none rfl ?_
          unfold Oper.wp
          generalize a.eval = ρ at *
          have c := hE.cell (w := u.drew) C11.out id
          go_simp
          try go_bits
          first | exact rel_val (Chg.refl _) | (go_simp; exact rel_val (Chg.refl _))
        case b2o5 =>
          rintro a wx hE hin (h4 : a.eval (.tmp 29) = _)
          clear hin
          have hcst : ∀ v, a.eval (.const v) = v := fun _ => rfl
          have hfnc : ∀ f, a.eval (.func f) = .func (.func f) #[] #[] := fun _ => rfl
          refine want_none rfl ?_
          unfold Oper.wp
          generalize a.eval = ρ at *
          go_simp
          try go_bits
          first | exact rel_val (Chg.refl _) | (go_simp; exact rel_val (Chg.refl _))
        case b2o6 =>
          rintro a wx hE hin (h5 : a.eval (.tmp 30) = _)
          have i1 : a.eval (.tmp 1) = .slice (some ad) ps.length c1 := hin 1 rfl
          clear hin
          have hcst : ∀ v, a.eval (.const v) = v := fun _ => rfl
          have hfnc : ∀ f, a.eval (.func f) = .func (.func f) #[] #[] := fun _ => rfl
          refine want_yes rfl rfl h5 ?_
          unfold Oper.wp
          generalize a.eval = ρ at *
          go_simp
          try go_bits
          first | exact rel_val (Chg.refl _) | (go_simp; exact rel_val (Chg.refl _))
        case b2o7 =>
          rintro a wx hE hin (h5 : a.eval (.tmp 30) = _)
          have i4 : a.eval (.tmp 4) = .int .i64 i := hin 4 rfl
          clear hin
          have hcst : ∀ v, a.eval (.const v) = v := fun _ => rfl
          have hfnc : ∀ f, a.eval (.func f) = .func (.func f) #[] #[] := fun _ => rfl
          refine want_yes rfl rfl h5 ?_
          unfold Oper.wp
          generalize a.eval = ρ at *
          go_simp
          try go_bits
          first | exact rel_val (Chg.refl _) | (go_simp; exact rel_val (Chg.refl _))
        case b2o8 =>
          rintro a wx hE hin (h5 : a.eval (.tmp 30) = _) (h6 : a.eval (.tmp 31) = _) (h7 : a.eval (.tmp 32) = _)
          clear hin
          have hcst : ∀ v, a.eval (.const v) = v := fun _ => rfl
          have hfnc : ∀ f, a.eval (.func f) = .func (.func f) #[] #[] := fun _ => rfl
          refine want_yes rfl rfl h5 ?_
          unfold Oper.wp
          generalize a.eval = ρ at *
          go_simp
          try go_bits
          first | exact rel_val (Chg.refl _) | (go_simp; exact rel_val (Chg.refl _))
        case b2o9 =>
          rintro a wx hE hin (h5 : a.eval (.tmp 30) = _) (h8 : a.eval (.tmp 33) = _)
          clear hin
          have hcst : ∀ v, a.eval (.const v) = v := fun _ => rfl
          have hfnc : ∀ f, a.eval (.func f) = .func (.func f) #[] #[] := fun _ => rfl
          refine want_yes rfl rfl h5 ?_
          unfold Oper.wp
          generalize a.eval = ρ at *
          go_simp
          try go_bits
          first | exact rel_val (Chg.refl _) | (go_simp; exact rel_val (Chg.refl _))
        case b2o10 =>
          rintro a wx hE hin (h5 : a.eval (.tmp 30) = _) (h9 : a.eval (.tmp 34) = _)
          clear hin
          have hcst : ∀ v, a.eval (.const v) = v := fun _ => rfl
          have hfnc : ∀ f, a.eval (.func f) = .func (.func f) #[] #[] := fun _ => rfl
          refine want_yes rfl rfl h5 ?_
          unfold Oper.wp
          generalize a.eval = ρ at *
          have c := hE.cell (w := u.drew) CI.out id
          go_simp
          try go_bits
          first | exact rel_val (Chg.refl _) | (go_simp; exact rel_val (Chg.refl _))
        case b2o11 =>
          rintro a wx hE hin (h5 : a.eval (.tmp 30) = _)
          have i0 : a.eval (.tmp 0) = .pointer (some ⟨q, 0, none⟩) := hin 0 rfl
          clear hin
          have hcst : ∀ v, a.eval (.const v) = v := fun _ => rfl
          have hfnc : ∀ f, a.eval (.func f) = .func (.func f) #[] #[] := fun _ => rfl
          refine want_yes rfl rfl h5 ?_
          unfold Oper.wp
          generalize a.eval = ρ at *
          go_simp
          try go_bits
          first | exact rel_val (Chg.refl _) | (go_simp; exact rel_val (Chg.refl _))
        case b2o12 =>
          rintro a wx hE hin (h5 : a.eval (.tmp 30) = _) (h11 : a.eval (.tmp 36) = _)
          clear hin
          have hcst : ∀ v, a.eval (.const v) = v := fun _ => rfl
          have hfnc : ∀ f, a.eval (.func f) = .func (.func f) #[] #[] := fun _ => rfl
          refine want_yes rfl rfl h5 ?_
          unfold Oper.wp
          generalize a.eval = ρ at *
          go_simp
          try go_bits
          first | exact rel_val (Chg.refl _) | (go_simp; exact rel_val (Chg.refl _))
        case b2o13 =>
          rintro a wx hE hin (h5 : a.eval (.tmp 30) = _) (h12 : a.eval (.tmp 37) = _)
          clear hin
          have hcst : ∀ v, a.eval (.const v) = v := fun _ => rfl
          have hfnc : ∀ f, a.eval (.func f) = .func (.func f) #[] #[] := fun _ => rfl
          refine want_yes rfl rfl h5 ?_
          unfold Oper.wp
          generalize a.eval = ρ at *
          go_simp
          try go_bits
          first | exact rel_val (Chg.refl _) | (go_simp; exact rel_val (Chg.refl _))
        case b2o14 =>
          rintro a wx hE hin (h5 : a.eval (.tmp 30) = _) (h13 : a.eval (.tmp 38) = _)
          clear hin
          have hcst : ∀ v, a.eval (.const v) = v := fun _ => rfl
          have hfnc : ∀ f, a.eval (.func f) = .func (.func f) #[] #[] := fun _ => rfl
          refine want_yes rfl rfl h5 ?_
          unfold Oper.wp
          generalize a.eval = ρ at *
          go_simp
          try go_bits
          first | exact rel_val (Chg.refl _) | (go_simp; exact rel_val (Chg.refl _))
        case b2o15 =>
          rintro a wx hE hin (h5 : a.eval (.tmp 30) = _) (h14 : a.eval (.tmp 39) = _)
          clear hin
          have hcst : ∀ v, a.eval (.const v) = v := fun _ => rfl
          have hfnc : ∀ f, a.eval (.func f) = .func (.func f) #[] #[] := fun _ => rfl
          refine want_yes rfl rfl h5 ?_
          unfold Oper.wp
          generalize a.eval = ρ at *
          have c := hE.cell (w := u.drew) C5.out id
          go_simp
          try go_bits
          first | exact rel_val (Chg.refl _) | (go_simp; exact rel_val (Chg.refl _))
        case b2o16 =>
          rintro a wx hE hin (h5 : a.eval (.tmp 30) = _) (h15 : a.eval (.tmp 40) = _)
          clear hin
          have hcst : ∀ v, a.eval (.const v) = v := fun _ => rfl
          have hfnc : ∀ f, a.eval (.func f) = .func (.func f) #[] #[] := fun _ => rfl
          refine want_yes rfl rfl h5 ?_
          unfold Oper.wp
          generalize a.eval = ρ at *
          go_simp
          try go_bits
          first | exact rel_val (Chg.refl _) | (go_simp; exact rel_val (Chg.refl _))
        case b2o17 =>
          rintro a wx hE hin (h5 : a.eval (.tmp 30) = _) (h16 : a.eval (.tmp 41) = _)
          clear hin
          have hcst : ∀ v, a.eval (.const v) = v := fun _ => rfl
          have hfnc : ∀ f, a.eval (.func f) = .func (.func f) #[] #[] := fun _ => rfl
          refine want_yes rfl rfl h5 ?_
          unfold Oper.wp
          generalize a.eval = ρ at *
          go_simp
          try go_bits
          first | exact rel_val (Chg.refl _) | (go_simp; exact rel_val (Chg.refl _))
        case b2o18 =>
          rintro a wx hE hin (h5 : a.eval (.tmp 30) = _) (h17 : a.eval (.tmp 42) = _)
          clear hin
          have hcst : ∀ v, a.eval (.const v) = v := fun _ => rfl
          have hfnc : ∀ f, a.eval (.func f) = .func (.func f) #[] #[] := fun _ => rfl
          refine want_yes rfl rfl h5 ?_
          unfold Oper.wp
          generalize a.eval = ρ at *
          have c := hE.cell (w := u.drew) CZ.out id
          have c' := hE.cell (w := u.drew) CZ2.out id
          go_simp
          try go_bits
          first | exact rel_val (Chg.refl _) | (go_simp; exact rel_val (Chg.refl _))
        case b2o19 =>
          rintro a wx hE hin (h5 : a.eval (.tmp 30) = _) (h10 : a.eval (.tmp 35) = _) (h18 : a.eval (.tmp 43) = _)
          clear hin
          have hcst : ∀ v, a.eval (.const v) = v := fun _ => rfl
          have hfnc : ∀ f, a.eval (.func f) = .func (.func f) #[] #[] := fun _ => rfl
          refine want_yes rfl rfl h5 ?_
          unfold Oper.wp
          generalize a.eval = ρ at *
          go_simp
          try go_bits
          first | exact rel_val (e := .bool false) (Chg.refl _) | (show RelPost _ _ a (some 44) wx (a.put (some 44) (.bool (pz == a0))) wx; rw [HEQ.out]; exact rel_val (Chg.refl _))
        case b2o20 =>
          rintro a wx hE hin (h5 : a.eval (.tmp 30) = _) (h19 : a.eval (.tmp 44) = _)
          clear hin
          have hcst : ∀ v, a.eval (.const v) = v := fun _ => rfl
          have hfnc : ∀ f, a.eval (.func f) = .func (.func f) #[] #[] := fun _ => rfl
          refine want_none rfl ?_
          unfold Oper.wp
          generalize a.eval = ρ at *
          go_simp
          try go_bits
          first | exact rel_val (Chg.refl _) | (go_simp; exact rel_val (Chg.refl _))
      case b2fin =>
        intro wx hE
        rintro _ rfl _ rfl _ rfl _ rfl _ rfl _ rfl _ rfl _ rfl _ rfl _ rfl _ rfl _ rfl _ rfl _ rfl _ rfl _ rfl _ rfl _ rfl _ rfl _ rfl _ rfl
        simp only [FinOk, List.take_succ_cons, List.take_zero, List.take_nil, List.drop_succ_cons, List.drop_zero, List.drop_nil, Act.put, List.setIfInBounds_toArray, List.set_cons_succ, List.set_cons_zero]
        have EX : Hid (Chg (· = q) w wx) := CW.out.trans (hE.undrew.mono (fun _ hj => hj.elim))
        have HSX := Lib.hid (HSU.out.below (hE.undrew.below (Nat.le_refl _) (fun _ _ => id)))
        clear hE
        go_wp2_with (refine wpList_st rfl 4 (.tmp 47) (.tmp 45) rfl q 11 1 (refC { v with tc := false } (some ad2) n c B m d) [.bool false] rfl rfl HSX.out.bk (by kernel_rfl) rfl (by show _ ≤ 12; decide) (fun u hu => by obtain rfl := List.mem_singleton.1 hu; rfl) ?_)
        intro w5 hb hc
        have HS5 : Hid (QAt w5 q { v with tc := false } (some ad2) n c B m d) := ⟨hb, HSX.out.ln, HSX.out.ra.chg hc (fun j hj => by omega), HSX.out.oa, HSX.out.lm, HSX.out.rb.chg hc (fun j hj => by omega), HSX.out.ob, HSX.out.n5, HSX.out.m5⟩
        have CW5 : Hid (Chg (· = q) w w5) := EX.out.trans hc
        clear hb hc
        go_wp2_with fail
        go_roundw
        case rel => exact ⟨i + 1, false, _, rfl, HLT.out, by go_num, HS5.out, CW5.out, HNT.out⟩
        case measure => simp [intOf]; have := HLT.out; omega
end Go.Proofs.Ytjkkbkjejcjfiaa
