
import Derived.Test.YtcmfkdfegfablaaPkPuts
import Derived.Test.YtcmfkdfegfablaaPkEnc
import Derived.Test.YtcmfkdfegfablaaPkNum

/- slices.Equal of bytes; packet.Decode. -/
namespace Go.Proofs.Ytcmfkdfegfablaa
open Go.RowKit
set_option linter.unusedVariables false
set_option linter.unusedSimpArgs false

set_option maxRecDepth 100000 in
set_option maxHeartbeats 4000000 in
theorem bytesEq_calls (xs ys : List UInt8) (A : Option Addr) (n c : Nat) (B : Option Addr) (m d : Nat) (w : World) (hl : xs.length = n) (hl2 : ys.length = m) (hm : n ≤ 1000000) (hr : Rd w A (bts xs)) (hs : Rd w B (bts ys)) :
    Calls Try.prog 56 #[.slice A n c, .slice B m d] w fun e w' => e = .returned (.bool (decide (xs = ys))) ∧ Below w.heap.size w w' := by
  have HA := Lib.hid hr
  have HB := Lib.hid hs
  have HLX := Lib.hid hl
  have HLY := Lib.hid hl2
  clear hr hs hl hl2
  go_enter Try.func56, Try.ntmps56
  by_cases hnm : n = m
  case neg =>
    have hi : ¬ ((n : Int) = (m : Int)) := by omega
    go_wp2_with fail
    (try simp only [Exit.inBlock, Exit.then])
    go_ret
    exact ⟨by rw [decide_eq_false (fun h => hnm (by rw [← HLX.out, ← HLY.out, h]))]; rfl, Below.refl _ _⟩
  subst hnm
  go_wp2_with fail
  go_loopw [13] (fun v wr => ∃ k : Nat, k ≤ n ∧ v = .int .i64 k ∧ (∀ j, j < k → xs.getD j 0 = ys.getD j 0) ∧ Below w.heap.size w wr) (fun v _ => n - (intOf v).toNat)
  case atStart => exact ⟨0, Nat.zero_le _, rfl, fun j hj => by omega, Below.refl _ _⟩
  case round =>
    obtain ⟨k, hk, rfl, hall, hb⟩ := hrel
    have HALL := Lib.hid hall
    have ER := Lib.hid hb
    clear hall hb
    by_cases hlt : k < n
    case neg =>
      have hke : k = n := by omega
      subst hke
      have hki : ¬ ((k : Int) < (k : Int)) := by omega
      go_wp2_with fail
      (try simp only [Exit.inBlock, Exit.then])
      go_ret
      have heq : xs = ys := by
        apply List.ext_getElem (by rw [HLX.out, HLY.out])
        intro i h1 h2
        have := HALL.out i (by rw [← HLX.out]; exact h1)
        rw [List.getD_eq_getElem?_getD, List.getD_eq_getElem?_getD, List.getElem?_eq_getElem h1, List.getElem?_eq_getElem h2] at this
        exact this
      exact ⟨by rw [decide_eq_true heq]; rfl, ER.out⟩
    have hki : (k : Int) < (n : Int) := by omega
    have hk0 : (0 : Int) ≤ (k : Int) := by omega
    have hk6 : (n : Int) ≤ 1000000 := by omega
    obtain ⟨ad, hA, _⟩ := HA.out.bt k (by rw [HLX.out]; exact hlt)
    obtain ⟨bd, hB, _⟩ := HB.out.bt k (by rw [HLY.out]; exact hlt)
    subst hA hB
    obtain ⟨xa, hxa⟩ : ∃ xa, (xs.getD k 0).toNat = xa := ⟨_, rfl⟩
    obtain ⟨xb, hxb⟩ : ∃ xb, (ys.getD k 0).toNat = xb := ⟨_, rfl⟩
    have HCA : Hid (∀ u, Below w.heap.size w u → u.cell? (ad.add k) = some (.int .u8 (xa : Int))) := fun u hu => by
      obtain ⟨ad', h1, h2⟩ := (HA.out.below hu).bt k (by rw [HLX.out]; exact hlt)
      injection h1 with h1
      subst h1
      rw [h2, vu8, hxa]
    have HCB : Hid (∀ u, Below w.heap.size w u → u.cell? (bd.add k) = some (.int .u8 (xb : Int))) := fun u hu => by
      obtain ⟨ad', h1, h2⟩ := (HB.out.below hu).bt k (by rw [HLY.out]; exact hlt)
      injection h1 with h1
      subst h1
      rw [h2, vu8, hxb]
    have hxa256 : xa < 256 := by rw [← hxa]; exact (xs.getD k 0).toNat_lt
    have hxb256 : xb < 256 := by rw [← hxb]; exact (ys.getD k 0).toNat_lt
    by_cases hxy : xa = xb
    · subst hxy
      have HEQ : Hid (xs.getD k 0 = ys.getD k 0) := UInt8.toNat_inj.1 (hxa.trans hxb.symm)
      clear hxa hxb
      go_wp2_with fail
      apply wp_region_rel 9 (Chg NoS) [(Veq _), (Veq _), (Veq _), (Veq _), (Veq _), (Veq _), (Veq _), (Veq _), (Veq _)] [[], [], [0, 1], [2], [], [], [4, 5], [6], [3, 7]] [16, 17, 18, 19, 20, 21, 22, 23, 24] (by kernel_rfl) (by kernel_rfl) rfl rfl rfl Chg.refl (fun _ _ _ => Chg.trans) ⟨Veq.lasts, Veq.lasts, Veq.lasts, Veq.lasts, Veq.lasts, Veq.lasts, Veq.lasts, Veq.lasts, Veq.lasts, trivial⟩ ?aops ?afin
      case aops =>
        refine ⟨?ao0, ?ao1, ?ao2, ?ao3, ?ao4, ?ao5, ?ao6, ?ao7, ?ao8, trivial⟩
        case ao0 =>
          intro a wx hE hin
          have i0 : a.eval (.tmp 0) = .slice (some ad) n c := hin 0 rfl
          clear hin
          have hcst : ∀ v, a.eval (.const v) = v := fun _ => rfl
          have hfnc : ∀ f, a.eval (.func f) = .func (.func f) #[] #[] := fun _ => rfl
          refine want_none rfl ?_
          unfold Oper.wp
          generalize a.eval = ρ at *
          go_simp
          try go_bits
          first | exact rel_val (Chg.refl _) | (go_simp; exact rel_val (Chg.refl _))
        case ao1 =>
          intro a wx hE hin
          have i5 : a.eval (.tmp 5) = .int .i64 k := hin 5 rfl
          clear hin
          have hcst : ∀ v, a.eval (.const v) = v := fun _ => rfl
          have hfnc : ∀ f, a.eval (.func f) = .func (.func f) #[] #[] := fun _ => rfl
          refine want_none rfl ?_
          unfold Oper.wp
          generalize a.eval = ρ at *
          go_simp
          try go_bits
          first | exact rel_val (Chg.refl _) | (go_simp; exact rel_val (Chg.refl _))
        case ao2 =>
          rintro a wx hE hin (h0 : a.eval (.tmp 16) = _) (h1 : a.eval (.tmp 17) = _)
          clear hin
          have hcst : ∀ v, a.eval (.const v) = v := fun _ => rfl
          have hfnc : ∀ f, a.eval (.func f) = .func (.func f) #[] #[] := fun _ => rfl
          refine want_none rfl ?_
          unfold Oper.wp
          generalize a.eval = ρ at *
          go_simp
          try go_bits
          first | exact rel_val (Chg.refl _) | (go_simp; exact rel_val (Chg.refl _))
        case ao3 =>
          rintro a wx hE hin (h2 : a.eval (.tmp 18) = _)
          clear hin
          have hcst : ∀ v, a.eval (.const v) = v := fun _ => rfl
          have hfnc : ∀ f, a.eval (.func f) = .func (.func f) #[] #[] := fun _ => rfl
          refine want_none rfl ?_
          unfold Oper.wp
          generalize a.eval = ρ at *
          have c := HCA.out wx (ER.out.trans (hE.undrew.below ER.out.size (fun _ _ => id)))
          go_simp
          try go_bits
          first | exact rel_val (Chg.refl _) | (go_simp; exact rel_val (Chg.refl _))
        case ao4 =>
          intro a wx hE hin
          have i1 : a.eval (.tmp 1) = .slice (some bd) n d := hin 1 rfl
          clear hin
          have hcst : ∀ v, a.eval (.const v) = v := fun _ => rfl
          have hfnc : ∀ f, a.eval (.func f) = .func (.func f) #[] #[] := fun _ => rfl
          refine want_none rfl ?_
          unfold Oper.wp
          generalize a.eval = ρ at *
          go_simp
          try go_bits
          first | exact rel_val (Chg.refl _) | (go_simp; exact rel_val (Chg.refl _))
        case ao5 =>
          intro a wx hE hin
          have i5 : a.eval (.tmp 5) = .int .i64 k := hin 5 rfl
          clear hin
          have hcst : ∀ v, a.eval (.const v) = v := fun _ => rfl
          have hfnc : ∀ f, a.eval (.func f) = .func (.func f) #[] #[] := fun _ => rfl
          refine want_none rfl ?_
          unfold Oper.wp
          generalize a.eval = ρ at *
          go_simp
          try go_bits
          first | exact rel_val (Chg.refl _) | (go_simp; exact rel_val (Chg.refl _))
        case ao6 =>
          rintro a wx hE hin (h4 : a.eval (.tmp 20) = _) (h5 : a.eval (.tmp 21) = _)
          clear hin
          have hcst : ∀ v, a.eval (.const v) = v := fun _ => rfl
          have hfnc : ∀ f, a.eval (.func f) = .func (.func f) #[] #[] := fun _ => rfl
          refine want_none rfl ?_
          unfold Oper.wp
          generalize a.eval = ρ at *
          go_simp
          try go_bits
          first | exact rel_val (Chg.refl _) | (go_simp; exact rel_val (Chg.refl _))
        case ao7 =>
          rintro a wx hE hin (h6 : a.eval (.tmp 22) = _)
          clear hin
          have hcst : ∀ v, a.eval (.const v) = v := fun _ => rfl
          have hfnc : ∀ f, a.eval (.func f) = .func (.func f) #[] #[] := fun _ => rfl
          refine want_none rfl ?_
          unfold Oper.wp
          generalize a.eval = ρ at *
          have c := HCB.out wx (ER.out.trans (hE.undrew.below ER.out.size (fun _ _ => id)))
          go_simp
          try go_bits
          first | exact rel_val (Chg.refl _) | (go_simp; exact rel_val (Chg.refl _))
        case ao8 =>
          rintro a wx hE hin (h3 : a.eval (.tmp 19) = _) (h7 : a.eval (.tmp 23) = _)
          clear hin
          have hcst : ∀ v, a.eval (.const v) = v := fun _ => rfl
          have hfnc : ∀ f, a.eval (.func f) = .func (.func f) #[] #[] := fun _ => rfl
          refine want_none rfl ?_
          unfold Oper.wp
          generalize a.eval = ρ at *
          go_simp
          try go_bits
          first | exact rel_val (Chg.refl _) | (go_simp; exact rel_val (Chg.refl _))
      case afin =>
        intro wx hE
        rintro _ rfl _ rfl _ rfl _ rfl _ rfl _ rfl _ rfl _ rfl _ rfl
        simp only [FinOk, List.take_succ_cons, List.take_zero, List.take_nil, List.drop_succ_cons, List.drop_zero, List.drop_nil, Act.put, List.setIfInBounds_toArray, List.set_cons_succ, List.set_cons_zero]
        have EX : Hid (Below w.heap.size w wx) := ER.out.trans (hE.undrew.below ER.out.size (fun _ _ => id))
        clear hE
        go_wp2_with fail
        go_roundw
        case rel => exact ⟨k + 1, by omega, by go_num, fun j hj => by
          rcases Nat.lt_or_ge j k with h | h
          · exact HALL.out j h
          · rw [show j = k by omega]; exact HEQ.out, EX.out⟩
        case measure => simp [intOf]; omega
    · have hne : ¬ ((xa : Int) = (xb : Int)) := by omega
      have hne2 : ((xa : Int) == (xb : Int)) = false := by rw [beq_eq_false_iff_ne]; exact hne
      have HNE : Hid (¬ (xs = ys)) := fun h => hxy (by rw [← hxa, ← hxb, h])
      clear hxa hxb hxy
      go_wp2_with fail
      apply wp_region_rel 9 (Chg NoS) [(Veq _), (Veq _), (Veq _), (Veq _), (Veq _), (Veq _), (Veq _), (Veq _), (Veq _)] [[], [], [0, 1], [2], [], [], [4, 5], [6], [3, 7]] [16, 17, 18, 19, 20, 21, 22, 23, 24] (by kernel_rfl) (by kernel_rfl) rfl rfl rfl Chg.refl (fun _ _ _ => Chg.trans) ⟨Veq.lasts, Veq.lasts, Veq.lasts, Veq.lasts, Veq.lasts, Veq.lasts, Veq.lasts, Veq.lasts, Veq.lasts, trivial⟩ ?bops ?bfin
      case bops =>
        refine ⟨?bo0, ?bo1, ?bo2, ?bo3, ?bo4, ?bo5, ?bo6, ?bo7, ?bo8, trivial⟩
        case bo0 =>
          intro a wx hE hin
          have i0 : a.eval (.tmp 0) = .slice (some ad) n c := hin 0 rfl
          clear hin
          have hcst : ∀ v, a.eval (.const v) = v := fun _ => rfl
          have hfnc : ∀ f, a.eval (.func f) = .func (.func f) #[] #[] := fun _ => rfl
          refine want_none rfl ?_
          unfold Oper.wp
          generalize a.eval = ρ at *
          go_simp
          try go_bits
          first | exact rel_val (Chg.refl _) | (go_simp; exact rel_val (Chg.refl _))
        case bo1 =>
          intro a wx hE hin
          have i5 : a.eval (.tmp 5) = .int .i64 k := hin 5 rfl
          clear hin
          have hcst : ∀ v, a.eval (.const v) = v := fun _ => rfl
          have hfnc : ∀ f, a.eval (.func f) = .func (.func f) #[] #[] := fun _ => rfl
          refine want_none rfl ?_
          unfold Oper.wp
          generalize a.eval = ρ at *
          go_simp
          try go_bits
          first | exact rel_val (Chg.refl _) | (go_simp; exact rel_val (Chg.refl _))
        case bo2 =>
          rintro a wx hE hin (h0 : a.eval (.tmp 16) = _) (h1 : a.eval (.tmp 17) = _)
          clear hin
          have hcst : ∀ v, a.eval (.const v) = v := fun _ => rfl
          have hfnc : ∀ f, a.eval (.func f) = .func (.func f) #[] #[] := fun _ => rfl
          refine want_none rfl ?_
          unfold Oper.wp
          generalize a.eval = ρ at *
          go_simp
          try go_bits
          first | exact rel_val (Chg.refl _) | (go_simp; exact rel_val (Chg.refl _))
        case bo3 =>
          rintro a wx hE hin (h2 : a.eval (.tmp 18) = _)
          clear hin
          have hcst : ∀ v, a.eval (.const v) = v := fun _ => rfl
          have hfnc : ∀ f, a.eval (.func f) = .func (.func f) #[] #[] := fun _ => rfl
          refine want_none rfl ?_
          unfold Oper.wp
          generalize a.eval = ρ at *
          have c := HCA.out wx (ER.out.trans (hE.undrew.below ER.out.size (fun _ _ => id)))
          go_simp
          try go_bits
          first | exact rel_val (Chg.refl _) | (go_simp; exact rel_val (Chg.refl _))
        case bo4 =>
          intro a wx hE hin
          have i1 : a.eval (.tmp 1) = .slice (some bd) n d := hin 1 rfl
          clear hin
          have hcst : ∀ v, a.eval (.const v) = v := fun _ => rfl
          have hfnc : ∀ f, a.eval (.func f) = .func (.func f) #[] #[] := fun _ => rfl
          refine want_none rfl ?_
          unfold Oper.wp
          generalize a.eval = ρ at *
          go_simp
          try go_bits
          first | exact rel_val (Chg.refl _) | (go_simp; exact rel_val (Chg.refl _))
        case bo5 =>
          intro a wx hE hin
          have i5 : a.eval (.tmp 5) = .int .i64 k := hin 5 rfl
          clear hin
          have hcst : ∀ v, a.eval (.const v) = v := fun _ => rfl
          have hfnc : ∀ f, a.eval (.func f) = .func (.func f) #[] #[] := fun _ => rfl
          refine want_none rfl ?_
          unfold Oper.wp
          generalize a.eval = ρ at *
          go_simp
          try go_bits
          first | exact rel_val (Chg.refl _) | (go_simp; exact rel_val (Chg.refl _))
        case bo6 =>
          rintro a wx hE hin (h4 : a.eval (.tmp 20) = _) (h5 : a.eval (.tmp 21) = _)
          clear hin
          have hcst : ∀ v, a.eval (.const v) = v := fun _ => rfl
          have hfnc : ∀ f, a.eval (.func f) = .func (.func f) #[] #[] := fun _ => rfl
          refine want_none rfl ?_
          unfold Oper.wp
          generalize a.eval = ρ at *
          go_simp
          try go_bits
          first | exact rel_val (Chg.refl _) | (go_simp; exact rel_val (Chg.refl _))
        case bo7 =>
          rintro a wx hE hin (h6 : a.eval (.tmp 22) = _)
          clear hin
          have hcst : ∀ v, a.eval (.const v) = v := fun _ => rfl
          have hfnc : ∀ f, a.eval (.func f) = .func (.func f) #[] #[] := fun _ => rfl
          refine want_none rfl ?_
          unfold Oper.wp
          generalize a.eval = ρ at *
          have c := HCB.out wx (ER.out.trans (hE.undrew.below ER.out.size (fun _ _ => id)))
          go_simp
          try go_bits
          first | exact rel_val (Chg.refl _) | (go_simp; exact rel_val (Chg.refl _))
        case bo8 =>
          rintro a wx hE hin (h3 : a.eval (.tmp 19) = _) (h7 : a.eval (.tmp 23) = _)
          clear hin
          have hcst : ∀ v, a.eval (.const v) = v := fun _ => rfl
          have hfnc : ∀ f, a.eval (.func f) = .func (.func f) #[] #[] := fun _ => rfl
          refine want_none rfl ?_
          unfold Oper.wp
          generalize a.eval = ρ at *
          go_simp
          try go_bits
          first | exact rel_val (Chg.refl _) | (go_simp; exact rel_val (Chg.refl _))
      case bfin =>
        intro wx hE
        rintro _ rfl _ rfl _ rfl _ rfl _ rfl _ rfl _ rfl _ rfl _ rfl
        simp only [FinOk, List.take_succ_cons, List.take_zero, List.take_nil, List.drop_succ_cons, List.drop_zero, List.drop_nil, Act.put, List.setIfInBounds_toArray, List.set_cons_succ, List.set_cons_zero]
        have EX : Hid (Below w.heap.size w wx) := ER.out.trans (hE.undrew.below ER.out.size (fun _ _ => id))
        clear hE
        go_wp2_with fail
        (try simp only [Exit.inBlock, Exit.then])
        go_ret
        exact ⟨by rw [decide_eq_false HNE.out]; rfl, EX.out⟩
/-! ### Decode -/
theorem vu32_numD {l : List UInt8} (h : l.length = 4) : (.int .u32 (num l : Nat) : Value) = vu32 (UInt32.ofNat (num l)) := by
  have := num_lt l
  rw [h] at this
  rw [vu32, UInt32.toNat_ofNat_of_lt' (by show num l < 4294967296; omega)]
def zPkD : List Value := pktC 0 0 0 none 0 0
def readC (K : Int) (e q : UInt32) (v u : Value) : List Value := [.int .i64 K, vu32 e, vu32 q, v, u]
def zRead : List Value := readC 0 0 0 (.slice none 0 0) (.slice none 0 0)
theorem one_pktD (k : Int) (e q : UInt32) (A : Option Addr) (n c : Nat) : ∀ u ∈ pktC k e q A n c, u.oneCell' = true := by
  intro u hu
  simp only [pktC, List.mem_cons, List.not_mem_nil, or_false] at hu
  rcases hu with rfl | rfl | rfl | rfl <;> rfl
theorem one_read (k : Int) (e q : UInt32) (v u : Value) (hv : v.oneCell' = true) (hu : u.oneCell' = true) : ∀ x ∈ readC k e q v u, x.oneCell' = true := by
  intro x hx
  simp only [readC, List.mem_cons, List.not_mem_nil, or_false] at hx
  rcases hx with rfl | rfl | rfl | rfl | rfl <;> first | rfl | assumption
theorem own_rdQ {w : World} {base n c : Nat} {e : TypeId} {size : Nat} {A : Option Addr} {xs : List Value} (h : w.ownsRow base e size (.slice A n c) n xs) : Rd w A xs := by
  obtain ⟨A', c', he, hr, _⟩ := own_rd h
  injection he with h1 _ _
  subst h1
  exact hr
def eD (b : List UInt8) : UInt32 := UInt32.ofNat (num ((b.drop 1).take 4))
def qD (b : List UInt8) : UInt32 := UInt32.ofNat (num ((b.drop 5).take 4))
def kD (b : List UInt8) : Int := ((b.getD 0 0).toNat : Int)
def nD (b : List UInt8) : Nat := (b.length - 12) / 33
def lenOkD (b : List UInt8) : Prop := 12 ≤ b.length ∧ (b.length - 12) % 33 = 0
instance (b : List UInt8) : Decidable (lenOkD b) := by unfold lenOkD; exact inferInstance
/-- The packet of bytes, or that there is none. -/
def decP (b : List UInt8) : (Int × UInt32 × UInt32 × List PutV) × Int :=
  if lenOkD b ∧ goodP (kD b) (putsN b (nD b)) = true ∧ encP (kD b).toNat (eD b) (qD b) (putsN b (nD b)) = b then ((kD b, eD b, qD b, putsN b (nD b)), 0) else ((0, 0, 0, []), 11)
theorem decP_len {b : List UInt8} (h : ¬ lenOkD b) : decP b = ((0, 0, 0, []), 11) := if_neg (fun hh => h hh.1)
theorem decP_no {b : List UInt8} (h0 : lenOkD b) (h : ¬ (goodP (kD b) (putsN b (nD b)) = true ∧ encP (kD b).toNat (eD b) (qD b) (putsN b (nD b)) = b)) : decP b = ((0, 0, 0, []), 11) := if_neg (fun hh => h hh.2)
theorem decP_yes {b : List UInt8} (h0 : lenOkD b) (h : goodP (kD b) (putsN b (nD b)) = true) (h2 : encP (kD b).toNat (eD b) (qD b) (putsN b (nD b)) = b) : decP b = ((kD b, eD b, qD b, putsN b (nD b)), 0) := if_pos ⟨h0, h, h2⟩
/-- What Decode answers. -/
def DecPost (w : World) (r : (Int × UInt32 × UInt32 × List PutV) × Int) (en : Ending) (w' : World) : Prop :=
  ∃ A c, en = .returned (.tuple #[.agg (pktC r.1.1 r.1.2.1 r.1.2.2.1 A r.1.2.2.2.length c).toArray, .int .i64 r.2]) ∧ Rd w' A (r.1.2.2.2.flatMap putC) ∧ r.1.2.2.2.length ≤ c ∧ c ≤ 9223372036854775807 ∧ PutsOk r.1.2.2.2 ∧ Below w.heap.size w w'
def DecPostN (w : World) (r : (Int × UInt32 × UInt32 × List PutV) × Int) (en : Ending) (w' : World) : Prop :=
  ∃ A c, en = .returned (.tuple #[.agg (pktC r.1.1 r.1.2.1 r.1.2.2.1 A r.1.2.2.2.length c).toArray, .int .i64 r.2]) ∧ Rd w' A (r.1.2.2.2.flatMap putC) ∧ r.1.2.2.2.length ≤ c ∧ c ≤ 9223372036854775807 ∧ PutsOk r.1.2.2.2 ∧ Below w.heap.size w w' ∧ ∀ (T : Nat → Prop) (w2 : World), Chg T w' w2 → (∀ j, T j → j < w.heap.size) → Rd w2 A (r.1.2.2.2.flatMap putC)
theorem encP_small (k : Nat) (e q : UInt32) (ps : List PutV) (h : ps.length ≤ 5) (ho : PutsOk ps) : (encP k e q ps).length ≤ 1000000 := by
  rw [encP, List.length_append, encK_len ho, List.take_length]
  simp
  omega
set_option maxRecDepth 100000 in
set_option maxHeartbeats 16000000 in
theorem packDecode_callsN (b : List UInt8) (A0 : Option Addr) (n c : Nat) (w : World) (hl : b.length = n) (hnc : n ≤ c) (hcm : c ≤ 9223372036854775807) (hm : n ≤ 33000) (hr : Rd w A0 (bts b)) :
    Calls Try.prog 40 #[.slice A0 n c] w (DecPostN w (decP b)) := by
  have HR := Lib.hid hr
  have HBL := Lib.hid hl
  have HNC := Lib.hid hnc
  have HCM := Lib.hid hcm
  clear hr hl
  go_enter Try.func40, Try.ntmps40
  go_wp2_with (refine wpList_al rfl 67 rfl zPkD (by kernel_rfl) ?_)
  intro g0 w1 hg hbk hc hs
  subst hg
  have K1 := Lib.hid hbk
  have E1 : Hid (Below w.heap.size w w1) := hc.below (Nat.le_refl _) (fun _ _ => id)
  clear hbk hc hs
  by_cases h12 : n < 12
  · have h12i : (n : Int) < 12 := by omega
    have HF : Hid (decP b = ((0, 0, 0, []), 11)) := decP_len (fun h => by have := h.1; have := HBL.out; omega)
    clear h12
    go_wp2_with (first
      | (refine wpList_bld rfl 67 [] rfl zPkD [] zPkD (by kernel_rfl) (by kernel_rfl) trivial rfl ?_)
      | (refine wpList_st rfl 67 (.tmp 2) (.tmp 18) rfl w.heap.size 0 4 zPkD zPkD rfl rfl K1.out (by kernel_rfl) rfl (by decide) (one_pktD _ _ _ _ _ _) ?_))
    intro w9 hbk hc
    rw [splice_whole zPkD zPkD rfl] at hbk
    have K9 := Lib.hid hbk
    have E9 : Hid (Below w.heap.size w w9) := E1.out.trans (hc.below E1.out.size (fun j hj he => by omega))
    clear hbk hc
    go_wp2_with fail
    (try simp only [Exit.inBlock, Exit.then])
    refine bodyPost_ret (res_cell_tmp rfl _ _ w.heap.size 4 _ rfl K9.out (by kernel_rfl) (by kernel_rfl) rfl) rfl ?_
    rw [DecPostN, HF.out]
    exact ⟨none, 0, rfl, Rd.nil _ _, Nat.le_refl _, by decide, (fun p hp => by cases hp), E9.out, fun _ _ _ _ => Rd.nil _ _⟩
  have h12i : ¬ ((n : Int) < 12) := by omega
  have h12p : (12 : Int) ≤ (n : Int) := by omega
  obtain ⟨m, hmm⟩ : ∃ m, n - 12 = m := ⟨_, rfl⟩
  have hmi : (n : Int) - 10 - 2 = (m : Int) := by omega
  have hm33 : (m : Int) ≤ 33000 := by omega
  have hn33 : (n : Int) ≤ 33000 := by omega
  by_cases hmod : m % 33 = 0
  case neg =>
    have hmodi : ¬ ((m : Int) % 33 = 0) := by omega
    have HF : Hid (decP b = ((0, 0, 0, []), 11)) := decP_len (fun h => by have := h.2; have := HBL.out; omega)
    clear hmod hmm
    go_wp2_with (first
      | (refine wpList_bld rfl 67 [] rfl zPkD [] zPkD (by kernel_rfl) (by kernel_rfl) trivial rfl ?_)
      | (refine wpList_st rfl 67 (.tmp 2) (.tmp 18) rfl w.heap.size 0 4 zPkD zPkD rfl rfl K1.out (by kernel_rfl) rfl (by decide) (one_pktD _ _ _ _ _ _) ?_))
    intro w9 hbk hc
    rw [splice_whole zPkD zPkD rfl] at hbk
    have K9 := Lib.hid hbk
    have E9 : Hid (Below w.heap.size w w9) := E1.out.trans (hc.below E1.out.size (fun j hj he => by omega))
    clear hbk hc
    go_wp2_with fail
    (try simp only [Exit.inBlock, Exit.then])
    refine bodyPost_ret (res_cell_tmp rfl _ _ w.heap.size 4 _ rfl K9.out (by kernel_rfl) (by kernel_rfl) rfl) rfl ?_
    rw [DecPostN, HF.out]
    exact ⟨none, 0, rfl, Rd.nil _ _, Nat.le_refl _, by decide, (fun p hp => by cases hp), E9.out, fun _ _ _ _ => Rd.nil _ _⟩
  have hmodi : ((m : Int) % 33 = 0) := by omega
  obtain ⟨N, hN⟩ : ∃ N, m / 33 = N := ⟨_, rfl⟩
  have HN : Hid (n = 33 * N + 12) := by show _ = _; omega
  have HN1 : Hid (N ≤ 1000) := by show _ ≤ _; omega
  have HNL : Hid (b.length = 33 * N + 12) := by have := HBL.out; show _ = _; omega
  have HLB : Hid (lenOkD b) := ⟨by have := HBL.out; omega, by have := HBL.out; omega⟩
  have HNN : Hid (nD b = N) := by show (b.length - 12) / 33 = N; have := HBL.out; omega
  clear h12 hmod hmm hN
  obtain ⟨A, hA, _⟩ := HR.out.bt 0 (by rw [HNL.out]; omega)
  subst hA
  obtain ⟨kn, hkn⟩ : ∃ kn, (b.getD 0 0).toNat = kn := ⟨_, rfl⟩
  have hkn256 : kn < 256 := by rw [← hkn]; exact (b.getD 0 0).toNat_lt
  obtain ⟨K, hK⟩ : ∃ K : Int, (kn : Int) = K := ⟨_, rfl⟩
  have HKN := Lib.hid hK
  have HKK : Hid (kD b = K) := by show ((b.getD 0 0).toNat : Int) = K; rw [hkn, hK]
  have HB0 : Hid (∀ u, Below w.heap.size w u → u.cell? A = some (.int .u8 (kn : Int))) := fun u hu => by
    obtain ⟨ad', h1, h2⟩ := (HR.out.below hu).bt 0 (by rw [HNL.out]; omega)
    injection h1 with h1
    subst h1
    rw [← hkn]
    exact h2
  have L4a : Hid (((b.drop 1).take 4).length = 4) := by show _ = _; rw [List.length_take, List.length_drop, HNL.out]; omega
  have L4b : Hid (((b.drop 5).take 4).length = 4) := by show _ = _; rw [List.length_take, List.length_drop, HNL.out]; omega
  have R4a : Hid (∀ u, Below w.heap.size w u → Rd u (some (A.add 1)) (bts ((b.drop 1).take 4))) := fun u hu => by
    have h := ((HR.out.below hu).drop 1).take 4
    rwa [bts_drop, bts_take] at h
  have R4b : Hid (∀ u, Below w.heap.size w u → Rd u (some (A.add 5)) (bts ((b.drop 5).take 4))) := fun u hu => by
    have h := ((HR.out.below hu).drop 5).take 4
    rwa [bts_drop, bts_take] at h
  obtain ⟨e, he⟩ : ∃ e, eD b = e := ⟨_, rfl⟩
  have HE4 := Lib.hid he
  have HE : Hid ((.int .u32 (num ((b.drop 1).take 4) : Nat) : Value) = vu32 e) := by show _ = _; rw [← he]; exact vu32_numD L4a.out
  obtain ⟨q, hq⟩ : ∃ q, qD b = q := ⟨_, rfl⟩
  have HQ4 := Lib.hid hq
  have HQ : Hid ((.int .u32 (num ((b.drop 5).take 4) : Nat) : Value) = vu32 q) := by show _ = _; rw [← hq]; exact vu32_numD L4b.out
  clear he hq hkn hK
  have hnc2 := HNC.out
  have hn0 : 0 < n := by omega
  have hn5 : (5 : Int) ≤ (c : Int) := by omega
  have hn9 : (9 : Int) ≤ (c : Int) := by omega
  have hc1 : ¬ (c = 1) := by omega
  have hc5 : ¬ (c = 5) := by omega
  have hc5n : 5 ≤ c := by omega
  have hc9n : 9 ≤ c := by omega
  go_wp2_with fail
  apply wp_region_rel 14 (Chg NoS) [(Veq _), (Veq _), (Veq _), (Veq _), (Veq _), (Veq _), (Veq _), (Veq _), (Veq _), (Veq _), (Veq (.agg (pktC K e q none 0 0).toArray)), (Veq _), (Veq (.agg (readC K e q (.slice none 0 0) (.slice (some A) n c)).toArray)), (PtrAt NoS w1.heap.size zRead)] [[], [0], [1], [2], [], [4], [5], [], [7], [8], [3, 6, 9], [], [10, 11], []] [19, 20, 21, 22, 23, 24, 25, 26, 27, 28, 29, 30, 31, 4] (by kernel_rfl) (by kernel_rfl) rfl rfl rfl Chg.refl (fun _ _ _ => Chg.trans) ⟨Veq.lasts, Veq.lasts, Veq.lasts, Veq.lasts, Veq.lasts, Veq.lasts, Veq.lasts, Veq.lasts, Veq.lasts, Veq.lasts, Veq.lasts, Veq.lasts, Veq.lasts, PtrAt.lasts, trivial⟩ ?aops ?afin
  case aops =>
    refine ⟨?ao0, ?ao1, ?ao2, ?ao3, ?ao4, ?ao5, ?ao6, ?ao7, ?ao8, ?ao9, ?ao10, ?ao11, ?ao12, ?ao13, trivial⟩
    case ao0 =>
      intro a wx hE hin
      have i0 : a.eval (.tmp 0) = .slice (some A) n c := hin 0 rfl
      clear hin
      have hcst : ∀ v, a.eval (.const v) = v := fun _ => rfl
      have hfnc : ∀ f, a.eval (.func f) = .func (.func f) #[] #[] := fun _ => rfl
      refine want_none rfl ?_
      unfold Oper.wp
      generalize a.eval = ρ at *
      go_simp
      try go_bits
      first | exact rel_val (Chg.refl _) | (go_simp; exact rel_val (Chg.refl _))
    case ao1 =>
      rintro a wx hE hin (h0 : a.eval (.tmp 19) = _)
      clear hin
      have hcst : ∀ v, a.eval (.const v) = v := fun _ => rfl
      have hfnc : ∀ f, a.eval (.func f) = .func (.func f) #[] #[] := fun _ => rfl
      refine want_none rfl ?_
      unfold Oper.wp
      generalize a.eval = ρ at *
      go_simp
      try go_bits
      first | exact rel_val (Chg.refl _) | (go_simp; exact rel_val (Chg.refl _))
    case ao2 =>
      rintro a wx hE hin (h1 : a.eval (.tmp 20) = _)
      clear hin
      have hcst : ∀ v, a.eval (.const v) = v := fun _ => rfl
      have hfnc : ∀ f, a.eval (.func f) = .func (.func f) #[] #[] := fun _ => rfl
      refine want_none rfl ?_
      unfold Oper.wp
      generalize a.eval = ρ at *
      have c := HB0.out wx (E1.out.trans (hE.undrew.below E1.out.size (fun _ _ => id)))
      go_simp
      try go_bits
      first | exact rel_val (Chg.refl _) | (go_simp; exact rel_val (Chg.refl _))
    case ao3 =>
      rintro a wx hE hin (h2 : a.eval (.tmp 21) = _)
      clear hin
      have hcst : ∀ v, a.eval (.const v) = v := fun _ => rfl
      have hfnc : ∀ f, a.eval (.func f) = .func (.func f) #[] #[] := fun _ => rfl
      refine want_none rfl ?_
      unfold Oper.wp
      generalize a.eval = ρ at *
      go_simp
      try go_bits
      first | exact rel_val (Chg.refl _) | (go_simp; exact rel_val (Chg.refl _))
    case ao4 =>
      intro a wx hE hin
      have i0 : a.eval (.tmp 0) = .slice (some A) n c := hin 0 rfl
      clear hin
      have hcst : ∀ v, a.eval (.const v) = v := fun _ => rfl
      have hfnc : ∀ f, a.eval (.func f) = .func (.func f) #[] #[] := fun _ => rfl
      refine want_none rfl ?_
      unfold Oper.wp
      generalize a.eval = ρ at *
      go_simp
      try go_bits
      first | exact rel_val (Chg.refl _) | (go_simp; exact rel_val (Chg.refl _))
    case ao5 =>
      rintro a wx hE hin (h4 : a.eval (.tmp 23) = _)
      clear hin
      have hcst : ∀ v, a.eval (.const v) = v := fun _ => rfl
      have hfnc : ∀ f, a.eval (.func f) = .func (.func f) #[] #[] := fun _ => rfl
      refine want_none rfl ?_
      unfold Oper.wp
      generalize a.eval = ρ at *
      go_simp
      try go_bits
      first | exact rel_val (Chg.refl _) | (go_simp; exact rel_val (Chg.refl _))
    case ao6 =>
      rintro a wx hE hin (h5 : a.eval (.tmp 24) = _)
      clear hin
      have hcst : ∀ v, a.eval (.const v) = v := fun _ => rfl
      have hfnc : ∀ f, a.eval (.func f) = .func (.func f) #[] #[] := fun _ => rfl
      refine want_none rfl ?_
      unfold Oper.wp
      generalize a.eval = ρ at *
      go_simp
      refine (pkNumber_calls ((b.drop 1).take 4) (some (A.add 1)) _ wx L4a.out (R4a.out wx (E1.out.trans (hE.undrew.below E1.out.size (fun _ _ => id))))).mono ?_
      rintro e w' ⟨rfl, hb⟩
      exact rel_val (.of_below hb)
    case ao7 =>
      intro a wx hE hin
      have i0 : a.eval (.tmp 0) = .slice (some A) n c := hin 0 rfl
      clear hin
      have hcst : ∀ v, a.eval (.const v) = v := fun _ => rfl
      have hfnc : ∀ f, a.eval (.func f) = .func (.func f) #[] #[] := fun _ => rfl
      refine want_none rfl ?_
      unfold Oper.wp
      generalize a.eval = ρ at *
      go_simp
      try go_bits
      first | exact rel_val (Chg.refl _) | (go_simp; exact rel_val (Chg.refl _))
    case ao8 =>
      rintro a wx hE hin (h7 : a.eval (.tmp 26) = _)
      clear hin
      have hcst : ∀ v, a.eval (.const v) = v := fun _ => rfl
      have hfnc : ∀ f, a.eval (.func f) = .func (.func f) #[] #[] := fun _ => rfl
      refine want_none rfl ?_
      unfold Oper.wp
      generalize a.eval = ρ at *
      go_simp
      try go_bits
      first | exact rel_val (Chg.refl _) | (go_simp; exact rel_val (Chg.refl _))
    case ao9 =>
      rintro a wx hE hin (h8 : a.eval (.tmp 27) = _)
      clear hin
      have hcst : ∀ v, a.eval (.const v) = v := fun _ => rfl
      have hfnc : ∀ f, a.eval (.func f) = .func (.func f) #[] #[] := fun _ => rfl
      refine want_none rfl ?_
      unfold Oper.wp
      generalize a.eval = ρ at *
      go_simp
      refine (pkNumber_calls ((b.drop 5).take 4) (some (A.add 5)) _ wx L4b.out (R4b.out wx (E1.out.trans (hE.undrew.below E1.out.size (fun _ _ => id))))).mono ?_
      rintro e w' ⟨rfl, hb⟩
      exact rel_val (.of_below hb)
    case ao10 =>
      rintro a wx hE hin (h3 : a.eval (.tmp 22) = _) (h6 : a.eval (.tmp 25) = _) (h9 : a.eval (.tmp 28) = _)
      clear hin
      have hcst : ∀ v, a.eval (.const v) = v := fun _ => rfl
      have hfnc : ∀ f, a.eval (.func f) = .func (.func f) #[] #[] := fun _ => rfl
      refine want_none rfl ?_
      exact wp_bld 67 [(0, .tmp 22), (1, .tmp 25), (2, .tmp 28)] rfl zPkD [(0, [.int .i64 K]), (1, [vu32 e]), (2, [vu32 q])] (pktC K e q none 0 0) (by kernel_rfl) (by kernel_rfl) ⟨by rw [h3, HKN.out]; rfl, ⟨1, rfl, by kernel_rfl, by decide⟩, by rw [h6, HE.out]; rfl, ⟨1, rfl, by kernel_rfl, by decide⟩, by rw [h9, HQ.out]; rfl, ⟨1, rfl, by kernel_rfl, by decide⟩, trivial⟩ rfl (rel_val (Chg.refl _))
    case ao11 =>
      intro a wx hE hin
      have i0 : a.eval (.tmp 0) = .slice (some A) n c := hin 0 rfl
      clear hin
      have hcst : ∀ v, a.eval (.const v) = v := fun _ => rfl
      have hfnc : ∀ f, a.eval (.func f) = .func (.func f) #[] #[] := fun _ => rfl
      refine want_none rfl ?_
      unfold Oper.wp
      generalize a.eval = ρ at *
      go_simp
      try go_bits
      first | exact rel_val (Chg.refl _) | (go_simp; exact rel_val (Chg.refl _))
    case ao12 =>
      rintro a wx hE hin (h10 : a.eval (.tmp 29) = _) (h11 : a.eval (.tmp 30) = _)
      clear hin
      have hcst : ∀ v, a.eval (.const v) = v := fun _ => rfl
      have hfnc : ∀ f, a.eval (.func f) = .func (.func f) #[] #[] := fun _ => rfl
      refine want_none rfl ?_
      exact wp_bld 111 [(0, .tmp 29), (1, .tmp 30)] rfl zRead [(0, pktC K e q none 0 0), (4, [.slice (some A) n c])] (readC K e q (.slice none 0 0) (.slice (some A) n c)) (by kernel_rfl) (by kernel_rfl) ⟨by rw [h10]; rfl, ⟨4, rfl, by kernel_rfl, by decide⟩, by rw [h11]; rfl, ⟨1, rfl, by kernel_rfl, by decide⟩, trivial⟩ rfl (rel_val (Chg.refl _))
    case ao13 =>
      intro a wx hE hin
      clear hin
      have hcst : ∀ v, a.eval (.const v) = v := fun _ => rfl
      have hfnc : ∀ f, a.eval (.func f) = .func (.func f) #[] #[] := fun _ => rfl
      refine want_none rfl ?_
      exact wp_al 111 rfl zRead (by kernel_rfl) ⟨_, rfl, ⟨wx.heap.size, rfl, hE.size, id, Bk.new _ _ _⟩, (Chg.refl _).alloc _⟩
  case afin =>
    intro wx hE
    rintro _ rfl _ rfl _ rfl _ rfl _ rfl _ rfl _ rfl _ rfl _ rfl _ rfl _ rfl _ rfl _ rfl _ ⟨gr, rfl, p9, n9, b9⟩
    simp only [FinOk, List.take_succ_cons, List.take_zero, List.take_nil, List.drop_succ_cons, List.drop_zero, List.drop_nil, Act.put, List.setIfInBounds_toArray, List.set_cons_succ, List.set_cons_zero]
    have N8 : Hid (Bk wx gr zRead) := b9
    have HGR : Hid (w1.heap.size ≤ gr) := p9
    have E8 : Hid (Below w.heap.size w wx) := E1.out.trans (hE.undrew.below E1.out.size (fun _ _ => id))
    have K8 : Hid (Bk wx w.heap.size zPkD) := K1.out.drew.chg hE id
    clear hE b9 p9 n9
    go_wp2_with (refine wpList_st rfl 111 (.tmp 4) (.tmp 31) rfl gr 0 5 zRead (readC K e q (.slice none 0 0) (.slice (some A) n c)) rfl rfl N8.out (by kernel_rfl) rfl (by decide) (one_read _ _ _ _ _ rfl rfl) ?_)
    intro w4 hbk hc
    rw [splice_whole zRead (readC K e q (.slice none 0 0) (.slice (some A) n c)) rfl] at hbk
    have N4 := Lib.hid hbk
    have E4 : Hid (Below w.heap.size w w4) := E8.out.trans (hc.below E8.out.size (fun j hj he => by have := HGR.out; have := E1.out.size; omega))
    have K4 : Hid (Bk w4 w.heap.size zPkD) := K8.out.chg hc (fun h => by have := HGR.out; have := K1.out.lt; omega)
    have GR : Hid (w.heap.size < gr) := by have := HGR.out; have := K1.out.lt; show _ < _; omega
    clear hbk hc N8 E8 K8
    go_wp2_with fail
    refine (readPuts_calls w4 gr K e q A N n c b N4.out HN.out HBL.out HNC.out HCM.out HN1.out (fun w' hc => HR.out.below (E4.out.trans (hc.below E4.out.size (fun j hj he => by have := GR.out; omega))))).mono ?_
    rintro en w5 ⟨rfl, v, hg5, ho5, hc5⟩
    obtain ⟨A5, c5, rfl, _, hn5, hm5⟩ := own_rd ho5
    have N5 : Hid (Bk w5 gr (readC K e q (.slice A5 N c5) (.slice (some A) n c))) := hg5
    have E5 : Hid (Below w.heap.size w w5) := E4.out.trans (hc5.below E4.out.size (fun j hj he => by have := GR.out; omega))
    have K5 : Hid (Bk w5 w.heap.size zPkD) := K4.out.chg hc5 (fun h => by have := GR.out; omega)
    have O5 : Hid (w5.ownsRow w1.heap.size 54 33 (.slice A5 N c5) N ((putsN b N).flatMap putC)) := own_lowerQ ho5 (by have := HGR.out; have := N4.out.lt; omega)
    have HN5 := Lib.hid hn5
    have HM5 := Lib.hid hm5
    clear hg5 ho5 hc5 hn5 hm5 N4 E4 K4
    go_wp2_with (refine wpList_ld rfl 67 (.tmp 34) rfl gr 0 4 (readC K e q (.slice A5 N c5) (.slice (some A) n c)) (pktC K e q A5 N c5) rfl N5.out (by kernel_rfl) (by kernel_rfl) (by exact (by decide : 0 + 4 ≤ 5)) rfl ?_)
    have HRP : Hid (Rd w5 A5 ((putsN b N).flatMap putC)) := own_rdQ O5.out
    refine (packEncode_calls K e q (putsN b N) A5 N c5 w5 (putsN_len _ _) (by have := HN1.out; omega) HRP.out (putsN_ok HNL.out)).mono ?_
    intro en w6 hp
    have HDP := Lib.hid hp
    clear hp
    by_cases hgood : goodP K (putsN b N) = true
    case neg =>
      have hp := HDP.out
      unfold EncPost at hp
      rw [if_neg hgood] at hp
      obtain ⟨rfl, hb⟩ := hp
      have E6 : Hid (Below w.heap.size w w6) := E5.out.trans (hb.mono E5.out.size)
      have K6 : Hid (Bk w6 w.heap.size zPkD) := K5.out.below hb
      have HF : Hid (decP b = ((0, 0, 0, []), 11)) := decP_no HLB.out (fun h => hgood (by rw [HNN.out, HKK.out] at h; exact h.1))
      clear hb HDP
      go_wp2_with (first
        | (refine wpList_bld rfl 67 [] rfl zPkD [] zPkD (by kernel_rfl) (by kernel_rfl) trivial rfl ?_)
        | (refine wpList_st rfl 67 (.tmp 2) (.tmp 47) rfl w.heap.size 0 4 zPkD zPkD rfl rfl K6.out (by kernel_rfl) rfl (by decide) (one_pktD _ _ _ _ _ _) ?_))
      intro w9 hbk hc
      rw [splice_whole zPkD zPkD rfl] at hbk
      have K9 := Lib.hid hbk
      have E9 : Hid (Below w.heap.size w w9) := E6.out.trans (hc.below E6.out.size (fun j hj he => by omega))
      clear hbk hc
      go_wp2_with fail
      (try simp only [Exit.inBlock, Exit.then])
      refine bodyPost_ret (res_cell_tmp rfl _ _ w.heap.size 4 _ rfl K9.out (by kernel_rfl) (by kernel_rfl) rfl) rfl ?_
      rw [DecPostN, HF.out]
      exact ⟨none, 0, rfl, Rd.nil _ _, Nat.le_refl _, by decide, (fun p hp => by cases hp), E9.out, fun _ _ _ _ => Rd.nil _ _⟩
    have HGD := Lib.hid hgood
    have hp := HDP.out
    unfold EncPost at hp
    rw [if_pos hgood] at hp
    obtain ⟨A6, c6, rfl, ho6, hb⟩ := hp
    have E6 : Hid (Below w.heap.size w w6) := E5.out.trans (hb.mono E5.out.size)
    have K6 : Hid (Bk w6 w.heap.size zPkD) := K5.out.below hb
    have N6 : Hid (Bk w6 gr (readC K e q (.slice A5 N c5) (.slice (some A) n c))) := N5.out.below hb
    have O6 : Hid (w6.ownsRow w1.heap.size 54 33 (.slice A5 N c5) N ((putsN b N).flatMap putC)) := own_chg O5.out (Chg.of_below (S := NoS) hb) (fun _ _ => id)
    have R6 : Hid (Rd w6 A6 (bts (encP K.toNat e q (putsN b N)))) := own_rdQ ho6
    clear hb ho6 HDP
    obtain ⟨l6, hl6⟩ : ∃ l6, encP K.toNat e q (putsN b N) = l6 := ⟨_, rfl⟩
    have HL6 := Lib.hid hl6
    rw [hl6] at R6 ⊢
    clear hl6 hgood
    go_wp2_with fail
    refine (bytesEq_calls l6 b A6 l6.length c6 (some A) n c w6 rfl HBL.out (by rw [← HL6.out]; exact encP_small _ _ _ _ (goodP_at HGD.out).2.2.1 (putsN_ok HNL.out)) R6.out (HR.out.below E6.out)).mono ?_
    rintro en w7 ⟨rfl, hb⟩
    have E7 : Hid (Below w.heap.size w w7) := E6.out.trans (hb.mono E6.out.size)
    have K7 : Hid (Bk w7 w.heap.size zPkD) := K6.out.below hb
    have N7 : Hid (Bk w7 gr (readC K e q (.slice A5 N c5) (.slice (some A) n c))) := N6.out.below hb
    have O7 : Hid (w7.ownsRow w1.heap.size 54 33 (.slice A5 N c5) N ((putsN b N).flatMap putC)) := own_chg O6.out (Chg.of_below (S := NoS) hb) (fun _ _ => id)
    clear hb E6 K6 N6 O6
    by_cases heq : l6 = b
    case neg =>
      rw [decide_eq_false heq]
      have HF : Hid (decP b = ((0, 0, 0, []), 11)) := decP_no HLB.out (fun h => heq (by rw [HNN.out, HKK.out, HE4.out, HQ4.out] at h; rw [← HL6.out]; exact h.2))
      have E6 := E7
      have K6 := K7
      clear heq
      go_wp2_with (first
        | (refine wpList_bld rfl 67 [] rfl zPkD [] zPkD (by kernel_rfl) (by kernel_rfl) trivial rfl ?_)
        | (refine wpList_st rfl 67 (.tmp 2) (.tmp 47) rfl w.heap.size 0 4 zPkD zPkD rfl rfl K6.out (by kernel_rfl) rfl (by decide) (one_pktD _ _ _ _ _ _) ?_))
      intro w9 hbk hc
      rw [splice_whole zPkD zPkD rfl] at hbk
      have K9 := Lib.hid hbk
      have E9 : Hid (Below w.heap.size w w9) := E6.out.trans (hc.below E6.out.size (fun j hj he => by omega))
      clear hbk hc
      go_wp2_with fail
      (try simp only [Exit.inBlock, Exit.then])
      refine bodyPost_ret (res_cell_tmp rfl _ _ w.heap.size 4 _ rfl K9.out (by kernel_rfl) (by kernel_rfl) rfl) rfl ?_
      rw [DecPostN, HF.out]
      exact ⟨none, 0, rfl, Rd.nil _ _, Nat.le_refl _, by decide, (fun p hp => by cases hp), E9.out, fun _ _ _ _ => Rd.nil _ _⟩
    rw [decide_eq_true heq]
    have HF : Hid (decP b = ((K, e, q, putsN b N), 0)) := by
      have h := decP_yes HLB.out (by rw [HNN.out, HKK.out]; exact HGD.out) (by rw [HNN.out, HKK.out, HE4.out, HQ4.out, HL6.out]; exact heq)
      rw [HNN.out, HKK.out, HE4.out, HQ4.out] at h
      exact h
    clear heq
    go_wp2_with (first
      | (refine wpList_ld rfl 67 (.tmp 48) rfl gr 0 4 (readC K e q (.slice A5 N c5) (.slice (some A) n c)) (pktC K e q A5 N c5) rfl N7.out (by kernel_rfl) (by kernel_rfl) (by exact (by decide : 0 + 4 ≤ 5)) rfl ?_)
      | (refine wpList_st rfl 67 (.tmp 2) (.tmp 49) rfl w.heap.size 0 4 zPkD (pktC K e q A5 N c5) rfl rfl K7.out (by kernel_rfl) rfl (by decide) (one_pktD _ _ _ _ _ _) ?_))
    intro w8 hbk hc
    rw [splice_whole zPkD (pktC K e q A5 N c5) rfl] at hbk
    have K8 := Lib.hid hbk
    have E8 : Hid (Below w.heap.size w w8) := E7.out.trans (hc.below E7.out.size (fun j hj he => by omega))
    have O8 : Hid (w8.ownsRow w1.heap.size 54 33 (.slice A5 N c5) N ((putsN b N).flatMap putC)) := own_chg O7.out hc (fun j hj he => by have := (O7.out.lt j hj).1; have := K1.out.lt; omega)
    clear hbk hc
    go_wp2_with fail
    (try simp only [Exit.inBlock, Exit.then])
    refine bodyPost_ret (res_cell_tmp rfl _ _ w.heap.size 4 _ rfl K8.out (by kernel_rfl) (by kernel_rfl) rfl) rfl ?_
    rw [DecPostN, HF.out]
    refine ⟨A5, c5, ?_, own_rdQ O8.out, ?_, HM5.out, putsN_ok HNL.out, E8.out, fun T w' hc hT => own_rdQ (own_chg O8.out hc (fun j hj he => by have := (O8.out.lt j hj).1; have := hT j he; have := K1.out.lt; omega))⟩
    · show _ = Ending.returned (.tuple #[.agg (pktC K e q A5 (putsN b N).length c5).toArray, .int .i64 0])
      rw [putsN_len]
      rfl
    · show (putsN b N).length ≤ c5
      rw [putsN_len]
      exact HN5.out

theorem packDecode_calls (b : List UInt8) (A0 : Option Addr) (n c : Nat) (w : World) (hl : b.length = n) (hnc : n ≤ c) (hcm : c ≤ 9223372036854775807) (hm : n ≤ 33000) (hr : Rd w A0 (bts b)) :
    Calls Try.prog 40 #[.slice A0 n c] w (DecPost w (decP b)) :=
  (packDecode_callsN b A0 n c w hl hnc hcm hm hr).mono fun _ _ ⟨A, cc, h1, h2, h3, h4, h5, h6, _⟩ => ⟨A, cc, h1, h2, h3, h4, h5, h6⟩
end Go.Proofs.Ytcmfkdfegfablaa
