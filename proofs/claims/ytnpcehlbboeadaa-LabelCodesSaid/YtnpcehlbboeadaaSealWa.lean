/- The walks of a sector with a check: what the program's functions compute. -/
import Derived.Test.YtnpcehlbboeadaaCheck
import Derived.Test.YtnpcehlbboeadaaBlk
import Derived.Test.YtnpcehlbboeadaaArr
namespace Go.Proofs.Ytnpcehlbboeadaa
open Go.RowKit
set_option linter.unusedVariables false
set_option linter.unusedSimpArgs false

def zb (n : Nat) : List Value := List.replicate n (vu8 0)
theorem bts_cons (m : UInt8) (b : List UInt8) : bts (m :: b) = vu8 m :: bts b := rfl
/-- A sector of a mark and a body of 29 bytes; a body filled up. -/
def secOf (m : UInt8) (b : List UInt8) : List UInt8 := m :: b ++ [(crcCheck (m :: b)).toUInt8, (crcCheck (m :: b) >>> 8).toUInt8]
def padB (l : List UInt8) : List UInt8 := l ++ List.replicate (29 - l.length) 0
theorem padB_length {l : List UInt8} (h : l.length ≤ 29) : (padB l).length = 29 := by simp [padB]; omega
theorem secOf_length {m : UInt8} {b : List UInt8} (h : b.length = 29) : (secOf m b).length = 32 := by simp [secOf, h]
theorem one_w (vs : List Value) (c : UInt16) (h : ∀ u ∈ vs, u.oneCell' = true) : ∀ u ∈ vs ++ [vu16 c], u.oneCell' = true := by
  intro u hu
  rcases List.mem_append.1 hu with hu | hu
  · exact h u hu
  · obtain rfl : u = vu16 c := by simpa using hu
    rfl

set_option maxRecDepth 100000 in
set_option maxHeartbeats 1000000 in
theorem checkedOf_calls (m : UInt8) (b : List UInt8) (w : World) (hb : b.length = 29) :
    Calls Try.prog 53 #[.agg (bts (m :: b)).toArray] w fun e w' => e = .returned (.agg (bts (m :: b) ++ [vu16 (crcCheck (m :: b))]).toArray) ∧ Below w.heap.size w w' := by
  have h1 : ∀ u ∈ bts (m :: b), u.oneCell' = true := one_bts _
  have h2 : ((bts (m :: b)).drop 1).take 29 = bts b := by rw [bts_cons, List.drop_succ_cons, List.drop_zero, ← hb, ← bts_length, List.take_length]
  have h0 : (bts (m :: b))[0]? = some (vu8 m) := rfl
  generalize hvs : bts (m :: b) = vs at h1 h2 h0
  have hl : vs.length = 30 := by rw [← hvs]; simp [hb]
  have HV := Lib.hid hvs
  have HL := Lib.hid hl
  have HB1 := Lib.hid hb
  have H1 := Lib.hid h1
  have H2 := Lib.hid h2
  clear hvs hl hb h1 h2
  go_enter Try.func53, Try.ntmps53
  go_wp2_with fail
  refine code_at fun w0 hw0 => ?_
  have HB : Hid (Bk w0 w.heap.size vs) := by subst hw0; exact (Bk.new w vs _).alloc _
  have HZ : Hid (Bk w0 (w.heap.size + 1) (zb 30 ++ [vu16 0])) := by subst hw0; exact ⟨_, hal_new (by simp)⟩
  have HBel : Hid (Below w.heap.size w w0) := by subst hw0; exact ((Below.refl _ _).alloc (Nat.le_refl _) _).alloc (by simp) _
  have HC : Hid (w0.cell? ⟨w.heap.size, 0, none⟩ = some (vu8 m)) := HB.out.cell h0
  clear hw0 h0
  apply wp_region_rel 9 (Chg NoS) [(Veq _), (Veq _), (Veq _), (RowAt NoS 1 _), (Veq _), (Veq _), (RowsAt (.slice (some ⟨w.heap.size, 1, none⟩) 29 29) [vu8 m]), (Veq _), (Veq _)] [[], [], [1], [2], [], [4], [3, 5], [6], [0, 7]] [3, 4, 5, 6, 7, 8, 9, 10, 11] (by kernel_rfl) (by kernel_rfl) rfl rfl rfl Chg.refl (fun _ _ _ => Chg.trans) ⟨Veq.lasts, Veq.lasts, Veq.lasts, RowAt.lasts, Veq.lasts, Veq.lasts, RowsAt.lasts, Veq.lasts, Veq.lasts, trivial⟩ ?aops ?afin
  case aops =>
    refine ⟨?ao0, ?ao1, ?ao2, ?ao3, ?ao4, ?ao5, ?ao6, ?ao7, ?ao8, trivial⟩
    case ao0 =>
      intro a wx hE hin
      have i1 : a.eval (.tmp 1) = .pointer (some ⟨w.heap.size, 0, none⟩) := hin 1 rfl
      clear hin
      have hcst : ∀ v, a.eval (.const v) = v := fun _ => rfl
      have hfnc : ∀ f, a.eval (.func f) = .func (.func f) #[] #[] := fun _ => rfl
      refine want_none rfl ?_
      exact wp_ld 97 _ rfl w.heap.size 0 30 vs vs i1 ((HB.out.drew).chg hE id) (by kernel_rfl) (by kernel_rfl) (by rw [HL.out]; decide) (by rw [List.drop_zero, ← HL.out, List.take_length]) (rel_val (Chg.refl _))
    case ao1 =>
      intro a wx hE hin
      have i1 : a.eval (.tmp 1) = .pointer (some ⟨w.heap.size, 0, none⟩) := hin 1 rfl
      clear hin
      have hcst : ∀ v, a.eval (.const v) = v := fun _ => rfl
      have hfnc : ∀ f, a.eval (.func f) = .func (.func f) #[] #[] := fun _ => rfl
      refine want_none rfl ?_
      unfold Oper.wp
      generalize a.eval = ρ at *
      go_simp
      try go_bits
      first | exact rel_val (Chg.refl _) | (go_simp; exact rel_val (Chg.refl _))
    case ao2 =>
      rintro a wx hE hin (h1 : a.eval (.tmp 4) = _)
      clear hin
      have hcst : ∀ v, a.eval (.const v) = v := fun _ => rfl
      have hfnc : ∀ f, a.eval (.func f) = .func (.func f) #[] #[] := fun _ => rfl
      refine want_none rfl ?_
      unfold Oper.wp
      generalize a.eval = ρ at *
      have c := hE.cell (w := w0.drew) HC.out id
      go_simp
      try go_bits
      first | exact rel_val (Chg.refl _) | (go_simp; exact rel_val (Chg.refl _))
    case ao3 =>
      rintro a wx hE hin (h2 : a.eval (.tmp 5) = _)
      clear hin
      have hcst : ∀ v, a.eval (.const v) = v := fun _ => rfl
      have hfnc : ∀ f, a.eval (.func f) = .func (.func f) #[] #[] := fun _ => rfl
      refine want_none rfl ?_
      unfold Oper.wp
      generalize a.eval = ρ at *
      go_simp
      try go_bits
      exact rel_row (id)
    case ao4 =>
      intro a wx hE hin
      have i1 : a.eval (.tmp 1) = .pointer (some ⟨w.heap.size, 0, none⟩) := hin 1 rfl
      clear hin
      have hcst : ∀ v, a.eval (.const v) = v := fun _ => rfl
      have hfnc : ∀ f, a.eval (.func f) = .func (.func f) #[] #[] := fun _ => rfl
      refine want_none rfl ?_
      unfold Oper.wp
      generalize a.eval = ρ at *
      go_simp
      try go_bits
      first | exact rel_val (Chg.refl _) | (go_simp; exact rel_val (Chg.refl _))
    case ao5 =>
      rintro a wx hE hin (h4 : a.eval (.tmp 7) = _)
      clear hin
      have hcst : ∀ v, a.eval (.const v) = v := fun _ => rfl
      have hfnc : ∀ f, a.eval (.func f) = .func (.func f) #[] #[] := fun _ => rfl
      refine want_none rfl ?_
      unfold Oper.wp
      generalize a.eval = ρ at *
      go_simp
      try go_bits
      first | exact rel_val (Chg.refl _) | (go_simp; exact rel_val (Chg.refl _))
    case ao6 =>
      rintro a wx hE hin ⟨g3, h3, s3, t3, f3, c3⟩ (h5 : a.eval (.tmp 8) = _)
      clear hin
      have hcst : ∀ v, a.eval (.const v) = v := fun _ => rfl
      have hfnc : ∀ f, a.eval (.func f) = .func (.func f) #[] #[] := fun _ => rfl
      refine want_none rfl ?_
      unfold Oper.wp
      generalize a.eval = ρ at *
      go_simp
      exact ⟨_, rfl, ⟨wx.heap.size, g3, rfl, Rd.new _ _ _, (Rd.row (S := NoS) c3).alloc _⟩, (Chg.refl _).alloc _⟩
    case ao7 =>
      rintro a wx hE hin ⟨gg, gk, h6, b6, b6k⟩
      clear hin
      have hcst : ∀ v, a.eval (.const v) = v := fun _ => rfl
      have hfnc : ∀ f, a.eval (.func f) = .func (.func f) #[] #[] := fun _ => rfl
      refine want_none rfl ?_
      unfold Oper.wp
      generalize a.eval = ρ at *
      go_simp
      refine (check_two (A := some ⟨gk, 0, none⟩) (n := 1) (c := 1) (B := some ⟨w.heap.size, 1, none⟩) (m := 29) (d := 29) (l := [m]) (k := b) b6 rfl (by decide) (by decide) b6k HB1.out (by decide) (by decide) ?_).mono ?_
      · have := (HB.out.drew.chg hE id).rd_at 1 29
        rwa [H2.out] at this
      rintro e w' ⟨rfl, rfl⟩
      exact rel_val (Chg.refl _)
    case ao8 =>
      rintro a wx hE hin (h0 : a.eval (.tmp 3) = _) (h7 : a.eval (.tmp 10) = _)
      clear hin
      have hcst : ∀ v, a.eval (.const v) = v := fun _ => rfl
      have hfnc : ∀ f, a.eval (.func f) = .func (.func f) #[] #[] := fun _ => rfl
      refine want_none rfl ?_
      exact wp_bld2 109 0 1 _ _ rfl 31 (zb 30 ++ [vu16 0]) [(0, 30), (30, 1)] (by kernel_rfl) (by kernel_rfl) vs [vu16 (crcCheck (m :: b))] (by rw [h0]; rfl) (by rw [h7]; rfl) (by rw [HL.out]; rfl) (by rw [HL.out]; rfl) (by rw [HL.out]; rfl) (rel_val (Chg.refl _))
  case afin =>
    intro wx hE
    rintro _ rfl _ rfl _ rfl _ ⟨g3, rfl, s3, t3, f3, c3⟩ _ rfl _ rfl _ ⟨gg, gk, rfl, b6, b6k⟩ _ rfl _ rfl
    simp only [FinOk, List.take_succ_cons, List.take_zero, List.take_nil, List.drop_succ_cons, List.drop_zero, List.drop_nil, Act.put, List.setIfInBounds_toArray, List.set_cons_succ, List.set_cons_zero]
    refine wpList_st rfl 109 _ _ rfl (w.heap.size + 1) 0 31 (zb 30 ++ [vu16 0]) (vs ++ [vu16 (crcCheck (m :: b))]) rfl rfl (HZ.out.drew.chg hE id) (by kernel_rfl) (by rw [List.length_append, HL.out]; rfl) (by decide) (one_w _ _ H1.out) ?_
    intro w2 hb2 hc2
    rw [splice_whole _ _ (by rw [List.length_append, HL.out]; rfl)] at hb2
    have hbel : Below w.heap.size w w2 := HBel.out.trans ((hE.undrew.below (B := w.heap.size) HBel.out.size (fun _ _ => id)).trans (hc2.below (Nat.le_trans HBel.out.size hE.size) (fun k hk he => by omega)))
    have HK := Lib.hid hb2
    have HF := Lib.hid hbel
    clear hb2 hbel hc2 hE
    go_wp2_with fail
    try simp only [Exit.inBlock, Exit.then]
    refine bodyPost_ret (res_cell rfl _ _ (w.heap.size + 1) 31 (vs ++ [vu16 (crcCheck (m :: b))]) rfl HK.out (by kernel_rfl) (by kernel_rfl) (by rw [List.length_append, HL.out]; rfl)) rfl ?_
    exact ⟨rfl, HF.out⟩

end Go.Proofs.Ytnpcehlbboeadaa
