/- The walk of CrcTurns. -/
import Derived.Test.YtnjaldafejbdgaaWakes4
import Derived.Test.YtnjaldafejbdgaaMod
import Derived.Test.YtnjaldafejbdgaaArr
namespace Go.Proofs.Ytnjaldafejbdgaa
open Go.RowKit
set_option linter.unusedVariables false
set_option linter.unusedSimpArgs false

theorem info_u8 : (Try.prog.info? 5).map (fun i => (i.zero, i.size, i.bytes)) = some (some (.int .u8 0), 1, 1) := by kernel_rfl
set_option maxHeartbeats 1000000 in
theorem CrcTurns_walk (A : Option Addr) (n cap : Nat) (l : List UInt8) (at_ : Int) (x y : UInt8) (w : World) (hl : l.length = n) (hc : n ≤ cap) (hm : cap ≤ 9223372036854775807) (hr : Rd w A (bts l)) (h1 : -9223372036854775808 ≤ at_) (h2 : at_ ≤ 9223372036854775807) :
    Calls Try.prog 4 #[.slice A n cap, .int .i64 at_, .agg #[vu8 x, vu8 y]] w fun e w' => e = .returned (.bool true) ∧ Below w.heap.size w w' := by
  have HR := Lib.hid hr
  have HL := Lib.hid hl
  clear hr hl
  by_cases hs : n < 2 ∨ 3000 < n
  · by_cases h2 : n < 2
    · go_enter Try.func4, Try.ntmps4
      go_wp2_with (go_at_call 12; refine (wakes4_calls _).mono ?_; rintro e w' ⟨rfl, hb⟩)
      go_ret
      exact ⟨rfl, ((Below.refl _ _).alloc (Nat.le_refl _) _).trans (hb.mono (by simp))⟩
    · have h3 : 3000 < n := by omega
      clear hs
      go_enter Try.func4, Try.ntmps4
      go_wp2_with (go_at_call 12; refine (wakes4_calls _).mono ?_; rintro e w' ⟨rfl, hb⟩)
      go_ret
      exact ⟨rfl, ((Below.refl _ _).alloc (Nat.le_refl _) _).trans (hb.mono (by simp))⟩
  · have hn2 : ¬ n < 2 := fun h => hs (.inl h)
    have hn3 : ¬ 3000 < n := fun h => hs (.inr h)
    clear hs
    obtain ⟨k, hk⟩ := Int.eq_ofNat_of_zero_le (Int.emod_nonneg at_ (show ((n : Int) - 1) ≠ 0 by omega))
    have hk1 : (k : Int) < (n : Int) - 1 := by rw [← hk]; exact Int.emod_lt_of_pos _ (by omega)
    have hkn : k < n := by omega
    have hkn1 : k + 1 < n := by omega
    have hkn2 : (k : Int) + 1 < n := by omega
    have hkn3 : (0 : Int) ≤ (k : Int) + 1 := by omega
    have HK := Lib.hid hk
    clear hk
    go_enter Try.func4, Try.ntmps4
    go_wp2_with fail
    refine (mod_calls _ _ _ (by omega) (by omega) h1 h2).mono ?_
    rintro e w' ⟨rfl, rfl⟩
    rw [HK.out]
    go_wp2_with (at_builtin; refine wpList_append_rd rfl _ _ 26 rfl (w.heap.size + 1) 5 (.int .u8 0) 1 1 Try.underlying26 info_u8 rfl (by decide) (by decide) (.slice (some ⟨w.heap.size + 1, 0, none⟩) 0 0) 0 [] rfl ?own A n cap (bts l) rfl ?len ?rd (one_bts _) ?bytes ?base ?_)
    case own => exact empty_own' _ _ (by simp)
    case len => simp [HL.out]
    case rd => exact (HR.out.alloc _).alloc _
    case bytes => omega
    case base => simp
    intro v1 w1 hown hg hat
    have hbl : Below (w.heap.size + 1) ((w.alloc (.cells #[vu8 x, vu8 y] 32)).alloc (.cells #[] 5)) w1 := below_grown hg (by simp) (by intro k hk; simp [Value.ownBlock] at hk; omega)
    have hbx : w1.heap[w.heap.size]? = some (.cells #[vu8 x, vu8 y] 32) := (hbl.block _ (by omega)).trans (hal_old (hal_new rfl))
    have hbw : Below w.heap.size w w1 := (((Below.refl _ _).alloc (Nat.le_refl _) _).alloc (by simp) _).trans (hbl.mono (by omega))
    clear hg hat
    obtain ⟨g, cap', rfl, hgb, hgl⟩ := World.ownsRow.form hown (by omega)
    have hlk : (bts l)[k]? = some (vu8 (l.getD k 0)) := bts_get (by rw [HL.out]; omega)
    have hlk' : (bts l)[k+1]? = some (vu8 (l.getD (k+1) 0)) := bts_get (by rw [HL.out]; omega)
    have hck := World.ownsRow.cells hown (g := g) rfl k _ hlk
    have hck' := World.ownsRow.cells hown (g := g) rfl (k+1) _ hlk'
    rw [add_plain, Nat.zero_add] at hck hck'
    generalize hu : l.getD k 0 = u at hck hlk
    generalize hu' : l.getD (k+1) 0 = u' at hck' hlk'
    have HU := Lib.hid hu
    have HU' := Lib.hid hu'
    clear hu hu'
    have hcx : w1.cell? ⟨w.heap.size, 0, none⟩ = some (vu8 x) := by simp [World.cell?, hbx]
    have hcy : w1.cell? ⟨w.heap.size, 1, none⟩ = some (vu8 y) := by simp [World.cell?, hbx]
    have HO := Lib.hid hown
    have HX := Lib.hid hcx
    have HY := Lib.hid hcy
    have HC := Lib.hid hck
    have HC' := Lib.hid hck'
    have HW := Lib.hid hbw
    have HBX := Lib.hid hbx
    clear hown hcx hcy hck hck' hbw hbx hbl hlk hlk'
    go_wp2_with fail
    apply wp_region_rel 8 (Chg NoS) [(Veq _), (Veq _), (Veq _), (Veq _), (Veq _), (Veq _), (Veq _), (Veq _)] [[], [], [0, 1], [2], [], [4], [3, 5], [0, 1]] [26, 27, 28, 29, 30, 31, 32, 33] (by kernel_rfl) (by kernel_rfl) rfl rfl rfl Chg.refl (fun _ _ _ => Chg.trans) ⟨Veq.lasts, Veq.lasts, Veq.lasts, Veq.lasts, Veq.lasts, Veq.lasts, Veq.lasts, Veq.lasts, trivial⟩ ?aops ?afin
    case aops =>
      refine ⟨?ao0, ?ao1, ?ao2, ?ao3, ?ao4, ?ao5, ?ao6, ?ao7, trivial⟩
      case ao0 =>
        intro a wx hE hin
        have i8 : a.eval (.tmp 8) = .slice (some ⟨g, 0, none⟩) n cap' := hin 8 rfl
        clear hin
        have hcst : ∀ v, a.eval (.const v) = v := fun _ => rfl
        have hfnc : ∀ f, a.eval (.func f) = .func (.func f) #[] #[] := fun _ => rfl
        refine want_none rfl ?_
        unfold Oper.wp
        generalize a.eval = ρ at *
        go_simp
        try go_bits
        first | exact rel_val (Chg.refl _) | (go_simp; exact rel_val (Chg.refl _))
      case ao1 =>
        intro a wx hE hin
        have i7 : a.eval (.tmp 7) = .int .i64 ↑k := hin 7 rfl
        clear hin
        have hcst : ∀ v, a.eval (.const v) = v := fun _ => rfl
        have hfnc : ∀ f, a.eval (.func f) = .func (.func f) #[] #[] := fun _ => rfl
        refine want_none rfl ?_
        unfold Oper.wp
        generalize a.eval = ρ at *
        go_simp
        try go_bits
        first | exact rel_val (Chg.refl _) | (go_simp; exact rel_val (Chg.refl _))
      case ao2 =>
        rintro a wx hE hin (h0 : a.eval (.tmp 26) = _) (h1 : a.eval (.tmp 27) = _)
        clear hin
        have hcst : ∀ v, a.eval (.const v) = v := fun _ => rfl
        have hfnc : ∀ f, a.eval (.func f) = .func (.func f) #[] #[] := fun _ => rfl
        refine want_none rfl ?_
        unfold Oper.wp
        generalize a.eval = ρ at *
        go_simp
        try go_bits
        first | exact rel_val (Chg.refl _) | (go_simp; exact rel_val (Chg.refl _))
      case ao3 =>
        rintro a wx hE hin (h2 : a.eval (.tmp 28) = _)
        clear hin
        have hcst : ∀ v, a.eval (.const v) = v := fun _ => rfl
        have hfnc : ∀ f, a.eval (.func f) = .func (.func f) #[] #[] := fun _ => rfl
        refine want_none rfl ?_
        unfold Oper.wp
        generalize a.eval = ρ at *
        have c := hE.cell (w := w1.drew) HC.out id
        go_simp
        try go_bits
        first | exact rel_val (Chg.refl _) | (go_simp; exact rel_val (Chg.refl _))
      case ao4 =>
        intro a wx hE hin
        have i5 : a.eval (.tmp 5) = .pointer (some ⟨w.heap.size, 0, none⟩) := hin 5 rfl
        clear hin
        have hcst : ∀ v, a.eval (.const v) = v := fun _ => rfl
        have hfnc : ∀ f, a.eval (.func f) = .func (.func f) #[] #[] := fun _ => rfl
        refine want_none rfl ?_
        unfold Oper.wp
        generalize a.eval = ρ at *
        go_simp
        try go_bits
        first | exact rel_val (Chg.refl _) | (go_simp; exact rel_val (Chg.refl _))
      case ao5 =>
        rintro a wx hE hin (h4 : a.eval (.tmp 30) = _)
        clear hin
        have hcst : ∀ v, a.eval (.const v) = v := fun _ => rfl
        have hfnc : ∀ f, a.eval (.func f) = .func (.func f) #[] #[] := fun _ => rfl
        refine want_none rfl ?_
        unfold Oper.wp
        generalize a.eval = ρ at *
        have c := hE.cell (w := w1.drew) HX.out id
        go_simp
        try go_bits
        first | exact rel_val (Chg.refl _) | (go_simp; exact rel_val (Chg.refl _))
      case ao6 =>
        rintro a wx hE hin (h3 : a.eval (.tmp 29) = _) (h5 : a.eval (.tmp 31) = _)
        clear hin
        have hcst : ∀ v, a.eval (.const v) = v := fun _ => rfl
        have hfnc : ∀ f, a.eval (.func f) = .func (.func f) #[] #[] := fun _ => rfl
        refine want_none rfl ?_
        unfold Oper.wp
        generalize a.eval = ρ at *
        go_simp
        try go_bits
        first | exact rel_val (Chg.refl _) | (go_simp; exact rel_val (Chg.refl _))
      case ao7 =>
        rintro a wx hE hin (h0 : a.eval (.tmp 26) = _) (h1 : a.eval (.tmp 27) = _)
        clear hin
        have hcst : ∀ v, a.eval (.const v) = v := fun _ => rfl
        have hfnc : ∀ f, a.eval (.func f) = .func (.func f) #[] #[] := fun _ => rfl
        refine want_none rfl ?_
        unfold Oper.wp
        generalize a.eval = ρ at *
        go_simp
        try go_bits
        first | exact rel_val (Chg.refl _) | (go_simp; exact rel_val (Chg.refl _))
    case afin =>
      intro wx hE
      rintro _ rfl _ rfl _ rfl _ rfl _ rfl _ rfl _ rfl _ rfl
      simp only [FinOk, List.take_succ_cons, List.take_zero, List.take_nil, List.drop_succ_cons, List.drop_zero, List.drop_nil, Act.put, List.setIfInBounds_toArray, List.set_cons_succ, List.set_cons_zero]
      have HO1 := Lib.hid (own_chg (own_drew HO.out) hE (fun _ _ => id))
      have hfr := own_frozen HO1.out k
      have hcell := hE.cell (w := w1.drew) HC.out id
      rw [bits_xor8]
      generalize hz : u ^^^ x = z
      have HZ := Lib.hid hz
      clear hz
      go_wp2_with fail
      have hst := (World.ownsRow.stored HO1.out k (vu8 z)).1
      rw [bts_set] at hst
      have hch := (hE.mono (S' := (· = g)) (fun _ h => h.elim)).trans (chg_setCell wx g k (vu8 z))
      have hch2 := Chg.trans ((Chg.refl (S := (· = g)) w1).drew) hch
      have hw2 : Below w.heap.size w (wx.setCell ⟨g, k, none⟩ (vu8 z)) := HW.out.trans (hch2.below HW.out.size (fun b hb => by omega))
      have hbx2 := hch2.get HBX.out (by omega)
      generalize hl1 : l.set k z = l1 at *
      generalize wx.setCell ⟨g, k, none⟩ (vu8 z) = w2 at *
      clear hE HO1 hch hch2 hcell hfr
      have hlk2 : (bts l1)[k+1]? = some (vu8 (l1.getD (k+1) 0)) := bts_get (by rw [← hl1, List.length_set, HL.out]; omega)
      rw [show l1.getD (k+1) 0 = u' by rw [← hl1, ← HU'.out]; simp [List.getD_eq_getElem?_getD]] at hlk2
      have hck2 := World.ownsRow.cells hst (g := g) rfl (k+1) _ hlk2
      rw [add_plain, Nat.zero_add] at hck2
      have HO2 := Lib.hid hst
      have HC2 := Lib.hid hck2
      have HY2 : Hid (w2.cell? ⟨w.heap.size, 1, none⟩ = some (vu8 y)) := by simp [Hid, World.cell?, hbx2]
      have HW2 := Lib.hid hw2
      have HBX2 := Lib.hid hbx2
      have HL1 := Lib.hid hl1
      clear hst hck2 hlk2 hw2 hbx2 hl1 HO HC HC' HX HY HBX HW
      apply wp_region_rel 9 (Chg NoS) [(Veq _), (Veq _), (Veq _), (Veq _), (Veq _), (Veq _), (Veq _), (Veq _), (Veq _)] [[], [], [1], [0, 2], [3], [], [5], [4, 6], [0, 2]] [34, 35, 36, 37, 38, 39, 40, 41, 42] (by kernel_rfl) (by kernel_rfl) rfl rfl rfl Chg.refl (fun _ _ _ => Chg.trans) ⟨Veq.lasts, Veq.lasts, Veq.lasts, Veq.lasts, Veq.lasts, Veq.lasts, Veq.lasts, Veq.lasts, Veq.lasts, trivial⟩ ?bops ?bfin
      case bops =>
        refine ⟨?bo0, ?bo1, ?bo2, ?bo3, ?bo4, ?bo5, ?bo6, ?bo7, ?bo8, trivial⟩
        case bo0 =>
          intro a wx hE hin
          have i8 : a.eval (.tmp 8) = .slice (some ⟨g, 0, none⟩) n cap' := hin 8 rfl
          clear hin
          have hcst : ∀ v, a.eval (.const v) = v := fun _ => rfl
          have hfnc : ∀ f, a.eval (.func f) = .func (.func f) #[] #[] := fun _ => rfl
          refine want_none rfl ?_
          unfold Oper.wp
          generalize a.eval = ρ at *
          go_simp
          try go_bits
          first | exact rel_val (Chg.refl _) | (go_simp; exact rel_val (Chg.refl _))
        case bo1 =>
          intro a wx hE hin
          have i7 : a.eval (.tmp 7) = .int .i64 ↑k := hin 7 rfl
          clear hin
          have hcst : ∀ v, a.eval (.const v) = v := fun _ => rfl
          have hfnc : ∀ f, a.eval (.func f) = .func (.func f) #[] #[] := fun _ => rfl
          refine want_none rfl ?_
          unfold Oper.wp
          generalize a.eval = ρ at *
          go_simp
          try go_bits
          first | exact rel_val (Chg.refl _) | (go_simp; exact rel_val (Chg.refl _))
        case bo2 =>
          rintro a wx hE hin (h1 : a.eval (.tmp 35) = _)
          clear hin
          have hcst : ∀ v, a.eval (.const v) = v := fun _ => rfl
          have hfnc : ∀ f, a.eval (.func f) = .func (.func f) #[] #[] := fun _ => rfl
          refine want_none rfl ?_
          unfold Oper.wp
          generalize a.eval = ρ at *
          go_simp
          try go_bits
          first | exact rel_val (Chg.refl _) | (go_simp; exact rel_val (Chg.refl _))
        case bo3 =>
          rintro a wx hE hin (h0 : a.eval (.tmp 34) = _) (h2 : a.eval (.tmp 36) = _)
          clear hin
          have hcst : ∀ v, a.eval (.const v) = v := fun _ => rfl
          have hfnc : ∀ f, a.eval (.func f) = .func (.func f) #[] #[] := fun _ => rfl
          refine want_none rfl ?_
          unfold Oper.wp
          generalize a.eval = ρ at *
          go_simp
          try go_bits
          first | exact rel_val (Chg.refl _) | (go_simp; exact rel_val (Chg.refl _))
        case bo4 =>
          rintro a wx hE hin (h3 : a.eval (.tmp 37) = _)
          clear hin
          have hcst : ∀ v, a.eval (.const v) = v := fun _ => rfl
          have hfnc : ∀ f, a.eval (.func f) = .func (.func f) #[] #[] := fun _ => rfl
          refine want_none rfl ?_
          unfold Oper.wp
          generalize a.eval = ρ at *
          have c := hE.cell (w := w2.drew) HC2.out id
          go_simp
          try go_bits
          first | exact rel_val (Chg.refl _) | (go_simp; exact rel_val (Chg.refl _))
        case bo5 =>
          intro a wx hE hin
          have i5 : a.eval (.tmp 5) = .pointer (some ⟨w.heap.size, 0, none⟩) := hin 5 rfl
          clear hin
          have hcst : ∀ v, a.eval (.const v) = v := fun _ => rfl
          have hfnc : ∀ f, a.eval (.func f) = .func (.func f) #[] #[] := fun _ => rfl
          refine want_none rfl ?_
          unfold Oper.wp
          generalize a.eval = ρ at *
          go_simp
          try go_bits
          first | exact rel_val (Chg.refl _) | (go_simp; exact rel_val (Chg.refl _))
        case bo6 =>
          rintro a wx hE hin (h5 : a.eval (.tmp 39) = _)
          clear hin
          have hcst : ∀ v, a.eval (.const v) = v := fun _ => rfl
          have hfnc : ∀ f, a.eval (.func f) = .func (.func f) #[] #[] := fun _ => rfl
          refine want_none rfl ?_
          unfold Oper.wp
          generalize a.eval = ρ at *
          have c := hE.cell (w := w2.drew) HY2.out id
          go_simp
          try go_bits
          first | exact rel_val (Chg.refl _) | (go_simp; exact rel_val (Chg.refl _))
        case bo7 =>
          rintro a wx hE hin (h4 : a.eval (.tmp 38) = _) (h6 : a.eval (.tmp 40) = _)
          clear hin
          have hcst : ∀ v, a.eval (.const v) = v := fun _ => rfl
          have hfnc : ∀ f, a.eval (.func f) = .func (.func f) #[] #[] := fun _ => rfl
          refine want_none rfl ?_
          unfold Oper.wp
          generalize a.eval = ρ at *
          go_simp
          try go_bits
          first | exact rel_val (Chg.refl _) | (go_simp; exact rel_val (Chg.refl _))
        case bo8 =>
          rintro a wx hE hin (h0 : a.eval (.tmp 34) = _) (h2 : a.eval (.tmp 36) = _)
          clear hin
          have hcst : ∀ v, a.eval (.const v) = v := fun _ => rfl
          have hfnc : ∀ f, a.eval (.func f) = .func (.func f) #[] #[] := fun _ => rfl
          refine want_none rfl ?_
          unfold Oper.wp
          generalize a.eval = ρ at *
          go_simp
          try go_bits
          first | exact rel_val (Chg.refl _) | (go_simp; exact rel_val (Chg.refl _))
      case bfin =>
        intro wx hE
        rintro _ rfl _ rfl _ rfl _ rfl _ rfl _ rfl _ rfl _ rfl _ rfl
        simp only [FinOk, List.take_succ_cons, List.take_zero, List.take_nil, List.drop_succ_cons, List.drop_zero, List.drop_nil, Act.put, List.setIfInBounds_toArray, List.set_cons_succ, List.set_cons_zero]
        have HO3 := Lib.hid (own_chg (own_drew HO2.out) hE (fun _ _ => id))
        have hfr := own_frozen HO3.out (k + 1)
        have hcell := hE.cell (w := w2.drew) HC2.out id
        rw [bits_xor8]
        generalize hz' : u' ^^^ y = z'
        have HZ' := Lib.hid hz'
        clear hz'
        go_wp2_with fail
        have hst := (World.ownsRow.stored HO3.out (k + 1) (vu8 z')).1
        rw [bts_set] at hst
        have hch := (hE.mono (S' := (· = g)) (fun _ h => h.elim)).trans (chg_setCell wx g (k + 1) (vu8 z'))
        have hch2 := Chg.trans ((Chg.refl (S := (· = g)) w2).drew) hch
        have hw3 : Below w.heap.size w (wx.setCell ⟨g, k + 1, none⟩ (vu8 z')) := HW2.out.trans (hch2.below HW2.out.size (fun b hb => by omega))
        have hbx3 := hch2.get HBX2.out (by omega)
        generalize hl2 : l1.set (k + 1) z' = l2 at *
        generalize wx.setCell ⟨g, k + 1, none⟩ (vu8 z') = w3 at *
        clear hE HO3 hch hch2 hcell hfr
        have HO4 := Lib.hid hst
        obtain ⟨A4, c4, hA4, hrd4, hc4, hm4⟩ := own_rd hst
        obtain ⟨rfl, rfl⟩ : some (⟨g, 0, none⟩ : Addr) = A4 ∧ cap' = c4 := by injection hA4 with h1 h2 h3; exact ⟨h1, h3⟩
        have HW3 := Lib.hid hw3
        have HBX3 := Lib.hid hbx3
        have HL2 := Lib.hid hl2
        have HRD4 := Lib.hid hrd4
        have HRD0 := Lib.hid (HR.out.below HW3.out)
        have HLL : Hid (l2.length = n) := by
          show l2.length = n
          rw [← HL2.out, List.length_set, ← HL1.out, List.length_set, HL.out]
        have hEQ : (((crcCheck l2).toNat : Int) == ((crcCheck l).toNat : Int)) = (decide (x = 0) && decide (y = 0)) := by
          have h0 := crcCheck_turned l k (by rw [HL.out]; omega) x y
          rw [HU.out, HU'.out, HZ.out, HZ'.out, HL1.out, HL2.out] at h0
          rw [Bool.eq_iff_iff, beq_iff_eq, Bool.and_eq_true, decide_eq_true_iff, decide_eq_true_iff, ← h0]
          exact ⟨fun h => UInt16.toNat_inj.1 (by omega), fun h => by rw [h]⟩
        have HEQ := Lib.hid hEQ
        clear hEQ
        clear hst hw3 hbx3 hl2 hrd4 hA4 HO2 HC2 HY2 HBX2 HW2
        apply wp_region_rel 15 (Chg NoS) [(Veq _), (RowAt NoS 1 _), (Veq _), (Veq _), (RowAt NoS 1 _), (Veq _), (Veq _), (Veq _), (Veq _), (Veq _), (Veq (.bool true)), (Veq _), (Veq _), (Veq _), (Veq _)] [[], [0], [1], [], [3], [4], [2, 5], [], [], [7, 8], [6, 9], [10], [11], [11, 12], [13]] [43, 44, 45, 46, 47, 48, 49, 50, 51, 52, 53, 54, 55, 56, 6] (by kernel_rfl) (by kernel_rfl) rfl rfl rfl Chg.refl (fun _ _ _ => Chg.trans) ⟨Veq.lasts, RowAt.lasts, Veq.lasts, Veq.lasts, RowAt.lasts, Veq.lasts, Veq.lasts, Veq.lasts, Veq.lasts, Veq.lasts, Veq.lasts, Veq.lasts, Veq.lasts, Veq.lasts, Veq.lasts, trivial⟩ ?cops ?cfin
        case cops =>
          refine ⟨?co0, ?co1, ?co2, ?co3, ?co4, ?co5, ?co6, ?co7, ?co8, ?co9, ?co10, ?co11, ?co12, ?co13, ?co14, trivial⟩
          case co0 =>
            intro a wx hE hin
            have i8 : a.eval (.tmp 8) = .slice (some ⟨g, 0, none⟩) n cap' := hin 8 rfl
            clear hin
            have hcst : ∀ v, a.eval (.const v) = v := fun _ => rfl
            have hfnc : ∀ f, a.eval (.func f) = .func (.func f) #[] #[] := fun _ => rfl
            refine want_none rfl ?_
            unfold Oper.wp
            generalize a.eval = ρ at *
            go_simp
            try go_bits
            first | exact rel_val (Chg.refl _) | (go_simp; exact rel_val (Chg.refl _))
          case co1 =>
            rintro a wx hE hin (h0 : a.eval (.tmp 43) = _)
            clear hin
            have hcst : ∀ v, a.eval (.const v) = v := fun _ => rfl
            have hfnc : ∀ f, a.eval (.func f) = .func (.func f) #[] #[] := fun _ => rfl
            refine want_none rfl ?_
            unfold Oper.wp
            generalize a.eval = ρ at *
            go_simp
            try go_bits
            exact rel_row (id)
          case co2 =>
            rintro a wx hE hin ⟨g1, h1, s1, t1, f1, c1⟩
            clear hin
            have hcst : ∀ v, a.eval (.const v) = v := fun _ => rfl
            have hfnc : ∀ f, a.eval (.func f) = .func (.func f) #[] #[] := fun _ => rfl
            refine want_none rfl ?_
            unfold Oper.wp
            generalize a.eval = ρ at *
            go_simp
            refine (check_one (Rd.row (S := NoS) c1) HLL.out hc4 hm4 (HRD4.out.drew.chg hE)).mono ?_
            rintro e w' ⟨rfl, rfl⟩
            exact rel_val (Chg.refl _)
          case co3 =>
            intro a wx hE hin
            have i0 : a.eval (.tmp 0) = .slice A n cap := hin 0 rfl
            clear hin
            have hcst : ∀ v, a.eval (.const v) = v := fun _ => rfl
            have hfnc : ∀ f, a.eval (.func f) = .func (.func f) #[] #[] := fun _ => rfl
            refine want_none rfl ?_
            unfold Oper.wp
            generalize a.eval = ρ at *
            go_simp
            try go_bits
            first | exact rel_val (Chg.refl _) | (go_simp; exact rel_val (Chg.refl _))
          case co4 =>
            rintro a wx hE hin (h3 : a.eval (.tmp 46) = _)
            clear hin
            have hcst : ∀ v, a.eval (.const v) = v := fun _ => rfl
            have hfnc : ∀ f, a.eval (.func f) = .func (.func f) #[] #[] := fun _ => rfl
            refine want_none rfl ?_
            unfold Oper.wp
            generalize a.eval = ρ at *
            go_simp
            try go_bits
            exact rel_row (id)
          case co5 =>
            rintro a wx hE hin ⟨g4, h4, s4, t4, f4, c4⟩
            clear hin
            have hcst : ∀ v, a.eval (.const v) = v := fun _ => rfl
            have hfnc : ∀ f, a.eval (.func f) = .func (.func f) #[] #[] := fun _ => rfl
            refine want_none rfl ?_
            unfold Oper.wp
            generalize a.eval = ρ at *
            go_simp
            refine (check_one (Rd.row (S := NoS) c4) HL.out hc hm (HRD0.out.drew.chg hE)).mono ?_
            rintro e w' ⟨rfl, rfl⟩
            exact rel_val (Chg.refl _)
          case co6 =>
            rintro a wx hE hin (h2 : a.eval (.tmp 45) = _) (h5 : a.eval (.tmp 48) = _)
            clear hin
            have hcst : ∀ v, a.eval (.const v) = v := fun _ => rfl
            have hfnc : ∀ f, a.eval (.func f) = .func (.func f) #[] #[] := fun _ => rfl
            refine want_none rfl ?_
            unfold Oper.wp
            generalize a.eval = ρ at *
            go_simp
            try go_bits
            first | exact rel_val (Chg.refl _) | (go_simp; exact rel_val (Chg.refl _))
          case co7 =>
            intro a wx hE hin
            have i5 : a.eval (.tmp 5) = .pointer (some ⟨w.heap.size, 0, none⟩) := hin 5 rfl
            clear hin
            have hcst : ∀ v, a.eval (.const v) = v := fun _ => rfl
            have hfnc : ∀ f, a.eval (.func f) = .func (.func f) #[] #[] := fun _ => rfl
            refine want_none rfl ?_
            exact wp_load_row 32 _ rfl w.heap.size i5 _ _ _ _ (hE.get HBX3.out id) Try.underlying32 rfl (by kernel_rfl) (rel_val (Chg.refl _))
          case co8 =>
            intro a wx hE hin
            clear hin
            have hcst : ∀ v, a.eval (.const v) = v := fun _ => rfl
            have hfnc : ∀ f, a.eval (.func f) = .func (.func f) #[] #[] := fun _ => rfl
            refine want_none rfl ?_
            unfold Oper.wp
            generalize a.eval = ρ at *
            go_simp
            try go_bits
            first | exact rel_val (Chg.refl _) | (go_simp; exact rel_val (Chg.refl _))
          case co9 =>
            rintro a wx hE hin (h7 : a.eval (.tmp 50) = _) (h8 : a.eval (.tmp 51) = _)
            clear hin
            have hcst : ∀ v, a.eval (.const v) = v := fun _ => rfl
            have hfnc : ∀ f, a.eval (.func f) = .func (.func f) #[] #[] := fun _ => rfl
            refine want_none rfl ?_
            exact wp_eq_bytes false 32 _ _ _ rfl 5 2 Try.underlying32 Try.underlying5 (by kernel_rfl) (by kernel_rfl) [x, y] [0, 0] h7 h8 rfl rfl (rel_val (Chg.refl _))
          case co10 =>
            rintro a wx hE hin (h6 : a.eval (.tmp 49) = _) (h9 : a.eval (.tmp 52) = _)
            clear hin
            have hcst : ∀ v, a.eval (.const v) = v := fun _ => rfl
            have hfnc : ∀ f, a.eval (.func f) = .func (.func f) #[] #[] := fun _ => rfl
            refine want_none rfl ?_
            unfold Oper.wp
            generalize a.eval = ρ at *
            go_simp
            rw [HEQ.out, beq_self_eq_true]
            exact rel_val (Chg.refl _)
          case co11 =>
            rintro a wx hE hin (h10 : a.eval (.tmp 53) = _)
            clear hin
            have hcst : ∀ v, a.eval (.const v) = v := fun _ => rfl
            have hfnc : ∀ f, a.eval (.func f) = .func (.func f) #[] #[] := fun _ => rfl
            refine want_none rfl ?_
            unfold Oper.wp
            generalize a.eval = ρ at *
            go_simp
            try go_bits
            first | exact rel_val (Chg.refl _) | (go_simp; exact rel_val (Chg.refl _))
          case co12 =>
            rintro a wx hE hin (h11 : a.eval (.tmp 54) = _)
            clear hin
            have hcst : ∀ v, a.eval (.const v) = v := fun _ => rfl
            have hfnc : ∀ f, a.eval (.func f) = .func (.func f) #[] #[] := fun _ => rfl
            refine want_yes rfl rfl h11 ?_
            unfold Oper.wp
            generalize a.eval = ρ at *
            go_simp
            refine (wakes4_calls _).mono ?_
            rintro e w' ⟨rfl, hb⟩
            exact rel_val (.of_below hb)
          case co13 =>
            rintro a wx hE hin (h11 : a.eval (.tmp 54) = _) (h12 : a.eval (.tmp 55) = _)
            clear hin
            have hcst : ∀ v, a.eval (.const v) = v := fun _ => rfl
            have hfnc : ∀ f, a.eval (.func f) = .func (.func f) #[] #[] := fun _ => rfl
            refine want_none rfl ?_
            unfold Oper.wp
            generalize a.eval = ρ at *
            go_simp
            try go_bits
            first | exact rel_val (Chg.refl _) | (go_simp; exact rel_val (Chg.refl _))
          case co14 =>
            rintro a wx hE hin (h13 : a.eval (.tmp 56) = _)
            clear hin
            have hcst : ∀ v, a.eval (.const v) = v := fun _ => rfl
            have hfnc : ∀ f, a.eval (.func f) = .func (.func f) #[] #[] := fun _ => rfl
            refine want_none rfl ?_
            unfold Oper.wp
            generalize a.eval = ρ at *
            go_simp
            try go_bits
            first | exact rel_val (Chg.refl _) | (go_simp; exact rel_val (Chg.refl _))
        case cfin =>
          intro wx hE
          rintro _ rfl _ ⟨g1, rfl, s1, t1, f1, c1⟩ _ rfl _ rfl _ ⟨g4, rfl, s4, t4, f4, c4⟩ _ rfl _ rfl _ rfl _ rfl _ rfl _ rfl _ rfl _ rfl _ rfl _ rfl
          simp only [FinOk, List.take_succ_cons, List.take_zero, List.take_nil, List.drop_succ_cons, List.drop_zero, List.drop_nil, Act.put, List.setIfInBounds_toArray, List.set_cons_succ, List.set_cons_zero]
          go_wp2
          go_ret
          exact ⟨rfl, HW3.out.trans (Chg.below (Chg.trans (Chg.refl w3).drew hE) HW3.out.size (fun _ _ => id))⟩
end Go.Proofs.Ytnjaldafejbdgaa
