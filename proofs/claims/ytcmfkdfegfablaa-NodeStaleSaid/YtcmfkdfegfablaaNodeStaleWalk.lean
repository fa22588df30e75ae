import Derived.Test.YtcmfkdfegfablaaG4
import Derived.Test.YtcmfkdfegfablaaG5

/- The walk of NodeStale. -/
namespace Go.Proofs.Ytcmfkdfegfablaa
open Go.RowKit
set_option linter.unusedVariables false
set_option linter.unusedSimpArgs false

theorem labAfter_pair (L l : Lab) (t : Dst) : labAfter L l (t, (0 : Int)).2 = l := rfl
theorem labAfter_23 (L l : Lab) (t : Dst) : labAfter L l (t, (23 : Int)).2 = L := rfl
def StaleRel (w : World) (gd gsd hn n : Nat) (v : Value) (wr : World) : Prop := ∃ (k : Nat) (lv : Value) (S : List (List UInt8)) (L : Lab), k ≤ n ∧ v = .int .i64 k ∧ DSes 92 w wr gd gsd lv (UpD S) ∧ Bk wr hn (NdC gd L) ∧ ¬ footD gd gsd lv hn ∧ S.length = 19
set_option maxRecDepth 100000 in
set_option maxHeartbeats 32000000 in
theorem nodeStale_calls (w : World) (A : Option Addr) (n c : Nat) (l : List RecV) (f : Lab) (hl : l.length = n) (hnc : n ≤ c) (hm : c ≤ 9223372036854775807) (hr : Rd w A (l.flatMap recC)) (hok : ∀ s ∈ l, RecOk w s) :
    Calls Try.prog 4 #[.slice A n c, .agg (labC f).toArray] w fun e w' => e = .returned (.bool true) ∧ Below w.heap.size w w' := by
  subst hl
  have HR := Lib.hid hr
  have HOKS := Lib.hid hok
  clear hr hok
  obtain ⟨L1, hL1⟩ : ∃ L1 : Lab, (⟨f.e % 1000, f.s % 1000, f.n % 1000, f.d, f.la⟩ : Lab) = L1 := ⟨_, rfl⟩
  obtain ⟨bx, hbx⟩ : ∃ bx, labC f = bx := ⟨_, rfl⟩
  have D0 : Hid (bx[0]? = some (vu32 f.e)) := by rw [← hbx]; exact (rfl : _ = _)
  have D1 : Hid (bx[1]? = some (vu32 f.s)) := by rw [← hbx]; exact (rfl : _ = _)
  have D2 : Hid (bx[2]? = some (vu32 f.n)) := by rw [← hbx]; exact (rfl : _ = _)
  have HBL : Hid (bx.length = 5) := by rw [← hbx]; exact (rfl : _ = _)
  have HBX : Hid (splice (splice (splice bx 0 [vu32 (f.e % 1000)]) 1 [vu32 (f.s % 1000)]) 2 [vu32 (f.n % 1000)] = labC L1) := by rw [← hbx, ← hL1]; exact (rfl : _ = _)
  rw [hbx]
  clear hbx hL1
  go_enter Try.func4, Try.ntmps4
  have c0 := (Bk.new w bx 40).cell D0.out
  have c1 := (Bk.new w bx 40).cell D1.out
  have c2 := (Bk.new w bx 40).cell D2.out
  by_cases h20 : 20 < l.length
  · have h20i : (20 : Int) < (l.length : Int) := by omega
    go_wp2_with fail
    refine calls_at fun w1 hw1 => ?_
    have Ew1 : Hid (Below w.heap.size w w1) := by rw [← hw1]; exact (Below.refl _ _).alloc (Nat.le_refl _) _
    clear hw1 c0 c1 c2
    refine (wakes9_calls w1).mono ?_
    rintro en w2 ⟨rfl, hb⟩
    have Ew2 : Hid (Below w.heap.size w w2) := Ew1.out.trans (hb.mono Ew1.out.size)
    clear Ew1
    clear hb
    go_wp2_with fail
    (try simp only [Exit.inBlock, Exit.then])
    go_ret
    exact ⟨rfl, Ew2.out⟩
  have h20i : ¬ (20 : Int) < (l.length : Int) := by omega
  go_wp2_with (refine wpList_st rfl 22 (.tmp 26) (.tmp 19) rfl w.heap.size 0 1 bx [vu32 (f.e % 1000)] rfl (by rw [← mod1000]; rfl) (Bk.new w bx 40) (by kernel_rfl) rfl (by rw [HBL.out]; decide) (fun u hu => by obtain rfl := List.mem_singleton.1 hu; rfl) ?_)
  intro w2 hbk hc
  have E2 : Hid (Below w.heap.size w w2) := ((Below.refl _ _).alloc (Nat.le_refl _) _).trans (hc.below (by simp) (fun q hq he => by omega))
  have K2 := Lib.hid hbk
  have L2 : Hid ((splice bx 0 [vu32 (f.e % 1000)]).length = 5) := by show _ = _; rw [length_splice _ _ _ (by rw [HBL.out]; exact (by decide : 0 + 1 ≤ 5))]; exact HBL.out
  clear hbk hc c0 c1 c2
  go_wp2_with (refine wpList_st rfl 22 (.tmp 27) (.tmp 22) rfl w.heap.size 1 1 _ [vu32 (f.s % 1000)] rfl (by rw [← mod1000]; rfl) K2.out (by kernel_rfl) rfl (by rw [L2.out]; exact (by decide : 1 + 1 ≤ 5)) (fun u hu => by obtain rfl := List.mem_singleton.1 hu; rfl) ?_)
  intro w3 hbk hc
  have E3 : Hid (Below w.heap.size w w3) := E2.out.trans (hc.below E2.out.size (fun q hq he => by omega))
  have K3 := Lib.hid hbk
  have L3 : Hid ((splice (splice bx 0 [vu32 (f.e % 1000)]) 1 [vu32 (f.s % 1000)]).length = 5) := by show _ = _; rw [length_splice _ _ _ (by rw [L2.out]; exact (by decide : 1 + 1 ≤ 5))]; exact L2.out
  clear hbk hc K2 E2
  go_wp2_with (refine wpList_st rfl 22 (.tmp 28) (.tmp 25) rfl w.heap.size 2 1 _ [vu32 (f.n % 1000)] rfl (by rw [← mod1000]; rfl) K3.out (by kernel_rfl) rfl (by rw [L3.out]; exact (by decide : 2 + 1 ≤ 5)) (fun u hu => by obtain rfl := List.mem_singleton.1 hu; rfl) ?_)
  intro w4 hbk hc
  rw [HBX.out] at hbk
  have Ew4 : Hid (Below w.heap.size w w4) := E3.out.trans (hc.below E3.out.size (fun q hq he => by omega))
  have Kfw4 := Lib.hid hbk
  clear hbk hc K3 E3 L2 L3 D0 D1 D2 HBL HBX
  go_wp2_with fail
  refine (ndNew_calls w w4 Ew4.out).mono ?_
  rintro en w5 ⟨gd, gsd, rfl, hd, hfe, hb⟩
  have Fdf : Hid (¬ footD gd gsd (.slice none 0 0) w.heap.size) := fun hj => by have := hfe _ hj; have := Kfw4.out.lt; omega
  have Ew5 : Hid (Below w.heap.size w w5) := Ew4.out.trans (hb.mono Ew4.out.size)
  have Kfw5 : Hid (Bk w5 w.heap.size (labC L1)) := Kfw4.out.below hb
  clear Ew4 Kfw4
  have Ddw5 : Hid (DSes 92 w w5 gd gsd (.slice none 0 0) (UpD S0)) := hd
  clear hb hd hfe
  go_wp2_with fail
  have HSZn : Hid (w.heap.size ≤ w5.heap.size) := Ew5.out.size
  refine (ndOpen_calls w5 gd gsd (.slice none 0 0) (UpD S0) 0 Ddw5.out.at_ (ok_up _) (by decide)).mono ?_
  intro en w6 hp
  rw [open_new] at hp
  obtain ⟨hn, lvdw6, rfl, hd, hk, hge, hnf, hft, hch⟩ := DSes.opost Ddw5.out hp
  have Afn : Hid (w.heap.size < hn) := by show _ < _; have := Kfw5.out.lt; omega
  have Ddw6 : Hid (DSes 92 w w6 gd gsd lvdw6 (UpD S0)) := hd
  have Ew6 : Hid (Below w.heap.size w w6) := hd.bel
  have Kfw6 : Hid (Bk w6 w.heap.size (labC L1)) := Kfw5.out.chg hch Fdf.out
  have Fdf : Hid (¬ footD gd gsd lvdw6 w.heap.size) := fun hj => (hft _ hj).elim Fdf.out (fun h => by have := Kfw5.out.lt; omega)
  have Knw6 : Hid (Bk w6 hn (NdC gd zLab)) := hk
  have Fdn : Hid (¬ footD gd gsd lvdw6 hn) := hnf
  have NHn : Hid (w.heap.size ≤ hn) := by show _ ≤ _; have := HSZn.out; omega
  clear hp hd hk hge hnf hft hch Kfw5 Ddw5 Ew5
  go_wp2_with (refine wpList_ld rfl 40 (.tmp 3) rfl w.heap.size 0 5 (labC L1) (labC L1) rfl Kfw6.out (by kernel_rfl) (by kernel_rfl) (Nat.le_refl 5) rfl ?_)
  refine (ndSetLabel_calls w6 gd gsd lvdw6 hn (UpD S0) zLab L1 0 Ddw6.out.at_ Knw6.out Fdn.out (ok_up _) (by decide)).mono ?_
  intro en w7 hp
  rw [up_setLab S0_len, labAfter_pair] at hp
  have hch := NPost.chg hp
  obtain ⟨rfl, lvdw7, hd, hk, hft⟩ := DSes.npost Ddw6.out hp NHn.out
  have Ddw7 : Hid (DSes 92 w w7 gd gsd lvdw7 (UpD (S0.set 0 (labEnc L1)))) := hd
  have Ew7 : Hid (Below w.heap.size w w7) := hd.bel
  have Kfw7 : Hid (Bk w7 w.heap.size (labC L1)) := Kfw6.out.chg hch (fun hj => hj.elim Fdf.out (fun he => by have := Afn.out; omega))
  have Fdf : Hid (¬ footD gd gsd lvdw7 w.heap.size) := fun hj => (hft _ hj).elim Fdf.out (fun h => by have := Kfw6.out.lt; omega)
  have Knw7 : Hid (Bk w7 hn (NdC gd L1)) := hk
  have Fdn : Hid (¬ footD gd gsd lvdw7 hn) := fun hj => (hft _ hj).elim Fdn.out (fun h => by have := Knw6.out.lt; omega)
  clear hp hd hk hft hch Knw6 Kfw6 Ddw6 Ew6
  go_wp2_with fail
  have H0 : Hid (StaleRel w gd gsd hn l.length (.int .i64 0) w7) := ⟨0, _, _, L1, Nat.zero_le _, rfl, Ddw7.out, Knw7.out, Fdn.out, by rw [set_len]; exact S0_len⟩
  clear Ddw7 Ew7 Knw7 Fdn Kfw7 h20 h20i
  go_loopw [7] (fun v7 wr => StaleRel w gd gsd hn l.length v7 wr) (fun v7 _ => l.length - (intOf v7).toNat)
  case atStart => exact H0.out
  case round =>
    obtain ⟨k, lv, S, L, hk, rfl, hd, hkn, hfn, hsl⟩ := hrel
    have DBr := Lib.hid hd
    have Er := Lib.hid hd.bel
    have KBr := Lib.hid hkn
    have Fdn := Lib.hid hfn
    have HFN := Lib.hid hfn
    have HSL := Lib.hid hsl
    have DBR := Lib.hid hd
    have KBR := Lib.hid hkn.lt
    have ErT := Lib.hid hd.bel
    clear hd hkn hfn hsl H0
    by_cases hlt : k < l.length
    case neg =>
      have hke : k = l.length := by omega
      subst hke
      have hki : ¬ (((l.length : Nat) : Int) < (l.length : Int)) := by omega
      go_wp2_with fail
      refine (wakes9_calls wr).mono ?_
      rintro en w11 ⟨rfl, hb⟩
      have Ew11 : Hid (Below w.heap.size w w11) := Er.out.trans (hb.mono Er.out.size)
      have Knw11 : Hid (Bk w11 hn (NdC gd L)) := KBr.out.below hb
      have Ddw11 : Hid (DSes 92 w w11 gd gsd lv (UpD S)) := DBr.out.below hb
      clear Er KBr DBr
      clear hb
      go_wp2_with fail
      (try simp only [Exit.inBlock, Exit.then])
      go_ret
      exact ⟨rfl, Ew11.out⟩
    have hki : (k : Int) < (l.length : Int) := by omega
    have hk0 : (0 : Int) ≤ (k : Int) := by omega
    obtain ⟨ad, hA⟩ := rec_some HR.out hlt
    subst hA
    have HOK := Lib.hid (HOKS.out _ (List.getElem_mem hlt))
    obtain ⟨r, hre⟩ : ∃ r, l[k] = r := ⟨_, rfl⟩
    have HRE := Lib.hid hre
    rw [hre] at HOK
    clear hre
    obtain ⟨e1, he1⟩ : ∃ e1, r.e % 1000 = e1 := ⟨_, rfl⟩
    have HE1 := Lib.hid he1
    obtain ⟨q1, hq1⟩ : ∃ q1, r.q % 1000 = q1 := ⟨_, rfl⟩
    have HQ1 := Lib.hid hq1
    have HQL : Hid (q1.toNat < 1000) := by show _ < _; rw [← hq1]; exact mod1000_lt _
    obtain ⟨ln, hln⟩ : ∃ ln, L.n.toNat = ln := ⟨_, rfl⟩
    have HLN := Lib.hid hln
    clear he1 hq1 hln
    go_wp2_with fail
    apply wp_region_rel 19 (Chg NoS) [(Veq _), (Veq _), (Veq _), (Veq _), (Veq _), (Veq _), (Veq _), (Veq _), (Veq _), (Veq _), (Veq _), (Veq _), (Veq _), (Veq _), (Veq _), (Veq _), (Veq _), (Veq (.agg [vu32 e1, vu32 q1, .slice r.A r.n r.c].toArray)), (PtrAt NoS wr.heap.size zR)] [[], [], [0, 1], [2], [3], [4], [], [], [6, 7], [8], [9], [10], [], [], [12, 13], [14], [15], [5, 11, 16], []] [52, 53, 54, 55, 56, 57, 58, 59, 60, 61, 62, 63, 64, 65, 66, 67, 68, 69, 8] (by kernel_rfl) (by kernel_rfl) rfl rfl rfl Chg.refl (fun _ _ _ => Chg.trans) ⟨Veq.lasts, Veq.lasts, Veq.lasts, Veq.lasts, Veq.lasts, Veq.lasts, Veq.lasts, Veq.lasts, Veq.lasts, Veq.lasts, Veq.lasts, Veq.lasts, Veq.lasts, Veq.lasts, Veq.lasts, Veq.lasts, Veq.lasts, Veq.lasts, PtrAt.lasts, trivial⟩ ?aops ?afin
    case aops =>
      refine ⟨?ao0, ?ao1, ?ao2, ?ao3, ?ao4, ?ao5, ?ao6, ?ao7, ?ao8, ?ao9, ?ao10, ?ao11, ?ao12, ?ao13, ?ao14, ?ao15, ?ao16, ?ao17, ?ao18, trivial⟩
      case ao0 =>
        intro a wx hE hin
        have i0 : a.eval (.tmp 0) = .slice (some ad) l.length c := hin 0 rfl
        clear hin
        have hcst : ∀ v, a.eval (.const v) = v := fun _ => rfl
        have hfnc : ∀ f, a.eval (.func f) = .func (.func f) #[] #[] := fun _ => rfl
        refine want_none rfl ?_
        unfold Oper.wp
        generalize a.eval = ρ at *
        go_simp
        try go_bits
        first | exact rel_val (Chg.refl _) | (go_simp; exact rel_val (Chg.refl _))
      case ao1 =>
        intro a wx hE hin
        have i7 : a.eval (.tmp 7) = .int .i64 k := hin 7 rfl
        clear hin
        have hcst : ∀ v, a.eval (.const v) = v := fun _ => rfl
        have hfnc : ∀ f, a.eval (.func f) = .func (.func f) #[] #[] := fun _ => rfl
        refine want_none rfl ?_
        unfold Oper.wp
        generalize a.eval = ρ at *
        go_simp
        try go_bits
        first | exact rel_val (Chg.refl _) | (go_simp; exact rel_val (Chg.refl _))
      case ao2 =>
        rintro a wx hE hin (h0 : a.eval (.tmp 52) = _) (h1 : a.eval (.tmp 53) = _)
        clear hin
        have hcst : ∀ v, a.eval (.const v) = v := fun _ => rfl
        have hfnc : ∀ f, a.eval (.func f) = .func (.func f) #[] #[] := fun _ => rfl
        refine want_none rfl ?_
        unfold Oper.wp
        generalize a.eval = ρ at *
        go_simp
        try go_bits
        first | exact rel_val (Chg.refl _) | (go_simp; exact rel_val (Chg.refl _))
      case ao3 =>
        rintro a wx hE hin (h2 : a.eval (.tmp 54) = _)
        clear hin
        have hcst : ∀ v, a.eval (.const v) = v := fun _ => rfl
        have hfnc : ∀ f, a.eval (.func f) = .func (.func f) #[] #[] := fun _ => rfl
        refine want_none rfl ?_
        unfold Oper.wp
        generalize a.eval = ρ at *
        go_simp
        try go_bits
        first | exact rel_val (Chg.refl _) | (go_simp; exact rel_val (Chg.refl _))
      case ao4 =>
        rintro a wx hE hin (h3 : a.eval (.tmp 55) = _)
        clear hin
        have hcst : ∀ v, a.eval (.const v) = v := fun _ => rfl
        have hfnc : ∀ f, a.eval (.func f) = .func (.func f) #[] #[] := fun _ => rfl
        refine want_none rfl ?_
        unfold Oper.wp
        generalize a.eval = ρ at *
        have c := rec_at0 (HR.out.below (ErT.out.trans (hE.undrew.below ErT.out.size (fun _ _ => id)))) hlt
        rw [HRE.out] at c
        go_simp
        try go_bits
        first | exact rel_val (Chg.refl _) | (go_simp; exact rel_val (Chg.refl _))
      case ao5 =>
        rintro a wx hE hin (h4 : a.eval (.tmp 56) = _)
        clear hin
        have hcst : ∀ v, a.eval (.const v) = v := fun _ => rfl
        have hfnc : ∀ f, a.eval (.func f) = .func (.func f) #[] #[] := fun _ => rfl
        refine want_none rfl ?_
        unfold Oper.wp
        generalize a.eval = ρ at *
        go_simp
        try go_bits
        first | exact rel_val (Chg.refl _) | (go_simp; exact rel_val (Chg.refl _))
      case ao6 =>
        intro a wx hE hin
        have i0 : a.eval (.tmp 0) = .slice (some ad) l.length c := hin 0 rfl
        clear hin
        have hcst : ∀ v, a.eval (.const v) = v := fun _ => rfl
        have hfnc : ∀ f, a.eval (.func f) = .func (.func f) #[] #[] := fun _ => rfl
        refine want_none rfl ?_
        unfold Oper.wp
        generalize a.eval = ρ at *
        go_simp
        try go_bits
        first | exact rel_val (Chg.refl _) | (go_simp; exact rel_val (Chg.refl _))
      case ao7 =>
        intro a wx hE hin
        have i7 : a.eval (.tmp 7) = .int .i64 k := hin 7 rfl
        clear hin
        have hcst : ∀ v, a.eval (.const v) = v := fun _ => rfl
        have hfnc : ∀ f, a.eval (.func f) = .func (.func f) #[] #[] := fun _ => rfl
        refine want_none rfl ?_
        unfold Oper.wp
        generalize a.eval = ρ at *
        go_simp
        try go_bits
        first | exact rel_val (Chg.refl _) | (go_simp; exact rel_val (Chg.refl _))
      case ao8 =>
        rintro a wx hE hin (h6 : a.eval (.tmp 58) = _) (h7 : a.eval (.tmp 59) = _)
        clear hin
        have hcst : ∀ v, a.eval (.const v) = v := fun _ => rfl
        have hfnc : ∀ f, a.eval (.func f) = .func (.func f) #[] #[] := fun _ => rfl
        refine want_none rfl ?_
        unfold Oper.wp
        generalize a.eval = ρ at *
        go_simp
        try go_bits
        first | exact rel_val (Chg.refl _) | (go_simp; exact rel_val (Chg.refl _))
      case ao9 =>
        rintro a wx hE hin (h8 : a.eval (.tmp 60) = _)
        clear hin
        have hcst : ∀ v, a.eval (.const v) = v := fun _ => rfl
        have hfnc : ∀ f, a.eval (.func f) = .func (.func f) #[] #[] := fun _ => rfl
        refine want_none rfl ?_
        unfold Oper.wp
        generalize a.eval = ρ at *
        go_simp
        try go_bits
        first | exact rel_val (Chg.refl _) | (go_simp; exact rel_val (Chg.refl _))
      case ao10 =>
        rintro a wx hE hin (h9 : a.eval (.tmp 61) = _)
        clear hin
        have hcst : ∀ v, a.eval (.const v) = v := fun _ => rfl
        have hfnc : ∀ f, a.eval (.func f) = .func (.func f) #[] #[] := fun _ => rfl
        refine want_none rfl ?_
        unfold Oper.wp
        generalize a.eval = ρ at *
        have c := rec_at1 (HR.out.below (ErT.out.trans (hE.undrew.below ErT.out.size (fun _ _ => id)))) hlt
        rw [HRE.out] at c
        go_simp
        try go_bits
        first | exact rel_val (Chg.refl _) | (go_simp; exact rel_val (Chg.refl _))
      case ao11 =>
        rintro a wx hE hin (h10 : a.eval (.tmp 62) = _)
        clear hin
        have hcst : ∀ v, a.eval (.const v) = v := fun _ => rfl
        have hfnc : ∀ f, a.eval (.func f) = .func (.func f) #[] #[] := fun _ => rfl
        refine want_none rfl ?_
        unfold Oper.wp
        generalize a.eval = ρ at *
        go_simp
        try go_bits
        first | exact rel_val (Chg.refl _) | (go_simp; exact rel_val (Chg.refl _))
      case ao12 =>
        intro a wx hE hin
        have i0 : a.eval (.tmp 0) = .slice (some ad) l.length c := hin 0 rfl
        clear hin
        have hcst : ∀ v, a.eval (.const v) = v := fun _ => rfl
        have hfnc : ∀ f, a.eval (.func f) = .func (.func f) #[] #[] := fun _ => rfl
        refine want_none rfl ?_
        unfold Oper.wp
        generalize a.eval = ρ at *
        go_simp
        try go_bits
        first | exact rel_val (Chg.refl _) | (go_simp; exact rel_val (Chg.refl _))
      case ao13 =>
        intro a wx hE hin
        have i7 : a.eval (.tmp 7) = .int .i64 k := hin 7 rfl
        clear hin
        have hcst : ∀ v, a.eval (.const v) = v := fun _ => rfl
        have hfnc : ∀ f, a.eval (.func f) = .func (.func f) #[] #[] := fun _ => rfl
        refine want_none rfl ?_
        unfold Oper.wp
        generalize a.eval = ρ at *
        go_simp
        try go_bits
        first | exact rel_val (Chg.refl _) | (go_simp; exact rel_val (Chg.refl _))
      case ao14 =>
        rintro a wx hE hin (h12 : a.eval (.tmp 64) = _) (h13 : a.eval (.tmp 65) = _)
        clear hin
        have hcst : ∀ v, a.eval (.const v) = v := fun _ => rfl
        have hfnc : ∀ f, a.eval (.func f) = .func (.func f) #[] #[] := fun _ => rfl
        refine want_none rfl ?_
        unfold Oper.wp
        generalize a.eval = ρ at *
        go_simp
        try go_bits
        first | exact rel_val (Chg.refl _) | (go_simp; exact rel_val (Chg.refl _))
      case ao15 =>
        rintro a wx hE hin (h14 : a.eval (.tmp 66) = _)
        clear hin
        have hcst : ∀ v, a.eval (.const v) = v := fun _ => rfl
        have hfnc : ∀ f, a.eval (.func f) = .func (.func f) #[] #[] := fun _ => rfl
        refine want_none rfl ?_
        unfold Oper.wp
        generalize a.eval = ρ at *
        go_simp
        try go_bits
        first | exact rel_val (Chg.refl _) | (go_simp; exact rel_val (Chg.refl _))
      case ao16 =>
        rintro a wx hE hin (h15 : a.eval (.tmp 67) = _)
        clear hin
        have hcst : ∀ v, a.eval (.const v) = v := fun _ => rfl
        have hfnc : ∀ f, a.eval (.func f) = .func (.func f) #[] #[] := fun _ => rfl
        refine want_none rfl ?_
        unfold Oper.wp
        generalize a.eval = ρ at *
        have c := rec_at2 (HR.out.below (ErT.out.trans (hE.undrew.below ErT.out.size (fun _ _ => id)))) hlt
        rw [HRE.out] at c
        go_simp
        try go_bits
        first | exact rel_val (Chg.refl _) | (go_simp; exact rel_val (Chg.refl _))
      case ao17 =>
        rintro a wx hE hin (h5 : a.eval (.tmp 57) = _) (h11 : a.eval (.tmp 63) = _) (h16 : a.eval (.tmp 68) = _)
        clear hin
        have hcst : ∀ v, a.eval (.const v) = v := fun _ => rfl
        have hfnc : ∀ f, a.eval (.func f) = .func (.func f) #[] #[] := fun _ => rfl
        refine want_none rfl ?_
        exact wp_bld 25 [(0, .tmp 57), (1, .tmp 63), (2, .tmp 68)] rfl zR [(0, [vu32 e1]), (1, [vu32 q1]), (2, [.slice r.A r.n r.c])] [vu32 e1, vu32 q1, .slice r.A r.n r.c] (by kernel_rfl) (by kernel_rfl) ⟨by rw [h5, mod1000, HE1.out]; rfl, ⟨1, rfl, by kernel_rfl, by decide⟩, by rw [h11, mod1000, HQ1.out]; rfl, ⟨1, rfl, by kernel_rfl, by decide⟩, by rw [h16]; rfl, ⟨1, rfl, by kernel_rfl, by decide⟩, trivial⟩ rfl (rel_val (Chg.refl _))
      case ao18 =>
        intro a wx hE hin
        clear hin
        have hcst : ∀ v, a.eval (.const v) = v := fun _ => rfl
        have hfnc : ∀ f, a.eval (.func f) = .func (.func f) #[] #[] := fun _ => rfl
        refine want_none rfl ?_
        exact wp_al 25 rfl zR (by kernel_rfl) ⟨_, rfl, ⟨wx.heap.size, rfl, hE.size, id, Bk.new _ _ _⟩, (Chg.refl _).alloc _⟩
    case afin =>
      intro wx hE
      rintro _ rfl _ rfl _ rfl _ rfl _ rfl _ rfl _ rfl _ rfl _ rfl _ rfl _ rfl _ rfl _ rfl _ rfl _ rfl _ rfl _ rfl _ rfl _ ⟨gr, rfl, p9, n9, b9⟩
      simp only [FinOk, List.take_succ_cons, List.take_zero, List.take_nil, List.drop_succ_cons, List.drop_zero, List.drop_nil, Act.put, List.setIfInBounds_toArray, List.set_cons_succ, List.set_cons_zero]
      have N8 : Hid (Bk wx gr zR) := b9
      have HGR : Hid (wr.heap.size ≤ gr) := p9
      have E8 : Hid (Below wr.heap.size wr wx) := hE.undrew.below (Nat.le_refl _) (fun _ _ => id)
      clear hE b9 p9 n9
      go_wp2_with (refine wpList_st rfl 25 (.tmp 8) (.tmp 69) rfl gr 0 3 zR [vu32 e1, vu32 q1, .slice r.A r.n r.c] rfl rfl N8.out (by kernel_rfl) rfl (by decide) (one_rec _ _ _ _ _) ?_)
      intro w10 hbk hc
      rw [splice_whole zR [vu32 e1, vu32 q1, .slice r.A r.n r.c] rfl] at hbk
      have HB10 : Hid (Below wr.heap.size wr w10) := E8.out.trans (hc.below E8.out.size (fun k hk he => by have := HGR.out; omega))
      have KG := Lib.hid hbk
      clear hbk hc N8 E8
      have hb := HB10.out
      have Ew10 : Hid (Below w.heap.size w w10) := Er.out.trans (hb.mono Er.out.size)
      have Knw10 : Hid (Bk w10 hn (NdC gd L)) := KBr.out.below hb
      have Ddw10 : Hid (DSes 92 w w10 gd gsd lv (UpD S)) := DBr.out.below hb
      clear Er KBr DBr
      clear hb HB10
      have Krw10 : Hid (Bk w10 gr [vu32 e1, vu32 q1, .slice r.A r.n r.c]) := KG.out
      clear KG
      have Fdr : Hid (¬ footD gd gsd lv gr) := fun hj => by have := DiskAt.lt DBR.out.at_ _ hj; have := HGR.out; omega
      have Anr : Hid (hn < gr) := by show _ < _; have := KBR.out; have := HGR.out; omega
      have c2 : w10.cell? ⟨gr, 2, none⟩ = some (.slice r.A r.n r.c) := Krw10.out.cell rfl
      go_wp2_with fail
      clear c2
      refine (refGood_calls r.ps r.A r.n r.c w10 HOK.out.len (by have h2 := HOK.out.cap; have h3 := HOK.out.max; omega) (HOK.out.rd.below Ew10.out) HOK.out.ok).mono ?_
      rintro en w11 ⟨rfl, hb⟩
      have Ew11 : Hid (Below w.heap.size w w11) := Ew10.out.trans (hb.mono Ew10.out.size)
      have Knw11 : Hid (Bk w11 hn (NdC gd L)) := Knw10.out.below hb
      have Krw11 : Hid (Bk w11 gr [vu32 e1, vu32 q1, .slice r.A r.n r.c]) := Krw10.out.below hb
      have Ddw11 : Hid (DSes 92 w w11 gd gsd lv (UpD S)) := Ddw10.out.below hb
      clear Ew10 Knw10 Krw10 Ddw10
      clear hb
      by_cases hgood : goodB r.ps = true
      case neg =>
        rw [Bool.eq_false_iff.2 hgood]
        go_wp2_with fail
        go_roundw
        case rel => exact ⟨k + 1, lv, S, L, by omega, by go_num, Ddw11.out, Knw11.out, HFN.out, HSL.out⟩
        case measure => simp [intOf]; omega
      rw [hgood]
      have HGD := Lib.hid hgood
      go_wp2_with fail
      refine (ndLabel_calls w11 gd hn L Knw11.out).mono ?_
      rintro en w12 ⟨rfl, hb⟩
      have Ew12 : Hid (Below w.heap.size w w12) := Ew11.out.trans (hb.mono Ew11.out.size)
      have Knw12 : Hid (Bk w12 hn (NdC gd L)) := Knw11.out.below hb
      have Krw12 : Hid (Bk w12 gr [vu32 e1, vu32 q1, .slice r.A r.n r.c]) := Krw11.out.below hb
      have Ddw12 : Hid (DSes 92 w w12 gd gsd lv (UpD S)) := Ddw11.out.below hb
      clear Ew11 Knw11 Krw11 Ddw11
      clear hb
      go_wp2_with (refine wpList_al rfl 40 rfl (labC zLab) (by kernel_rfl) ?_)
      intro gwa w13 hg hb hc hs
      have HQwa : Hid (Below w12.heap.size w12 w13) := hc.below (Nat.le_refl _) (fun _ _ => id)
      have HGwa : Hid (gwa = w12.heap.size) := hg
      have KZwa := Lib.hid hb
      clear hg hb hc hs
      go_wp2_with (refine wpList_st rfl 40 (.tmp 9) (.tmp 75) rfl gwa 0 5 (labC zLab) (labC L) rfl rfl KZwa.out (by kernel_rfl) rfl (by decide) (one_lab L) ?_)
      intro w14 hbk hc
      rw [splice_whole (labC zLab) (labC L) rfl] at hbk
      have hb : Below w12.heap.size w12 w14 := HQwa.out.trans (hc.below HQwa.out.size (fun q hq he => by have := HGwa.out; omega))
      have Fdwa : Hid (¬ footD gd gsd lv gwa) := fun hj => by have := DiskAt.lt Ddw12.out.at_ _ hj; have := HGwa.out; omega
      have Anwa : Hid (hn < gwa) := by show _ < _; have := Knw12.out.lt; have := HGwa.out; omega
      have Arwa : Hid (gr < gwa) := by show _ < _; have := Krw12.out.lt; have := HGwa.out; omega
      have Ew14 : Hid (Below w.heap.size w w14) := Ew12.out.trans (hb.mono Ew12.out.size)
      have Knw14 : Hid (Bk w14 hn (NdC gd L)) := Knw12.out.below hb
      have Krw14 : Hid (Bk w14 gr [vu32 e1, vu32 q1, .slice r.A r.n r.c]) := Krw12.out.below hb
      have Ddw14 : Hid (DSes 92 w w14 gd gsd lv (UpD S)) := Ddw12.out.below hb
      clear Ew12 Knw12 Krw12 Ddw12
      have Kwaw14 : Hid (Bk w14 gwa (labC L)) := hbk
      have Kwaw14 : Hid (Bk w14 gwa (labC L)) := hbk
      clear hbk hb hc KZwa HQwa HGwa
      have cr0 : w14.cell? ⟨gr, 0, none⟩ = some (vu32 e1) := Krw14.out.cell rfl
      have cr1 : w14.cell? ⟨gr, 1, none⟩ = some (vu32 q1) := Krw14.out.cell rfl
      have cw0 : w14.cell? ⟨gwa, 0, none⟩ = some (vu32 L.e) := Kwaw14.out.cell rfl
      have cw1 : w14.cell? ⟨gwa, 1, none⟩ = some (vu32 L.s) := Kwaw14.out.cell rfl
      go_wp2_with fail
      clear cr0 cr1
      clear cw0 cw1
      refine (refLater_calls e1 q1 L.e L.s w14).mono ?_
      rintro en w' ⟨rfl, rfl⟩
      by_cases hlat : laterB e1 q1 L.e L.s = true
      case pos =>
        rw [hlat]
        have HLT := Lib.hid hlat
        clear hlat
        go_wp2_with (refine wpList_ld rfl 25 (.tmp 8) rfl gr 0 3 [vu32 e1, vu32 q1, .slice r.A r.n r.c] [vu32 e1, vu32 q1, .slice r.A r.n r.c] rfl Krw14.out (by kernel_rfl) (by kernel_rfl) (Nat.le_refl 3) rfl ?_)
        refine (ndApply_calls w14 gd gsd lv hn (UpD S) L 0 e1 q1 r.ps r.A r.n r.c 3 Ddw14.out.at_ Knw14.out Fdn.out (ok_up _) (by decide) HOK.out.len (fun w' hc => HOK.out.rd.below (Ew14.out.trans (hc.below Ew14.out.size (fun j hj hf => by have := Ddw14.out.fr j hf; omega)))) HOK.out.ok (fun hg _ => put_up_ok HSL.out hg)).mono ?_
        intro en w15 hp
        rw [up_apply HSL.out HGD.out HLT.out, labAfter_pair] at hp
        have hch := NPost.chg hp
        obtain ⟨rfl, lvdw15, hd, hk, hft⟩ := DSes.npost Ddw14.out hp NHn.out
        have Ddw15 : Hid (DSes 92 w w15 gd gsd lvdw15 (UpD (appS S e1 q1 r.ps (carryL L e1 q1 r.ps 3)))) := hd
        have Ew15 : Hid (Below w.heap.size w w15) := hd.bel
        have Krw15 : Hid (Bk w15 gr [vu32 e1, vu32 q1, .slice r.A r.n r.c]) := Krw14.out.chg hch (fun hj => hj.elim Fdr.out (fun he => by have := Anr.out; omega))
        have Fdr : Hid (¬ footD gd gsd lvdw15 gr) := fun hj => (hft _ hj).elim Fdr.out (fun h => by have := Krw14.out.lt; omega)
        have Kwaw15 : Hid (Bk w15 gwa (labC L)) := Kwaw14.out.chg hch (fun hj => hj.elim Fdwa.out (fun he => by have := Anwa.out; omega))
        have Fdwa : Hid (¬ footD gd gsd lvdw15 gwa) := fun hj => (hft _ hj).elim Fdwa.out (fun h => by have := Kwaw14.out.lt; omega)
        have Knw15 : Hid (Bk w15 hn (NdC gd (carryL L e1 q1 r.ps 3))) := hk
        have Fdn : Hid (¬ footD gd gsd lvdw15 hn) := fun hj => (hft _ hj).elim Fdn.out (fun h => by have := Knw14.out.lt; omega)
        clear hp hd hk hft hch Knw14 Krw14 Kwaw14 Ddw14 Ew14
        go_wp2_with fail
        refine (ndLabel_calls w15 gd hn (carryL L e1 q1 r.ps 3) Knw15.out).mono ?_
        rintro en w16 ⟨rfl, hb⟩
        have Ew16 : Hid (Below w.heap.size w w16) := Ew15.out.trans (hb.mono Ew15.out.size)
        have Knw16 : Hid (Bk w16 hn (NdC gd (carryL L e1 q1 r.ps 3))) := Knw15.out.below hb
        have Krw16 : Hid (Bk w16 gr [vu32 e1, vu32 q1, .slice r.A r.n r.c]) := Krw15.out.below hb
        have Kwaw16 : Hid (Bk w16 gwa (labC L)) := Kwaw15.out.below hb
        have Ddw16 : Hid (DSes 92 w w16 gd gsd lvdw15 (UpD (appS S e1 q1 r.ps (carryL L e1 q1 r.ps 3)))) := Ddw15.out.below hb
        clear Ew15 Knw15 Krw15 Kwaw15 Ddw15
        clear hb
        go_wp2_with (refine wpList_al rfl 40 rfl (labC zLab) (by kernel_rfl) ?_)
        intro gno w17 hg hb hc hs
        have HQno : Hid (Below w16.heap.size w16 w17) := hc.below (Nat.le_refl _) (fun _ _ => id)
        have HGno : Hid (gno = w16.heap.size) := hg
        have KZno := Lib.hid hb
        clear hg hb hc hs
        go_wp2_with (refine wpList_st rfl 40 (.tmp 12) (.tmp 89) rfl gno 0 5 (labC zLab) (labC (carryL L e1 q1 r.ps 3)) rfl rfl KZno.out (by kernel_rfl) rfl (by decide) (one_lab (carryL L e1 q1 r.ps 3)) ?_)
        intro w18 hbk hc
        rw [splice_whole (labC zLab) (labC (carryL L e1 q1 r.ps 3)) rfl] at hbk
        have hb : Below w16.heap.size w16 w18 := HQno.out.trans (hc.below HQno.out.size (fun q hq he => by have := HGno.out; omega))
        have Fdno : Hid (¬ footD gd gsd lvdw15 gno) := fun hj => by have := DiskAt.lt Ddw16.out.at_ _ hj; have := HGno.out; omega
        have Anno : Hid (hn < gno) := by show _ < _; have := Knw16.out.lt; have := HGno.out; omega
        have Arno : Hid (gr < gno) := by show _ < _; have := Krw16.out.lt; have := HGno.out; omega
        have Awano : Hid (gwa < gno) := by show _ < _; have := Kwaw16.out.lt; have := HGno.out; omega
        have Ew18 : Hid (Below w.heap.size w w18) := Ew16.out.trans (hb.mono Ew16.out.size)
        have Knw18 : Hid (Bk w18 hn (NdC gd (carryL L e1 q1 r.ps 3))) := Knw16.out.below hb
        have Krw18 : Hid (Bk w18 gr [vu32 e1, vu32 q1, .slice r.A r.n r.c]) := Krw16.out.below hb
        have Kwaw18 : Hid (Bk w18 gwa (labC L)) := Kwaw16.out.below hb
        have Ddw18 : Hid (DSes 92 w w18 gd gsd lvdw15 (UpD (appS S e1 q1 r.ps (carryL L e1 q1 r.ps 3)))) := Ddw16.out.below hb
        clear Ew16 Knw16 Krw16 Kwaw16 Ddw16
        have Know18 : Hid (Bk w18 gno (labC (carryL L e1 q1 r.ps 3))) := hbk
        have Know18 : Hid (Bk w18 gno (labC (carryL L e1 q1 r.ps 3))) := hbk
        clear hbk hb hc KZno HQno HGno
        have cr0 : w18.cell? ⟨gr, 0, none⟩ = some (vu32 e1) := Krw18.out.cell rfl
        have cr1 : w18.cell? ⟨gr, 1, none⟩ = some (.int .u32 (q1.toNat : Nat)) := Krw18.out.cell rfl
        have cw2 : w18.cell? ⟨gwa, 2, none⟩ = some (.int .u32 (ln : Nat)) := by have h : w18.cell? ⟨gwa, 2, none⟩ = some (vu32 L.n) := Kwaw18.out.cell rfl; rwa [vu32, HLN.out] at h
        have cn0 : w18.cell? ⟨gno, 0, none⟩ = some (vu32 e1) := Know18.out.cell rfl
        have cn1 : w18.cell? ⟨gno, 1, none⟩ = some (.int .u32 (q1.toNat : Nat)) := Know18.out.cell rfl
        have cn3 : w18.cell? ⟨gno, 3, none⟩ = some (vu16 3) := Know18.out.cell rfl
        obtain ⟨nx, hnx⟩ : ∃ nx, (nextU L.n q1).toNat = nx := ⟨_, rfl⟩
        have cn2 : w18.cell? ⟨gno, 2, none⟩ = some (.int .u32 (nx : Nat)) := by have h : w18.cell? ⟨gno, 2, none⟩ = some (vu32 (nextU L.n q1)) := Know18.out.cell rfl; rwa [vu32, hnx] at h
        have hge := nextU_ge L.n q1
        have hq1 : (q1 + 1).toNat = q1.toNat + 1 := by rw [UInt32.toNat_add]; show (q1.toNat + 1) % 4294967296 = _; have := HQL.out; omega
        have h21 : ¬ ((nx : Nat) : Int) < (q1.toNat : Int) + 1 := by omega
        have h22 : ¬ ((nx : Nat) : Int) < (ln : Nat) := by have := HLN.out; omega
        have h23 : (q1.toNat : Int) + 1 < 4294967296 := by have := HQL.out; omega
        obtain ⟨qn, hqn⟩ : ∃ qn, q1.toNat = qn := ⟨_, rfl⟩
        rw [hqn] at cr1 cn1 h21 h23
        clear hge hq1 hnx hqn
        go_wp2_with fail
        go_roundw
        case rel => exact ⟨k + 1, lvdw15, appS S e1 q1 r.ps (carryL L e1 q1 r.ps 3), (carryL L e1 q1 r.ps 3), by omega, by go_num, Ddw18.out, Knw18.out, Fdn.out, by rw [appS_length]; exact HSL.out⟩
        case measure => simp [intOf]; omega
      case neg =>
        have hlf := Bool.eq_false_iff.2 hlat
        rw [hlf]
        have HLT := Lib.hid hlat
        clear hlat hlf
        go_wp2_with (refine wpList_ld rfl 25 (.tmp 8) rfl gr 0 3 [vu32 e1, vu32 q1, .slice r.A r.n r.c] [vu32 e1, vu32 q1, .slice r.A r.n r.c] rfl Krw14.out (by kernel_rfl) (by kernel_rfl) (Nat.le_refl 3) rfl ?_)
        refine (ndApply_calls w14 gd gsd lv hn (UpD S) L 0 e1 q1 r.ps r.A r.n r.c 3 Ddw14.out.at_ Knw14.out Fdn.out (ok_up _) (by decide) HOK.out.len (fun w' hc => HOK.out.rd.below (Ew14.out.trans (hc.below Ew14.out.size (fun j hj hf => by have := Ddw14.out.fr j hf; omega)))) HOK.out.ok (fun hg _ => put_up_ok HSL.out hg)).mono ?_
        intro en w15 hp
        rw [nApply_old HGD.out HLT.out, labAfter_23] at hp
        have hch := NPost.chg hp
        obtain ⟨rfl, lvdw15, hd, hk, hft⟩ := DSes.npost Ddw14.out hp NHn.out
        have Ddw15 : Hid (DSes 92 w w15 gd gsd lvdw15 (UpD S)) := hd
        have Ew15 : Hid (Below w.heap.size w w15) := hd.bel
        have Krw15 : Hid (Bk w15 gr [vu32 e1, vu32 q1, .slice r.A r.n r.c]) := Krw14.out.chg hch (fun hj => hj.elim Fdr.out (fun he => by have := Anr.out; omega))
        have Fdr : Hid (¬ footD gd gsd lvdw15 gr) := fun hj => (hft _ hj).elim Fdr.out (fun h => by have := Krw14.out.lt; omega)
        have Kwaw15 : Hid (Bk w15 gwa (labC L)) := Kwaw14.out.chg hch (fun hj => hj.elim Fdwa.out (fun he => by have := Anwa.out; omega))
        have Fdwa : Hid (¬ footD gd gsd lvdw15 gwa) := fun hj => (hft _ hj).elim Fdwa.out (fun h => by have := Kwaw14.out.lt; omega)
        have Knw15 : Hid (Bk w15 hn (NdC gd L)) := hk
        have Fdn : Hid (¬ footD gd gsd lvdw15 hn) := fun hj => (hft _ hj).elim Fdn.out (fun h => by have := Knw14.out.lt; omega)
        clear hp hd hk hft hch Knw14 Krw14 Kwaw14 Ddw14 Ew14
        go_wp2_with fail
        refine (ndLabel_calls w15 gd hn L Knw15.out).mono ?_
        rintro en w16 ⟨rfl, hb⟩
        have Ew16 : Hid (Below w.heap.size w w16) := Ew15.out.trans (hb.mono Ew15.out.size)
        have Knw16 : Hid (Bk w16 hn (NdC gd L)) := Knw15.out.below hb
        have Krw16 : Hid (Bk w16 gr [vu32 e1, vu32 q1, .slice r.A r.n r.c]) := Krw15.out.below hb
        have Kwaw16 : Hid (Bk w16 gwa (labC L)) := Kwaw15.out.below hb
        have Ddw16 : Hid (DSes 92 w w16 gd gsd lvdw15 (UpD S)) := Ddw15.out.below hb
        clear Ew15 Knw15 Krw15 Kwaw15 Ddw15
        clear hb
        go_wp2_with (refine wpList_al rfl 40 rfl (labC zLab) (by kernel_rfl) ?_)
        intro gno w17 hg hb hc hs
        have HQno : Hid (Below w16.heap.size w16 w17) := hc.below (Nat.le_refl _) (fun _ _ => id)
        have HGno : Hid (gno = w16.heap.size) := hg
        have KZno := Lib.hid hb
        clear hg hb hc hs
        go_wp2_with (refine wpList_st rfl 40 (.tmp 12) (.tmp 89) rfl gno 0 5 (labC zLab) (labC L) rfl rfl KZno.out (by kernel_rfl) rfl (by decide) (one_lab L) ?_)
        intro w18 hbk hc
        rw [splice_whole (labC zLab) (labC L) rfl] at hbk
        have hb : Below w16.heap.size w16 w18 := HQno.out.trans (hc.below HQno.out.size (fun q hq he => by have := HGno.out; omega))
        have Fdno : Hid (¬ footD gd gsd lvdw15 gno) := fun hj => by have := DiskAt.lt Ddw16.out.at_ _ hj; have := HGno.out; omega
        have Anno : Hid (hn < gno) := by show _ < _; have := Knw16.out.lt; have := HGno.out; omega
        have Arno : Hid (gr < gno) := by show _ < _; have := Krw16.out.lt; have := HGno.out; omega
        have Awano : Hid (gwa < gno) := by show _ < _; have := Kwaw16.out.lt; have := HGno.out; omega
        have Ew18 : Hid (Below w.heap.size w w18) := Ew16.out.trans (hb.mono Ew16.out.size)
        have Knw18 : Hid (Bk w18 hn (NdC gd L)) := Knw16.out.below hb
        have Krw18 : Hid (Bk w18 gr [vu32 e1, vu32 q1, .slice r.A r.n r.c]) := Krw16.out.below hb
        have Kwaw18 : Hid (Bk w18 gwa (labC L)) := Kwaw16.out.below hb
        have Ddw18 : Hid (DSes 92 w w18 gd gsd lvdw15 (UpD S)) := Ddw16.out.below hb
        clear Ew16 Knw16 Krw16 Kwaw16 Ddw16
        have Know18 : Hid (Bk w18 gno (labC L)) := hbk
        have Know18 : Hid (Bk w18 gno (labC L)) := hbk
        clear hbk hb hc KZno HQno HGno
        go_wp2_with (first
          | (refine wpList_ld rfl 40 (.tmp 12) rfl gno 0 5 (labC L) (labC L) rfl Know18.out (by kernel_rfl) (by kernel_rfl) (Nat.le_refl 5) rfl ?_)
          | (refine wpList_ld rfl 40 (.tmp 9) rfl gwa 0 5 (labC L) (labC L) rfl Kwaw18.out (by kernel_rfl) (by kernel_rfl) (Nat.le_refl 5) rfl ?_)
          | (refine wpList_eq_labU rfl true 40 (.tmp 101) (.tmp 102) rfl L L rfl rfl false (by simp) ?_))
        intro wsm hsm
        obtain rfl : w18 = wsm := hsm
        go_wp2_with fail
        go_roundw
        case rel => exact ⟨k + 1, lvdw15, S, L, by omega, by go_num, Ddw18.out, Knw18.out, Fdn.out, HSL.out⟩
        case measure => simp [intOf]; omega
end Go.Proofs.Ytcmfkdfegfablaa
