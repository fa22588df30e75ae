/- The walks of a sector with a check: what the program's functions compute. -/
import Derived.Test.YtnpcehlbboeadaaSealWc
import Derived.Test.YtnpcehlbboeadaaBlk
import Derived.Test.YtnpcehlbboeadaaArr
namespace Go.Proofs.Ytnpcehlbboeadaa
open Go.RowKit
set_option linter.unusedVariables false
set_option linter.unusedSimpArgs false


def bodyOf (x : List UInt8) : List UInt8 := (x.drop 1).take 29
/-- What Decode answers. -/
def decR (x : List UInt8) : List UInt8 × Int := if x.getD 0 0 = 0 ∨ secOf (x.getD 0 0) (bodyOf x) ≠ x then (List.replicate 30 0, 11) else (x.getD 0 0 :: bodyOf x, 0)
set_option maxRecDepth 100000 in
set_option maxHeartbeats 2000000 in
theorem sealDecode_calls (x : List UInt8) (w : World) (hx : x.length = 32) :
    Calls Try.prog 45 #[.agg (bts x).toArray] w fun e w' => e = .returned (.tuple #[.agg (bts (decR x).1).toArray, .int .i64 (decR x).2]) ∧ Below w.heap.size w w' := by
  have hbl : (bodyOf x).length = 29 := by simp [bodyOf, hx]
  have hbd : ((bts x).drop 1).take 29 = bts (bodyOf x) := by rw [bts_drop, bts_take]; rfl
  have h0 : (bts x)[0]? = some (vu8 (x.getD 0 0)) := bts_get (by omega)
  have hd : decR x = if x.getD 0 0 = 0 ∨ secOf (x.getD 0 0) (bodyOf x) ≠ x then (List.replicate 30 0, 11) else (x.getD 0 0 :: bodyOf x, 0) := rfl
  rw [hd]
  clear hd
  generalize bodyOf x = b at hbl hbd ⊢
  generalize x.getD 0 0 = m at h0 ⊢
  have hso : secOf m b = m :: b ++ [(crcCheck (m :: b)).toUInt8, (crcCheck (m :: b) >>> 8).toUInt8] := rfl
  rw [hso]
  generalize hq : decide ((m :: b ++ [(crcCheck (m :: b)).toUInt8, (crcCheck (m :: b) >>> 8).toUInt8]) = x) = q
  have hr : (if m = 0 ∨ (m :: b ++ [(crcCheck (m :: b)).toUInt8, (crcCheck (m :: b) >>> 8).toUInt8]) ≠ x then (List.replicate 30 (0 : UInt8), (11 : Int)) else (m :: b, 0)) = if m = 0 ∨ q = false then (List.replicate 30 0, 11) else (m :: b, 0) := by
    rw [← hq]
    simp
  rw [hr]
  clear hr hso
  have HL := Lib.hid hx
  have HBL := Lib.hid hbl
  have HBD := Lib.hid hbd
  have HQ := Lib.hid hq
  clear hx hbl hbd hq
  generalize hres : (if m = 0 ∨ q = false then (List.replicate 30 (0 : UInt8), (11 : Int)) else (m :: b, 0)) = res
  have HRES := Lib.hid hres
  clear hres
  generalize hvs : bts x = vx at h0
  go_enter Try.func45, Try.ntmps45
  go_wp2_with (refine wpList_al rfl 97 rfl (zb 30) (by kernel_rfl) ?_)
  intro g w0 hg hb0 hc0 hs0
  obtain rfl : g = w.heap.size + 1 := by simp [hg]
  have HB : Hid (Bk w0 w.heap.size (bts x)) := by rw [hvs]; exact (Bk.new w vx _).chg hc0 id
  have HZ := Lib.hid hb0
  have HBel : Hid (Below w.heap.size w w0) := ((Below.refl _ _).alloc (Nat.le_refl _) _).trans (hc0.below (by simp) (fun _ _ => id))
  have HC : Hid (w0.cell? ⟨w.heap.size, 0, none⟩ = some (vu8 m)) := by rw [← hvs] at h0; exact HB.out.cell h0
  have HS0 : Hid (w0.heap.size = w.heap.size + 2) := hs0
  clear hg hb0 hc0 hs0 h0 hvs
  go_wp2_with fail
  apply wp_region_rel 7 (Chg NoS) [(Veq _), (Veq _), (Veq _), (Veq _), (Veq _), (Veq _), (PtrAt NoS w0.heap.size (zb 30))] [[], [0], [], [2], [3], [1, 4], []] [5, 6, 7, 8, 9, 10, 4] (by kernel_rfl) (by kernel_rfl) rfl rfl rfl Chg.refl (fun _ _ _ => Chg.trans) ⟨Veq.lasts, Veq.lasts, Veq.lasts, Veq.lasts, Veq.lasts, Veq.lasts, PtrAt.lasts, trivial⟩ ?aops ?afin
  case aops =>
    refine ⟨?ao0, ?ao1, ?ao2, ?ao3, ?ao4, ?ao5, ?ao6, trivial⟩
    case ao0 =>
      intro a wx hE hin
      have i1 : a.eval (.tmp 1) = .pointer (some ⟨w.heap.size, 0, none⟩) := hin 1 rfl
      clear hin
      have hcst : ∀ v, a.eval (.const v) = v := fun _ => rfl
      have hfnc : ∀ f, a.eval (.func f) = .func (.func f) #[] #[] := fun _ => rfl
      refine want_none rfl ?_
      unfold Oper.wp
      generalize a.eval = ρ at *
      go_simp
      try go_bits
      first | exact rel_val (Chg.refl _) | (go_simp; exact rel_val (Chg.refl _))
    case ao1 =>
      rintro a wx hE hin (h0 : a.eval (.tmp 5) = _)
      clear hin
      have hcst : ∀ v, a.eval (.const v) = v := fun _ => rfl
      have hfnc : ∀ f, a.eval (.func f) = .func (.func f) #[] #[] := fun _ => rfl
      refine want_none rfl ?_
      unfold Oper.wp
      generalize a.eval = ρ at *
      have c := hE.cell (w := w0.drew) HC.out id
      go_simp
      try go_bits
      first | exact rel_val (Chg.refl _) | (go_simp; exact rel_val (Chg.refl _))
    case ao2 =>
      intro a wx hE hin
      have i1 : a.eval (.tmp 1) = .pointer (some ⟨w.heap.size, 0, none⟩) := hin 1 rfl
      clear hin
      have hcst : ∀ v, a.eval (.const v) = v := fun _ => rfl
      have hfnc : ∀ f, a.eval (.func f) = .func (.func f) #[] #[] := fun _ => rfl
      refine want_none rfl ?_
      unfold Oper.wp
      generalize a.eval = ρ at *
      go_simp
      try go_bits
      first | exact rel_val (Chg.refl _) | (go_simp; exact rel_val (Chg.refl _))
    case ao3 =>
      rintro a wx hE hin (h2 : a.eval (.tmp 7) = _)
      clear hin
      have hcst : ∀ v, a.eval (.const v) = v := fun _ => rfl
      have hfnc : ∀ f, a.eval (.func f) = .func (.func f) #[] #[] := fun _ => rfl
      refine want_none rfl ?_
      unfold Oper.wp
      generalize a.eval = ρ at *
      go_simp
      try go_bits
      first | exact rel_val (Chg.refl _) | (go_simp; exact rel_val (Chg.refl _))
    case ao4 =>
      rintro a wx hE hin (h3 : a.eval (.tmp 8) = _)
      clear hin
      have hcst : ∀ v, a.eval (.const v) = v := fun _ => rfl
      have hfnc : ∀ f, a.eval (.func f) = .func (.func f) #[] #[] := fun _ => rfl
      refine want_none rfl ?_
      exact wp_ld 95 _ rfl w.heap.size 1 29 (bts x) (bts b) h3 ((HB.out.drew).chg hE id) (by kernel_rfl) (by kernel_rfl) (by rw [bts_length, HL.out]; decide) HBD.out (rel_val (Chg.refl _))
    case ao5 =>
      rintro a wx hE hin (h1 : a.eval (.tmp 6) = _) (h4 : a.eval (.tmp 9) = _)
      clear hin
      have hcst : ∀ v, a.eval (.const v) = v := fun _ => rfl
      have hfnc : ∀ f, a.eval (.func f) = .func (.func f) #[] #[] := fun _ => rfl
      refine want_none rfl ?_
      exact wp_bld2 97 0 1 _ _ rfl 30 (zb 30) [(0, 1), (1, 29)] (by kernel_rfl) (by kernel_rfl) [vu8 m] (bts b) (by rw [h1]; rfl) (by rw [h4]; rfl) rfl (by rw [bts_length, HBL.out]; rfl) (by rw [bts_length, HBL.out]; rfl) (rel_val (Chg.refl _))
    case ao6 =>
      intro a wx hE hin
      clear hin
      have hcst : ∀ v, a.eval (.const v) = v := fun _ => rfl
      have hfnc : ∀ f, a.eval (.func f) = .func (.func f) #[] #[] := fun _ => rfl
      refine want_none rfl ?_
      exact wp_al 97 rfl (zb 30) (by kernel_rfl) ⟨_, rfl, ⟨wx.heap.size, rfl, hE.size, id, Bk.new _ _ _⟩, (Chg.refl _).alloc _⟩
  case afin =>
    intro wx hE
    rintro _ rfl _ rfl _ rfl _ rfl _ rfl _ rfl _ ⟨gg, rfl, p6, n6, b6⟩
    simp only [FinOk, List.take_succ_cons, List.take_zero, List.take_nil, List.drop_succ_cons, List.drop_zero, List.drop_nil, Act.put, List.setIfInBounds_toArray, List.set_cons_succ, List.set_cons_zero]
    rw [HS0.out] at p6
    have hng : gg ≠ w.heap.size := by omega
    have hng1 : gg ≠ w.heap.size + 1 := by omega
    have hgg : w.heap.size ≤ gg := by omega
    refine wpList_st rfl 97 _ _ rfl gg 0 30 (zb 30) (bts (m :: b)) rfl rfl b6 (by kernel_rfl) (by simp [HBL.out]) (by decide) (one_bts _) ?_
    intro w3 hb3 hc3
    rw [splice_whole (zb 30) (bts (m :: b)) (by simp [HBL.out, zb])] at hb3
    have HE3 : Hid (Below w.heap.size w w3) := HBel.out.trans ((hE.undrew.below (B := w.heap.size) HBel.out.size (fun _ _ => id)).trans (hc3.below (Nat.le_trans HBel.out.size hE.size) (fun k hk he => by omega)))
    have HB3 : Hid (Bk w3 w.heap.size (bts x)) := (HB.out.drew.chg hE id).chg hc3 (Ne.symm hng)
    have HZ3 : Hid (Bk w3 (w.heap.size + 1) (zb 30)) := (HZ.out.drew.chg hE id).chg hc3 (Ne.symm hng1)
    have HC3 : Hid (w3.cell? ⟨gg, 0, none⟩ = some (vu8 m)) := hb3.cell rfl
    have HG3 := Lib.hid hb3
    clear hb3 hc3 hE b6 p6
    go_wp2_with fail
    by_cases hm : m = 0
    · have hmi : ((m.toNat : Int) == 0) = true := by subst hm; rfl
      apply wp_region_rel 10 (Chg NoS) [(Veq _), (Veq _), (Veq _), (Veq _), (Veq undef), (Veq undef), (Veq undef), (Veq undef), (Veq undef), (Veq _)] [[], [0], [1], [2], [3], [3], [3], [3], [3], [3, 8]] [11, 12, 13, 14, 15, 16, 17, 18, 19, 20] (by kernel_rfl) (by kernel_rfl) rfl rfl rfl Chg.refl (fun _ _ _ => Chg.trans) ⟨Veq.lasts, Veq.lasts, Veq.lasts, Veq.lasts, Veq.lasts, Veq.lasts, Veq.lasts, Veq.lasts, Veq.lasts, Veq.lasts, trivial⟩ ?bops ?bfin
      case bops =>
        refine ⟨?bo0, ?bo1, ?bo2, ?bo3, ?bo4, ?bo5, ?bo6, ?bo7, ?bo8, ?bo9, trivial⟩
        case bo0 =>
          intro a wx hE hin
          have i4 : a.eval (.tmp 4) = .pointer (some ⟨gg, 0, none⟩) := hin 4 rfl
          clear hin
          have hcst : ∀ v, a.eval (.const v) = v := fun _ => rfl
          have hfnc : ∀ f, a.eval (.func f) = .func (.func f) #[] #[] := fun _ => rfl
          refine want_none rfl ?_
          unfold Oper.wp
          generalize a.eval = ρ at *
          go_simp
          try go_bits
          first | exact rel_val (Chg.refl _) | (go_simp; exact rel_val (Chg.refl _))
        case bo1 =>
          rintro a wx hE hin (h0 : a.eval (.tmp 11) = _)
          clear hin
          have hcst : ∀ v, a.eval (.const v) = v := fun _ => rfl
          have hfnc : ∀ f, a.eval (.func f) = .func (.func f) #[] #[] := fun _ => rfl
          refine want_none rfl ?_
          unfold Oper.wp
          generalize a.eval = ρ at *
          have c := hE.cell (w := w3.drew) HC3.out id
          go_simp
          try go_bits
          first | exact rel_val (Chg.refl _) | (go_simp; exact rel_val (Chg.refl _))
        case bo2 =>
          rintro a wx hE hin (h1 : a.eval (.tmp 12) = _)
          clear hin
          have hcst : ∀ v, a.eval (.const v) = v := fun _ => rfl
          have hfnc : ∀ f, a.eval (.func f) = .func (.func f) #[] #[] := fun _ => rfl
          refine want_none rfl ?_
          unfold Oper.wp
          generalize a.eval = ρ at *
          go_simp
          try go_bits
          first | exact rel_val (Chg.refl _) | (go_simp; exact rel_val (Chg.refl _))
        case bo3 =>
          rintro a wx hE hin (h2 : a.eval (.tmp 13) = _)
          clear hin
          have hcst : ∀ v, a.eval (.const v) = v := fun _ => rfl
          have hfnc : ∀ f, a.eval (.func f) = .func (.func f) #[] #[] := fun _ => rfl
          refine want_none rfl ?_
          unfold Oper.wp
          generalize a.eval = ρ at *
          go_simp
          try go_bits
          first | exact rel_val (Chg.refl _) | (go_simp; exact rel_val (Chg.refl _))
        case bo4 =>
          rintro a wx hE hin (h3 : a.eval (.tmp 14) = _)
          clear hin
          exact want_not rfl rfl h3 rfl
        case bo5 =>
          rintro a wx hE hin (h3 : a.eval (.tmp 14) = _)
          clear hin
          exact want_not rfl rfl h3 rfl
        case bo6 =>
          rintro a wx hE hin (h3 : a.eval (.tmp 14) = _)
          clear hin
          exact want_not rfl rfl h3 rfl
        case bo7 =>
          rintro a wx hE hin (h3 : a.eval (.tmp 14) = _)
          clear hin
          exact want_not rfl rfl h3 rfl
        case bo8 =>
          rintro a wx hE hin (h3 : a.eval (.tmp 14) = _)
          clear hin
          exact want_not rfl rfl h3 rfl
        case bo9 =>
          rintro a wx hE hin (h3 : a.eval (.tmp 14) = _) (h8 : a.eval (.tmp 19) = _)
          clear hin
          have hcst : ∀ v, a.eval (.const v) = v := fun _ => rfl
          have hfnc : ∀ f, a.eval (.func f) = .func (.func f) #[] #[] := fun _ => rfl
          refine want_none rfl ?_
          unfold Oper.wp
          generalize a.eval = ρ at *
          go_simp
          try go_bits
          first | exact rel_val (Chg.refl _) | (go_simp; exact rel_val (Chg.refl _))
      case bfin =>
        intro wx hE
        rintro _ rfl _ rfl _ rfl _ rfl _ rfl _ rfl _ rfl _ rfl _ rfl _ rfl
        simp only [FinOk, List.take_succ_cons, List.take_zero, List.take_nil, List.drop_succ_cons, List.drop_zero, List.drop_nil, Act.put, List.setIfInBounds_toArray, List.set_cons_succ, List.set_cons_zero]
        have HE4 : Hid (Below w.heap.size w wx) := HE3.out.trans (hE.undrew.below (B := w.heap.size) HE3.out.size (fun _ _ => id))
        have HZ4 : Hid (Bk wx (w.heap.size + 1) (zb 30)) := HZ3.out.drew.chg hE id
        have HG4 : Hid (Bk wx gg (bts (m :: b))) := HG3.out.drew.chg hE id
        clear hE
        have hres := HRES.out
        rw [if_pos (.inl hm)] at hres
        subst hres
        go_wp2_with (first
          | (refine wpList_bld rfl 97 [] rfl (zb 30) [] (zb 30) (by kernel_rfl) (by kernel_rfl) trivial rfl ?_)
          | (refine wpList_st rfl 97 _ _ rfl (w.heap.size + 1) 0 30 (zb 30) (zb 30) rfl rfl HZ4.out (by kernel_rfl) rfl (by decide) (by decide) ?_))
        intro w5 hb5 hc5
        rw [splice_whole (zb 30) (zb 30) rfl] at hb5
        go_wp2_with fail
        (try simp only [Exit.inBlock, Exit.then])
        refine bodyPost_ret (res_cell_tmp rfl _ _ (w.heap.size + 1) 30 (zb 30) rfl hb5 (by kernel_rfl) (by kernel_rfl) rfl) rfl ?_
        exact ⟨rfl, HE4.out.trans (hc5.below HE4.out.size (fun k hk he => by omega))⟩
    · have hmi : ((m.toNat : Int) == 0) = false := by simpa using (fun h => hm (UInt8.toNat_inj.1 (by simpa using h)) : ¬ ((m.toNat : Int) = 0))
      apply wp_region_rel 10 (Chg NoS) [(Veq _), (Veq _), (Veq _), (Veq _), (Veq _), (Veq _), (Veq _), (Veq _), (Veq (.bool (!q))), (Veq _)] [[], [0], [1], [2], [3], [3, 4], [3, 5], [3], [3, 6, 7], [3, 8]] [11, 12, 13, 14, 15, 16, 17, 18, 19, 20] (by kernel_rfl) (by kernel_rfl) rfl rfl rfl Chg.refl (fun _ _ _ => Chg.trans) ⟨Veq.lasts, Veq.lasts, Veq.lasts, Veq.lasts, Veq.lasts, Veq.lasts, Veq.lasts, Veq.lasts, Veq.lasts, Veq.lasts, trivial⟩ ?bops ?bfin
      case bops =>
        refine ⟨?bo0, ?bo1, ?bo2, ?bo3, ?bo4, ?bo5, ?bo6, ?bo7, ?bo8, ?bo9, trivial⟩
        case bo0 =>
          intro a wx hE hin
          have i4 : a.eval (.tmp 4) = .pointer (some ⟨gg, 0, none⟩) := hin 4 rfl
          clear hin
          have hcst : ∀ v, a.eval (.const v) = v := fun _ => rfl
          have hfnc : ∀ f, a.eval (.func f) = .func (.func f) #[] #[] := fun _ => rfl
          refine want_none rfl ?_
          unfold Oper.wp
          generalize a.eval = ρ at *
          go_simp
          try go_bits
          first | exact rel_val (Chg.refl _) | (go_simp; exact rel_val (Chg.refl _))
        case bo1 =>
          rintro a wx hE hin (h0 : a.eval (.tmp 11) = _)
          clear hin
          have hcst : ∀ v, a.eval (.const v) = v := fun _ => rfl
          have hfnc : ∀ f, a.eval (.func f) = .func (.func f) #[] #[] := fun _ => rfl
          refine want_none rfl ?_
          unfold Oper.wp
          generalize a.eval = ρ at *
          have c := hE.cell (w := w3.drew) HC3.out id
          go_simp
          try go_bits
          first | exact rel_val (Chg.refl _) | (go_simp; exact rel_val (Chg.refl _))
        case bo2 =>
          rintro a wx hE hin (h1 : a.eval (.tmp 12) = _)
          clear hin
          have hcst : ∀ v, a.eval (.const v) = v := fun _ => rfl
          have hfnc : ∀ f, a.eval (.func f) = .func (.func f) #[] #[] := fun _ => rfl
          refine want_none rfl ?_
          unfold Oper.wp
          generalize a.eval = ρ at *
          go_simp
          try go_bits
          first | exact rel_val (Chg.refl _) | (go_simp; exact rel_val (Chg.refl _))
        case bo3 =>
          rintro a wx hE hin (h2 : a.eval (.tmp 13) = _)
          clear hin
          have hcst : ∀ v, a.eval (.const v) = v := fun _ => rfl
          have hfnc : ∀ f, a.eval (.func f) = .func (.func f) #[] #[] := fun _ => rfl
          refine want_none rfl ?_
          unfold Oper.wp
          generalize a.eval = ρ at *
          go_simp
          try go_bits
          first | exact rel_val (Chg.refl _) | (go_simp; exact rel_val (Chg.refl _))
        case bo4 =>
          rintro a wx hE hin (h3 : a.eval (.tmp 14) = _)
          have i4 : a.eval (.tmp 4) = .pointer (some ⟨gg, 0, none⟩) := hin 4 rfl
          clear hin
          have hcst : ∀ v, a.eval (.const v) = v := fun _ => rfl
          have hfnc : ∀ f, a.eval (.func f) = .func (.func f) #[] #[] := fun _ => rfl
          refine want_yes rfl rfl h3 ?_
          exact wp_ld 97 _ rfl gg 0 30 (bts (m :: b)) (bts (m :: b)) i4 ((HG3.out.drew).chg hE id) (by kernel_rfl) (by kernel_rfl) (by simp [HBL.out]) (by rw [List.drop_zero, List.take_of_length_le (by simp [HBL.out])]) (rel_val (Chg.refl _))
        case bo5 =>
          rintro a wx hE hin (h3 : a.eval (.tmp 14) = _) (h4 : a.eval (.tmp 15) = _)
          clear hin
          have hcst : ∀ v, a.eval (.const v) = v := fun _ => rfl
          have hfnc : ∀ f, a.eval (.func f) = .func (.func f) #[] #[] := fun _ => rfl
          refine want_yes rfl rfl h3 ?_
          unfold Oper.wp
          generalize a.eval = ρ at *
          go_simp
          refine (checkedOf_calls m b wx HBL.out).mono ?_
          rintro e w' ⟨rfl, hb⟩
          exact rel_val (.of_below hb)
        case bo6 =>
          rintro a wx hE hin (h3 : a.eval (.tmp 14) = _) (h5 : a.eval (.tmp 16) = _)
          clear hin
          have hcst : ∀ v, a.eval (.const v) = v := fun _ => rfl
          have hfnc : ∀ f, a.eval (.func f) = .func (.func f) #[] #[] := fun _ => rfl
          refine want_yes rfl rfl h3 ?_
          unfold Oper.wp
          generalize a.eval = ρ at *
          go_simp
          refine (sealBlock_calls m b (crcCheck (m :: b)) wx HBL.out).mono ?_
          rintro e w' ⟨rfl, hb⟩
          exact rel_val (.of_below hb)
        case bo7 =>
          rintro a wx hE hin (h3 : a.eval (.tmp 14) = _)
          have i1 : a.eval (.tmp 1) = .pointer (some ⟨w.heap.size, 0, none⟩) := hin 1 rfl
          clear hin
          have hcst : ∀ v, a.eval (.const v) = v := fun _ => rfl
          have hfnc : ∀ f, a.eval (.func f) = .func (.func f) #[] #[] := fun _ => rfl
          refine want_yes rfl rfl h3 ?_
          exact wp_ld 37 _ rfl w.heap.size 0 32 (bts x) (bts x) i1 ((HB3.out.drew).chg hE id) (by kernel_rfl) (by kernel_rfl) (by rw [bts_length, HL.out]; decide) (by rw [List.drop_zero, List.take_of_length_le (by simp [HL.out])]) (rel_val (Chg.refl _))
        case bo8 =>
          rintro a wx hE hin (h3 : a.eval (.tmp 14) = _) (h6 : a.eval (.tmp 17) = _) (h7 : a.eval (.tmp 18) = _)
          clear hin
          have hcst : ∀ v, a.eval (.const v) = v := fun _ => rfl
          have hfnc : ∀ f, a.eval (.func f) = .func (.func f) #[] #[] := fun _ => rfl
          refine want_yes rfl rfl h3 ?_
          refine wp_eq_bytes true 37 _ _ _ rfl 5 32 (by kernel_rfl) Try.underlying5 (by kernel_rfl) (by kernel_rfl) (m :: b ++ [(crcCheck (m :: b)).toUInt8, (crcCheck (m :: b) >>> 8).toUInt8]) x h6 h7 (by simp [HBL.out]) HL.out ?_
          rw [HQ.out]
          cases q <;> exact rel_val (Chg.refl _)
        case bo9 =>
          rintro a wx hE hin (h3 : a.eval (.tmp 14) = _) (h8 : a.eval (.tmp 19) = _)
          clear hin
          have hcst : ∀ v, a.eval (.const v) = v := fun _ => rfl
          have hfnc : ∀ f, a.eval (.func f) = .func (.func f) #[] #[] := fun _ => rfl
          refine want_none rfl ?_
          unfold Oper.wp
          generalize a.eval = ρ at *
          go_simp
          try go_bits
          first | exact rel_val (Chg.refl _) | (go_simp; exact rel_val (Chg.refl _))
      case bfin =>
        intro wx hE
        rintro _ rfl _ rfl _ rfl _ rfl _ rfl _ rfl _ rfl _ rfl _ rfl _ rfl
        simp only [FinOk, List.take_succ_cons, List.take_zero, List.take_nil, List.drop_succ_cons, List.drop_zero, List.drop_nil, Act.put, List.setIfInBounds_toArray, List.set_cons_succ, List.set_cons_zero]
        have HE4 : Hid (Below w.heap.size w wx) := HE3.out.trans (hE.undrew.below (B := w.heap.size) HE3.out.size (fun _ _ => id))
        have HZ4 : Hid (Bk wx (w.heap.size + 1) (zb 30)) := HZ3.out.drew.chg hE id
        have HG4 : Hid (Bk wx gg (bts (m :: b))) := HG3.out.drew.chg hE id
        clear hE
        cases q
        · have hres := HRES.out
          rw [if_pos (.inr rfl)] at hres
          subst hres
          go_wp2_with (first
            | (refine wpList_bld rfl 97 [] rfl (zb 30) [] (zb 30) (by kernel_rfl) (by kernel_rfl) trivial rfl ?_)
            | (refine wpList_st rfl 97 _ _ rfl (w.heap.size + 1) 0 30 (zb 30) (zb 30) rfl rfl HZ4.out (by kernel_rfl) rfl (by decide) (by decide) ?_))
          intro w5 hb5 hc5
          rw [splice_whole (zb 30) (zb 30) rfl] at hb5
          go_wp2_with fail
          (try simp only [Exit.inBlock, Exit.then])
          refine bodyPost_ret (res_cell_tmp rfl _ _ (w.heap.size + 1) 30 (zb 30) rfl hb5 (by kernel_rfl) (by kernel_rfl) rfl) rfl ?_
          exact ⟨rfl, HE4.out.trans (hc5.below HE4.out.size (fun k hk he => by omega))⟩
        · have hres := HRES.out
          rw [if_neg (fun h => h.elim hm (by decide))] at hres
          subst hres
          go_wp2_with (first
            | (refine wpList_ld rfl 97 _ rfl gg 0 30 (bts (m :: b)) (bts (m :: b)) rfl HG4.out (by kernel_rfl) (by kernel_rfl) (by simp [HBL.out]) (by rw [List.drop_zero, List.take_of_length_le (by simp [HBL.out])]) ?_)
            | (refine wpList_st rfl 97 _ _ rfl (w.heap.size + 1) 0 30 (zb 30) (bts (m :: b)) rfl rfl HZ4.out (by kernel_rfl) (by simp [HBL.out]) (by decide) (one_bts _) ?_))
          intro w5 hb5 hc5
          rw [splice_whole (zb 30) (bts (m :: b)) (by simp [HBL.out, zb])] at hb5
          go_wp2_with fail
          (try simp only [Exit.inBlock, Exit.then])
          refine bodyPost_ret (res_cell_tmp rfl _ _ (w.heap.size + 1) 30 (bts (m :: b)) rfl hb5 (by kernel_rfl) (by kernel_rfl) (by simp [HBL.out])) rfl ?_
          exact ⟨rfl, HE4.out.trans (hc5.below HE4.out.size (fun k hk he => by omega))⟩
end Go.Proofs.Ytnpcehlbboeadaa
