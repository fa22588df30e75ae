/- The walk of the reference's Decode. -/
import Derived.Test.YtnpcehlbboeadaaSealRb
import Derived.Test.YtnpcehlbboeadaaRelS
namespace Go.Proofs.Ytnpcehlbboeadaa
open Go.RowKit
set_option linter.unusedVariables false
set_option linter.unusedSimpArgs false


theorem padB_full {b : List UInt8} (h : b.length = 29) : padB b = b := by simp [padB, h]
theorem one_got (l : List UInt8) (z : Int) : ∀ u ∈ bts l ++ [Value.int .i64 z], u.oneCell' = true := by
  intro u hu
  rcases List.mem_append.1 hu with hu | hu
  · exact one_bts l u hu
  · obtain rfl := List.mem_singleton.1 hu; rfl
theorem one_got0 (m : UInt8) : ∀ u ∈ vu8 m :: (zb 29 ++ [Value.int .i64 0]), u.oneCell' = true := one_got (m :: List.replicate 29 0) 0
theorem got_cells (m : UInt8) (b : List UInt8) (h : b.length = 29) : splice (vu8 m :: (zb 29 ++ [Value.int .i64 0])) 1 ((bts b).take 29) = bts (m :: b) ++ [Value.int .i64 0] := by
  rw [List.take_of_length_le (by simp [h])]
  simp only [splice, bts_length, h]
  simp [zb, bts]
set_option maxRecDepth 100000 in
set_option maxHeartbeats 1000000 in
theorem refDecode_calls (x : List UInt8) (w : World) (hx : x.length = 32) :
    Calls Try.prog 47 #[.agg (bts x).toArray] w fun e w' => e = .returned (.agg (bts (decR x).1 ++ [Value.int .i64 (decR x).2]).toArray) ∧ Below w.heap.size w w' := by
  have hbl : (bodyOf x).length = 29 := by simp [bodyOf, hx]
  have hbd : ((bts x).drop 1).take 29 = bts (bodyOf x) := by rw [bts_drop, bts_take]; rfl
  have h0 : (bts x)[0]? = some (vu8 (x.getD 0 0)) := bts_get (by omega)
  have hd : decR x = if x.getD 0 0 = 0 ∨ secOf (x.getD 0 0) (bodyOf x) ≠ x then (List.replicate 30 0, 11) else (x.getD 0 0 :: bodyOf x, 0) := rfl
  rw [hd]
  clear hd
  generalize bodyOf x = b at hbl hbd ⊢
  generalize x.getD 0 0 = m at h0 ⊢
  generalize hq : decide (secOf m b = x) = q
  have hr : (if m = 0 ∨ secOf m b ≠ x then (List.replicate 30 (0 : UInt8), (11 : Int)) else (m :: b, 0)) = if m = 0 ∨ q = false then (List.replicate 30 0, 11) else (m :: b, 0) := by
    rw [← hq]
    simp
  rw [hr]
  clear hr
  obtain ⟨rs, hrs⟩ : ∃ rs, rs = if m = 0 then List.replicate 32 0 else secOf m b := ⟨_, rfl⟩
  obtain ⟨en, hen⟩ : ∃ en : Int, en = if m = 0 then 1 else 0 := ⟨_, rfl⟩
  have henr : encR m b = (rs, en) := by
    by_cases hm : m = 0
    · rw [encR_no (.inl hm), hrs, hen, if_pos hm, if_pos hm]
    · rw [encR_yes (fun h => h.elim hm (by omega)), hrs, hen, if_neg hm, if_neg hm, padB_full hbl]
  have hsl : rs.length = 32 := by
    rw [hrs]
    split
    · simp
    · exact secOf_length hbl
  have HSP := Lib.hid (got_cells m b hbl)
  have HEN := Lib.hid henr
  have HENV := Lib.hid hen
  have HRS := Lib.hid hrs
  have HSL := Lib.hid hsl
  have HL := Lib.hid hx
  have HBL := Lib.hid hbl
  have HBD := Lib.hid hbd
  have HQ := Lib.hid hq
  have H00 := Lib.hid h0
  clear hx hbl hbd hq hrs hen hsl henr
  generalize hres : (if m = 0 ∨ q = false then (List.replicate 30 (0 : UInt8), (11 : Int)) else (m :: b, 0)) = res
  have HRES := Lib.hid hres
  clear hres
  generalize hvs : bts x = vx at h0
  go_enter Try.func47, Try.ntmps47
  go_wp2_with (refine wpList_al rfl 102 rfl (zb 30 ++ [Value.int .i64 0]) (by kernel_rfl) ?_)
  intro g w0 hg hb0 hc0 hs0
  obtain rfl : g = w.heap.size + 1 := by simp [hg]
  have HB : Hid (Bk w0 w.heap.size (bts x)) := by rw [hvs]; exact (Bk.new w vx _).chg hc0 id
  have HZ := Lib.hid hb0
  have HBel : Hid (Below w.heap.size w w0) := ((Below.refl _ _).alloc (Nat.le_refl _) _).trans (hc0.below (by simp) (fun _ _ => id))
  have HC : Hid (w0.cell? ⟨w.heap.size, 0, none⟩ = some (vu8 m)) := by rw [← hvs] at h0; exact HB.out.cell h0
  have HS0 : Hid (w0.heap.size = w.heap.size + 2) := hs0
  clear hg hb0 hc0 hs0 h0 hvs
  go_wp2_with fail
  apply wp_region_rels 10 8 3 (PtrAt NoS w0.heap.size (bts rs)) (Chg (fun k => w0.heap.size ≤ k)) (Chg NoS) (ChgNew w0.heap.size) [(Veq _), (Veq _), (Veq _), (Veq _), (Veq _), (Veq _), (Veq _), (PtrLen w0.heap.size 32), (fun _ _ => True), (Veq _)] [[], [0], [], [1, 2], [3], [4], [4], [], [5, 7], [6]] [7, 8, 9, 10, 6, 11, 12, 3, 4] (by kernel_rfl) (by kernel_rfl) rfl rfl (by kernel_rfl) (by kernel_rfl) Chg.refl (fun _ _ _ => Chg.trans) (fun _ _ h => h.mono (fun _ hk => hk.elim)) (fun _ _ h => h.1) ⟨Veq.lasts, Veq.lasts, Veq.lasts, Veq.lasts, Veq.lasts, Veq.lasts, Veq.lasts, PtrLen.lasts, (fun _ _ _ _ _ => trivial), Veq.lasts, trivial⟩ ⟨Veq.lasts, Veq.lasts, Veq.lasts, Veq.lasts, Veq.lasts, Veq.lasts, Veq.lasts, PtrLen.lastsS, (fun _ _ _ _ _ => trivial), Veq.lasts, trivial⟩ PtrAt.lasts (fun F h w => by cases h; trivial) ?aops ?afin
  case aops =>
    refine ⟨?ao0, ?ao1, ?ao2, ?ao3, ?ao4, ?ao5, ?ao6, ?ao7, ?ao8, ?ao9, trivial⟩
    case ao0 =>
      rw [if_neg (by decide)]
      intro a wx hE hin
      have i1 : a.eval (.tmp 1) = .pointer (some ⟨w.heap.size, 0, none⟩) := hin 1 rfl
      clear hin
      have hcst : ∀ v, a.eval (.const v) = v := fun _ => rfl
      have hfnc : ∀ f, a.eval (.func f) = .func (.func f) #[] #[] := fun _ => rfl
      refine want_none rfl ?_
      unfold Oper.wp
      generalize a.eval = ρ at *
      go_simp
      try go_bits
      first | exact rel_val (Chg.refl _) | (go_simp; exact rel_val (Chg.refl _))
    case ao1 =>
      rw [if_neg (by decide)]
      rintro a wx hE hin (h0 : a.eval (.tmp 7) = _)
      clear hin
      have hcst : ∀ v, a.eval (.const v) = v := fun _ => rfl
      have hfnc : ∀ f, a.eval (.func f) = .func (.func f) #[] #[] := fun _ => rfl
      refine want_none rfl ?_
      unfold Oper.wp
      generalize a.eval = ρ at *
      have c := hE.cell (w := w0.drew) HC.out (show ¬ (w0.heap.size ≤ w.heap.size) by have := HS0.out; omega)
      go_simp
      try go_bits
      first | exact rel_val (Chg.refl _) | (go_simp; exact rel_val (Chg.refl _))
    case ao2 =>
      rw [if_neg (by decide)]
      intro a wx hE hin
      have i1 : a.eval (.tmp 1) = .pointer (some ⟨w.heap.size, 0, none⟩) := hin 1 rfl
      clear hin
      have hcst : ∀ v, a.eval (.const v) = v := fun _ => rfl
      have hfnc : ∀ f, a.eval (.func f) = .func (.func f) #[] #[] := fun _ => rfl
      refine want_none rfl ?_
      unfold Oper.wp
      generalize a.eval = ρ at *
      go_simp
      try go_bits
      first | exact rel_val (Chg.refl _) | (go_simp; exact rel_val (Chg.refl _))
    case ao3 =>
      rw [if_neg (by decide)]
      rintro a wx hE hin (h1 : a.eval (.tmp 8) = _) (h2 : a.eval (.tmp 9) = _)
      clear hin
      have hcst : ∀ v, a.eval (.const v) = v := fun _ => rfl
      have hfnc : ∀ f, a.eval (.func f) = .func (.func f) #[] #[] := fun _ => rfl
      refine want_none rfl ?_
      unfold Oper.wp
      generalize a.eval = ρ at *
      go_simp
      refine (refEncode_calls m (some ⟨w.heap.size, 1, none⟩) 29 31 b wx HBL.out (by decide) (by decide) ?_).mono ?_
      · have := (HB.out.drew.chg hE (show ¬ (w0.heap.size ≤ w.heap.size) by have := HS0.out; omega)).rd_at 1 29
        rwa [HBD.out] at this
      rintro e w' ⟨rfl, hb⟩
      rw [HEN.out]
      exact rel_val (.of_below hb)
    case ao4 =>
      rw [if_neg (by decide)]
      rintro a wx hE hin (h3 : a.eval (.tmp 10) = _)
      clear hin
      have hcst : ∀ v, a.eval (.const v) = v := fun _ => rfl
      have hfnc : ∀ f, a.eval (.func f) = .func (.func f) #[] #[] := fun _ => rfl
      refine want_none rfl ?_
      unfold Oper.wp
      generalize a.eval = ρ at *
      go_simp
      try go_bits
      first | exact rel_val (Chg.refl _) | (go_simp; exact rel_val (Chg.refl _))
    case ao5 =>
      rw [if_neg (by decide)]
      rintro a wx hE hin (h4 : a.eval (.tmp 6) = _)
      clear hin
      have hcst : ∀ v, a.eval (.const v) = v := fun _ => rfl
      have hfnc : ∀ f, a.eval (.func f) = .func (.func f) #[] #[] := fun _ => rfl
      refine want_none rfl ?_
      unfold Oper.wp
      generalize a.eval = ρ at *
      go_simp
      try go_bits
      first | exact rel_val (Chg.refl _) | (go_simp; exact rel_val (Chg.refl _))
    case ao6 =>
      rw [if_neg (by decide)]
      rintro a wx hE hin (h4 : a.eval (.tmp 6) = _)
      clear hin
      have hcst : ∀ v, a.eval (.const v) = v := fun _ => rfl
      have hfnc : ∀ f, a.eval (.func f) = .func (.func f) #[] #[] := fun _ => rfl
      refine want_none rfl ?_
      unfold Oper.wp
      generalize a.eval = ρ at *
      go_simp
      try go_bits
      first | exact rel_val (Chg.refl _) | (go_simp; exact rel_val (Chg.refl _))
    case ao7 =>
      rw [if_neg (by decide)]
      intro a wx hE hin
      clear hin
      have hcst : ∀ v, a.eval (.const v) = v := fun _ => rfl
      have hfnc : ∀ f, a.eval (.func f) = .func (.func f) #[] #[] := fun _ => rfl
      refine want_none rfl ?_
      exact wp_al 37 rfl (zb 32) (by kernel_rfl) ⟨_, rfl, ⟨wx.heap.size, rfl, hE.size, zb 32, rfl, Bk.new _ _ _⟩, (Chg.refl _).alloc _⟩
    case ao8 =>
      rw [if_pos (by decide)]
      rintro a wx hE hin (h5 : a.eval (.tmp 11) = _) ⟨gg, g7, p7, vs7, l7, b7⟩
      clear hin
      have hcst : ∀ v, a.eval (.const v) = v := fun _ => rfl
      have hfnc : ∀ f, a.eval (.func f) = .func (.func f) #[] #[] := fun _ => rfl
      refine wp_st 37 _ _ rfl gg 0 vs7 (bts rs) g7 (by rw [h5]; rfl) b7 (by rw [bts_length, HSL.out]; kernel_rfl) (by rw [bts_length, HSL.out, l7]; decide) (one_bts _) ?_
      intro w2 hb2 hc2
      rw [splice_whole vs7 (bts rs) (by rw [bts_length, HSL.out, l7])] at hb2
      exact ⟨rfl, ⟨gg, g7, p7, id, hb2⟩, ChgNew.st b7 hb2 (by rw [bts_length, HSL.out, l7]) p7 hc2⟩
    case ao9 =>
      rw [if_neg (by decide)]
      rintro a wx hE hin (h6 : a.eval (.tmp 12) = _)
      clear hin
      have hcst : ∀ v, a.eval (.const v) = v := fun _ => rfl
      have hfnc : ∀ f, a.eval (.func f) = .func (.func f) #[] #[] := fun _ => rfl
      refine want_none rfl ?_
      unfold Oper.wp
      generalize a.eval = ρ at *
      go_simp
      try go_bits
      first | exact rel_val (Chg.refl _) | (go_simp; exact rel_val (Chg.refl _))
  case afin =>
    intro wx hE
    rintro _ rfl _ rfl _ rfl _ rfl _ rfl _ rfl _ rfl _ ⟨gg, rfl, p7, vs7, l7, b7⟩ _ _ rfl hsp
    simp only [FinOk, List.take_succ_cons, List.take_zero, List.take_nil, List.drop_succ_cons, List.drop_zero, List.drop_nil, Act.put, List.setIfInBounds_toArray, List.set_cons_succ, List.set_cons_zero]
    obtain ⟨gq, hgq, p8, n8, b8⟩ := hsp
    simp only [Act.put, List.setIfInBounds_toArray, List.set_cons_succ, List.set_cons_zero] at hgq
    have hgq' : Value.pointer (some ⟨gg, 0, none⟩) = .pointer (some ⟨gq, 0, none⟩) := hgq
    injection hgq' with hgq1
    injection hgq1 with hgq2
    injection hgq2 with hgq3
    subst hgq3
    clear b7 l7 hgq
    rw [HS0.out] at p7
    have hng : gg ≠ w.heap.size := by omega
    have hng1 : gg ≠ w.heap.size + 1 := by omega
    have hgg : w.heap.size ≤ gg := by omega
    have HE3 : Hid (Below w.heap.size w wx) := HBel.out.trans (hE.undrew.below (B := w.heap.size) HBel.out.size (fun k hk he => by have := HS0.out; omega))
    have HB3 : Hid (Bk wx w.heap.size (bts x)) := HB.out.drew.chg hE (by have := HS0.out; omega)
    have HZ3 : Hid (Bk wx (w.heap.size + 1) (zb 30 ++ [Value.int .i64 0])) := HZ.out.drew.chg hE (by have := HS0.out; omega)
    have HC3 : Hid (wx.cell? ⟨w.heap.size, 0, none⟩ = some (vu8 m)) := HB3.out.cell H00.out
    have HG3 := Lib.hid b8
    clear b8 hE p7 p8
    by_cases hm : m = 0
    · have hen : en = 1 := by rw [HENV.out, if_pos hm]
      subst hen
      have hres := HRES.out
      rw [if_pos (.inl hm)] at hres
      subst hres
      go_wp2_with (first
        | (refine wpList_ld rfl 37 _ rfl gg 0 32 (bts rs) (bts rs) rfl HG3.out (by kernel_rfl) (by kernel_rfl) (by rw [bts_length, HSL.out]; decide) (by rw [List.drop_zero, List.take_of_length_le (by rw [bts_length, HSL.out]; decide)]) ?_)
        | (refine wpList_ld rfl 37 _ rfl w.heap.size 0 32 (bts x) (bts x) rfl HB3.out (by kernel_rfl) (by kernel_rfl) (by rw [bts_length, HL.out]; decide) (by rw [List.drop_zero, List.take_of_length_le (by rw [bts_length, HL.out]; decide)]) ?_)
        | (refine wpList_eq_bytes rfl true 37 _ _ _ rfl 5 32 (by kernel_rfl) Try.underlying5 (by kernel_rfl) (by kernel_rfl) rs x rfl rfl HSL.out HL.out true (by rw [HQ.out]; rfl) ?_)
        | (refine wpList_bld rfl 102 [(2, .const (.int .i64 11))] rfl (zb 30 ++ [Value.int .i64 0]) [(30, [Value.int .i64 11])] (zb 30 ++ [Value.int .i64 11]) (by kernel_rfl) (by kernel_rfl) ?f1 rfl ?_)
        | (refine wpList_st rfl 102 _ _ rfl (w.heap.size + 1) 0 31 (zb 30 ++ [Value.int .i64 0]) (zb 30 ++ [Value.int .i64 11]) rfl rfl HZ3.out (by kernel_rfl) rfl (by decide) (by decide) ?_))
      case f1 => exact ⟨rfl, ⟨1, rfl, by kernel_rfl, by decide⟩, trivial⟩
      intro w5 hb5 hc5
      rw [splice_whole (zb 30 ++ [Value.int .i64 0]) (zb 30 ++ [Value.int .i64 11]) rfl] at hb5
      go_wp2_with fail
      (try simp only [Exit.inBlock, Exit.then])
      refine bodyPost_ret (res_cell rfl _ _ (w.heap.size + 1) 31 (zb 30 ++ [Value.int .i64 11]) rfl hb5 (by kernel_rfl) (by kernel_rfl) rfl) rfl ?_
      exact ⟨rfl, HE3.out.trans (hc5.below HE3.out.size (fun k hk he => by omega))⟩
    · have hen : en = 0 := by rw [HENV.out, if_neg hm]
      subst hen
      have hrs : rs = secOf m b := by rw [HRS.out, if_neg hm]
      cases q
      · have hres := HRES.out
        rw [if_pos (.inr rfl)] at hres
        subst hres
        have HQ : Hid (decide (rs = x) = false) := by rw [hrs]; exact HQ.out
        go_wp2_with (first
          | (refine wpList_ld rfl 37 _ rfl gg 0 32 (bts rs) (bts rs) rfl HG3.out (by kernel_rfl) (by kernel_rfl) (by rw [bts_length, HSL.out]; decide) (by rw [List.drop_zero, List.take_of_length_le (by rw [bts_length, HSL.out]; decide)]) ?_)
          | (refine wpList_ld rfl 37 _ rfl w.heap.size 0 32 (bts x) (bts x) rfl HB3.out (by kernel_rfl) (by kernel_rfl) (by rw [bts_length, HL.out]; decide) (by rw [List.drop_zero, List.take_of_length_le (by rw [bts_length, HL.out]; decide)]) ?_)
          | (refine wpList_eq_bytes rfl true 37 _ _ _ rfl 5 32 (by kernel_rfl) Try.underlying5 (by kernel_rfl) (by kernel_rfl) rs x rfl rfl HSL.out HL.out true (by rw [HQ.out]; rfl) ?_)
          | (refine wpList_bld rfl 102 [(2, .const (.int .i64 11))] rfl (zb 30 ++ [Value.int .i64 0]) [(30, [Value.int .i64 11])] (zb 30 ++ [Value.int .i64 11]) (by kernel_rfl) (by kernel_rfl) ?f1 rfl ?_)
          | (refine wpList_st rfl 102 _ _ rfl (w.heap.size + 1) 0 31 (zb 30 ++ [Value.int .i64 0]) (zb 30 ++ [Value.int .i64 11]) rfl rfl HZ3.out (by kernel_rfl) rfl (by decide) (by decide) ?_))
        case f1 => exact ⟨rfl, ⟨1, rfl, by kernel_rfl, by decide⟩, trivial⟩
        intro w5 hb5 hc5
        rw [splice_whole (zb 30 ++ [Value.int .i64 0]) (zb 30 ++ [Value.int .i64 11]) rfl] at hb5
        go_wp2_with fail
        (try simp only [Exit.inBlock, Exit.then])
        refine bodyPost_ret (res_cell rfl _ _ (w.heap.size + 1) 31 (zb 30 ++ [Value.int .i64 11]) rfl hb5 (by kernel_rfl) (by kernel_rfl) rfl) rfl ?_
        exact ⟨rfl, HE3.out.trans (hc5.below HE3.out.size (fun k hk he => by omega))⟩
      · have hres := HRES.out
        rw [if_neg (fun h => h.elim hm (by decide))] at hres
        subst hres
        have HQ : Hid (decide (rs = x) = true) := by rw [hrs]; exact HQ.out
        have hc0 := HC3.out
        go_wp2_with (first
          | (refine wpList_ld rfl 37 _ rfl gg 0 32 (bts rs) (bts rs) rfl HG3.out (by kernel_rfl) (by kernel_rfl) (by rw [bts_length, HSL.out]; decide) (by rw [List.drop_zero, List.take_of_length_le (by rw [bts_length, HSL.out]; decide)]) ?_)
          | (refine wpList_ld rfl 37 _ rfl w.heap.size 0 32 (bts x) (bts x) rfl HB3.out (by kernel_rfl) (by kernel_rfl) (by rw [bts_length, HL.out]; decide) (by rw [List.drop_zero, List.take_of_length_le (by rw [bts_length, HL.out]; decide)]) ?_)
          | (refine wpList_eq_bytes rfl true 37 _ _ _ rfl 5 32 (by kernel_rfl) Try.underlying5 (by kernel_rfl) (by kernel_rfl) rs x rfl rfl HSL.out HL.out false (by rw [HQ.out]; rfl) ?_)
          | (refine wpList_bld rfl 102 [(0, .tmp 22)] rfl (zb 30 ++ [Value.int .i64 0]) [(0, [vu8 m])] (vu8 m :: (zb 29 ++ [Value.int .i64 0])) (by kernel_rfl) (by kernel_rfl) ?f2 rfl ?_)
          | (refine wpList_al rfl 102 rfl (zb 30 ++ [Value.int .i64 0]) (by kernel_rfl) ?_))
        case f2 => exact ⟨rfl, ⟨1, rfl, by kernel_rfl, by decide⟩, trivial⟩
        intro gh w4 hg hbk hcg hsz
        have hlt1 : w.heap.size + 1 < gh := by rw [hg]; exact HZ3.out.lt
        have hlt0 : w.heap.size < gh := by rw [hg]; exact HB3.out.lt
        have HE4 : Hid (Below w.heap.size w w4) := HE3.out.trans (hcg.below HE3.out.size (fun _ _ => id))
        have HB4 : Hid (Bk w4 w.heap.size (bts x)) := HB3.out.chg hcg id
        have HZ4 : Hid (Bk w4 (w.heap.size + 1) (zb 30 ++ [Value.int .i64 0])) := HZ3.out.chg hcg id
        have HH4 := Lib.hid hbk
        clear hg hbk hcg hsz hc0
        go_wp2_with (refine wpList_st rfl 102 _ _ rfl gh 0 31 (zb 30 ++ [Value.int .i64 0]) (vu8 m :: (zb 29 ++ [Value.int .i64 0])) rfl rfl HH4.out (by kernel_rfl) rfl (by decide) (one_got0 m) ?_)
        intro w5 hbk hcg
        rw [splice_whole (zb 30 ++ [Value.int .i64 0]) (vu8 m :: (zb 29 ++ [Value.int .i64 0])) rfl] at hbk
        have HE5 : Hid (Below w.heap.size w w5) := HE4.out.trans (hcg.below HE4.out.size (fun k hk he => by omega))
        have HB5 : Hid (Bk w5 w.heap.size (bts x)) := HB4.out.chg hcg (by omega)
        have HZ5 : Hid (Bk w5 (w.heap.size + 1) (zb 30 ++ [Value.int .i64 0])) := HZ4.out.chg hcg (by omega)
        have HH5 := Lib.hid hbk
        clear hbk hcg
        go_wp2_with fail
        apply wp_region_rel 3 (Chg NoS) [(Veq _), (Veq _), (Veq _)] [[], [0], []] [24, 25, 26] (by kernel_rfl) (by kernel_rfl) rfl rfl rfl Chg.refl (fun _ _ _ => Chg.trans) ⟨Veq.lasts, Veq.lasts, Veq.lasts, trivial⟩ ?cops ?cfin
        case cops =>
          refine ⟨?co0, ?co1, ?co2, trivial⟩
          case co0 =>
            intro a wx hE hin
            have i5 : a.eval (.tmp 5) = .pointer (some ⟨gh, 0, none⟩) := hin 5 rfl
            clear hin
            have hcst : ∀ v, a.eval (.const v) = v := fun _ => rfl
            have hfnc : ∀ f, a.eval (.func f) = .func (.func f) #[] #[] := fun _ => rfl
            refine want_none rfl ?_
            unfold Oper.wp
            generalize a.eval = ρ at *
            go_simp
            try go_bits
            first | exact rel_val (Chg.refl _) | (go_simp; exact rel_val (Chg.refl _))
          case co1 =>
            rintro a wx hE hin (h0 : a.eval (.tmp 24) = _)
            clear hin
            have hcst : ∀ v, a.eval (.const v) = v := fun _ => rfl
            have hfnc : ∀ f, a.eval (.func f) = .func (.func f) #[] #[] := fun _ => rfl
            refine want_none rfl ?_
            unfold Oper.wp
            generalize a.eval = ρ at *
            go_simp
            try go_bits
            first | exact rel_val (Chg.refl _) | (go_simp; exact rel_val (Chg.refl _))
          case co2 =>
            intro a wx hE hin
            have i1 : a.eval (.tmp 1) = .pointer (some ⟨w.heap.size, 0, none⟩) := hin 1 rfl
            clear hin
            have hcst : ∀ v, a.eval (.const v) = v := fun _ => rfl
            have hfnc : ∀ f, a.eval (.func f) = .func (.func f) #[] #[] := fun _ => rfl
            refine want_none rfl ?_
            unfold Oper.wp
            generalize a.eval = ρ at *
            go_simp
            try go_bits
            first | exact rel_val (Chg.refl _) | (go_simp; exact rel_val (Chg.refl _))
        case cfin =>
          intro wx hE
          rintro _ rfl _ rfl _ rfl
          simp only [FinOk, List.take_succ_cons, List.take_zero, List.take_nil, List.drop_succ_cons, List.drop_zero, List.drop_nil, Act.put, List.setIfInBounds_toArray, List.set_cons_succ, List.set_cons_zero]
          refine wpList_cp rfl _ _ 32 32 5 rfl Try.underlying32 (by kernel_rfl) gh 1 29 29 (some ⟨w.heap.size, 1, none⟩) 29 31 (vu8 m :: (zb 29 ++ [Value.int .i64 0])) (bts b) rfl rfl (HH5.out.drew.chg hE id) (by have := (HB5.out.drew.chg hE id).rd_at 1 29; rwa [HBD.out] at this) (by rw [bts_length, HBL.out]) (by simp [zb]) (one_bts _) ?_
          intro w6 hbk hcg
          rw [HSP.out] at hbk
          have HE6 : Hid (Below w.heap.size w w6) := HE5.out.trans ((hE.undrew.below (B := w.heap.size) HE5.out.size (fun _ _ => id)).trans (hcg.below (Nat.le_trans HE5.out.size hE.size) (fun k hk he => by omega)))
          have HZ6 : Hid (Bk w6 (w.heap.size + 1) (zb 30 ++ [Value.int .i64 0])) := (HZ5.out.drew.chg hE id).chg hcg (by omega)
          have HH6 := Lib.hid hbk
          clear hbk hcg hE
          go_wp2_with (first
            | (refine wpList_ld rfl 102 _ rfl gh 0 31 (bts (m :: b) ++ [Value.int .i64 0]) (bts (m :: b) ++ [Value.int .i64 0]) rfl HH6.out (by kernel_rfl) (by kernel_rfl) (by simp [HBL.out]) (by rw [List.drop_zero, List.take_of_length_le (by simp [HBL.out])]) ?_)
            | (refine wpList_st rfl 102 _ _ rfl (w.heap.size + 1) 0 31 (zb 30 ++ [Value.int .i64 0]) (bts (m :: b) ++ [Value.int .i64 0]) rfl rfl HZ6.out (by kernel_rfl) (by simp [HBL.out]) (by decide) (one_got _ _) ?_))
          intro w7 hb7 hc7
          rw [splice_whole (zb 30 ++ [Value.int .i64 0]) (bts (m :: b) ++ [Value.int .i64 0]) (by simp [HBL.out, zb])] at hb7
          go_wp2_with fail
          (try simp only [Exit.inBlock, Exit.then])
          refine bodyPost_ret (res_cell rfl _ _ (w.heap.size + 1) 31 (bts (m :: b) ++ [Value.int .i64 0]) rfl hb7 (by kernel_rfl) (by kernel_rfl) (by simp [HBL.out])) rfl ?_
          exact ⟨rfl, HE6.out.trans (hc7.below HE6.out.size (fun k hk he => by omega))⟩
end Go.Proofs.Ytnpcehlbboeadaa
