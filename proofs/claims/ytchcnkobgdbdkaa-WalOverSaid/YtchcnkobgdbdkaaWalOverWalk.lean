import Derived.Test.YtchcnkobgdbdkaaLf
import Derived.Test.YtchcnkobgdbdkaaLd

/- The walk of WalOver. -/
namespace Go.Proofs.Ytchcnkobgdbdkaa
open Go.ChangeShapes Go.WideShapes Go.RowKit Go.Deep
set_option linter.unusedVariables false
set_option linter.unusedSimpArgs false

section
variable {H : Type} {enc : TypeId × Value → H} {W : World}
theorem recs_of : ∀ (n : Nat) (vs : List Value), vs.length = n * 3 → (∀ i, i < n → TC enc Try.prog W 25 ((vs.drop (i * 3)).take 3)) → ∃ l : List RecV, l.length = n ∧ vs = l.flatMap recC ∧ ∀ s ∈ l, RecOk W s
  | 0, vs, hl, _ => ⟨[], rfl, List.eq_nil_of_length_eq_zero (by omega), fun s hs => by cases hs⟩
  | n + 1, vs, hl, h => by
    obtain ⟨s, hs, hok⟩ := (h 0 (by omega)).rec
    obtain ⟨l, h1, h2, h3⟩ := recs_of n (vs.drop 3) (by rw [List.length_drop]; omega) (fun i hi => by
      have := h (i + 1) (by omega)
      rwa [show (i + 1) * 3 = 3 + i * 3 by omega, ← List.drop_drop] at this)
    refine ⟨s :: l, by simp [h1], ?_, ?_⟩
    · rw [List.flatMap_cons, ← h2, ← hs, Nat.zero_mul, List.drop_zero, List.take_append_drop]
    · intro x hx
      rcases List.mem_cons.1 hx with rfl | hx
      · exact hok
      · exact h3 x hx
theorem TC.recs {cs : List Value} (h : TC enc Try.prog W 74 cs) :
    ∃ (A : Option Addr) (n cap : Nat) (l : List RecV), cs = [.slice A n cap] ∧ l.length = n ∧ n ≤ cap ∧ cap ≤ 9223372036854775807 ∧ Rd W A (l.flatMap recC) ∧ ∀ s ∈ l, RecOk W s := by
  obtain ⟨A, n, cap, vs, h0, h1, h2, h3, h4, h5⟩ := h.slice Try.underlying74
  rw [recCells] at h3 h5
  obtain ⟨l, hl, rfl, hk⟩ := recs_of n vs h3 h5
  exact ⟨A, n, cap, l, h0, hl, h1, h2, h4, hk⟩
end
theorem rec_get {l : List RecV} {k : Nat} (hk : k < l.length) (j : Nat) (hj : j < 3) : (l.flatMap recC)[k * 3 + j]? = (recC l[k])[j]? := by
  have h := flat_piece recC 3 l k l[k] (fun _ _ => rfl) (List.getElem?_eq_getElem hk)
  have h2 := congrArg (·[j]?) h
  simp only [List.getElem?_take, List.getElem?_drop] at h2
  rwa [if_pos hj] at h2
theorem rec_some {w : World} {A : Option Addr} {l : List RecV} (hr : Rd w A (l.flatMap recC)) {k : Nat} (hk : k < l.length) : ∃ ad, A = some ad := by
  obtain ⟨ad, hA, _⟩ := hr _ _ (rec_get hk 0 (by decide))
  exact ⟨ad, hA⟩
theorem rec_at0 {w : World} {ad : Addr} {l : List RecV} (hr : Rd w (some ad) (l.flatMap recC)) {k : Nat} (hk : k < l.length) : w.cell? (ad.add (k * 3)) = some (vu32 l[k].e) := by
  obtain ⟨ad', hA, h⟩ := hr _ _ (rec_get hk 0 (by decide))
  injection hA with hA
  subst hA
  exact h
theorem rec_at1 {w : World} {ad : Addr} {l : List RecV} (hr : Rd w (some ad) (l.flatMap recC)) {k : Nat} (hk : k < l.length) : w.cell? ⟨(ad.add (k * 3)).block, (ad.add (k * 3)).off + 1, none⟩ = some (vu32 l[k].q) := by
  obtain ⟨ad', hA, h⟩ := hr _ _ (rec_get hk 1 (by decide))
  injection hA with hA
  subst hA
  rw [← add_add] at h
  exact h
theorem rec_at2 {w : World} {ad : Addr} {l : List RecV} (hr : Rd w (some ad) (l.flatMap recC)) {k : Nat} (hk : k < l.length) : w.cell? ⟨(ad.add (k * 3)).block, (ad.add (k * 3)).off + 2, none⟩ = some (.slice l[k].A l[k].n l[k].c) := by
  obtain ⟨ad', hA, h⟩ := hr _ _ (rec_get hk 2 (by decide))
  injection hA with hA
  subst hA
  rw [← add_add] at h
  exact h
theorem rec_rd {w : World} {ad : Addr} {l : List RecV} (hr : Rd w (some ad) (l.flatMap recC)) {k : Nat} (hk : k < l.length) : Rd w (some (ad.add (k * 3))) (recC l[k]) := by
  have h := (hr.drop (k * 3)).take 3
  rwa [flat_piece recC 3 l k l[k] (fun _ _ => rfl) (List.getElem?_eq_getElem hk)] at h
def fillB (j : Nat) : List UInt8 := List.replicate 32 (UInt8.ofNat (200 + j))
def fillL (k : Nat) : List (Nat × List UInt8) := (List.range k).map fun j => (j, fillB j)
theorem fillL_len (k : Nat) : (fillL k).length = k := by simp [fillL]
theorem fillL_succ (k : Nat) : fillL (k + 1) = fillL k ++ [(k, fillB k)] := by
  rw [fillL, List.range_succ, List.map_append]
  rfl
def fillS : List (List UInt8) := doneS (Dst.new 14).S (fillL 14)
theorem fillS_len : fillS.length = 14 := by rw [fillS, doneS_length]; rfl
theorem fillS_get : ∀ j, j < 14 → fillS.getD j [] = fillB j := by decide +kernel
theorem fill_write {k : Nat} (hk : k < 14) : (Dst.mk (Dst.new 14).S (fillL k) (-1) false).write (k : Int) (fillB k) = ⟨(Dst.new 14).S, fillL (k + 1), -1, false⟩ := by
  rw [(write_live _ _ _ _ (show k < (Dst.new 14).S.length from hk)).1, fillL_succ]
theorem fill_writeE {k : Nat} (hk : k < 14) : (Dst.mk (Dst.new 14).S (fillL k) (-1) false).writeE (k : Int) = 0 := (write_live _ _ _ [] (show k < (Dst.new 14).S.length from hk)).2
theorem fill_flush : (Dst.mk (Dst.new 14).S (fillL 14) (-1) false).flush = ⟨fillS, [], -1, false⟩ := (flush_live _ _).1
theorem fill_flushE : (Dst.mk (Dst.new 14).S (fillL 14) (-1) false).flushE = 0 := (flush_live _ _).2
theorem byte200 {k : Nat} (hk : k < 14) : (Value.int .u8 (200 + (k : Int))) = vu8 (UInt8.ofNat (200 + k)) := by
  rw [byte_at (200 + k) (by omega)]
  rfl
def OverRel0 (w : World) (g gs : Nat) (v : Value) (wr : World) : Prop := ∃ (k : Nat) (lv : Value), k ≤ 14 ∧ v = .int .i64 k ∧ DSes 99 w wr g gs lv ⟨(Dst.new 14).S, fillL k, -1, false⟩
def OverRel2 (w : World) (g gs : Nat) (at_ n : Nat) (v : Value) (wr : World) : Prop := ∃ (k : Nat) (lv : Value) (S : List (List UInt8)), k ≤ n ∧ v = .int .i64 k ∧ DSes 99 w wr g gs lv ⟨S, [], -1, false⟩ ∧ S.length = 14 ∧ ∀ j, j < 14 → (j < at_ ∨ at_ + 5 < j) → S.getD j [] = fillB j
def OverRel4 (w : World) (g gs : Nat) (lv : Value) (S : List (List UInt8)) (v : Value) (wr : World) : Prop := ∃ (k : Nat), k ≤ 14 ∧ v = .int .i64 k ∧ DSes 99 w wr g gs lv ⟨S, [], -1, false⟩
set_option maxRecDepth 100000 in
set_option maxHeartbeats 16000000 in
theorem walOver_calls (w : World) (A : Option Addr) (n c : Nat) (l : List RecV) (x : UInt8) (hl : l.length = n) (hnc : n ≤ c) (hm : c ≤ 9223372036854775807) (hr : Rd w A (l.flatMap recC)) (hok : ∀ s ∈ l, RecOk w s) :
    Calls Try.prog 7 #[.slice A n c, vu8 x] w fun e w' => e = .returned (.bool true) ∧ Below w.heap.size w w' := by
  subst hl
  have HR := Lib.hid hr
  have HOKS := Lib.hid hok
  clear hr hok
  by_cases h20 : 20 < l.length
  · have h20i : (20 : Int) < (l.length : Int) := by omega
    go_enter Try.func7, Try.ntmps7
    go_wp2_with fail
    refine (wakes8_calls w).mono ?_
    rintro en wz ⟨rfl, hb⟩
    have EZ := Lib.hid hb
    clear hb
    go_wp2_with fail
    (try simp only [Exit.inBlock, Exit.then])
    go_ret
    exact ⟨rfl, EZ.out⟩
  have h20i : ¬ (20 : Int) < (l.length : Int) := by omega
  obtain ⟨xn, hxn⟩ : ∃ xn, x.toNat = xn := ⟨_, rfl⟩
  have hx256 : xn < 256 := by rw [← hxn]; exact x.toNat_lt
  obtain ⟨at_, hat⟩ : ∃ at_ : Nat, 1 + xn % 5 = at_ := ⟨_, rfl⟩
  have hat1 : 1 ≤ at_ ∧ at_ ≤ 5 := by omega
  have hat0 : (1 : Int) + (xn : Int) % 5 = (at_ : Int) := by omega
  rw [show vu8 x = .int .u8 (xn : Int) from by rw [← hxn, vu8]]
  clear hxn
  go_enter Try.func7, Try.ntmps7
  go_wp2_with fail
  refine (diskNew_yes 14 w (by decide) (by decide)).mono ?_
  intro en w1 hp
  obtain ⟨gd, gsd, rfl, hd⟩ := DSes.new (wT := 99) (by decide) (Below.refl _ _) hp
  have H0 : Hid (OverRel0 w gd gsd (.int .i64 0) w1) := ⟨0, _, by decide, rfl, hd⟩
  clear hp hd hat hx256
  go_wp2_with fail
  go_loopw [8] (fun v8 wr => OverRel0 w gd gsd v8 wr) (fun v8 _ => 14 - (intOf v8).toNat)
  case atStart => exact H0.out
  case round =>
    obtain ⟨k, lv, hk, rfl, hd⟩ := hrel
    have DBr := Lib.hid hd
    have EBr := Lib.hid hd.bel
    clear hd H0
    by_cases hk14 : k < 14
    · have hki : (k : Int) < 14 := by omega
      have hk0 : (0 : Int) ≤ (k : Int) := by omega
      have HBY := Lib.hid (byte200 hk14)
      go_wp2_with fail
      rw [HBY.out]
      refine (fill_calls (UInt8.ofNat (200 + k)) wr).mono ?_
      rintro en w1 ⟨rfl, hb⟩
      have Ew1 : Hid (Below w.heap.size w w1) := EBr.out.trans (hb.mono EBr.out.size)
      have Ddw1 : Hid (DSes 99 w w1 gd gsd lv ⟨(Dst.new 14).S, fillL k, -1, false⟩) := DBr.out.below hb
      clear EBr DBr
      clear hb
      obtain ⟨vv, hvv⟩ : ∃ vv, bts (List.replicate 32 (UInt8.ofNat (200 + k))) = vv := ⟨_, rfl⟩
      have HVV : Hid (bts (fillB k) = vv) := hvv
      rw [hvv]
      clear hvv
      go_wp2_with fail
      rw [← HVV.out]
      refine (diskWrite_at w1 gd gsd lv ⟨(Dst.new 14).S, fillL k, -1, false⟩ (k : Int) (fillB k) Ddw1.out.at_ (by rw [fillB, List.length_replicate]) (by show (fillL k).length ≤ 1000; rw [fillL_len]; omega) live_lo live_hi).mono ?_
      intro en w2 hp
      rw [fill_write hk14, fill_writeE hk14] at hp
      have hch := DPost.chgF hp
      obtain ⟨rfl, lvdw2, hd, hft⟩ := DSes.post2 Ddw1.out hp
      have Ddw2 : Hid (DSes 99 w w2 gd gsd lvdw2 ⟨(Dst.new 14).S, fillL (k + 1), -1, false⟩) := hd
      have Ew2 : Hid (Below w.heap.size w w2) := hd.bel
      clear hp hd hft hch Ddw1 Ew1
      go_wp2_with fail
      go_roundw
      case rel => exact ⟨k + 1, lvdw2, by omega, by go_num, Ddw2.out⟩
      case measure => simp [intOf]; omega
    · have hke : k = 14 := by omega
      subst hke
      have hki : ¬ (((14 : Nat) : Int) < 14) := by omega
      go_wp2_with fail
      refine (diskFlush_at wr gd gsd lv ⟨(Dst.new 14).S, fillL 14, -1, false⟩ DBr.out.at_ live_lo live_hi).mono ?_
      intro en w1 hp
      rw [fill_flush, fill_flushE] at hp
      have hch := DPost.chgF hp
      obtain ⟨rfl, lvdw1, hd, hft⟩ := DSes.post2 DBr.out hp
      have Ddw1 : Hid (DSes 99 w w1 gd gsd lvdw1 ⟨fillS, [], -1, false⟩) := hd
      have Ew1 : Hid (Below w.heap.size w w1) := hd.bel
      clear hp hd hft hch DBr EBr
      go_wp2_with fail
      have H2 : Hid (OverRel2 w gd gsd at_ l.length (.int .i64 0) w1) := ⟨0, lvdw1, fillS, Nat.zero_le _, rfl, Ddw1.out, fillS_len, fun j hj _ => fillS_get j hj⟩
      clear Ddw1 Ew1
      go_loopw [9] (fun v9 wr => OverRel2 w gd gsd at_ l.length v9 wr) (fun v9 _ => l.length - (intOf v9).toNat)
      case atStart => exact H2.out
      case round =>
        obtain ⟨k, lv, S, hk, rfl, hd, hsl, hso⟩ := hrel
        have DCr := Lib.hid hd
        have ECr := Lib.hid hd.bel
        have HSL := Lib.hid hsl
        have HSO := Lib.hid hso
        clear hd hsl hso H2 hki
        by_cases hlt : k < l.length
        · have hki : (k : Int) < (l.length : Int) := by omega
          obtain ⟨ad, hA⟩ := rec_some HR.out hlt
          have HAA := Lib.hid hA
          subst hA
          have hce := rec_at2 (HR.out.below ECr.out) hlt
          have HRC := Lib.hid (rec_rd (HR.out.below ECr.out) hlt)
          have HOK := Lib.hid (HOKS.out _ (List.getElem_mem hlt))
          obtain ⟨r, hre⟩ : ∃ r, l[k] = r := ⟨_, rfl⟩
          have HRE := Lib.hid hre
          rw [hre] at hce HRC HOK
          clear hre
          go_wp2_with fail
          refine (refGood_calls r.ps r.A r.n r.c wr HOK.out.len (by have h2 := HOK.out.cap; have h3 := HOK.out.max; omega) (HOK.out.rd.below ECr.out) HOK.out.ok).mono ?_
          rintro en w2 ⟨rfl, hb⟩
          have DCr2 := Lib.hid (DCr.out.below hb)
          have HRC2 := Lib.hid (HRC.out.below hb)
          have ECr2 := Lib.hid DCr2.out.bel
          clear hb hce DCr HRC ECr
          have DCr := DCr2
          have HRC := HRC2
          have ECr := ECr2
          clear DCr2 HRC2 ECr2
          by_cases hgood : goodB r.ps = true
          case neg =>
            rw [Bool.eq_false_iff.2 hgood]
            have hce := rec_at2 (HR.out.below ECr.out) hlt
            rw [HRE.out] at hce
            go_wp2_with (first | (refine wpList_ldr2 rfl 25 (.tmp 65) rfl (ad.add (k * 3)) 3 (recC r) rfl HRC.out (by kernel_rfl) (by kernel_rfl) rfl ?_))
            rw [show (recC r).toArray = #[vu32 r.e, vu32 r.q, .slice r.A r.n r.c] from rfl]
            refine (walPut_calls w2 gd gsd lv ⟨S, [], -1, false⟩ (at_ : Int) r.e r.q r.ps r.A r.n r.c 0 HOK.out.len DCr.out.at_ ⟨Nat.le_refl _, Int.le_refl _, live_hi⟩ (by decide) (fun w' hc => HOK.out.rd.below (ECr.out.trans (hc.below ECr.out.size (fun j hj hf => by have := DCr.out.fr j hf; omega)))) HOK.out.ok).mono ?_
            intro en w11 hp
            rw [Dst.walPut_no (fun h => hgood h.2)] at hp
            have hch := DPost.chgF hp
            obtain ⟨rfl, lvdw11, hd, hft⟩ := DSes.post2 DCr.out hp
            have Ddw11 : Hid (DSes 99 w w11 gd gsd lvdw11 ⟨S, [], -1, false⟩) := hd
            have Ew11 : Hid (Below w.heap.size w w11) := hd.bel
            clear hp hd hft hch DCr ECr
            go_wp2_with fail
            refine (diskLoose_at w11 gd gsd lvdw11 ⟨S, [], -1, false⟩ Ddw11.out.at_).mono ?_
            rintro en w' ⟨rfl, rfl⟩
            go_wp2_with fail
            go_roundw
            case rel => exact ⟨k + 1, lvdw11, S, by omega, by go_num, Ddw11.out, HSL.out, HSO.out⟩
            case measure => simp [intOf]; omega
          have HGD := Lib.hid hgood
          have HG1 : Hid ((Dst.mk (putS S at_ r.e r.q r.ps) [] (-1) false).walGet (at_ : Int) = (⟨r.e, r.q, r.ps⟩, 0)) := by
            obtain ⟨r', h1, _, _, _, h5⟩ := get_hdr (S := putS S at_ r.e r.q r.ps) (fr := at_) (f := -1) (e := r.e) (q := r.q) (ps := r.ps) (by rw [putS_length, HSL.out]; omega) hgood (putS_hdr (by rw [HSL.out]; omega))
            show _ = _
            rw [← h5 (fun i hi => putS_img (by rw [HSL.out]; have := (goodB_at hgood).2.1; omega) hi)]
            exact h1
          rw [hgood]
          go_wp2_with (first | (refine wpList_ldr2 rfl 25 (.tmp 78) rfl (ad.add (k * 3)) 3 (recC r) rfl HRC.out (by kernel_rfl) (by kernel_rfl) rfl ?_))
          rw [show (recC r).toArray = #[vu32 r.e, vu32 r.q, .slice r.A r.n r.c] from rfl]
          refine (walPut_calls w2 gd gsd lv ⟨S, [], -1, false⟩ (at_ : Int) r.e r.q r.ps r.A r.n r.c 0 HOK.out.len DCr.out.at_ ⟨Nat.le_refl _, Int.le_refl _, live_hi⟩ (by decide) (fun w' hc => HOK.out.rd.below (ECr.out.trans (hc.below ECr.out.size (fun j hj hf => by have := DCr.out.fr j hf; omega)))) HOK.out.ok).mono ?_
          intro en w11 hp
          rw [put_all (S := S) (fr := at_) (f := -1) (e := r.e) (q := r.q) (ps := r.ps) (by rw [HSL.out]; omega) hgood (.inl (by decide))] at hp
          have hch := DPost.chgF hp
          obtain ⟨rfl, lvdw11, hd, hft⟩ := DSes.post2 DCr.out hp
          have Ddw11 : Hid (DSes 99 w w11 gd gsd lvdw11 ⟨putS S at_ r.e r.q r.ps, [], -1, false⟩) := hd
          have Ew11 : Hid (Below w.heap.size w w11) := hd.bel
          clear hp hd hft hch DCr ECr
          go_wp2_with fail
          refine (diskLoose_at w11 gd gsd lvdw11 ⟨putS S at_ r.e r.q r.ps, [], -1, false⟩ Ddw11.out.at_).mono ?_
          rintro en w' ⟨rfl, rfl⟩
          go_wp2_with fail
          refine (walGet_calls w11 gd gsd lvdw11 ⟨putS S at_ r.e r.q r.ps, [], -1, false⟩ (at_ : Int) Ddw11.out.at_).mono ?_
          intro en w12 hp
          rw [HG1.out] at hp
          obtain ⟨Aw12, cw12, he, hR, hncw12, hcmw12, hb⟩ := hp
          have he' : en = .returned (.tuple #[.agg #[vu32 r.e, vu32 r.q, .slice Aw12 r.ps.length cw12], .int .i64 0]) := he
          subst he'
          have hR' : Rd w12 Aw12 (r.ps.flatMap putC) := hR
          have Ew12 : Hid (Below w.heap.size w w12) := Ew11.out.trans (hb.mono Ew11.out.size)
          have Ddw12 : Hid (DSes 99 w w12 gd gsd lvdw11 ⟨putS S at_ r.e r.q r.ps, [], -1, false⟩) := Ddw11.out.below hb
          clear Ew11 Ddw11
          have Rw12w12 := Lib.hid hR'
          clear he hb hR hR'
          go_wp2_with (refine wpList_al rfl 25 rfl zR (by kernel_rfl) ?_)
          intro ga w13 hg hb hc hs
          have HQa : Hid (Below w12.heap.size w12 w13) := hc.below (Nat.le_refl _) (fun _ _ => id)
          have HGa : Hid (ga = w12.heap.size) := hg
          have KZa := Lib.hid hb
          clear hg hb hc hs
          go_wp2_with (refine wpList_st rfl 25 (.tmp 10) (.tmp 91) rfl ga 0 3 zR [vu32 r.e, vu32 r.q, .slice Aw12 r.ps.length cw12] rfl rfl KZa.out (by kernel_rfl) rfl (by decide) (one_rec _ _ _ _ _) ?_)
          intro w14 hbk hc
          rw [splice_whole zR [vu32 r.e, vu32 r.q, .slice Aw12 r.ps.length cw12] rfl] at hbk
          have hb : Below w12.heap.size w12 w14 := HQa.out.trans (hc.below HQa.out.size (fun q hq he => by have := HGa.out; omega))
          have Ew14 : Hid (Below w.heap.size w w14) := Ew12.out.trans (hb.mono Ew12.out.size)
          have Rw12w14 : Hid (Rd w14 Aw12 (r.ps.flatMap putC)) := Rw12w12.out.below hb
          have Ddw14 : Hid (DSes 99 w w14 gd gsd lvdw11 ⟨putS S at_ r.e r.q r.ps, [], -1, false⟩) := Ddw12.out.below hb
          clear Ew12 Rw12w12 Ddw12
          have Kaw14 : Hid (Bk w14 ga [vu32 r.e, vu32 r.q, .slice Aw12 r.ps.length cw12]) := hbk
          have Kaw14 : Hid (Bk w14 ga [vu32 r.e, vu32 r.q, .slice Aw12 r.ps.length cw12]) := hbk
          clear hbk hb hc KZa HQa HGa
          go_wp2_with fail
          apply wp_region_rel 33 (Chg NoS) [(Veq _), (Veq _), (Veq _), (Veq _), (Veq _), (Veq _), (Veq _), (Veq _), (Veq _), (Veq _), (Veq _), (Veq _), (Veq _), (Veq _), (Veq _), (Veq _), (Veq _), (Veq _), (Veq _), (Veq _), (Veq _), (Veq _), (Veq _), (Veq _), (Veq _), (Veq _), (Veq _), (Veq _), (Veq _), (Veq _), (Veq _), (Veq _), (Veq _)] [[], [0], [1], [2], [2, 3], [2], [2], [2, 5, 6], [2, 7], [2, 8], [2, 4, 9], [2, 10], [11], [12], [12, 13], [12], [12], [12, 15, 16], [12, 17], [12, 18], [12, 14, 19], [12, 20], [21], [22], [22, 23], [22], [22], [22, 25, 26], [22, 27], [22, 28], [22, 24, 29], [22, 30], [22, 31]] [93, 94, 95, 96, 97, 98, 99, 100, 101, 102, 103, 104, 105, 106, 107, 108, 109, 110, 111, 112, 113, 114, 115, 116, 117, 118, 119, 120, 121, 122, 123, 124, 125] (by kernel_rfl) (by kernel_rfl) rfl rfl rfl Chg.refl (fun _ _ _ => Chg.trans) ⟨Veq.lasts, Veq.lasts, Veq.lasts, Veq.lasts, Veq.lasts, Veq.lasts, Veq.lasts, Veq.lasts, Veq.lasts, Veq.lasts, Veq.lasts, Veq.lasts, Veq.lasts, Veq.lasts, Veq.lasts, Veq.lasts, Veq.lasts, Veq.lasts, Veq.lasts, Veq.lasts, Veq.lasts, Veq.lasts, Veq.lasts, Veq.lasts, Veq.lasts, Veq.lasts, Veq.lasts, Veq.lasts, Veq.lasts, Veq.lasts, Veq.lasts, Veq.lasts, Veq.lasts, trivial⟩ ?aops ?afin
          case aops =>
            refine ⟨?ao0, ?ao1, ?ao2, ?ao3, ?ao4, ?ao5, ?ao6, ?ao7, ?ao8, ?ao9, ?ao10, ?ao11, ?ao12, ?ao13, ?ao14, ?ao15, ?ao16, ?ao17, ?ao18, ?ao19, ?ao20, ?ao21, ?ao22, ?ao23, ?ao24, ?ao25, ?ao26, ?ao27, ?ao28, ?ao29, ?ao30, ?ao31, ?ao32, trivial⟩
            case ao0 =>
              intro a wx hE hin
              have i11 : a.eval (.tmp 11) = .int .i64 0 := hin 11 rfl
              clear hin
              have hcst : ∀ v, a.eval (.const v) = v := fun _ => rfl
              have hfnc : ∀ f, a.eval (.func f) = .func (.func f) #[] #[] := fun _ => rfl
              refine want_none rfl ?_
              unfold Oper.wp
              generalize a.eval = ρ at *
              go_simp
              try go_bits
              first | exact rel_val (Chg.refl _) | (go_simp; exact rel_val (Chg.refl _))
            case ao1 =>
              rintro a wx hE hin (h0 : a.eval (.tmp 93) = _)
              clear hin
              have hcst : ∀ v, a.eval (.const v) = v := fun _ => rfl
              have hfnc : ∀ f, a.eval (.func f) = .func (.func f) #[] #[] := fun _ => rfl
              refine want_none rfl ?_
              unfold Oper.wp
              generalize a.eval = ρ at *
              go_simp
              try go_bits
              first | exact rel_val (Chg.refl _) | (go_simp; exact rel_val (Chg.refl _))
            case ao2 =>
              rintro a wx hE hin (h1 : a.eval (.tmp 94) = _)
              clear hin
              have hcst : ∀ v, a.eval (.const v) = v := fun _ => rfl
              have hfnc : ∀ f, a.eval (.func f) = .func (.func f) #[] #[] := fun _ => rfl
              refine want_none rfl ?_
              unfold Oper.wp
              generalize a.eval = ρ at *
              go_simp
              try go_bits
              first | exact rel_val (Chg.refl _) | (go_simp; exact rel_val (Chg.refl _))
            case ao3 =>
              rintro a wx hE hin (h2 : a.eval (.tmp 95) = _)
              have i10 : a.eval (.tmp 10) = .pointer (some ⟨ga, 0, none⟩) := hin 10 rfl
              clear hin
              have hcst : ∀ v, a.eval (.const v) = v := fun _ => rfl
              have hfnc : ∀ f, a.eval (.func f) = .func (.func f) #[] #[] := fun _ => rfl
              refine want_yes rfl rfl h2 ?_
              unfold Oper.wp
              generalize a.eval = ρ at *
              go_simp
              try go_bits
              first | exact rel_val (Chg.refl _) | (go_simp; exact rel_val (Chg.refl _))
            case ao4 =>
              rintro a wx hE hin (h2 : a.eval (.tmp 95) = _) (h3 : a.eval (.tmp 96) = _)
              clear hin
              have hcst : ∀ v, a.eval (.const v) = v := fun _ => rfl
              have hfnc : ∀ f, a.eval (.func f) = .func (.func f) #[] #[] := fun _ => rfl
              refine want_yes rfl rfl h2 ?_
              unfold Oper.wp
              generalize a.eval = ρ at *
              have c := Bk.cell (j := 0) (Kaw14.out.drew.chg hE id) rfl
              go_simp
              try go_bits
              first | exact rel_val (Chg.refl _) | (go_simp; exact rel_val (Chg.refl _))
            case ao5 =>
              rintro a wx hE hin (h2 : a.eval (.tmp 95) = _)
              have i0 : a.eval (.tmp 0) = .slice (some ad) l.length c := hin 0 rfl
              clear hin
              have hcst : ∀ v, a.eval (.const v) = v := fun _ => rfl
              have hfnc : ∀ f, a.eval (.func f) = .func (.func f) #[] #[] := fun _ => rfl
              refine want_yes rfl rfl h2 ?_
              unfold Oper.wp
              generalize a.eval = ρ at *
              go_simp
              try go_bits
              first | exact rel_val (Chg.refl _) | (go_simp; exact rel_val (Chg.refl _))
            case ao6 =>
              rintro a wx hE hin (h2 : a.eval (.tmp 95) = _)
              have i9 : a.eval (.tmp 9) = .int .i64 k := hin 9 rfl
              clear hin
              have hcst : ∀ v, a.eval (.const v) = v := fun _ => rfl
              have hfnc : ∀ f, a.eval (.func f) = .func (.func f) #[] #[] := fun _ => rfl
              refine want_yes rfl rfl h2 ?_
              unfold Oper.wp
              generalize a.eval = ρ at *
              go_simp
              try go_bits
              first | exact rel_val (Chg.refl _) | (go_simp; exact rel_val (Chg.refl _))
            case ao7 =>
              rintro a wx hE hin (h2 : a.eval (.tmp 95) = _) (h5 : a.eval (.tmp 98) = _) (h6 : a.eval (.tmp 99) = _)
              clear hin
              have hcst : ∀ v, a.eval (.const v) = v := fun _ => rfl
              have hfnc : ∀ f, a.eval (.func f) = .func (.func f) #[] #[] := fun _ => rfl
              refine want_yes rfl rfl h2 ?_
              unfold Oper.wp
              generalize a.eval = ρ at *
              go_simp
              try go_bits
              first | exact rel_val (Chg.refl _) | (go_simp; exact rel_val (Chg.refl _))
            case ao8 =>
              rintro a wx hE hin (h2 : a.eval (.tmp 95) = _) (h7 : a.eval (.tmp 100) = _)
              clear hin
              have hcst : ∀ v, a.eval (.const v) = v := fun _ => rfl
              have hfnc : ∀ f, a.eval (.func f) = .func (.func f) #[] #[] := fun _ => rfl
              refine want_yes rfl rfl h2 ?_
              unfold Oper.wp
              generalize a.eval = ρ at *
              go_simp
              try go_bits
              first | exact rel_val (Chg.refl _) | (go_simp; exact rel_val (Chg.refl _))
            case ao9 =>
              rintro a wx hE hin (h2 : a.eval (.tmp 95) = _) (h8 : a.eval (.tmp 101) = _)
              clear hin
              have hcst : ∀ v, a.eval (.const v) = v := fun _ => rfl
              have hfnc : ∀ f, a.eval (.func f) = .func (.func f) #[] #[] := fun _ => rfl
              refine want_yes rfl rfl h2 ?_
              unfold Oper.wp
              generalize a.eval = ρ at *
              have c := rec_at0 (HR.out.below (Ew14.out.trans (hE.undrew.below Ew14.out.size (fun _ _ => id)))) hlt
              rw [HRE.out] at c
              go_simp
              try go_bits
              first | exact rel_val (Chg.refl _) | (go_simp; exact rel_val (Chg.refl _))
            case ao10 =>
              rintro a wx hE hin (h2 : a.eval (.tmp 95) = _) (h4 : a.eval (.tmp 97) = _) (h9 : a.eval (.tmp 102) = _)
              clear hin
              have hcst : ∀ v, a.eval (.const v) = v := fun _ => rfl
              have hfnc : ∀ f, a.eval (.func f) = .func (.func f) #[] #[] := fun _ => rfl
              refine want_yes rfl rfl h2 ?_
              unfold Oper.wp
              generalize a.eval = ρ at *
              go_simp
              try go_bits
              first | exact rel_val (Chg.refl _) | (go_simp; exact rel_val (Chg.refl _))
            case ao11 =>
              rintro a wx hE hin (h2 : a.eval (.tmp 95) = _) (h10 : a.eval (.tmp 103) = _)
              clear hin
              have hcst : ∀ v, a.eval (.const v) = v := fun _ => rfl
              have hfnc : ∀ f, a.eval (.func f) = .func (.func f) #[] #[] := fun _ => rfl
              refine want_none rfl ?_
              unfold Oper.wp
              generalize a.eval = ρ at *
              go_simp
              try go_bits
              first | exact rel_val (Chg.refl _) | (go_simp; exact rel_val (Chg.refl _))
            case ao12 =>
              rintro a wx hE hin (h11 : a.eval (.tmp 104) = _)
              clear hin
              have hcst : ∀ v, a.eval (.const v) = v := fun _ => rfl
              have hfnc : ∀ f, a.eval (.func f) = .func (.func f) #[] #[] := fun _ => rfl
              refine want_none rfl ?_
              unfold Oper.wp
              generalize a.eval = ρ at *
              go_simp
              try go_bits
              first | exact rel_val (Chg.refl _) | (go_simp; exact rel_val (Chg.refl _))
            case ao13 =>
              rintro a wx hE hin (h12 : a.eval (.tmp 105) = _)
              have i10 : a.eval (.tmp 10) = .pointer (some ⟨ga, 0, none⟩) := hin 10 rfl
              clear hin
              have hcst : ∀ v, a.eval (.const v) = v := fun _ => rfl
              have hfnc : ∀ f, a.eval (.func f) = .func (.func f) #[] #[] := fun _ => rfl
              refine want_yes rfl rfl h12 ?_
              unfold Oper.wp
              generalize a.eval = ρ at *
              go_simp
              try go_bits
              first | exact rel_val (Chg.refl _) | (go_simp; exact rel_val (Chg.refl _))
            case ao14 =>
              rintro a wx hE hin (h12 : a.eval (.tmp 105) = _) (h13 : a.eval (.tmp 106) = _)
              clear hin
              have hcst : ∀ v, a.eval (.const v) = v := fun _ => rfl
              have hfnc : ∀ f, a.eval (.func f) = .func (.func f) #[] #[] := fun _ => rfl
              refine want_yes rfl rfl h12 ?_
              unfold Oper.wp
              generalize a.eval = ρ at *
              have c := Bk.cell (j := 1) (Kaw14.out.drew.chg hE id) rfl
              go_simp
              try go_bits
              first | exact rel_val (Chg.refl _) | (go_simp; exact rel_val (Chg.refl _))
            case ao15 =>
              rintro a wx hE hin (h12 : a.eval (.tmp 105) = _)
              have i0 : a.eval (.tmp 0) = .slice (some ad) l.length c := hin 0 rfl
              clear hin
              have hcst : ∀ v, a.eval (.const v) = v := fun _ => rfl
              have hfnc : ∀ f, a.eval (.func f) = .func (.func f) #[] #[] := fun _ => rfl
              refine want_yes rfl rfl h12 ?_
              unfold Oper.wp
              generalize a.eval = ρ at *
              go_simp
              try go_bits
              first | exact rel_val (Chg.refl _) | (go_simp; exact rel_val (Chg.refl _))
            case ao16 =>
              rintro a wx hE hin (h12 : a.eval (.tmp 105) = _)
              have i9 : a.eval (.tmp 9) = .int .i64 k := hin 9 rfl
              clear hin
              have hcst : ∀ v, a.eval (.const v) = v := fun _ => rfl
              have hfnc : ∀ f, a.eval (.func f) = .func (.func f) #[] #[] := fun _ => rfl
              refine want_yes rfl rfl h12 ?_
              unfold Oper.wp
              generalize a.eval = ρ at *
              go_simp
              try go_bits
              first | exact rel_val (Chg.refl _) | (go_simp; exact rel_val (Chg.refl _))
            case ao17 =>
              rintro a wx hE hin (h12 : a.eval (.tmp 105) = _) (h15 : a.eval (.tmp 108) = _) (h16 : a.eval (.tmp 109) = _)
              clear hin
              have hcst : ∀ v, a.eval (.const v) = v := fun _ => rfl
              have hfnc : ∀ f, a.eval (.func f) = .func (.func f) #[] #[] := fun _ => rfl
              refine want_yes rfl rfl h12 ?_
              unfold Oper.wp
              generalize a.eval = ρ at *
              go_simp
              try go_bits
              first | exact rel_val (Chg.refl _) | (go_simp; exact rel_val (Chg.refl _))
            case ao18 =>
              rintro a wx hE hin (h12 : a.eval (.tmp 105) = _) (h17 : a.eval (.tmp 110) = _)
              clear hin
              have hcst : ∀ v, a.eval (.const v) = v := fun _ => rfl
              have hfnc : ∀ f, a.eval (.func f) = .func (.func f) #[] #[] := fun _ => rfl
              refine want_yes rfl rfl h12 ?_
              unfold Oper.wp
              generalize a.eval = ρ at *
              go_simp
              try go_bits
              first | exact rel_val (Chg.refl _) | (go_simp; exact rel_val (Chg.refl _))
            case ao19 =>
              rintro a wx hE hin (h12 : a.eval (.tmp 105) = _) (h18 : a.eval (.tmp 111) = _)
              clear hin
              have hcst : ∀ v, a.eval (.const v) = v := fun _ => rfl
              have hfnc : ∀ f, a.eval (.func f) = .func (.func f) #[] #[] := fun _ => rfl
              refine want_yes rfl rfl h12 ?_
              unfold Oper.wp
              generalize a.eval = ρ at *
              have c := rec_at1 (HR.out.below (Ew14.out.trans (hE.undrew.below Ew14.out.size (fun _ _ => id)))) hlt
              rw [HRE.out] at c
              go_simp
              try go_bits
              first | exact rel_val (Chg.refl _) | (go_simp; exact rel_val (Chg.refl _))
            case ao20 =>
              rintro a wx hE hin (h12 : a.eval (.tmp 105) = _) (h14 : a.eval (.tmp 107) = _) (h19 : a.eval (.tmp 112) = _)
              clear hin
              have hcst : ∀ v, a.eval (.const v) = v := fun _ => rfl
              have hfnc : ∀ f, a.eval (.func f) = .func (.func f) #[] #[] := fun _ => rfl
              refine want_yes rfl rfl h12 ?_
              unfold Oper.wp
              generalize a.eval = ρ at *
              go_simp
              try go_bits
              first | exact rel_val (Chg.refl _) | (go_simp; exact rel_val (Chg.refl _))
            case ao21 =>
              rintro a wx hE hin (h12 : a.eval (.tmp 105) = _) (h20 : a.eval (.tmp 113) = _)
              clear hin
              have hcst : ∀ v, a.eval (.const v) = v := fun _ => rfl
              have hfnc : ∀ f, a.eval (.func f) = .func (.func f) #[] #[] := fun _ => rfl
              refine want_none rfl ?_
              unfold Oper.wp
              generalize a.eval = ρ at *
              go_simp
              try go_bits
              first | exact rel_val (Chg.refl _) | (go_simp; exact rel_val (Chg.refl _))
            case ao22 =>
              rintro a wx hE hin (h21 : a.eval (.tmp 114) = _)
              clear hin
              have hcst : ∀ v, a.eval (.const v) = v := fun _ => rfl
              have hfnc : ∀ f, a.eval (.func f) = .func (.func f) #[] #[] := fun _ => rfl
              refine want_none rfl ?_
              unfold Oper.wp
              generalize a.eval = ρ at *
              go_simp
              try go_bits
              first | exact rel_val (Chg.refl _) | (go_simp; exact rel_val (Chg.refl _))
            case ao23 =>
              rintro a wx hE hin (h22 : a.eval (.tmp 115) = _)
              have i10 : a.eval (.tmp 10) = .pointer (some ⟨ga, 0, none⟩) := hin 10 rfl
              clear hin
              have hcst : ∀ v, a.eval (.const v) = v := fun _ => rfl
              have hfnc : ∀ f, a.eval (.func f) = .func (.func f) #[] #[] := fun _ => rfl
              refine want_yes rfl rfl h22 ?_
              unfold Oper.wp
              generalize a.eval = ρ at *
              go_simp
              try go_bits
              first | exact rel_val (Chg.refl _) | (go_simp; exact rel_val (Chg.refl _))
            case ao24 =>
              rintro a wx hE hin (h22 : a.eval (.tmp 115) = _) (h23 : a.eval (.tmp 116) = _)
              clear hin
              have hcst : ∀ v, a.eval (.const v) = v := fun _ => rfl
              have hfnc : ∀ f, a.eval (.func f) = .func (.func f) #[] #[] := fun _ => rfl
              refine want_yes rfl rfl h22 ?_
              unfold Oper.wp
              generalize a.eval = ρ at *
              have c := Bk.cell (j := 2) (Kaw14.out.drew.chg hE id) rfl
              go_simp
              try go_bits
              first | exact rel_val (Chg.refl _) | (go_simp; exact rel_val (Chg.refl _))
            case ao25 =>
              rintro a wx hE hin (h22 : a.eval (.tmp 115) = _)
              have i0 : a.eval (.tmp 0) = .slice (some ad) l.length c := hin 0 rfl
              clear hin
              have hcst : ∀ v, a.eval (.const v) = v := fun _ => rfl
              have hfnc : ∀ f, a.eval (.func f) = .func (.func f) #[] #[] := fun _ => rfl
              refine want_yes rfl rfl h22 ?_
              unfold Oper.wp
              generalize a.eval = ρ at *
              go_simp
              try go_bits
              first | exact rel_val (Chg.refl _) | (go_simp; exact rel_val (Chg.refl _))
            case ao26 =>
              rintro a wx hE hin (h22 : a.eval (.tmp 115) = _)
              have i9 : a.eval (.tmp 9) = .int .i64 k := hin 9 rfl
              clear hin
              have hcst : ∀ v, a.eval (.const v) = v := fun _ => rfl
              have hfnc : ∀ f, a.eval (.func f) = .func (.func f) #[] #[] := fun _ => rfl
              refine want_yes rfl rfl h22 ?_
              unfold Oper.wp
              generalize a.eval = ρ at *
              go_simp
              try go_bits
              first | exact rel_val (Chg.refl _) | (go_simp; exact rel_val (Chg.refl _))
            case ao27 =>
              rintro a wx hE hin (h22 : a.eval (.tmp 115) = _) (h25 : a.eval (.tmp 118) = _) (h26 : a.eval (.tmp 119) = _)
              clear hin
              have hcst : ∀ v, a.eval (.const v) = v := fun _ => rfl
              have hfnc : ∀ f, a.eval (.func f) = .func (.func f) #[] #[] := fun _ => rfl
              refine want_yes rfl rfl h22 ?_
              unfold Oper.wp
              generalize a.eval = ρ at *
              go_simp
              try go_bits
              first | exact rel_val (Chg.refl _) | (go_simp; exact rel_val (Chg.refl _))
            case ao28 =>
              rintro a wx hE hin (h22 : a.eval (.tmp 115) = _) (h27 : a.eval (.tmp 120) = _)
              clear hin
              have hcst : ∀ v, a.eval (.const v) = v := fun _ => rfl
              have hfnc : ∀ f, a.eval (.func f) = .func (.func f) #[] #[] := fun _ => rfl
              refine want_yes rfl rfl h22 ?_
              unfold Oper.wp
              generalize a.eval = ρ at *
              go_simp
              try go_bits
              first | exact rel_val (Chg.refl _) | (go_simp; exact rel_val (Chg.refl _))
            case ao29 =>
              rintro a wx hE hin (h22 : a.eval (.tmp 115) = _) (h28 : a.eval (.tmp 121) = _)
              clear hin
              have hcst : ∀ v, a.eval (.const v) = v := fun _ => rfl
              have hfnc : ∀ f, a.eval (.func f) = .func (.func f) #[] #[] := fun _ => rfl
              refine want_yes rfl rfl h22 ?_
              unfold Oper.wp
              generalize a.eval = ρ at *
              have c := rec_at2 (HR.out.below (Ew14.out.trans (hE.undrew.below Ew14.out.size (fun _ _ => id)))) hlt
              rw [HRE.out] at c
              go_simp
              try go_bits
              first | exact rel_val (Chg.refl _) | (go_simp; exact rel_val (Chg.refl _))
            case ao30 =>
              rintro a wx hE hin (h22 : a.eval (.tmp 115) = _) (h24 : a.eval (.tmp 117) = _) (h29 : a.eval (.tmp 122) = _)
              clear hin
              have hcst : ∀ v, a.eval (.const v) = v := fun _ => rfl
              have hfnc : ∀ f, a.eval (.func f) = .func (.func f) #[] #[] := fun _ => rfl
              refine want_yes rfl rfl h22 ?_
              unfold Oper.wp
              generalize a.eval = ρ at *
              go_simp
              rw [← HOK.out.len]
              refine (keepPuts_calls r.ps r.ps Aw12 r.A r.ps.length r.ps.length cw12 r.c wx rfl rfl (by have h1 := HOK.out.len; have h2 := HOK.out.cap; have h3 := HOK.out.max; omega) (Rw12w14.out.chg hE.undrew) (HOK.out.rd.below (Ew14.out.trans (hE.undrew.below Ew14.out.size (fun _ _ => id)))) HOK.out.ok HOK.out.ok).mono ?_
              rintro e w' ⟨rfl, hb⟩
              rw [decide_eq_true rfl]
              exact rel_val (.of_below hb)
            case ao31 =>
              rintro a wx hE hin (h22 : a.eval (.tmp 115) = _) (h30 : a.eval (.tmp 123) = _)
              clear hin
              have hcst : ∀ v, a.eval (.const v) = v := fun _ => rfl
              have hfnc : ∀ f, a.eval (.func f) = .func (.func f) #[] #[] := fun _ => rfl
              refine want_yes rfl rfl h22 ?_
              unfold Oper.wp
              generalize a.eval = ρ at *
              go_simp
              try go_bits
              first | exact rel_val (Chg.refl _) | (go_simp; exact rel_val (Chg.refl _))
            case ao32 =>
              rintro a wx hE hin (h22 : a.eval (.tmp 115) = _) (h31 : a.eval (.tmp 124) = _)
              clear hin
              have hcst : ∀ v, a.eval (.const v) = v := fun _ => rfl
              have hfnc : ∀ f, a.eval (.func f) = .func (.func f) #[] #[] := fun _ => rfl
              refine want_none rfl ?_
              unfold Oper.wp
              generalize a.eval = ρ at *
              go_simp
              try go_bits
              first | exact rel_val (Chg.refl _) | (go_simp; exact rel_val (Chg.refl _))
          case afin =>
            intro wx hE
            rintro _ rfl _ rfl _ rfl _ rfl _ rfl _ rfl _ rfl _ rfl _ rfl _ rfl _ rfl _ rfl _ rfl _ rfl _ rfl _ rfl _ rfl _ rfl _ rfl _ rfl _ rfl _ rfl _ rfl _ rfl _ rfl _ rfl _ rfl _ rfl _ rfl _ rfl _ rfl _ rfl _ rfl
            simp only [FinOk, List.take_succ_cons, List.take_zero, List.take_nil, List.drop_succ_cons, List.drop_zero, List.drop_nil, Act.put, List.setIfInBounds_toArray, List.set_cons_succ, List.set_cons_zero]
            have DX : Hid (DSes 99 w wx gd gsd lvdw11 ⟨putS S at_ r.e r.q r.ps, [], -1, false⟩) := Ddw14.out.chgN hE.undrew
            clear hE
            go_wp2_with fail
            go_roundw
            case rel => exact ⟨k + 1, _, putS S at_ r.e r.q r.ps, by omega, by go_num, DX.out, by rw [putS_length]; exact HSL.out, fun j hj hjo => by rw [putS_out (by rw [HSL.out]; exact hj) (by have := (goodB_at HGD.out).2.1; omega)]; exact HSO.out j hj hjo⟩
            case measure => simp [intOf]; omega
        · have hke : k = l.length := by omega
          subst hke
          have hki : ¬ (((l.length : Nat) : Int) < (l.length : Int)) := by omega
          have H4 : Hid (OverRel4 w gd gsd lv S (.int .i64 0) wr) := ⟨0, by decide, rfl, DCr.out⟩
          go_wp2_with fail
          go_loopw [12] (fun v12 wr => OverRel4 w gd gsd lv S v12 wr) (fun v12 _ => 14 - (intOf v12).toNat)
          case atStart => exact H4.out
          case round =>
            obtain ⟨k, hk, rfl, hd⟩ := hrel
            have DFr := Lib.hid hd
            have EFr := Lib.hid hd.bel
            clear hd H4 hki DCr ECr
            by_cases hk14 : k < 14
            · have hki : (k : Int) < 14 := by omega
              have hk0 : (0 : Int) ≤ (k : Int) := by omega
              have HBY := Lib.hid (byte200 hk14)
              by_cases hin : at_ ≤ k ∧ k ≤ at_ + 5
              · have h1 : (at_ : Int) ≤ (k : Int) := by omega
                have h2 : (k : Int) ≤ (at_ : Int) + 5 := by omega
                go_wp2_with fail
                go_roundw
                case rel => exact ⟨k + 1, by omega, by go_num, DFr.out⟩
                case measure => simp [intOf]; omega
              · have hout : k < at_ ∨ at_ + 5 < k := by omega
                obtain ⟨r1, r2⟩ := read_live S [] (-1) k (by rw [HSL.out]; exact hk14)
                rw [nowS_nil, HSO.out k hk14 hout] at r1
                have HRD := Lib.hid r1
                have HRDE := Lib.hid r2
                clear r1 r2
                rcases hout with hout | hout
                · have h1 : ¬ (at_ : Int) ≤ (k : Int) := by omega
                  go_wp2_with fail
                  obtain ⟨rb, hrb⟩ : ∃ rb, fillB k = rb := ⟨_, rfl⟩
                  have HRB := Lib.hid hrb
                  refine (diskRead_at wr gd gsd lv ⟨S, [], -1, false⟩ (k : Int) DFr.out.at_).mono ?_
                  rintro en w1 ⟨rfl, hb⟩
                  have Ew1 : Hid (Below w.heap.size w w1) := EFr.out.trans (hb.mono EFr.out.size)
                  have Ddw1 : Hid (DSes 99 w w1 gd gsd lv ⟨S, [], -1, false⟩) := DFr.out.below hb
                  clear EFr DFr
                  clear hb
                  rw [HRD.out, HRDE.out]
                  obtain ⟨vb, hvb⟩ : ∃ vb, bts (fillB k) = vb := ⟨_, rfl⟩
                  have HVB := Lib.hid hvb
                  have HVBL : Hid (vb.length = 32) := by show _ = _; rw [← hvb, bts_length, fillB, List.length_replicate]
                  have HVBO : Hid (∀ u ∈ vb, u.oneCell' = true) := by rw [← hvb]; exact one_bts _
                  rw [hvb]
                  clear hvb hrb
                  go_wp2_with (refine wpList_al rfl 37 rfl (bts (List.replicate 32 0)) (by kernel_rfl) ?_)
                  intro gq w2 hg hb hc hs
                  have HQq : Hid (Below w1.heap.size w1 w2) := hc.below (Nat.le_refl _) (fun _ _ => id)
                  have HGq : Hid (gq = w1.heap.size) := hg
                  have KZq := Lib.hid hb
                  clear hg hb hc hs
                  go_wp2_with (refine wpList_st rfl 37 (.tmp 13) (.tmp 143) rfl gq 0 32 (bts (List.replicate 32 0)) vb rfl rfl KZq.out (by kernel_rfl) HVBL.out (by decide) HVBO.out ?_)
                  intro w3 hbk hc
                  rw [splice_whole _ _ (by rw [HVBL.out]; rfl)] at hbk
                  have hb : Below w1.heap.size w1 w3 := HQq.out.trans (hc.below HQq.out.size (fun q hq he => by have := HGq.out; omega))
                  have Ew3 : Hid (Below w.heap.size w w3) := Ew1.out.trans (hb.mono Ew1.out.size)
                  have Ddw3 : Hid (DSes 99 w w3 gd gsd lv ⟨S, [], -1, false⟩) := Ddw1.out.below hb
                  clear Ew1 Ddw1
                  have Kqw3 : Hid (Bk w3 gq vb) := hbk
                  have Kqw3 : Hid (Bk w3 gq vb) := hbk
                  clear hbk hb hc KZq HQq HGq
                  go_wp2_with fail
                  apply wp_region_rel 10 (Chg NoS) [(Veq _), (Veq _), (Veq _), (Veq _), (Veq _), (Veq _), (Veq _), (Veq _), (Veq _), (Veq _)] [[], [0], [1], [2], [2], [2, 4], [2, 5], [2, 6], [2, 3, 7], [2, 8]] [145, 146, 147, 148, 149, 150, 151, 152, 153, 154] (by kernel_rfl) (by kernel_rfl) rfl rfl rfl Chg.refl (fun _ _ _ => Chg.trans) ⟨Veq.lasts, Veq.lasts, Veq.lasts, Veq.lasts, Veq.lasts, Veq.lasts, Veq.lasts, Veq.lasts, Veq.lasts, Veq.lasts, trivial⟩ ?bops ?bfin
                  case bops =>
                    refine ⟨?bo0, ?bo1, ?bo2, ?bo3, ?bo4, ?bo5, ?bo6, ?bo7, ?bo8, ?bo9, trivial⟩
                    case bo0 =>
                      intro a wx hE hin
                      have i14 : a.eval (.tmp 14) = .int .i64 0 := hin 14 rfl
                      clear hin
                      have hcst : ∀ v, a.eval (.const v) = v := fun _ => rfl
                      have hfnc : ∀ f, a.eval (.func f) = .func (.func f) #[] #[] := fun _ => rfl
                      refine want_none rfl ?_
                      unfold Oper.wp
                      generalize a.eval = ρ at *
                      go_simp
                      try go_bits
                      first | exact rel_val (Chg.refl _) | (go_simp; exact rel_val (Chg.refl _))
                    case bo1 =>
                      rintro a wx hE hin (h0 : a.eval (.tmp 145) = _)
                      clear hin
                      have hcst : ∀ v, a.eval (.const v) = v := fun _ => rfl
                      have hfnc : ∀ f, a.eval (.func f) = .func (.func f) #[] #[] := fun _ => rfl
                      refine want_none rfl ?_
                      unfold Oper.wp
                      generalize a.eval = ρ at *
                      go_simp
                      try go_bits
                      first | exact rel_val (Chg.refl _) | (go_simp; exact rel_val (Chg.refl _))
                    case bo2 =>
                      rintro a wx hE hin (h1 : a.eval (.tmp 146) = _)
                      clear hin
                      have hcst : ∀ v, a.eval (.const v) = v := fun _ => rfl
                      have hfnc : ∀ f, a.eval (.func f) = .func (.func f) #[] #[] := fun _ => rfl
                      refine want_none rfl ?_
                      unfold Oper.wp
                      generalize a.eval = ρ at *
                      go_simp
                      try go_bits
                      first | exact rel_val (Chg.refl _) | (go_simp; exact rel_val (Chg.refl _))
                    case bo3 =>
                      rintro a wx hE hin (h2 : a.eval (.tmp 147) = _)
                      have i13 : a.eval (.tmp 13) = .pointer (some ⟨gq, 0, none⟩) := hin 13 rfl
                      clear hin
                      have hcst : ∀ v, a.eval (.const v) = v := fun _ => rfl
                      have hfnc : ∀ f, a.eval (.func f) = .func (.func f) #[] #[] := fun _ => rfl
                      refine want_yes rfl rfl h2 ?_
                      exact wp_ld 37 _ rfl gq 0 32 vb (bts (fillB k)) i13 (Kqw3.out.drew.chg hE id) (by kernel_rfl) (by kernel_rfl) (by rw [HVBL.out]; decide) (by rw [List.drop_zero, List.take_of_length_le (by rw [HVBL.out]; exact Nat.le_refl _), HVB.out]) (rel_val (Chg.refl _))
                    case bo4 =>
                      rintro a wx hE hin (h2 : a.eval (.tmp 147) = _)
                      have i12 : a.eval (.tmp 12) = .int .i64 k := hin 12 rfl
                      clear hin
                      have hcst : ∀ v, a.eval (.const v) = v := fun _ => rfl
                      have hfnc : ∀ f, a.eval (.func f) = .func (.func f) #[] #[] := fun _ => rfl
                      refine want_yes rfl rfl h2 ?_
                      unfold Oper.wp
                      generalize a.eval = ρ at *
                      go_simp
                      try go_bits
                      first | exact rel_val (Chg.refl _) | (go_simp; exact rel_val (Chg.refl _))
                    case bo5 =>
                      rintro a wx hE hin (h2 : a.eval (.tmp 147) = _) (h4 : a.eval (.tmp 149) = _)
                      clear hin
                      have hcst : ∀ v, a.eval (.const v) = v := fun _ => rfl
                      have hfnc : ∀ f, a.eval (.func f) = .func (.func f) #[] #[] := fun _ => rfl
                      refine want_yes rfl rfl h2 ?_
                      unfold Oper.wp
                      generalize a.eval = ρ at *
                      go_simp
                      try go_bits
                      first | exact rel_val (Chg.refl _) | (go_simp; exact rel_val (Chg.refl _))
                    case bo6 =>
                      rintro a wx hE hin (h2 : a.eval (.tmp 147) = _) (h5 : a.eval (.tmp 150) = _)
                      clear hin
                      have hcst : ∀ v, a.eval (.const v) = v := fun _ => rfl
                      have hfnc : ∀ f, a.eval (.func f) = .func (.func f) #[] #[] := fun _ => rfl
                      refine want_yes rfl rfl h2 ?_
                      unfold Oper.wp
                      generalize a.eval = ρ at *
                      go_simp
                      try go_bits
                      first | exact rel_val (Chg.refl _) | (go_simp; exact rel_val (Chg.refl _))
                    case bo7 =>
                      rintro a wx hE hin (h2 : a.eval (.tmp 147) = _) (h6 : a.eval (.tmp 151) = _)
                      clear hin
                      have hcst : ∀ v, a.eval (.const v) = v := fun _ => rfl
                      have hfnc : ∀ f, a.eval (.func f) = .func (.func f) #[] #[] := fun _ => rfl
                      refine want_yes rfl rfl h2 ?_
                      unfold Oper.wp
                      generalize a.eval = ρ at *
                      go_simp
                      rw [HBY.out]
                      refine (fill_calls (UInt8.ofNat (200 + k)) wx).mono ?_
                      rintro e w' ⟨rfl, hb⟩
                      exact rel_val (.of_below hb)
                    case bo8 =>
                      rintro a wx hE hin (h2 : a.eval (.tmp 147) = _) (h3 : a.eval (.tmp 148) = _) (h7 : a.eval (.tmp 152) = _)
                      clear hin
                      have hcst : ∀ v, a.eval (.const v) = v := fun _ => rfl
                      have hfnc : ∀ f, a.eval (.func f) = .func (.func f) #[] #[] := fun _ => rfl
                      refine want_yes rfl rfl h2 ?_
                      exact wp_eq_bytes true 37 _ _ _ rfl 5 32 Try.underlying37 Try.underlying5 (by kernel_rfl) (by kernel_rfl) (fillB k) (fillB k) h3 h7 (by rw [fillB, List.length_replicate]) (by rw [fillB, List.length_replicate]) (by rw [decide_eq_true rfl]; exact rel_val (Chg.refl _))
                    case bo9 =>
                      rintro a wx hE hin (h2 : a.eval (.tmp 147) = _) (h8 : a.eval (.tmp 153) = _)
                      clear hin
                      have hcst : ∀ v, a.eval (.const v) = v := fun _ => rfl
                      have hfnc : ∀ f, a.eval (.func f) = .func (.func f) #[] #[] := fun _ => rfl
                      refine want_none rfl ?_
                      unfold Oper.wp
                      generalize a.eval = ρ at *
                      go_simp
                      try go_bits
                      first | exact rel_val (Chg.refl _) | (go_simp; exact rel_val (Chg.refl _))
                  case bfin =>
                    intro wx hE
                    rintro _ rfl _ rfl _ rfl _ rfl _ rfl _ rfl _ rfl _ rfl _ rfl _ rfl
                    simp only [FinOk, List.take_succ_cons, List.take_zero, List.take_nil, List.drop_succ_cons, List.drop_zero, List.drop_nil, Act.put, List.setIfInBounds_toArray, List.set_cons_succ, List.set_cons_zero]
                    have DX : Hid (DSes 99 w wx gd gsd lv ⟨S, [], -1, false⟩) := Ddw3.out.chgN hE.undrew
                    clear hE
                    go_wp2_with fail
                    go_roundw
                    case rel => exact ⟨k + 1, by omega, by go_num, DX.out⟩
                    case measure => simp [intOf]; omega
                · have h1 : (at_ : Int) ≤ (k : Int) := by omega
                  have h2 : ¬ (k : Int) ≤ (at_ : Int) + 5 := by omega
                  go_wp2_with fail
                  obtain ⟨rb, hrb⟩ : ∃ rb, fillB k = rb := ⟨_, rfl⟩
                  have HRB := Lib.hid hrb
                  refine (diskRead_at wr gd gsd lv ⟨S, [], -1, false⟩ (k : Int) DFr.out.at_).mono ?_
                  rintro en w1 ⟨rfl, hb⟩
                  have Ew1 : Hid (Below w.heap.size w w1) := EFr.out.trans (hb.mono EFr.out.size)
                  have Ddw1 : Hid (DSes 99 w w1 gd gsd lv ⟨S, [], -1, false⟩) := DFr.out.below hb
                  clear EFr DFr
                  clear hb
                  rw [HRD.out, HRDE.out]
                  obtain ⟨vb, hvb⟩ : ∃ vb, bts (fillB k) = vb := ⟨_, rfl⟩
                  have HVB := Lib.hid hvb
                  have HVBL : Hid (vb.length = 32) := by show _ = _; rw [← hvb, bts_length, fillB, List.length_replicate]
                  have HVBO : Hid (∀ u ∈ vb, u.oneCell' = true) := by rw [← hvb]; exact one_bts _
                  rw [hvb]
                  clear hvb hrb
                  go_wp2_with (refine wpList_al rfl 37 rfl (bts (List.replicate 32 0)) (by kernel_rfl) ?_)
                  intro gq w2 hg hb hc hs
                  have HQq : Hid (Below w1.heap.size w1 w2) := hc.below (Nat.le_refl _) (fun _ _ => id)
                  have HGq : Hid (gq = w1.heap.size) := hg
                  have KZq := Lib.hid hb
                  clear hg hb hc hs
                  go_wp2_with (refine wpList_st rfl 37 (.tmp 13) (.tmp 143) rfl gq 0 32 (bts (List.replicate 32 0)) vb rfl rfl KZq.out (by kernel_rfl) HVBL.out (by decide) HVBO.out ?_)
                  intro w3 hbk hc
                  rw [splice_whole _ _ (by rw [HVBL.out]; rfl)] at hbk
                  have hb : Below w1.heap.size w1 w3 := HQq.out.trans (hc.below HQq.out.size (fun q hq he => by have := HGq.out; omega))
                  have Ew3 : Hid (Below w.heap.size w w3) := Ew1.out.trans (hb.mono Ew1.out.size)
                  have Ddw3 : Hid (DSes 99 w w3 gd gsd lv ⟨S, [], -1, false⟩) := Ddw1.out.below hb
                  clear Ew1 Ddw1
                  have Kqw3 : Hid (Bk w3 gq vb) := hbk
                  have Kqw3 : Hid (Bk w3 gq vb) := hbk
                  clear hbk hb hc KZq HQq HGq
                  go_wp2_with fail
                  apply wp_region_rel 10 (Chg NoS) [(Veq _), (Veq _), (Veq _), (Veq _), (Veq _), (Veq _), (Veq _), (Veq _), (Veq _), (Veq _)] [[], [0], [1], [2], [2], [2, 4], [2, 5], [2, 6], [2, 3, 7], [2, 8]] [145, 146, 147, 148, 149, 150, 151, 152, 153, 154] (by kernel_rfl) (by kernel_rfl) rfl rfl rfl Chg.refl (fun _ _ _ => Chg.trans) ⟨Veq.lasts, Veq.lasts, Veq.lasts, Veq.lasts, Veq.lasts, Veq.lasts, Veq.lasts, Veq.lasts, Veq.lasts, Veq.lasts, trivial⟩ ?bops ?bfin
                  case bops =>
                    refine ⟨?bo0, ?bo1, ?bo2, ?bo3, ?bo4, ?bo5, ?bo6, ?bo7, ?bo8, ?bo9, trivial⟩
                    case bo0 =>
                      intro a wx hE hin
                      have i14 : a.eval (.tmp 14) = .int .i64 0 := hin 14 rfl
                      clear hin
                      have hcst : ∀ v, a.eval (.const v) = v := fun _ => rfl
                      have hfnc : ∀ f, a.eval (.func f) = .func (.func f) #[] #[] := fun _ => rfl
                      refine want_none rfl ?_
                      unfold Oper.wp
                      generalize a.eval = ρ at *
                      go_simp
                      try go_bits
                      first | exact rel_val (Chg.refl _) | (go_simp; exact rel_val (Chg.refl _))
                    case bo1 =>
                      rintro a wx hE hin (h0 : a.eval (.tmp 145) = _)
                      clear hin
                      have hcst : ∀ v, a.eval (.const v) = v := fun _ => rfl
                      have hfnc : ∀ f, a.eval (.func f) = .func (.func f) #[] #[] := fun _ => rfl
                      refine want_none rfl ?_
                      unfold Oper.wp
                      generalize a.eval = ρ at *
                      go_simp
                      try go_bits
                      first | exact rel_val (Chg.refl _) | (go_simp; exact rel_val (Chg.refl _))
                    case bo2 =>
                      rintro a wx hE hin (h1 : a.eval (.tmp 146) = _)
                      clear hin
                      have hcst : ∀ v, a.eval (.const v) = v := fun _ => rfl
                      have hfnc : ∀ f, a.eval (.func f) = .func (.func f) #[] #[] := fun _ => rfl
                      refine want_none rfl ?_
                      unfold Oper.wp
                      generalize a.eval = ρ at *
                      go_simp
                      try go_bits
                      first | exact rel_val (Chg.refl _) | (go_simp; exact rel_val (Chg.refl _))
                    case bo3 =>
                      rintro a wx hE hin (h2 : a.eval (.tmp 147) = _)
                      have i13 : a.eval (.tmp 13) = .pointer (some ⟨gq, 0, none⟩) := hin 13 rfl
                      clear hin
                      have hcst : ∀ v, a.eval (.const v) = v := fun _ => rfl
                      have hfnc : ∀ f, a.eval (.func f) = .func (.func f) #[] #[] := fun _ => rfl
                      refine want_yes rfl rfl h2 ?_
                      exact wp_ld 37 _ rfl gq 0 32 vb (bts (fillB k)) i13 (Kqw3.out.drew.chg hE id) (by kernel_rfl) (by kernel_rfl) (by rw [HVBL.out]; decide) (by rw [List.drop_zero, List.take_of_length_le (by rw [HVBL.out]; exact Nat.le_refl _), HVB.out]) (rel_val (Chg.refl _))
                    case bo4 =>
                      rintro a wx hE hin (h2 : a.eval (.tmp 147) = _)
                      have i12 : a.eval (.tmp 12) = .int .i64 k := hin 12 rfl
                      clear hin
                      have hcst : ∀ v, a.eval (.const v) = v := fun _ => rfl
                      have hfnc : ∀ f, a.eval (.func f) = .func (.func f) #[] #[] := fun _ => rfl
                      refine want_yes rfl rfl h2 ?_
                      unfold Oper.wp
                      generalize a.eval = ρ at *
                      go_simp
                      try go_bits
                      first | exact rel_val (Chg.refl _) | (go_simp; exact rel_val (Chg.refl _))
                    case bo5 =>
                      rintro a wx hE hin (h2 : a.eval (.tmp 147) = _) (h4 : a.eval (.tmp 149) = _)
                      clear hin
                      have hcst : ∀ v, a.eval (.const v) = v := fun _ => rfl
                      have hfnc : ∀ f, a.eval (.func f) = .func (.func f) #[] #[] := fun _ => rfl
                      refine want_yes rfl rfl h2 ?_
                      unfold Oper.wp
                      generalize a.eval = ρ at *
                      go_simp
                      try go_bits
                      first | exact rel_val (Chg.refl _) | (go_simp; exact rel_val (Chg.refl _))
                    case bo6 =>
                      rintro a wx hE hin (h2 : a.eval (.tmp 147) = _) (h5 : a.eval (.tmp 150) = _)
                      clear hin
                      have hcst : ∀ v, a.eval (.const v) = v := fun _ => rfl
                      have hfnc : ∀ f, a.eval (.func f) = .func (.func f) #[] #[] := fun _ => rfl
                      refine want_yes rfl rfl h2 ?_
                      unfold Oper.wp
                      generalize a.eval = ρ at *
                      go_simp
                      try go_bits
                      first | exact rel_val (Chg.refl _) | (go_simp; exact rel_val (Chg.refl _))
                    case bo7 =>
                      rintro a wx hE hin (h2 : a.eval (.tmp 147) = _) (h6 : a.eval (.tmp 151) = _)
                      clear hin
                      have hcst : ∀ v, a.eval (.const v) = v := fun _ => rfl
                      have hfnc : ∀ f, a.eval (.func f) = .func (.func f) #[] #[] := fun _ => rfl
                      refine want_yes rfl rfl h2 ?_
                      unfold Oper.wp
                      generalize a.eval = ρ at *
                      go_simp
                      rw [HBY.out]
                      refine (fill_calls (UInt8.ofNat (200 + k)) wx).mono ?_
                      rintro e w' ⟨rfl, hb⟩
                      exact rel_val (.of_below hb)
                    case bo8 =>
                      rintro a wx hE hin (h2 : a.eval (.tmp 147) = _) (h3 : a.eval (.tmp 148) = _) (h7 : a.eval (.tmp 152) = _)
                      clear hin
                      have hcst : ∀ v, a.eval (.const v) = v := fun _ => rfl
                      have hfnc : ∀ f, a.eval (.func f) = .func (.func f) #[] #[] := fun _ => rfl
                      refine want_yes rfl rfl h2 ?_
                      exact wp_eq_bytes true 37 _ _ _ rfl 5 32 Try.underlying37 Try.underlying5 (by kernel_rfl) (by kernel_rfl) (fillB k) (fillB k) h3 h7 (by rw [fillB, List.length_replicate]) (by rw [fillB, List.length_replicate]) (by rw [decide_eq_true rfl]; exact rel_val (Chg.refl _))
                    case bo9 =>
                      rintro a wx hE hin (h2 : a.eval (.tmp 147) = _) (h8 : a.eval (.tmp 153) = _)
                      clear hin
                      have hcst : ∀ v, a.eval (.const v) = v := fun _ => rfl
                      have hfnc : ∀ f, a.eval (.func f) = .func (.func f) #[] #[] := fun _ => rfl
                      refine want_none rfl ?_
                      unfold Oper.wp
                      generalize a.eval = ρ at *
                      go_simp
                      try go_bits
                      first | exact rel_val (Chg.refl _) | (go_simp; exact rel_val (Chg.refl _))
                  case bfin =>
                    intro wx hE
                    rintro _ rfl _ rfl _ rfl _ rfl _ rfl _ rfl _ rfl _ rfl _ rfl _ rfl
                    simp only [FinOk, List.take_succ_cons, List.take_zero, List.take_nil, List.drop_succ_cons, List.drop_zero, List.drop_nil, Act.put, List.setIfInBounds_toArray, List.set_cons_succ, List.set_cons_zero]
                    have DX : Hid (DSes 99 w wx gd gsd lv ⟨S, [], -1, false⟩) := Ddw3.out.chgN hE.undrew
                    clear hE
                    go_wp2_with fail
                    go_roundw
                    case rel => exact ⟨k + 1, by omega, by go_num, DX.out⟩
                    case measure => simp [intOf]; omega
            · have hke : k = 14 := by omega
              subst hke
              have hki : ¬ (((14 : Nat) : Int) < 14) := by omega
              go_wp2_with fail
              refine (wakes8_calls wr).mono ?_
              rintro en w1 ⟨rfl, hb⟩
              have Ew1 : Hid (Below w.heap.size w w1) := EFr.out.trans (hb.mono EFr.out.size)
              have Ddw1 : Hid (DSes 99 w w1 gd gsd lv ⟨S, [], -1, false⟩) := DFr.out.below hb
              clear EFr DFr
              clear hb
              go_wp2_with fail
              (try simp only [Exit.inBlock, Exit.then])
              go_ret
              exact ⟨rfl, Ew1.out⟩
end Go.Proofs.Ytchcnkobgdbdkaa
