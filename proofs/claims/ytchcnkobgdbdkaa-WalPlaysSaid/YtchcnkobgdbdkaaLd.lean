/- Texts of this seat, merged: WalGood, WalSmall, WalNum, WalHead, WalPure, WalPut, WalPutR. -/
import Derived.Test.YtchcnkobgdbdkaaLa
import Derived.Maps.OwnSet
import Derived.Maps.OwnOps
import Derived.Test.YtchcnkobgdbdkaaLb
import Derived.Test.YtchcnkobgdbdkaaLc

/- The walk of wal.Good. -/
namespace Go.Proofs.Ytchcnkobgdbdkaa
open Go.RowKit
set_option linter.unusedVariables false
set_option linter.unusedSimpArgs false

def goodB (ps : List PutV) : Bool := decide (1 ≤ ps.length ∧ ps.length ≤ 5 ∧ (∀ p ∈ ps, 0 ≤ p.at_ ∧ p.at_ < 12) ∧ (ps.map (·.at_)).Nodup)
theorem goodB_no {ps : List PutV} (h : ¬ (1 ≤ ps.length ∧ ps.length ≤ 5 ∧ (∀ p ∈ ps, 0 ≤ p.at_ ∧ p.at_ < 12) ∧ (ps.map (·.at_)).Nodup)) : goodB ps = false := decide_eq_false h
theorem goodB_len {ps : List PutV} (h : ¬ (1 ≤ ps.length ∧ ps.length ≤ 5)) : goodB ps = false := goodB_no fun hh => h ⟨hh.1, hh.2.1⟩
theorem goodB_range {ps : List PutV} {k : Nat} (hk : k < ps.length) (h : ¬ (0 ≤ ps[k].at_ ∧ ps[k].at_ < 12)) : goodB ps = false := goodB_no fun hh => h (hh.2.2.1 _ (List.getElem_mem hk))
theorem goodB_dup {ps : List PutV} {k : Nat} (hk : k < ps.length) (h : ps[k].at_ ∈ (ps.take k).map (·.at_)) : goodB ps = false := goodB_no fun hh => by
  have hn := hh.2.2.2
  rw [← List.take_append_drop k ps, List.map_append, List.nodup_append] at hn
  refine hn.2.2 _ h ps[k].at_ ?_ rfl
  rw [List.drop_eq_getElem_cons hk]
  exact List.mem_map.2 ⟨ps[k], List.mem_cons_self, rfl⟩
theorem goodB_yes {ps : List PutV} (h1 : 1 ≤ ps.length) (h2 : ps.length ≤ 5) (h3 : ∀ p ∈ ps, 0 ≤ p.at_ ∧ p.at_ < 12) (h4 : (ps.map (·.at_)).Nodup) : goodB ps = true := decide_eq_true ⟨h1, h2, h3, h4⟩
/-- What the loop keeps: the first k are right, the map knows just them. -/
structure GoodAt (w : World) (g : Nat) (ps : List PutV) (k : Nat) (D : DataW Unit) (wr : World) : Prop where
  rg : ∀ p ∈ ps.take k, 0 ≤ p.at_ ∧ p.at_ < 12
  nd : ((ps.take k).map (·.at_)).Nodup
  own : wr.ownsMap Try.prog 3 (plainElem Try.prog 3) g k D
  has : ∀ z : Int, Maps.has D (.int .i64 z) = decide (z ∈ (ps.take k).map (·.at_))
  bel : Below w.heap.size w wr
  gp : w.heap.size ≤ g
theorem lawInt : Maps.Keyed Try.prog 3 := Maps.int_keyed Try.underlying3
theorem zeroInt (w : World) : (zeroValue 3).run Try.prog w = .ok (.int .i64 0) w := by kernel_rfl
theorem wf64 {z : Int} (h1 : -9223372036854775808 ≤ z) (h2 : z ≤ 9223372036854775807) : (Lit.int .i64 z).wf = true := by
  simp only [Lit.wf, IntKind.min, IntKind.max, IntKind.signed, IntKind.bits, Bool.and_eq_true, decide_eq_true_eq, if_true]
  omega
theorem GoodAt.more {w wr w2 : World} {g : Nat} {ps : List PutV} {k : Nat} {D : DataW Unit} (h : GoodAt w g ps k D wr) (hk : k < ps.length) (hr : 0 ≤ ps[k].at_ ∧ ps[k].at_ < 12) (hn : ¬ ps[k].at_ ∈ (ps.take k).map (·.at_)) (d : DataW Unit)
    (ho : w2.ownsMap Try.prog 3 (plainElem Try.prog 3) g (k + 1) (D.put (.int .i64 ps[k].at_) d)) (hb : Below w.heap.size w w2) : GoodAt w g ps (k + 1) (D.put (.int .i64 ps[k].at_) d) w2 := by
  refine ⟨fun p hp => ?_, ?_, ho, fun z => ?_, hb, h.gp⟩
  · rw [List.take_succ_eq_append_getElem hk] at hp
    rcases List.mem_append.1 hp with hp | hp
    · exact h.rg p hp
    · obtain rfl := List.mem_singleton.1 hp
      exact hr
  · rw [List.take_succ_eq_append_getElem hk, List.map_append, List.nodup_append]
    refine ⟨h.nd, by simp, fun a ha b hb2 => ?_⟩
    simp at hb2
    subst hb2
    exact fun he => hn (by rw [← he]; exact ha)
  · by_cases hz : z = ps[k].at_
    · subst hz
      rw [Maps.has_put_same h.own.isMap (by exact trivial), List.take_succ_eq_append_getElem hk, List.map_append]
      exact (decide_eq_true (List.mem_append.2 (.inr (List.mem_singleton.2 rfl)))).symm
    · rw [Maps.has_put_other (fun he => hz (by injection he)), h.has, List.take_succ_eq_append_getElem hk, decide_eq_decide, List.map_append, List.mem_append]
      simp only [List.map_cons, List.map_nil, List.mem_singleton, hz, or_false]
theorem ownsMap_chg {P : Program} {k : TypeId} {R : Value → Option (DataW Unit × List MemPlace)} {b n : Nat} {D : DataW Unit} {S : Nat → Prop} {w w' : World} (h : w.ownsMap P k R b n D) (hc : Chg S w w') (hS : ¬ S b) : w'.ownsMap P k R b n D := by
  obtain ⟨es, clock, hb, r⟩ := h
  exact ⟨es, clock, hc.get hb hS, r⟩
def GoodRel (w : World) (ps : List PutV) (v : Value) (wr : World) : Prop := ∃ (k : Nat) (D : DataW Unit), k ≤ ps.length ∧ v = .int .i64 k ∧ GoodAt w w.heap.size ps k D wr
set_option maxRecDepth 100000 in
set_option maxHeartbeats 4000000 in
theorem good_calls (ps : List PutV) (A : Option Addr) (n c : Nat) (w : World) (hl : ps.length = n) (hr : Rd w A (ps.flatMap putC)) (ho : PutsOk ps) :
    Calls Try.prog 12 #[.slice A n c] w fun e w' => e = .returned (.bool (goodB ps)) ∧ Below w.heap.size w w' := by
  subst hl
  have HR := Lib.hid hr
  have HO := Lib.hid ho
  clear hr ho
  by_cases h1 : ps.length < 1
  · have h1i : (ps.length : Int) < 1 := by omega
    have HG : Hid (goodB ps = false) := goodB_len (by omega)
    go_enter Try.func12, Try.ntmps12
    go_wp2
    go_ret
    exact ⟨by rw [HG.out]; rfl, Below.refl _ _⟩
  by_cases h5 : 5 < ps.length
  · have h1i : ¬ ((ps.length : Int) < 1) := by omega
    have h5i : (5 : Int) < (ps.length : Int) := by omega
    have HG : Hid (goodB ps = false) := goodB_len (by omega)
    go_enter Try.func12, Try.ntmps12
    go_wp2
    go_ret
    exact ⟨by rw [HG.out]; rfl, Below.refl _ _⟩
  have h1i : ¬ ((ps.length : Int) < 1) := by omega
  have h5i : ¬ ((5 : Int) < (ps.length : Int)) := by omega
  have H0 : Hid (GoodRel w ps (.int .i64 0) (w.alloc (.map #[] 0))) := ⟨0, .map [], Nat.zero_le _, rfl, ⟨fun p hp => by simp at hp, by simp, World.ownsMap_made _ _ _ _, fun z => by rw [Maps.has_eq]; simp, (Below.refl _ _).alloc (Nat.le_refl _) _, Nat.le_refl _⟩⟩
  have hmm := @run_makeMap Try.prog
  go_enter Try.func12, Try.ntmps12
  go_wp2_with fail
  clear hmm
  go_loopw [19] (fun v wr => GoodRel w ps v wr) (fun v _ => ps.length - (intOf v).toNat)
  case atStart => exact H0.out
  case round =>
    obtain ⟨k, D, hk, rfl, hg⟩ := hrel
    have HG := Lib.hid hg
    clear hg H0
    by_cases hlt : k < ps.length
    · have hki : (k : Int) < (ps.length : Int) := by omega
      have hrr := HR.out.below HG.out.bel
      obtain ⟨ad, hA⟩ := puts_some hrr hlt
      subst hA
      have hpr := put_rd hrr HO.out hlt
      have hpo := HO.out _ (List.getElem_mem hlt)
      have hrg := @goodB_range ps k hlt
      have hdp := @goodB_dup ps k hlt
      have hhas := HG.out.has ps[k].at_
      obtain ⟨p, hp⟩ : ∃ p, ps[k] = p := ⟨_, rfl⟩
      have HMORE : Hid (∀ (w2 : World) (d : DataW Unit), (0 ≤ p.at_ ∧ p.at_ < 12) → ¬ p.at_ ∈ (ps.take k).map (·.at_) → w2.ownsMap Try.prog 3 (plainElem Try.prog 3) w.heap.size (k + 1) (D.put (.int .i64 p.at_) d) → Below w.heap.size w w2 → GoodAt w w.heap.size ps (k + 1) (D.put (.int .i64 p.at_) d) w2) := by
        intro w2 d a1 a2 a3 a4
        have := HG.out.more (w2 := w2) hlt (by rw [hp]; exact a1) (by rw [hp]; exact a2) d (by rw [hp]; exact a3) a4
        rw [hp] at this
        exact this
      rw [hp] at hpr hpo hrg hdp hhas
      have HPR := Lib.hid hpr
      have HPL := Lib.hid (putC_len hpo.1)
      have HRG := Lib.hid hrg
      have HDP := Lib.hid hdp
      have hwf := wf64 hpo.2.1 hpo.2.2
      have hkey : keyOf Try.prog 3 (.int .i64 p.at_) = some (.int .i64 p.at_) := Maps.keyOf_int_mk Try.underlying3 hwf
      have HKEY := Lib.hid hkey
      have HHAS := Lib.hid hhas
      have hkm : k < 6 := by omega
      clear hp hpr hpo hrg hdp hrr hwf hkey hhas
      go_wp2_with (first
        | (refine wpList_ldr2 rfl 39 (.tmp 22) rfl (ad.add (k * 33)) 33 (putC p) rfl HPR.out (by kernel_rfl) (by kernel_rfl) HPL.out ?_)
        | (refine wpList_al rfl 39 rfl (.int .i64 0 :: bts (List.replicate 32 0)) (by kernel_rfl) ?_))
      intro g5 w2 hg hb hc hs
      have HB2 : Hid (Below w.heap.size w w2) := HG.out.bel.trans (hc.below HG.out.bel.size (fun _ _ => id))
      have HM2 := Lib.hid (ownsMap_chg HG.out.own hc id)
      have HG5 : Hid (w.heap.size < g5) := by
        show _ < _
        rw [hg]
        obtain ⟨es, clock, hb, _⟩ := HG.out.own
        exact (Array.getElem?_eq_some_iff.1 hb).1
      have K2 := Lib.hid hb
      clear hb hc hs hg
      go_wp2_with (refine wpList_st rfl 39 (.tmp 5) (.tmp 23) rfl g5 0 33 (.int .i64 0 :: bts (List.replicate 32 0)) (putC p) rfl rfl K2.out (by kernel_rfl) HPL.out (by decide) (one_put p) ?_)
      intro w3 hb hc
      rw [splice_whole _ _ (by rw [HPL.out]; rfl)] at hb
      have hg5 := HG5.out
      have HB3 : Hid (Below w.heap.size w w3) := HB2.out.trans (hc.below HB2.out.size (fun _ _ => by omega))
      have HM3 := Lib.hid (ownsMap_chg HM2.out hc (by omega))
      have c0 := hb.cell (j := 0) rfl
      clear hb hc hg5 K2 HPR HPL HM2 HB2
      by_cases h0 : p.at_ < 0
      · have HN : Hid (goodB ps = false) := HRG.out (fun hh => by omega)
        go_wp2
        go_ret
        exact ⟨by rw [HN.out]; rfl, HB3.out⟩
      · by_cases h12 : p.at_ < 12
        · have h12n : ¬ ((12 : Int) ≤ p.at_) := by omega
          by_cases hd : p.at_ ∈ (ps.take k).map (·.at_)
          · have hh : Maps.has D (Lit.int IntKind.i64 p.at_) = true := by rw [HHAS.out]; exact decide_eq_true hd
            have HN : Hid (goodB ps = false) := HDP.out hd
            clear hd
            go_wp2_with (first
              | (at_lookup; refine wpList_lookup_own_ok_int _ rfl (.tmp 33) (.tmp 35) 90 rfl 3 3 .i64 lawInt Try.underlying90 Try.underlying3 (zeroInt _) w.heap.size k D rfl HM3.out _ _ rfl HKEY.out ?_))
            intro c2 hat hwc
            clear hat hwc
            go_wp2
            go_ret
            exact ⟨by rw [HN.out]; rfl, HB3.out⟩
          · have hh : Maps.has D (Lit.int IntKind.i64 p.at_) = false := by rw [HHAS.out]; exact decide_eq_false hd
            have HD := Lib.hid hd
            clear hd
            go_wp2_with (first
              | (at_lookup; refine wpList_lookup_own_ok_int _ rfl (.tmp 33) (.tmp 35) 90 rfl 3 3 .i64 lawInt Try.underlying90 Try.underlying3 (zeroInt _) w.heap.size k D rfl HM3.out _ _ rfl HKEY.out ?_))
            intro c2 hat hwc
            clear hat hwc
            have HWK : Hid ((Lit.int .i64 (k : Int)).wf = true) := wf64 (by omega) (by omega)
            go_wp2_with (first
              | (at_mapUpdate; refine wpList_mapUpdate_own _ rfl (.tmp 40) (.tmp 42) (.tmp 43) 90 rfl 3 3 lawInt Try.underlying90 (plainElem Try.prog 3) w.heap.size k D rfl HM3.out (by unfold maxLen; omega) _ _ (.int .i64 p.at_) rfl rfl HKEY.out (.lit (.int .i64 (k : Int))) [] (plainElem_int Try.underlying3 HWK.out) ?_))
            intro w4 hown4 hgrow4
            have HB4 : Hid (Below w.heap.size w w4) := HB3.out.trans (below_grown hgrow4 HB3.out.size (fun q hq => by injection hq with hq; omega))
            have HG4 := Lib.hid (HMORE.out w4 _ ⟨by omega, h12⟩ HD.out hown4 HB4.out)
            clear hown4 hgrow4
            go_wp2_with fail
            go_roundw
            case rel => exact ⟨k + 1, _, by omega, by go_num, HG4.out⟩
            case measure => simp [intOf]; omega
        · have h12n : (12 : Int) ≤ p.at_ := by omega
          have HN : Hid (goodB ps = false) := HRG.out (fun hh => by omega)
          go_wp2
          go_ret
          exact ⟨by rw [HN.out]; rfl, HB3.out⟩
    · have hke : k = ps.length := by omega
      have hki : ¬ ((k : Int) < (ps.length : Int)) := by omega
      have HN : Hid (goodB ps = true) := by
        have h1' := HG.out.rg
        have h2' := HG.out.nd
        rw [hke, List.take_length] at h1' h2'
        exact goodB_yes (by omega) (by omega) h1' h2'
      go_wp2
      go_ret
      exact ⟨by rw [HN.out]; rfl, HG.out.bel⟩
end Go.Proofs.Ytchcnkobgdbdkaa


/- The walks of wal's small functions and of the reference's Good. -/
namespace Go.Proofs.Ytchcnkobgdbdkaa
open Go.RowKit
set_option linter.unusedVariables false
set_option linter.unusedSimpArgs false

def mayB (n : Nat) (i : Int) : Bool := decide (0 ≤ i ∧ i + 6 ≤ (n : Int))
theorem mayB_yes {n : Nat} {i : Int} (h : 0 ≤ i) (h2 : i + 6 ≤ (n : Int)) : mayB n i = true := decide_eq_true ⟨h, h2⟩
theorem mayB_no {n : Nat} {i : Int} (h : ¬ (0 ≤ i ∧ i + 6 ≤ (n : Int))) : mayB n i = false := decide_eq_false h
set_option maxHeartbeats 1000000 in
theorem may_calls (w : World) (g gs : Nat) (lv : Value) (s : Dst) (i : Int) (hd : DAt 99 w g gs lv s) :
    Calls Try.prog 30 #[.pointer (some ⟨g, 0, none⟩), .int .i64 i] w fun e w' => e = .returned (.bool (mayB s.S.length i)) ∧ w = w' := by
  have HD := Lib.hid hd
  have hsl : s.S.length ≤ 1024 := DiskAt.sl hd
  clear hd
  by_cases hi : 0 ≤ i
  · by_cases h6 : i < (s.S.length : Int) - 5
    · have HM : Hid (mayB s.S.length i = true) := mayB_yes hi (by omega)
      go_enter Try.func30, Try.ntmps30
      go_wp2_with (go_at_call 45; refine (diskLen_at w g gs lv s HD.out).mono ?_; rintro e w' ⟨rfl, rfl⟩)
      go_ret
      exact ⟨by rw [HM.out]; simp [h6], rfl⟩
    · have HM : Hid (mayB s.S.length i = false) := mayB_no (fun hh => by omega)
      go_enter Try.func30, Try.ntmps30
      go_wp2_with (go_at_call 45; refine (diskLen_at w g gs lv s HD.out).mono ?_; rintro e w' ⟨rfl, rfl⟩)
      go_ret
      exact ⟨by rw [HM.out]; simp [h6], rfl⟩
  · have HM : Hid (mayB s.S.length i = false) := mayB_no (fun hh => hi hh.1)
    go_enter Try.func30, Try.ntmps30
    go_wp2
    go_ret
    exact ⟨by rw [HM.out]; rfl, rfl⟩
set_option maxHeartbeats 1000000 in
theorem may_nil (w : World) (i : Int) :
    Calls Try.prog 30 #[.pointer none, .int .i64 i] w fun e w' => e = .returned (.bool false) ∧ w = w' := by
  by_cases hi : 0 ≤ i
  · have h6 : ¬ (i < -5) := by omega
    go_enter Try.func30, Try.ntmps30
    go_wp2_with (go_at_call 45; refine (diskLen_nil w).mono ?_; rintro e w' ⟨rfl, rfl⟩)
    go_ret
    exact ⟨by simp [h6], rfl⟩
  · go_enter Try.func30, Try.ntmps30
    go_wp2
    go_ret
    exact ⟨rfl, rfl⟩
theorem le4' (n : Nat) : le n 4 = [UInt8.ofNat n, UInt8.ofNat (n / 256), UInt8.ofNat (n / 256 / 256), UInt8.ofNat (n / 256 / 256 / 256)] := rfl
theorem vu8_of (n : Nat) : vu8 (UInt8.ofNat n) = .int .u8 ((n : Int) % 256) := by
  show Value.int .u8 ((UInt8.ofNat n).toNat : Int) = _
  rw [UInt8.toNat_ofNat']
  rfl
theorem bts_le4 (n : Nat) (hn : n < 4294967296) : bts (le n 4) = [.int .u8 ((n : Int) % 256), .int .u8 ((n : Int) / 256 % 256), .int .u8 ((n : Int) / 65536 % 256), .int .u8 ((n : Int) / 16777216)] := by
  rw [le4']
  show [vu8 _, vu8 _, vu8 _, vu8 _] = _
  rw [vu8_of, vu8_of, vu8_of, vu8_of]
  congr 1
  congr 1
  congr 1
  · congr 1; omega
  · congr 1; congr 1; omega
/-- Four bytes, answered. -/
def FourPost (w : World) (l : List UInt8) (e : Ending) (w' : World) : Prop := ∃ g, e = .returned (.slice (some ⟨g, 0, none⟩) 4 4) ∧ Bk w' g (bts l) ∧ w.heap.size ≤ g ∧ Below w.heap.size w w'
set_option maxHeartbeats 1000000 in
theorem four_calls (x : UInt32) (w : World) : Calls Try.prog 48 #[vu32 x] w (FourPost w (le x.toNat 4)) := by
  obtain ⟨X, hX⟩ : ∃ X, x.toNat = X := ⟨_, rfl⟩
  have hlt : X < 4294967296 := by rw [← hX]; exact x.toNat_lt
  have HB := Lib.hid (bts_le4 X hlt)
  rw [show vu32 x = .int .u32 (X : Nat) by rw [← hX], hX]
  clear hX
  go_enter Try.func48, Try.ntmps48
  go_wp2
  go_ret
  exact ⟨w.heap.size, rfl, by rw [HB.out]; exact Bk.new w _ _, Nat.le_refl _, (Below.refl _ _).alloc (Nat.le_refl _) _⟩
structure RG (ps : List PutV) (k : Nat) : Prop where
  rg : ∀ p ∈ ps.take k, 0 ≤ p.at_ ∧ p.at_ < 12
  nd : ((ps.take k).map (·.at_)).Nodup
theorem RG.more {ps : List PutV} {k : Nat} (h : RG ps k) (hk : k < ps.length) (hr : 0 ≤ ps[k].at_ ∧ ps[k].at_ < 12) (hn : ¬ ps[k].at_ ∈ (ps.take k).map (·.at_)) : RG ps (k + 1) := by
  refine ⟨fun p hp => ?_, ?_⟩
  · rw [List.take_succ_eq_append_getElem hk] at hp
    rcases List.mem_append.1 hp with hp | hp
    · exact h.rg p hp
    · obtain rfl := List.mem_singleton.1 hp
      exact hr
  · rw [List.take_succ_eq_append_getElem hk, List.map_append, List.nodup_append]
    refine ⟨h.nd, by simp, fun a ha b hb2 => ?_⟩
    simp at hb2
    subst hb2
    exact fun he => hn (by rw [← he]; exact ha)
def RGRel (w : World) (ps : List PutV) (v : Value) (wr : World) : Prop := ∃ k : Nat, k ≤ ps.length ∧ v = .int .i64 k ∧ RG ps k ∧ Below w.heap.size w wr
def RGRel2 (w : World) (ps : List PutV) (z : Int) (k : Nat) (v : Value) (wr : World) : Prop := ∃ j : Nat, j ≤ k ∧ v = .int .i64 j ∧ (∀ i (hi : i < j) (hl : i < ps.length), ps[i].at_ ≠ z) ∧ Below w.heap.size w wr
set_option maxRecDepth 100000 in
set_option maxHeartbeats 4000000 in
theorem refGood_calls (ps : List PutV) (A : Option Addr) (n c : Nat) (w : World) (hl : ps.length = n) (hm : n ≤ 9223372036854775807) (hr : Rd w A (ps.flatMap putC)) (ho : PutsOk ps) :
    Calls Try.prog 25 #[.slice A n c] w fun e w' => e = .returned (.bool (goodB ps)) ∧ Below w.heap.size w w' := by
  subst hl
  have HR := Lib.hid hr
  have HO := Lib.hid ho
  have H0 : Hid (RGRel w ps (.int .i64 0) w) := ⟨0, Nat.zero_le _, rfl, ⟨fun p hp => by simp at hp, by simp⟩, Below.refl _ _⟩
  clear hr ho
  go_enter Try.func25, Try.ntmps25
  go_wp2_with fail
  go_loopw [3] (fun v wr => RGRel w ps v wr) (fun v _ => ps.length - (intOf v).toNat)
  case atStart => exact H0.out
  case round =>
    obtain ⟨k, hk, rfl, hg, hb⟩ := hrel
    have HG := Lib.hid hg
    have HB := Lib.hid hb
    clear hg hb H0
    by_cases hlt : k < ps.length
    · have hki : (k : Int) < (ps.length : Int) := by omega
      have HRR := Lib.hid (HR.out.below HB.out)
      obtain ⟨ad, hA⟩ := puts_some HRR.out hlt
      subst hA
      have c0 := put_at HRR.out HO.out hlt
      have HRG := Lib.hid (@goodB_range ps k hlt)
      obtain ⟨p, hp⟩ : ∃ p, ps[k] = p := ⟨_, rfl⟩
      have HP := Lib.hid hp
      rw [hp] at c0 HRG
      clear hp
      by_cases h0 : p.at_ < 0
      · have HN : Hid (goodB ps = false) := HRG.out (fun hh => by omega)
        go_wp2
        go_ret
        exact ⟨by rw [HN.out]; rfl, HB.out⟩
      · by_cases h12 : p.at_ < 12
        · have h12n : ¬ ((12 : Int) ≤ p.at_) := by omega
          have HI0 : Hid (RGRel2 w ps p.at_ k (.int .i64 0) wr) := ⟨0, Nat.zero_le _, rfl, fun j hj _ => by omega, HB.out⟩
          go_wp2_with fail
          clear c0
          go_loopw [4] (fun v w2r => RGRel2 w ps p.at_ k v w2r) (fun v _ => k - (intOf v).toNat)
          case atStart => exact HI0.out
          case round =>
            obtain ⟨j, hj, rfl, hne, hb2⟩ := hrel
            have HNE := Lib.hid hne
            have HB2 := Lib.hid hb2
            clear hne hb2 HI0
            have HR2 := Lib.hid (HR.out.below HB2.out)
            by_cases hjk : j < k
            · have hji : (j : Int) < (k : Int) := by omega
              have hjl : j < ps.length := by omega
              obtain ⟨r, hr⟩ : ∃ r, ps[j] = r := ⟨_, rfl⟩
              have HQ := Lib.hid hr
              clear hr
              by_cases heq : r.at_ = p.at_
              · have hbe : (r.at_ == p.at_) = true := by rw [heq]; exact beq_self_eq_true _
                have HN : Hid (goodB ps = false) := goodB_dup hlt (by
                  rw [HP.out, ← heq, ← HQ.out]
                  exact List.mem_map.2 ⟨ps[j], List.mem_take_iff_getElem.2 ⟨j, by omega, rfl⟩, rfl⟩)
                clear heq
                go_wp2_with fail
                apply wp_region_rel 11 (Chg NoS) [(Veq _), (Veq _), (Veq _), (Veq _), (Veq _), (Veq _), (Veq _), (Veq _), (Veq _), (Veq _), (Veq _)] [[], [], [0, 1], [2], [3], [], [], [5, 6], [7], [8], [4, 9]] [30, 31, 32, 33, 34, 35, 36, 37, 38, 39, 40] (by kernel_rfl) (by kernel_rfl) rfl rfl rfl Chg.refl (fun _ _ _ => Chg.trans) ⟨Veq.lasts, Veq.lasts, Veq.lasts, Veq.lasts, Veq.lasts, Veq.lasts, Veq.lasts, Veq.lasts, Veq.lasts, Veq.lasts, Veq.lasts, trivial⟩ ?aops ?afin
                case aops =>
                  refine ⟨?ao0, ?ao1, ?ao2, ?ao3, ?ao4, ?ao5, ?ao6, ?ao7, ?ao8, ?ao9, ?ao10, trivial⟩
                  case ao0 =>
                    intro a wx hE hin
                    have i0 : a.eval (.tmp 0) = .slice (some ad) ps.length c := hin 0 rfl
                    clear hin
                    have hcst : ∀ v, a.eval (.const v) = v := fun _ => rfl
                    have hfnc : ∀ f, a.eval (.func f) = .func (.func f) #[] #[] := fun _ => rfl
                    refine want_none rfl ?_
                    unfold Oper.wp
                    generalize a.eval = ρ at *
                    go_simp
                    try go_bits
                    first | exact rel_val (Chg.refl _) | (go_simp; exact rel_val (Chg.refl _))
                  case ao1 =>
                    intro a wx hE hin
                    have i4 : a.eval (.tmp 4) = .int .i64 j := hin 4 rfl
                    clear hin
                    have hcst : ∀ v, a.eval (.const v) = v := fun _ => rfl
                    have hfnc : ∀ f, a.eval (.func f) = .func (.func f) #[] #[] := fun _ => rfl
                    refine want_none rfl ?_
                    unfold Oper.wp
                    generalize a.eval = ρ at *
                    go_simp
                    try go_bits
                    first | exact rel_val (Chg.refl _) | (go_simp; exact rel_val (Chg.refl _))
                  case ao2 =>
                    rintro a wx hE hin (h0 : a.eval (.tmp 30) = _) (h1 : a.eval (.tmp 31) = _)
                    clear hin
                    have hcst : ∀ v, a.eval (.const v) = v := fun _ => rfl
                    have hfnc : ∀ f, a.eval (.func f) = .func (.func f) #[] #[] := fun _ => rfl
                    refine want_none rfl ?_
                    unfold Oper.wp
                    generalize a.eval = ρ at *
                    go_simp
                    try go_bits
                    first | exact rel_val (Chg.refl _) | (go_simp; exact rel_val (Chg.refl _))
                  case ao3 =>
                    rintro a wx hE hin (h2 : a.eval (.tmp 32) = _)
                    clear hin
                    have hcst : ∀ v, a.eval (.const v) = v := fun _ => rfl
                    have hfnc : ∀ f, a.eval (.func f) = .func (.func f) #[] #[] := fun _ => rfl
                    refine want_none rfl ?_
                    unfold Oper.wp
                    generalize a.eval = ρ at *
                    go_simp
                    try go_bits
                    first | exact rel_val (Chg.refl _) | (go_simp; exact rel_val (Chg.refl _))
                  case ao4 =>
                    rintro a wx hE hin (h3 : a.eval (.tmp 33) = _)
                    clear hin
                    have hcst : ∀ v, a.eval (.const v) = v := fun _ => rfl
                    have hfnc : ∀ f, a.eval (.func f) = .func (.func f) #[] #[] := fun _ => rfl
                    refine want_none rfl ?_
                    unfold Oper.wp
                    generalize a.eval = ρ at *
                    have c := put_at (HR2.out.drew.chg hE) HO.out hjl
                    rw [HQ.out] at c
                    go_simp
                    try go_bits
                    first | exact rel_val (Chg.refl _) | (go_simp; exact rel_val (Chg.refl _))
                  case ao5 =>
                    intro a wx hE hin
                    have i0 : a.eval (.tmp 0) = .slice (some ad) ps.length c := hin 0 rfl
                    clear hin
                    have hcst : ∀ v, a.eval (.const v) = v := fun _ => rfl
                    have hfnc : ∀ f, a.eval (.func f) = .func (.func f) #[] #[] := fun _ => rfl
                    refine want_none rfl ?_
                    unfold Oper.wp
                    generalize a.eval = ρ at *
                    go_simp
                    try go_bits
                    first | exact rel_val (Chg.refl _) | (go_simp; exact rel_val (Chg.refl _))
                  case ao6 =>
                    intro a wx hE hin
                    have i3 : a.eval (.tmp 3) = .int .i64 k := hin 3 rfl
                    clear hin
                    have hcst : ∀ v, a.eval (.const v) = v := fun _ => rfl
                    have hfnc : ∀ f, a.eval (.func f) = .func (.func f) #[] #[] := fun _ => rfl
                    refine want_none rfl ?_
                    unfold Oper.wp
                    generalize a.eval = ρ at *
                    go_simp
                    try go_bits
                    first | exact rel_val (Chg.refl _) | (go_simp; exact rel_val (Chg.refl _))
                  case ao7 =>
                    rintro a wx hE hin (h5 : a.eval (.tmp 35) = _) (h6 : a.eval (.tmp 36) = _)
                    clear hin
                    have hcst : ∀ v, a.eval (.const v) = v := fun _ => rfl
                    have hfnc : ∀ f, a.eval (.func f) = .func (.func f) #[] #[] := fun _ => rfl
                    refine want_none rfl ?_
                    unfold Oper.wp
                    generalize a.eval = ρ at *
                    go_simp
                    try go_bits
                    first | exact rel_val (Chg.refl _) | (go_simp; exact rel_val (Chg.refl _))
                  case ao8 =>
                    rintro a wx hE hin (h7 : a.eval (.tmp 37) = _)
                    clear hin
                    have hcst : ∀ v, a.eval (.const v) = v := fun _ => rfl
                    have hfnc : ∀ f, a.eval (.func f) = .func (.func f) #[] #[] := fun _ => rfl
                    refine want_none rfl ?_
                    unfold Oper.wp
                    generalize a.eval = ρ at *
                    go_simp
                    try go_bits
                    first | exact rel_val (Chg.refl _) | (go_simp; exact rel_val (Chg.refl _))
                  case ao9 =>
                    rintro a wx hE hin (h8 : a.eval (.tmp 38) = _)
                    clear hin
                    have hcst : ∀ v, a.eval (.const v) = v := fun _ => rfl
                    have hfnc : ∀ f, a.eval (.func f) = .func (.func f) #[] #[] := fun _ => rfl
                    refine want_none rfl ?_
                    unfold Oper.wp
                    generalize a.eval = ρ at *
                    have c := put_at (HR2.out.drew.chg hE) HO.out hlt
                    rw [HP.out] at c
                    go_simp
                    try go_bits
                    first | exact rel_val (Chg.refl _) | (go_simp; exact rel_val (Chg.refl _))
                  case ao10 =>
                    rintro a wx hE hin (h4 : a.eval (.tmp 34) = _) (h9 : a.eval (.tmp 39) = _)
                    clear hin
                    have hcst : ∀ v, a.eval (.const v) = v := fun _ => rfl
                    have hfnc : ∀ f, a.eval (.func f) = .func (.func f) #[] #[] := fun _ => rfl
                    refine want_none rfl ?_
                    unfold Oper.wp
                    generalize a.eval = ρ at *
                    go_simp
                    try go_bits
                    first | exact rel_val (Chg.refl _) | (go_simp; exact rel_val (Chg.refl _))
                case afin =>
                  intro wx hE
                  rintro _ rfl _ rfl _ rfl _ rfl _ rfl _ rfl _ rfl _ rfl _ rfl _ rfl _ rfl
                  simp only [FinOk, List.take_succ_cons, List.take_zero, List.take_nil, List.drop_succ_cons, List.drop_zero, List.drop_nil, Act.put, List.setIfInBounds_toArray, List.set_cons_succ, List.set_cons_zero]
                  have HB3 : Hid (Below w.heap.size w wx) := HB2.out.trans ((hE.undrew).below (B := w.heap.size) HB2.out.size (fun _ _ => id))
                  clear hE
                  go_wp2
                  go_ret
                  exact ⟨by rw [HN.out]; rfl, HB3.out⟩
              · have hbe : (r.at_ == p.at_) = false := by rw [beq_eq_false_iff_ne]; exact heq
                have HNQ := Lib.hid heq
                clear heq
                go_wp2_with fail
                apply wp_region_rel 11 (Chg NoS) [(Veq _), (Veq _), (Veq _), (Veq _), (Veq _), (Veq _), (Veq _), (Veq _), (Veq _), (Veq _), (Veq _)] [[], [], [0, 1], [2], [3], [], [], [5, 6], [7], [8], [4, 9]] [30, 31, 32, 33, 34, 35, 36, 37, 38, 39, 40] (by kernel_rfl) (by kernel_rfl) rfl rfl rfl Chg.refl (fun _ _ _ => Chg.trans) ⟨Veq.lasts, Veq.lasts, Veq.lasts, Veq.lasts, Veq.lasts, Veq.lasts, Veq.lasts, Veq.lasts, Veq.lasts, Veq.lasts, Veq.lasts, trivial⟩ ?aops ?afin
                case aops =>
                  refine ⟨?ao0, ?ao1, ?ao2, ?ao3, ?ao4, ?ao5, ?ao6, ?ao7, ?ao8, ?ao9, ?ao10, trivial⟩
                  case ao0 =>
                    intro a wx hE hin
                    have i0 : a.eval (.tmp 0) = .slice (some ad) ps.length c := hin 0 rfl
                    clear hin
                    have hcst : ∀ v, a.eval (.const v) = v := fun _ => rfl
                    have hfnc : ∀ f, a.eval (.func f) = .func (.func f) #[] #[] := fun _ => rfl
                    refine want_none rfl ?_
                    unfold Oper.wp
                    generalize a.eval = ρ at *
                    go_simp
                    try go_bits
                    first | exact rel_val (Chg.refl _) | (go_simp; exact rel_val (Chg.refl _))
                  case ao1 =>
                    intro a wx hE hin
                    have i4 : a.eval (.tmp 4) = .int .i64 j := hin 4 rfl
                    clear hin
                    have hcst : ∀ v, a.eval (.const v) = v := fun _ => rfl
                    have hfnc : ∀ f, a.eval (.func f) = .func (.func f) #[] #[] := fun _ => rfl
                    refine want_none rfl ?_
                    unfold Oper.wp
                    generalize a.eval = ρ at *
                    go_simp
                    try go_bits
                    first | exact rel_val (Chg.refl _) | (go_simp; exact rel_val (Chg.refl _))
                  case ao2 =>
                    rintro a wx hE hin (h0 : a.eval (.tmp 30) = _) (h1 : a.eval (.tmp 31) = _)
                    clear hin
                    have hcst : ∀ v, a.eval (.const v) = v := fun _ => rfl
                    have hfnc : ∀ f, a.eval (.func f) = .func (.func f) #[] #[] := fun _ => rfl
                    refine want_none rfl ?_
                    unfold Oper.wp
                    generalize a.eval = ρ at *
                    go_simp
                    try go_bits
                    first | exact rel_val (Chg.refl _) | (go_simp; exact rel_val (Chg.refl _))
                  case ao3 =>
                    rintro a wx hE hin (h2 : a.eval (.tmp 32) = _)
                    clear hin
                    have hcst : ∀ v, a.eval (.const v) = v := fun _ => rfl
                    have hfnc : ∀ f, a.eval (.func f) = .func (.func f) #[] #[] := fun _ => rfl
                    refine want_none rfl ?_
                    unfold Oper.wp
                    generalize a.eval = ρ at *
                    go_simp
                    try go_bits
                    first | exact rel_val (Chg.refl _) | (go_simp; exact rel_val (Chg.refl _))
                  case ao4 =>
                    rintro a wx hE hin (h3 : a.eval (.tmp 33) = _)
                    clear hin
                    have hcst : ∀ v, a.eval (.const v) = v := fun _ => rfl
                    have hfnc : ∀ f, a.eval (.func f) = .func (.func f) #[] #[] := fun _ => rfl
                    refine want_none rfl ?_
                    unfold Oper.wp
                    generalize a.eval = ρ at *
                    have c := put_at (HR2.out.drew.chg hE) HO.out hjl
                    rw [HQ.out] at c
                    go_simp
                    try go_bits
                    first | exact rel_val (Chg.refl _) | (go_simp; exact rel_val (Chg.refl _))
                  case ao5 =>
                    intro a wx hE hin
                    have i0 : a.eval (.tmp 0) = .slice (some ad) ps.length c := hin 0 rfl
                    clear hin
                    have hcst : ∀ v, a.eval (.const v) = v := fun _ => rfl
                    have hfnc : ∀ f, a.eval (.func f) = .func (.func f) #[] #[] := fun _ => rfl
                    refine want_none rfl ?_
                    unfold Oper.wp
                    generalize a.eval = ρ at *
                    go_simp
                    try go_bits
                    first | exact rel_val (Chg.refl _) | (go_simp; exact rel_val (Chg.refl _))
                  case ao6 =>
                    intro a wx hE hin
                    have i3 : a.eval (.tmp 3) = .int .i64 k := hin 3 rfl
                    clear hin
                    have hcst : ∀ v, a.eval (.const v) = v := fun _ => rfl
                    have hfnc : ∀ f, a.eval (.func f) = .func (.func f) #[] #[] := fun _ => rfl
                    refine want_none rfl ?_
                    unfold Oper.wp
                    generalize a.eval = ρ at *
                    go_simp
                    try go_bits
                    first | exact rel_val (Chg.refl _) | (go_simp; exact rel_val (Chg.refl _))
                  case ao7 =>
                    rintro a wx hE hin (h5 : a.eval (.tmp 35) = _) (h6 : a.eval (.tmp 36) = _)
                    clear hin
                    have hcst : ∀ v, a.eval (.const v) = v := fun _ => rfl
                    have hfnc : ∀ f, a.eval (.func f) = .func (.func f) #[] #[] := fun _ => rfl
                    refine want_none rfl ?_
                    unfold Oper.wp
                    generalize a.eval = ρ at *
                    go_simp
                    try go_bits
                    first | exact rel_val (Chg.refl _) | (go_simp; exact rel_val (Chg.refl _))
                  case ao8 =>
                    rintro a wx hE hin (h7 : a.eval (.tmp 37) = _)
                    clear hin
                    have hcst : ∀ v, a.eval (.const v) = v := fun _ => rfl
                    have hfnc : ∀ f, a.eval (.func f) = .func (.func f) #[] #[] := fun _ => rfl
                    refine want_none rfl ?_
                    unfold Oper.wp
                    generalize a.eval = ρ at *
                    go_simp
                    try go_bits
                    first | exact rel_val (Chg.refl _) | (go_simp; exact rel_val (Chg.refl _))
                  case ao9 =>
                    rintro a wx hE hin (h8 : a.eval (.tmp 38) = _)
                    clear hin
                    have hcst : ∀ v, a.eval (.const v) = v := fun _ => rfl
                    have hfnc : ∀ f, a.eval (.func f) = .func (.func f) #[] #[] := fun _ => rfl
                    refine want_none rfl ?_
                    unfold Oper.wp
                    generalize a.eval = ρ at *
                    have c := put_at (HR2.out.drew.chg hE) HO.out hlt
                    rw [HP.out] at c
                    go_simp
                    try go_bits
                    first | exact rel_val (Chg.refl _) | (go_simp; exact rel_val (Chg.refl _))
                  case ao10 =>
                    rintro a wx hE hin (h4 : a.eval (.tmp 34) = _) (h9 : a.eval (.tmp 39) = _)
                    clear hin
                    have hcst : ∀ v, a.eval (.const v) = v := fun _ => rfl
                    have hfnc : ∀ f, a.eval (.func f) = .func (.func f) #[] #[] := fun _ => rfl
                    refine want_none rfl ?_
                    unfold Oper.wp
                    generalize a.eval = ρ at *
                    go_simp
                    try go_bits
                    first | exact rel_val (Chg.refl _) | (go_simp; exact rel_val (Chg.refl _))
                case afin =>
                  intro wx hE
                  rintro _ rfl _ rfl _ rfl _ rfl _ rfl _ rfl _ rfl _ rfl _ rfl _ rfl _ rfl
                  simp only [FinOk, List.take_succ_cons, List.take_zero, List.take_nil, List.drop_succ_cons, List.drop_zero, List.drop_nil, Act.put, List.setIfInBounds_toArray, List.set_cons_succ, List.set_cons_zero]
                  have HB3 : Hid (Below w.heap.size w wx) := HB2.out.trans ((hE.undrew).below (B := w.heap.size) HB2.out.size (fun _ _ => id))
                  clear hE
                  go_wp2_with fail
                  go_roundw
                  case rel => exact ⟨j + 1, by omega, by go_num, fun i hi hl => by
                    rcases Nat.lt_or_ge i j with h | h
                    · exact HNE.out i h hl
                    · obtain rfl : i = j := by omega
                      rw [HQ.out]
                      exact HNQ.out, HB3.out⟩
                  case measure => simp [intOf]; omega
            · have hje : j = k := by omega
              have hji : ¬ ((j : Int) < (k : Int)) := by omega
              have HG2 := Lib.hid (HG.out.more hlt (by rw [HP.out]; exact ⟨by omega, h12⟩) (by
                rw [HP.out]
                intro hm
                obtain ⟨y, hy, he⟩ := List.mem_map.1 hm
                obtain ⟨i, hi, rfl⟩ := List.mem_take_iff_getElem.1 hy
                exact HNE.out i (by omega) (by omega) he))
              go_wp2_with fail
              go_roundw
              case rel => exact ⟨k + 1, by omega, by go_num, HG2.out, HB2.out⟩
              case measure => simp [intOf]; omega
        · have h12n : (12 : Int) ≤ p.at_ := by omega
          have HN : Hid (goodB ps = false) := HRG.out (fun hh => by omega)
          go_wp2
          go_ret
          exact ⟨by rw [HN.out]; rfl, HB.out⟩
    · have hke : k = ps.length := by omega
      have hki : ¬ ((k : Int) < (ps.length : Int)) := by omega
      have HN : Hid (goodB ps = decide ((1 : Int) ≤ (ps.length : Int) ∧ (ps.length : Int) ≤ 5)) := by
        have h1 := HG.out.rg
        have h2 := HG.out.nd
        rw [hke, List.take_length] at h1 h2
        show decide _ = decide _
        rw [decide_eq_decide]
        exact ⟨fun h => by omega, fun h => ⟨by omega, by omega, h1, h2⟩⟩
      by_cases hl1 : (1 : Int) ≤ (ps.length : Int)
      · go_wp2
        go_ret
        exact ⟨by rw [HN.out]; simp [hl1], HB.out⟩
      · go_wp2
        go_ret
        exact ⟨by rw [HN.out]; simp [hl1]; intro h; omega, HB.out⟩
end Go.Proofs.Ytchcnkobgdbdkaa


/- The walk of wal.number. -/
namespace Go.Proofs.Ytchcnkobgdbdkaa
open Go.RowKit
set_option linter.unusedVariables false
set_option linter.unusedSimpArgs false

theorem num_four (b0 b1 b2 b3 : UInt8) : Go.bits .or .u32 (Go.bits .or .u32 (Go.bits .or .u32 ((b0.toNat : Int) % 4294967296) ((b1.toNat : Int) % 4294967296 * 256 % 4294967296)) ((b2.toNat : Int) % 4294967296 * 65536 % 4294967296)) ((b3.toNat : Int) % 4294967296 * 16777216 % 4294967296) = ((num [b0, b1, b2, b3] : Nat) : Int) := by
  have l0 := b0.toNat_lt
  have l1 := b1.toNat_lt
  have l2 := b2.toNat_lt
  have h1 := num_or b0.toNat 1 b1 (by decide) (by omega)
  have h2 := num_or (b0.toNat + b1.toNat * 256 ^ 1) 2 b2 (by decide) (by omega)
  have h3 := num_or (b0.toNat + b1.toNat * 256 ^ 1 + b2.toNat * 256 ^ 2) 3 b3 (by decide) (by omega)
  rw [show (2 : Int) ^ (8 * 1) = 256 by decide] at h1
  rw [show (2 : Int) ^ (8 * 2) = 65536 by decide] at h2
  rw [show (2 : Int) ^ (8 * 3) = 16777216 by decide] at h3
  rw [Int.emod_eq_of_lt (show (0 : Int) ≤ b0.toNat by omega) (by omega), h1, h2, h3]
  congr 1
  simp only [num]
  omega
set_option maxRecDepth 100000 in
set_option maxHeartbeats 4000000 in
theorem walNumber_calls (l : List UInt8) (A : Option Addr) (c : Nat) (w : World) (hl : l.length = 4) (hr : Rd w A (bts l)) :
    Calls Try.prog 32 #[.slice A 4 c] w fun e w' => e = .returned (.int .u32 (num l : Nat)) ∧ Below w.heap.size w w' := by
  obtain ⟨b0, b1, b2, b3, rfl⟩ : ∃ b0 b1 b2 b3, l = [b0, b1, b2, b3] := by
    match l, hl with
    | [a, b, c, d], _ => exact ⟨a, b, c, d, rfl⟩
  obtain ⟨ad, rfl, h0⟩ := hr.bt 0 (by simp)
  obtain ⟨ad1, e1, h1⟩ := hr.bt 1 (by simp)
  obtain ⟨ad2, e2, h2⟩ := hr.bt 2 (by simp)
  obtain ⟨ad3, e3, h3⟩ := hr.bt 3 (by simp)
  injection e1 with e1
  injection e2 with e2
  injection e3 with e3
  subst e1 e2 e3
  have HC0 : Hid (w.cell? ad = some (vu8 b0)) := by show _ = _; simpa [Addr.add] using h0
  have HC1 : Hid (w.cell? ⟨ad.block, ad.off + 1, none⟩ = some (vu8 b1)) := by show _ = _; simpa [Addr.add] using h1
  have HC2 : Hid (w.cell? ⟨ad.block, ad.off + 2, none⟩ = some (vu8 b2)) := by show _ = _; simpa [Addr.add] using h2
  have HC3 : Hid (w.cell? ⟨ad.block, ad.off + 3, none⟩ = some (vu8 b3)) := by show _ = _; simpa [Addr.add] using h3
  clear h0 h1 h2 h3 hl hr
  go_enter Try.func32, Try.ntmps32
  go_wp2_with fail
  apply wp_region_rel 22 (Chg NoS) [(Veq _), (Veq _), (Veq _), (Veq _), (Veq _), (Veq _), (Veq _), (Veq _), (Veq _), (Veq _), (Veq _), (Veq _), (Veq _), (Veq _), (Veq _), (Veq _), (Veq _), (Veq _), (Veq _), (Veq _), (Veq _), (Veq _)] [[], [0], [1], [2], [], [4], [5], [6], [7], [3, 8], [], [10], [11], [12], [13], [9, 14], [], [16], [17], [18], [19], [15, 20]] [3, 4, 5, 6, 7, 8, 9, 10, 11, 12, 13, 14, 15, 16, 17, 18, 19, 20, 21, 22, 23, 24] (by kernel_rfl) (by kernel_rfl) rfl rfl rfl Chg.refl (fun _ _ _ => Chg.trans) ⟨Veq.lasts, Veq.lasts, Veq.lasts, Veq.lasts, Veq.lasts, Veq.lasts, Veq.lasts, Veq.lasts, Veq.lasts, Veq.lasts, Veq.lasts, Veq.lasts, Veq.lasts, Veq.lasts, Veq.lasts, Veq.lasts, Veq.lasts, Veq.lasts, Veq.lasts, Veq.lasts, Veq.lasts, Veq.lasts, trivial⟩ ?aops ?afin
  case aops =>
    refine ⟨?ao0, ?ao1, ?ao2, ?ao3, ?ao4, ?ao5, ?ao6, ?ao7, ?ao8, ?ao9, ?ao10, ?ao11, ?ao12, ?ao13, ?ao14, ?ao15, ?ao16, ?ao17, ?ao18, ?ao19, ?ao20, ?ao21, trivial⟩
    case ao0 =>
      intro a wx hE hin
      have i0 : a.eval (.tmp 0) = .slice (some ad) 4 c := hin 0 rfl
      clear hin
      have hcst : ∀ v, a.eval (.const v) = v := fun _ => rfl
      have hfnc : ∀ f, a.eval (.func f) = .func (.func f) #[] #[] := fun _ => rfl
      refine want_none rfl ?_
      unfold Oper.wp
      generalize a.eval = ρ at *
      go_simp
      try go_bits
      first | exact rel_val (Chg.refl _) | (go_simp; exact rel_val (Chg.refl _))
    case ao1 =>
      rintro a wx hE hin (h0 : a.eval (.tmp 3) = _)
      clear hin
      have hcst : ∀ v, a.eval (.const v) = v := fun _ => rfl
      have hfnc : ∀ f, a.eval (.func f) = .func (.func f) #[] #[] := fun _ => rfl
      refine want_none rfl ?_
      unfold Oper.wp
      generalize a.eval = ρ at *
      go_simp
      try go_bits
      first | exact rel_val (Chg.refl _) | (go_simp; exact rel_val (Chg.refl _))
    case ao2 =>
      rintro a wx hE hin (h1 : a.eval (.tmp 4) = _)
      clear hin
      have hcst : ∀ v, a.eval (.const v) = v := fun _ => rfl
      have hfnc : ∀ f, a.eval (.func f) = .func (.func f) #[] #[] := fun _ => rfl
      refine want_none rfl ?_
      unfold Oper.wp
      generalize a.eval = ρ at *
      have c := hE.cell (w := w.drew) HC0.out id
      go_simp
      try go_bits
      first | exact rel_val (Chg.refl _) | (go_simp; exact rel_val (Chg.refl _))
    case ao3 =>
      rintro a wx hE hin (h2 : a.eval (.tmp 5) = _)
      clear hin
      have hcst : ∀ v, a.eval (.const v) = v := fun _ => rfl
      have hfnc : ∀ f, a.eval (.func f) = .func (.func f) #[] #[] := fun _ => rfl
      refine want_none rfl ?_
      unfold Oper.wp
      generalize a.eval = ρ at *
      go_simp
      try go_bits
      first | exact rel_val (Chg.refl _) | (go_simp; exact rel_val (Chg.refl _))
    case ao4 =>
      intro a wx hE hin
      have i0 : a.eval (.tmp 0) = .slice (some ad) 4 c := hin 0 rfl
      clear hin
      have hcst : ∀ v, a.eval (.const v) = v := fun _ => rfl
      have hfnc : ∀ f, a.eval (.func f) = .func (.func f) #[] #[] := fun _ => rfl
      refine want_none rfl ?_
      unfold Oper.wp
      generalize a.eval = ρ at *
      go_simp
      try go_bits
      first | exact rel_val (Chg.refl _) | (go_simp; exact rel_val (Chg.refl _))
    case ao5 =>
      rintro a wx hE hin (h4 : a.eval (.tmp 7) = _)
      clear hin
      have hcst : ∀ v, a.eval (.const v) = v := fun _ => rfl
      have hfnc : ∀ f, a.eval (.func f) = .func (.func f) #[] #[] := fun _ => rfl
      refine want_none rfl ?_
      unfold Oper.wp
      generalize a.eval = ρ at *
      go_simp
      try go_bits
      first | exact rel_val (Chg.refl _) | (go_simp; exact rel_val (Chg.refl _))
    case ao6 =>
      rintro a wx hE hin (h5 : a.eval (.tmp 8) = _)
      clear hin
      have hcst : ∀ v, a.eval (.const v) = v := fun _ => rfl
      have hfnc : ∀ f, a.eval (.func f) = .func (.func f) #[] #[] := fun _ => rfl
      refine want_none rfl ?_
      unfold Oper.wp
      generalize a.eval = ρ at *
      have c := hE.cell (w := w.drew) HC1.out id
      go_simp
      try go_bits
      first | exact rel_val (Chg.refl _) | (go_simp; exact rel_val (Chg.refl _))
    case ao7 =>
      rintro a wx hE hin (h6 : a.eval (.tmp 9) = _)
      clear hin
      have hcst : ∀ v, a.eval (.const v) = v := fun _ => rfl
      have hfnc : ∀ f, a.eval (.func f) = .func (.func f) #[] #[] := fun _ => rfl
      refine want_none rfl ?_
      unfold Oper.wp
      generalize a.eval = ρ at *
      go_simp
      try go_bits
      first | exact rel_val (Chg.refl _) | (go_simp; exact rel_val (Chg.refl _))
    case ao8 =>
      rintro a wx hE hin (h7 : a.eval (.tmp 10) = _)
      clear hin
      have hcst : ∀ v, a.eval (.const v) = v := fun _ => rfl
      have hfnc : ∀ f, a.eval (.func f) = .func (.func f) #[] #[] := fun _ => rfl
      refine want_none rfl ?_
      unfold Oper.wp
      generalize a.eval = ρ at *
      go_simp
      try go_bits
      first | exact rel_val (Chg.refl _) | (go_simp; exact rel_val (Chg.refl _))
    case ao9 =>
      rintro a wx hE hin (h3 : a.eval (.tmp 6) = _) (h8 : a.eval (.tmp 11) = _)
      clear hin
      have hcst : ∀ v, a.eval (.const v) = v := fun _ => rfl
      have hfnc : ∀ f, a.eval (.func f) = .func (.func f) #[] #[] := fun _ => rfl
      refine want_none rfl ?_
      unfold Oper.wp
      generalize a.eval = ρ at *
      go_simp
      try go_bits
      first | exact rel_val (Chg.refl _) | (go_simp; exact rel_val (Chg.refl _))
    case ao10 =>
      intro a wx hE hin
      have i0 : a.eval (.tmp 0) = .slice (some ad) 4 c := hin 0 rfl
      clear hin
      have hcst : ∀ v, a.eval (.const v) = v := fun _ => rfl
      have hfnc : ∀ f, a.eval (.func f) = .func (.func f) #[] #[] := fun _ => rfl
      refine want_none rfl ?_
      unfold Oper.wp
      generalize a.eval = ρ at *
      go_simp
      try go_bits
      first | exact rel_val (Chg.refl _) | (go_simp; exact rel_val (Chg.refl _))
    case ao11 =>
      rintro a wx hE hin (h10 : a.eval (.tmp 13) = _)
      clear hin
      have hcst : ∀ v, a.eval (.const v) = v := fun _ => rfl
      have hfnc : ∀ f, a.eval (.func f) = .func (.func f) #[] #[] := fun _ => rfl
      refine want_none rfl ?_
      unfold Oper.wp
      generalize a.eval = ρ at *
      go_simp
      try go_bits
      first | exact rel_val (Chg.refl _) | (go_simp; exact rel_val (Chg.refl _))
    case ao12 =>
      rintro a wx hE hin (h11 : a.eval (.tmp 14) = _)
      clear hin
      have hcst : ∀ v, a.eval (.const v) = v := fun _ => rfl
      have hfnc : ∀ f, a.eval (.func f) = .func (.func f) #[] #[] := fun _ => rfl
      refine want_none rfl ?_
      unfold Oper.wp
      generalize a.eval = ρ at *
      have c := hE.cell (w := w.drew) HC2.out id
      go_simp
      try go_bits
      first | exact rel_val (Chg.refl _) | (go_simp; exact rel_val (Chg.refl _))
    case ao13 =>
      rintro a wx hE hin (h12 : a.eval (.tmp 15) = _)
      clear hin
      have hcst : ∀ v, a.eval (.const v) = v := fun _ => rfl
      have hfnc : ∀ f, a.eval (.func f) = .func (.func f) #[] #[] := fun _ => rfl
      refine want_none rfl ?_
      unfold Oper.wp
      generalize a.eval = ρ at *
      go_simp
      try go_bits
      first | exact rel_val (Chg.refl _) | (go_simp; exact rel_val (Chg.refl _))
    case ao14 =>
      rintro a wx hE hin (h13 : a.eval (.tmp 16) = _)
      clear hin
      have hcst : ∀ v, a.eval (.const v) = v := fun _ => rfl
      have hfnc : ∀ f, a.eval (.func f) = .func (.func f) #[] #[] := fun _ => rfl
      refine want_none rfl ?_
      unfold Oper.wp
      generalize a.eval = ρ at *
      go_simp
      try go_bits
      first | exact rel_val (Chg.refl _) | (go_simp; exact rel_val (Chg.refl _))
    case ao15 =>
      rintro a wx hE hin (h9 : a.eval (.tmp 12) = _) (h14 : a.eval (.tmp 17) = _)
      clear hin
      have hcst : ∀ v, a.eval (.const v) = v := fun _ => rfl
      have hfnc : ∀ f, a.eval (.func f) = .func (.func f) #[] #[] := fun _ => rfl
      refine want_none rfl ?_
      unfold Oper.wp
      generalize a.eval = ρ at *
      go_simp
      try go_bits
      first | exact rel_val (Chg.refl _) | (go_simp; exact rel_val (Chg.refl _))
    case ao16 =>
      intro a wx hE hin
      have i0 : a.eval (.tmp 0) = .slice (some ad) 4 c := hin 0 rfl
      clear hin
      have hcst : ∀ v, a.eval (.const v) = v := fun _ => rfl
      have hfnc : ∀ f, a.eval (.func f) = .func (.func f) #[] #[] := fun _ => rfl
      refine want_none rfl ?_
      unfold Oper.wp
      generalize a.eval = ρ at *
      go_simp
      try go_bits
      first | exact rel_val (Chg.refl _) | (go_simp; exact rel_val (Chg.refl _))
    case ao17 =>
      rintro a wx hE hin (h16 : a.eval (.tmp 19) = _)
      clear hin
      have hcst : ∀ v, a.eval (.const v) = v := fun _ => rfl
      have hfnc : ∀ f, a.eval (.func f) = .func (.func f) #[] #[] := fun _ => rfl
      refine want_none rfl ?_
      unfold Oper.wp
      generalize a.eval = ρ at *
      go_simp
      try go_bits
      first | exact rel_val (Chg.refl _) | (go_simp; exact rel_val (Chg.refl _))
    case ao18 =>
      rintro a wx hE hin (h17 : a.eval (.tmp 20) = _)
      clear hin
      have hcst : ∀ v, a.eval (.const v) = v := fun _ => rfl
      have hfnc : ∀ f, a.eval (.func f) = .func (.func f) #[] #[] := fun _ => rfl
      refine want_none rfl ?_
      unfold Oper.wp
      generalize a.eval = ρ at *
      have c := hE.cell (w := w.drew) HC3.out id
      go_simp
      try go_bits
      first | exact rel_val (Chg.refl _) | (go_simp; exact rel_val (Chg.refl _))
    case ao19 =>
      rintro a wx hE hin (h18 : a.eval (.tmp 21) = _)
      clear hin
      have hcst : ∀ v, a.eval (.const v) = v := fun _ => rfl
      have hfnc : ∀ f, a.eval (.func f) = .func (.func f) #[] #[] := fun _ => rfl
      refine want_none rfl ?_
      unfold Oper.wp
      generalize a.eval = ρ at *
      go_simp
      try go_bits
      first | exact rel_val (Chg.refl _) | (go_simp; exact rel_val (Chg.refl _))
    case ao20 =>
      rintro a wx hE hin (h19 : a.eval (.tmp 22) = _)
      clear hin
      have hcst : ∀ v, a.eval (.const v) = v := fun _ => rfl
      have hfnc : ∀ f, a.eval (.func f) = .func (.func f) #[] #[] := fun _ => rfl
      refine want_none rfl ?_
      unfold Oper.wp
      generalize a.eval = ρ at *
      go_simp
      try go_bits
      first | exact rel_val (Chg.refl _) | (go_simp; exact rel_val (Chg.refl _))
    case ao21 =>
      rintro a wx hE hin (h15 : a.eval (.tmp 18) = _) (h20 : a.eval (.tmp 23) = _)
      clear hin
      have hcst : ∀ v, a.eval (.const v) = v := fun _ => rfl
      have hfnc : ∀ f, a.eval (.func f) = .func (.func f) #[] #[] := fun _ => rfl
      refine want_none rfl ?_
      unfold Oper.wp
      generalize a.eval = ρ at *
      go_simp
      try go_bits
      first | exact rel_val (Chg.refl _) | (go_simp; exact rel_val (Chg.refl _))
  case afin =>
    intro wx hE
    rintro _ rfl _ rfl _ rfl _ rfl _ rfl _ rfl _ rfl _ rfl _ rfl _ rfl _ rfl _ rfl _ rfl _ rfl _ rfl _ rfl _ rfl _ rfl _ rfl _ rfl _ rfl _ rfl
    simp only [FinOk, List.take_succ_cons, List.take_zero, List.take_nil, List.drop_succ_cons, List.drop_zero, List.drop_nil, Act.put, List.setIfInBounds_toArray, List.set_cons_succ, List.set_cons_zero]
    have HE : Hid (Below w.heap.size w wx) := (hE.undrew).below (Nat.le_refl _) (fun _ _ => id)
    have HN := Lib.hid (num_four b0 b1 b2 b3)
    clear hE
    go_wp2
    go_ret
    exact ⟨by rw [← HN.out]; rfl, HE.out⟩
end Go.Proofs.Ytchcnkobgdbdkaa


/- The walk of wal.header. -/
namespace Go.Proofs.Ytchcnkobgdbdkaa
open Go.RowKit
set_option linter.unusedVariables false
set_option linter.unusedSimpArgs false

theorem own_lower {w : World} {B B' n : Nat} {e : TypeId} {size : Nat} {v : Value} {xs : List Value} (h : w.ownsRow B e size v n xs) (hB : B' ≤ B) : w.ownsRow B' e size v n xs := by
  refine ⟨h.1, ?_⟩
  rcases h.2 with h2 | ⟨g, cap, cur, hv, hbg, r⟩
  · exact .inl h2
  · exact .inr ⟨g, cap, cur, hv, Nat.le_trans hB hbg, r⟩
def FourAt (l : List UInt8) : Fact := fun w v => ∃ g, v = .slice (some ⟨g, 0, none⟩) 4 4 ∧ Bk w g (bts l)
theorem FourAt.lasts {l : List UInt8} : ∀ w w' v, Chg NoS w w' → FourAt l w v → FourAt l w' v := fun _ _ _ h ⟨g, e, hb⟩ => ⟨g, e, hb.chg h id⟩
def OwnF (base n : Nat) (xs : List UInt8) : Fact := fun w v => ∃ A c, v = .slice A n c ∧ w.ownsRow base 5 1 (.slice A n c) n (bts xs)
theorem OwnF.lasts {base n : Nat} {xs : List UInt8} : ∀ w w' v, Chg NoS w w' → OwnF base n xs w v → OwnF base n xs w' v := fun _ _ _ h ⟨A, c, e, ho⟩ => ⟨A, c, e, own_chg ho h (fun _ _ => id)⟩
/-- append where there is no room: only new blocks. -/
theorem wp_append_full {P : Program} {o : Oper} {a : Act} {w : World} {K : Act → World → Prop} {Q : Exit → Act → World → Prop} (s x : Operand) (t : TypeId) (ho : o.op = .call { callee := .builtin .append, args := #[s, x], argTypes := #[t, t] }) (e : TypeId) (z : Value) (size bytes : Nat) (ht : P.underlying t = some (.slice e)) (hinfo : (P.info? e).map (fun i => (i.zero, i.size, i.bytes)) = some (some z, size, bytes))
    (hzs : z.cells.size = size) (hsz : 0 < size) (b : Addr) (n cap : Nat) (olds : List Value) (hs : a.eval s = .slice (some b) n cap) (hlo : olds.length = n * size) (hR : Rd w (some b) olds) (A : Option Addr) (m c : Nat) (ys : List Value) (hx : a.eval x = .slice A m c) (hl : ys.length = m * size) (HR : Rd w A ys)
    (hm : 0 < m) (hfull : cap < n + m) (hbytes : (n + m) * bytes ≤ 140737488355328 ∧ n + m ≤ maxLen) (h1 : ∀ u ∈ ys, u.oneCell' = true)
    (h : ∀ A1 c1 w', w'.ownsRow w.heap.size e size (.slice A1 (n + m) c1) (n + m) (olds ++ ys) → Chg NoS w w' → K (a.put o.dst (.slice A1 (n + m) c1)) w') : o.wp P a w K Q := by
  obtain ⟨i0, hi, hzz⟩ := Option.map_eq_some_iff.1 hinfo
  simp only [Prod.mk.injEq] at hzz
  obtain ⟨hz0, hz1, hz2⟩ := hzz
  obtain ⟨ad, rfl, _⟩ := HR.at_ 0 (by rw [hl]; exact Nat.mul_pos hm hsz)
  obtain ⟨v', w', hr, ho', hg⟩ := run_append_arg_grows (P := P) w t o.type e i0 z size bytes ht hi hz0 hz1 hz2 hzs hsz b n cap olds hlo (fun j u hu => by obtain ⟨ad', e', hc⟩ := hR j u hu; injection e' with e'; subst e'; exact hc) ad m c ys hl
    (fun j u hu => by obtain ⟨ad', e', hc⟩ := HR j u hu; injection e' with e'; subst e'; exact hc) hfull hbytes.2 hbytes.1
  obtain ⟨A1, c1, rfl, _, _, _⟩ := own_rd ho'
  unfold Oper.wp execOp
  simp only [ho, resolve, invoke, builtin, Sem.run_bind, Sem.run_pure, Result.andThen_ok, List.map_toArray, List.map_cons, List.map_nil, hs, hx, hr]
  exact h A1 c1 w' ho' ⟨hg.os, hg.tape, hg.output, hg.size, fun k hk _ => hg.block k hk (fun h => by cases h)⟩
/-- A header's bytes, and its sector. -/
def hdrB (e s : UInt32) (ps : List PutV) : List UInt8 := le e.toNat 4 ++ le s.toNat 4 ++ [UInt8.ofNat ps.length] ++ ps.map (fun p => UInt8.ofNat p.at_.toNat)
theorem hdrB_length (e s : UInt32) (ps : List PutV) : (hdrB e s ps).length = 9 + ps.length := by simp [hdrB, le_length]; omega
def hdrS (e s : UInt32) (ps : List PutV) : List UInt8 := secOf 0x57 (padB (hdrB e s ps))
theorem hdrS_length (e s : UInt32) (ps : List PutV) (h : ps.length ≤ 20) : (hdrS e s ps).length = 32 := secOf_length (padB_length (by rw [hdrB_length]; omega))
theorem hdr_enc (e s : UInt32) (ps : List PutV) (h : ps.length ≤ 20) : encR 0x57 (hdrB e s ps) = (hdrS e s ps, 0) := encR_yes (by rw [hdrB_length]; intro hh; rcases hh with hh | hh; exact absurd hh (by decide); omega)
def hdrK (e s : UInt32) (ps : List PutV) (k : Nat) : List UInt8 := le e.toNat 4 ++ le s.toNat 4 ++ [UInt8.ofNat ps.length] ++ (ps.take k).map (fun p => UInt8.ofNat p.at_.toNat)
theorem hdrK_zero (e s : UInt32) (ps : List PutV) : bts (hdrK e s ps 0) = bts (le e.toNat 4 ++ le s.toNat 4) ++ bts [UInt8.ofNat ps.length] := by
  rw [hdrK, List.take_zero, List.map_nil, List.append_nil, bts_append]
theorem hdrK_succ (e s : UInt32) (ps : List PutV) (k : Nat) (h : k < ps.length) : bts (hdrK e s ps (k + 1)) = bts (hdrK e s ps k) ++ bts [UInt8.ofNat ps[k].at_.toNat] := by
  rw [hdrK, hdrK, List.take_succ_eq_append_getElem h, List.map_append, ← List.append_assoc, bts_append _ (List.map _ [ps[k]]), List.map_cons, List.map_nil]
theorem hdrK_all (e s : UInt32) (ps : List PutV) (k : Nat) (h : k = ps.length) : hdrK e s ps k = hdrB e s ps := by
  rw [hdrK, hdrB, List.take_of_length_le (by omega)]
def HdrRel (w : World) (e s : UInt32) (ps : List PutV) (bx : List Value) (v4 v23 : Value) (wr : World) : Prop := ∃ k : Nat, k ≤ ps.length ∧ v23 = .int .i64 k ∧ wr.ownsRow (w.heap.size + 2) 5 1 v4 (9 + k) (bts (hdrK e s ps k)) ∧ Bk wr w.heap.size bx ∧ Bk wr (w.heap.size + 1) (bts (List.replicate 32 0)) ∧ Below w.heap.size w wr
theorem byte_at (q : Nat) (h : q < 256) : vu8 (UInt8.ofNat q) = .int .u8 (q : Int) := by
  rw [vu8_of]
  congr 1
  omega
set_option maxRecDepth 100000 in
set_option maxHeartbeats 8000000 in
theorem header_calls (e s : UInt32) (ps : List PutV) (A : Option Addr) (n c : Nat) (w : World) (hl : ps.length = n) (h20 : n ≤ 20) (hr : Rd w A (ps.flatMap putC)) (ho : PutsOk ps) (hat : ∀ p ∈ ps, 0 ≤ p.at_ ∧ p.at_ < 256) :
    Calls Try.prog 33 #[.agg #[vu32 e, vu32 s, .slice A n c]] w fun en w' => en = .returned (.tuple #[.agg (bts (hdrS e s ps)).toArray, .int .i64 0]) ∧ Below w.heap.size w w' := by
  subst hl
  have HR := Lib.hid hr
  have HO := Lib.hid ho
  have HAT := Lib.hid hat
  clear hr ho hat
  obtain ⟨bx, hbx⟩ : ∃ bx, [vu32 e, vu32 s, .slice A ps.length c] = bx := ⟨_, rfl⟩
  have D0 : Hid (bx[0]? = some (vu32 e)) := by rw [← hbx]; exact (rfl : _ = _)
  have D1 : Hid (bx[1]? = some (vu32 s)) := by rw [← hbx]; exact (rfl : _ = _)
  have D2 : Hid (bx[2]? = some (.slice A ps.length c)) := by rw [← hbx]; exact (rfl : _ = _)
  rw [show (#[vu32 e, vu32 s, .slice A ps.length c] : Array Value) = bx.toArray by rw [← hbx]]
  clear hbx
  have HLB : Hid (vu8 (UInt8.ofNat ps.length) = .int .u8 (ps.length : Int)) := byte_at _ (by omega)
  go_enter Try.func33, Try.ntmps33
  go_wp2_with (refine wpList_al rfl 37 rfl (bts (List.replicate 32 0)) (by kernel_rfl) ?_)
  intro g2 w0 hg hb hc hs
  have hg' : g2 = w.heap.size + 1 := hg.trans (by simp)
  subst hg'
  have X0 : Hid (Bk w0 w.heap.size bx) := (Bk.new w bx _).chg hc id
  have E0 : Hid (Below w.heap.size w w0) := ((Below.refl _ _).alloc (Nat.le_refl _) _).trans (hc.below (by simp) (fun _ _ => id))
  have R0 := Lib.hid hb
  have HS0 : Hid (w.heap.size + 2 ≤ w0.heap.size) := by show _ ≤ _; have := hb.lt; omega
  clear hg hb hc hs
  go_wp2_with fail
  apply wp_region_rel 12 (Chg NoS) [(Veq _), (Veq _), (FourAt (le e.toNat 4)), (Veq _), (Veq _), (FourAt (le s.toNat 4)), (OwnF (w.heap.size + 2) 8 (le e.toNat 4 ++ le s.toNat 4)), (Veq _), (Veq _), (Veq _), (Veq _), (RowAt NoS 1 _)] [[], [0], [1], [], [3], [4], [2, 5], [], [7], [8], [9], [10]] [7, 8, 9, 10, 11, 12, 13, 14, 15, 16, 17, 18] (by kernel_rfl) (by kernel_rfl) rfl rfl rfl Chg.refl (fun _ _ _ => Chg.trans) ⟨Veq.lasts, Veq.lasts, FourAt.lasts, Veq.lasts, Veq.lasts, FourAt.lasts, OwnF.lasts, Veq.lasts, Veq.lasts, Veq.lasts, Veq.lasts, RowAt.lasts, trivial⟩ ?aops ?afin
  case aops =>
    refine ⟨?ao0, ?ao1, ?ao2, ?ao3, ?ao4, ?ao5, ?ao6, ?ao7, ?ao8, ?ao9, ?ao10, ?ao11, trivial⟩
    case ao0 =>
      intro a wx hE hin
      have i1 : a.eval (.tmp 1) = .pointer (some ⟨w.heap.size, 0, none⟩) := hin 1 rfl
      clear hin
      have hcst : ∀ v, a.eval (.const v) = v := fun _ => rfl
      have hfnc : ∀ f, a.eval (.func f) = .func (.func f) #[] #[] := fun _ => rfl
      refine want_none rfl ?_
      unfold Oper.wp
      generalize a.eval = ρ at *
      go_simp
      try go_bits
      first | exact rel_val (Chg.refl _) | (go_simp; exact rel_val (Chg.refl _))
    case ao1 =>
      rintro a wx hE hin (h0 : a.eval (.tmp 7) = _)
      clear hin
      have hcst : ∀ v, a.eval (.const v) = v := fun _ => rfl
      have hfnc : ∀ f, a.eval (.func f) = .func (.func f) #[] #[] := fun _ => rfl
      refine want_none rfl ?_
      unfold Oper.wp
      generalize a.eval = ρ at *
      have c := Bk.cell ((X0.out.drew).chg hE id) D0.out
      go_simp
      try go_bits
      first | exact rel_val (Chg.refl _) | (go_simp; exact rel_val (Chg.refl _))
    case ao2 =>
      rintro a wx hE hin (h1 : a.eval (.tmp 8) = _)
      clear hin
      have hcst : ∀ v, a.eval (.const v) = v := fun _ => rfl
      have hfnc : ∀ f, a.eval (.func f) = .func (.func f) #[] #[] := fun _ => rfl
      refine want_none rfl ?_
      unfold Oper.wp
      generalize a.eval = ρ at *
      go_simp
      refine (four_calls e wx).mono ?_
      intro e w' hp
      obtain ⟨g, rfl, hb, hg, hbel⟩ := hp
      exact ⟨_, rfl, ⟨g, rfl, hb⟩, .of_below hbel⟩
    case ao3 =>
      intro a wx hE hin
      have i1 : a.eval (.tmp 1) = .pointer (some ⟨w.heap.size, 0, none⟩) := hin 1 rfl
      clear hin
      have hcst : ∀ v, a.eval (.const v) = v := fun _ => rfl
      have hfnc : ∀ f, a.eval (.func f) = .func (.func f) #[] #[] := fun _ => rfl
      refine want_none rfl ?_
      unfold Oper.wp
      generalize a.eval = ρ at *
      go_simp
      try go_bits
      first | exact rel_val (Chg.refl _) | (go_simp; exact rel_val (Chg.refl _))
    case ao4 =>
      rintro a wx hE hin (h3 : a.eval (.tmp 10) = _)
      clear hin
      have hcst : ∀ v, a.eval (.const v) = v := fun _ => rfl
      have hfnc : ∀ f, a.eval (.func f) = .func (.func f) #[] #[] := fun _ => rfl
      refine want_none rfl ?_
      unfold Oper.wp
      generalize a.eval = ρ at *
      have c := Bk.cell ((X0.out.drew).chg hE id) D1.out
      go_simp
      try go_bits
      first | exact rel_val (Chg.refl _) | (go_simp; exact rel_val (Chg.refl _))
    case ao5 =>
      rintro a wx hE hin (h4 : a.eval (.tmp 11) = _)
      clear hin
      have hcst : ∀ v, a.eval (.const v) = v := fun _ => rfl
      have hfnc : ∀ f, a.eval (.func f) = .func (.func f) #[] #[] := fun _ => rfl
      refine want_none rfl ?_
      unfold Oper.wp
      generalize a.eval = ρ at *
      go_simp
      refine (four_calls s wx).mono ?_
      intro e w' hp
      obtain ⟨g, rfl, hb, hg, hbel⟩ := hp
      exact ⟨_, rfl, ⟨g, rfl, hb⟩, .of_below hbel⟩
    case ao6 =>
      rintro a wx hE hin ⟨g2, h2, b2⟩ ⟨g5, h5, b5⟩
      clear hin
      have hcst : ∀ v, a.eval (.const v) = v := fun _ => rfl
      have hfnc : ∀ f, a.eval (.func f) = .func (.func f) #[] #[] := fun _ => rfl
      refine want_none rfl ?_
      exact wp_append_full _ _ 48 rfl 5 (.int .u8 0) 1 1 Try.underlying48 info_u8l rfl (by decide) ⟨g2, 0, none⟩ 4 4 (bts (le e.toNat 4)) h2 (by rw [bts_length, le_length]) b2.rd (some ⟨g5, 0, none⟩) 4 4 (bts (le s.toNat 4)) h5 (by rw [bts_length, le_length]) b5.rd (by decide) (by decide) (by decide) (one_bts _) (fun A1 c1 w1 ho hc => ⟨_, rfl, ⟨A1, c1, rfl, by rw [bts_append]; exact own_lower ho (Nat.le_trans HS0.out hE.size)⟩, hc⟩)
    case ao7 =>
      intro a wx hE hin
      have i1 : a.eval (.tmp 1) = .pointer (some ⟨w.heap.size, 0, none⟩) := hin 1 rfl
      clear hin
      have hcst : ∀ v, a.eval (.const v) = v := fun _ => rfl
      have hfnc : ∀ f, a.eval (.func f) = .func (.func f) #[] #[] := fun _ => rfl
      refine want_none rfl ?_
      unfold Oper.wp
      generalize a.eval = ρ at *
      go_simp
      try go_bits
      first | exact rel_val (Chg.refl _) | (go_simp; exact rel_val (Chg.refl _))
    case ao8 =>
      rintro a wx hE hin (h7 : a.eval (.tmp 14) = _)
      clear hin
      have hcst : ∀ v, a.eval (.const v) = v := fun _ => rfl
      have hfnc : ∀ f, a.eval (.func f) = .func (.func f) #[] #[] := fun _ => rfl
      refine want_none rfl ?_
      unfold Oper.wp
      generalize a.eval = ρ at *
      have c := Bk.cell ((X0.out.drew).chg hE id) D2.out
      go_simp
      try go_bits
      first | exact rel_val (Chg.refl _) | (go_simp; exact rel_val (Chg.refl _))
    case ao9 =>
      rintro a wx hE hin (h8 : a.eval (.tmp 15) = _)
      clear hin
      have hcst : ∀ v, a.eval (.const v) = v := fun _ => rfl
      have hfnc : ∀ f, a.eval (.func f) = .func (.func f) #[] #[] := fun _ => rfl
      refine want_none rfl ?_
      unfold Oper.wp
      generalize a.eval = ρ at *
      go_simp
      try go_bits
      first | exact rel_val (Chg.refl _) | (go_simp; exact rel_val (Chg.refl _))
    case ao10 =>
      rintro a wx hE hin (h9 : a.eval (.tmp 16) = _)
      clear hin
      have hcst : ∀ v, a.eval (.const v) = v := fun _ => rfl
      have hfnc : ∀ f, a.eval (.func f) = .func (.func f) #[] #[] := fun _ => rfl
      refine want_none rfl ?_
      unfold Oper.wp
      generalize a.eval = ρ at *
      go_simp
      try go_bits
      first | exact rel_val (Chg.refl _) | (go_simp; exact rel_val (Chg.refl _))
    case ao11 =>
      rintro a wx hE hin (h10 : a.eval (.tmp 17) = _)
      clear hin
      have hcst : ∀ v, a.eval (.const v) = v := fun _ => rfl
      have hfnc : ∀ f, a.eval (.func f) = .func (.func f) #[] #[] := fun _ => rfl
      refine want_none rfl ?_
      unfold Oper.wp
      generalize a.eval = ρ at *
      go_simp
      try go_bits
      exact rel_row (id)
  case afin =>
    intro wx hE
    rintro _ rfl _ rfl _ ⟨g2, rfl, b2⟩ _ rfl _ rfl _ ⟨g5, rfl, b5⟩ _ ⟨A6, c6, rfl, o6⟩ _ rfl _ rfl _ rfl _ rfl _ ⟨g11, rfl, s11, t11, f11, c11⟩
    simp only [FinOk, List.take_succ_cons, List.take_zero, List.take_nil, List.drop_succ_cons, List.drop_zero, List.drop_nil, Act.put, List.setIfInBounds_toArray, List.set_cons_succ, List.set_cons_zero]
    have X1 := Lib.hid ((X0.out.drew).chg hE id)
    have R1 := Lib.hid ((R0.out.drew).chg hE id)
    have E1 : Hid (Below w.heap.size w wx) := E0.out.trans ((hE.undrew).below (B := w.heap.size) E0.out.size (fun _ _ => id))
    have S1 : Hid (w.heap.size + 2 ≤ wx.heap.size) := Nat.le_trans HS0.out hE.size
    have O1 := Lib.hid o6
    have RD11 : Hid (Rd wx (some ⟨g11, 0, none⟩) (bts [UInt8.ofNat ps.length])) := by
      have := Rd.row (S := NoS) c11
      show Rd _ _ _
      show Rd wx (some ⟨g11, 0, none⟩) [vu8 (UInt8.ofNat ps.length)]
      rw [HLB.out]
      exact this
    clear hE o6 c11 b2 b5
    go_wp2_with (at_builtin; refine wpList_append_rd rfl (.tmp 13) (.tmp 18) 48 rfl (w.heap.size + 2) 5 (.int .u8 0) 1 1 Try.underlying48 info_u8l rfl (by decide) (by decide) (.slice A6 8 c6) 8 (bts (le e.toNat 4 ++ le s.toNat 4)) rfl O1.out (some ⟨g11, 0, none⟩) 1 1 (bts [UInt8.ofNat ps.length]) rfl rfl RD11.out (one_bts _) (by decide) S1.out ?_)
    intro v1 w2 hown hg hat
    have O2 : Hid (w2.ownsRow (w.heap.size + 2) 5 1 v1 (9 + 0) (bts (hdrK e s ps 0))) := by
      show World.ownsRow _ _ _ _ _ _ _
      rw [hdrK_zero]
      exact hown
    have hc2 : Chg (fun q => (Value.slice A6 8 c6).ownBlock = some q) wx w2 := ⟨hg.os, hg.tape, hg.output, hg.size, fun q hq hne => hg.block q hq (fun he => hne he.symm)⟩
    have hge : ∀ q, (Value.slice A6 8 c6).ownBlock = some q → w.heap.size + 2 ≤ q := fun q hq => (O1.out.lt _ hq).1
    have X2 := Lib.hid (X1.out.chg hc2 (fun he => by have := hge _ he; omega))
    have R2 := Lib.hid (R1.out.chg hc2 (fun he => by have := hge _ he; omega))
    have E2 : Hid (Below w.heap.size w w2) := E1.out.trans (hc2.below E1.out.size (fun q hq he => by have := hge _ he; omega))
    have H0 : Hid (HdrRel w e s ps bx v1 (.int .i64 0) w2) := ⟨0, Nat.zero_le _, rfl, O2.out, X2.out, R2.out, E2.out⟩
    have d2 := X2.out.cell D2.out
    clear hown hg hat hc2 hge
    go_wp2_with fail
    go_loopw [4, 23] (fun v4 v23 wr => HdrRel w e s ps bx v4 v23 wr) (fun _ v23 _ => ps.length - (intOf v23).toNat)
    case atStart => exact H0.out
    case round =>
      clear d2
      obtain ⟨k, hk, rfl, hown, hx, hz, hb⟩ := hrel
      have HO3 := Lib.hid hown
      have HX := Lib.hid hx
      have HZ := Lib.hid hz
      have HB := Lib.hid hb
      obtain ⟨A7, c7, rfl, _, _, _⟩ := own_rd hown
      clear hown hx hz hb H0
      by_cases hlt : k < ps.length
      · have hki : (k : Int) < (ps.length : Int) := by omega
        have hrr := HR.out.below HB.out
        obtain ⟨ad, hA⟩ := puts_some hrr hlt
        subst hA
        have hpr := put_rd hrr HO.out hlt
        have hpo := HO.out _ (List.getElem_mem hlt)
        have hpa := HAT.out _ (List.getElem_mem hlt)
        obtain ⟨p, hp⟩ : ∃ p, ps[k] = p := ⟨_, rfl⟩
        have HP := Lib.hid hp
        rw [hp] at hpr hpo hpa
        have HPR := Lib.hid hpr
        have HPL := Lib.hid (putC_len hpo.1)
        obtain ⟨q, hq⟩ := Int.eq_ofNat_of_zero_le hpa.1
        have HQ := Lib.hid hq
        have hq256 : q < 256 := by have := hpa.2; omega
        clear hp hpr hpo hrr hpa hq
        go_wp2_with (first
          | (refine wpList_ldr2 rfl 39 (.tmp 25) rfl (ad.add (k * 33)) 33 (putC p) rfl HPR.out (by kernel_rfl) (by kernel_rfl) HPL.out ?_)
          | (refine wpList_al rfl 39 rfl (.int .i64 0 :: bts (List.replicate 32 0)) (by kernel_rfl) ?_))
        intro g5 w3 hg hb hc hs
        have HB3 : Hid (Below w.heap.size w w3) := HB.out.trans (hc.below HB.out.size (fun _ _ => id))
        have HO4 := Lib.hid (own_chg HO3.out hc (fun _ _ => id))
        have HX3 := Lib.hid (HX.out.chg hc id)
        have HZ3 := Lib.hid (HZ.out.chg hc id)
        have HG5 : Hid (w.heap.size + 1 < g5) := by show _ < _; rw [hg]; exact HZ.out.lt
        have HG6 : Hid ((Value.slice A7 (9 + k) c7).ownBlock ≠ some g5) := fun he => by have := (HO3.out.lt _ he).2; omega
        have K3 := Lib.hid hb
        clear hb hc hs hg
        go_wp2_with (refine wpList_st rfl 39 (.tmp 6) (.tmp 26) rfl g5 0 33 (.int .i64 0 :: bts (List.replicate 32 0)) (putC p) rfl rfl K3.out (by kernel_rfl) HPL.out (by decide) (one_put p) ?_)
        intro w4 hb hc
        rw [splice_whole _ _ (by rw [HPL.out]; rfl)] at hb
        have hg5 := HG5.out
        have HB4 : Hid (Below w.heap.size w w4) := HB3.out.trans (hc.below HB3.out.size (fun _ _ => by omega))
        have HO5 := Lib.hid (own_chg HO4.out hc (fun q hq he => HG6.out (by rw [hq, he])))
        have HX4 := Lib.hid (HX3.out.chg hc (by omega))
        have HZ4 := Lib.hid (HZ3.out.chg hc (by omega))
        have hS4 : Hid (w.heap.size + 2 ≤ w4.heap.size) := by show _ ≤ _; have := HZ4.out.lt; omega
        have c0 := hb.cell (j := 0) rfl
        rw [HQ.out] at c0
        have HBY := Lib.hid (byte_at q hq256)
        clear hb hc hg5 K3 HPR HPL HO4 HX3 HZ3
        go_wp2_with (at_builtin; refine wpList_append_rd rfl (.tmp 27) (.tmp 31) 48 rfl (w.heap.size + 2) 5 (.int .u8 0) 1 1 Try.underlying48 info_u8l rfl (by decide) (by decide) (.slice A7 (9 + k) c7) (9 + k) (bts (hdrK e s ps k)) rfl ?own (some ⟨w4.heap.size, 0, none⟩) 1 1 (bts [UInt8.ofNat q]) rfl rfl ?rd (one_bts _) ?bytes ?base ?_)
        case own => exact own_chg HO5.out ((Chg.refl (S := NoS) w4).alloc _) (fun _ _ => id)
        case rd => show Rd _ _ [vu8 (UInt8.ofNat q)]; rw [HBY.out]; exact Rd.new _ _ _
        case bytes => omega
        case base => have := hS4.out; simp; omega
        intro v5 w5 hown5 hg5 hat5
        have HO6 : Hid (w5.ownsRow (w.heap.size + 2) 5 1 v5 (9 + (k + 1)) (bts (hdrK e s ps (k + 1)))) := by
          show World.ownsRow _ _ _ _ _ _ _
          rw [hdrK_succ e s ps k hlt, HP.out, HQ.out]
          exact hown5
        have hc5 : Chg (fun q => (Value.slice A7 (9 + k) c7).ownBlock = some q) w4 w5 := (show Chg (fun q => (Value.slice A7 (9 + k) c7).ownBlock = some q) w4 (w4.alloc _) from (Chg.refl _).alloc _).trans ⟨hg5.os, hg5.tape, hg5.output, hg5.size, fun q hq hne => hg5.block q hq (fun he => hne he.symm)⟩
        have hge : ∀ q, (Value.slice A7 (9 + k) c7).ownBlock = some q → w.heap.size + 2 ≤ q := fun q hq => (HO5.out.lt _ hq).1
        have HX5 := Lib.hid (HX4.out.chg hc5 (fun he => by have := hge _ he; omega))
        have HZ5 := Lib.hid (HZ4.out.chg hc5 (fun he => by have := hge _ he; omega))
        have HB5 : Hid (Below w.heap.size w w5) := HB4.out.trans (hc5.below HB4.out.size (fun q hq he => by have := hge _ he; omega))
        clear hown5 hg5 hat5 hc5 hge
        go_wp2_with fail
        go_roundw
        case rel => exact ⟨k + 1, by omega, by go_num, HO6.out, HX5.out, HZ5.out, HB5.out⟩
        case measure => simp [intOf]; omega
      · have hke : k = ps.length := by omega
        subst hke
        have hki : ¬ (((ps.length : Nat) : Int) < (ps.length : Int)) := by omega
        have HO4 : Hid (wr.ownsRow (w.heap.size + 2) 5 1 (.slice A7 (9 + ps.length) c7) (9 + ps.length) (bts (hdrB e s ps))) := by
          have := HO3.out
          rw [hdrK_all e s ps _ rfl] at this
          exact this
        obtain ⟨A8, c8, hv8, hr8, hlc8, hcm8⟩ := own_rd HO4.out
        injection hv8 with q1 q2 q3
        clear q2
        subst q1
        subst q3
        have HR8 := Lib.hid hr8
        have hl8 : (hdrB e s ps).length = 9 + ps.length := by rw [hdrB_length]
        have HHE := Lib.hid (hdr_enc e s ps h20)
        have HHL := Lib.hid (hdrS_length e s ps h20)
        clear hr8
        go_wp2_with fail
        refine (sealEncode_calls 87 A7 (9 + ps.length) c7 (hdrB e s ps) wr hl8 hlc8 hcm8 HR8.out).mono ?_
        rintro en w3 ⟨rfl, hb⟩
        rw [HHE.out]
        have HZ3 := Lib.hid (HZ.out.below hb)
        have HB3 : Hid (Below w.heap.size w w3) := HB.out.trans (hb.mono HB.out.size)
        clear hb hl8
        obtain ⟨vv, hvv⟩ : ∃ vv, bts (hdrS e s ps) = vv := ⟨_, rfl⟩
        have HVV := Lib.hid hvv
        have HVL : Hid (vv.length = 32) := by show _ = _; rw [← hvv, bts_length, HHL.out]
        have HVO : Hid (∀ u ∈ vv, u.oneCell' = true) := by rw [← hvv]; exact one_bts _
        simp only []
        rw [hvv]
        clear hvv
        go_wp2_with (refine wpList_st rfl 37 (.tmp 2) (.tmp 36) rfl (w.heap.size + 1) 0 32 (bts (List.replicate 32 0)) vv rfl rfl HZ3.out (by kernel_rfl) HVL.out (by decide) HVO.out ?_)
        intro w4 hb hc
        rw [splice_whole _ _ (by rw [HVL.out]; rfl)] at hb
        have HB4 : Hid (Below w.heap.size w w4) := HB3.out.trans (hc.below HB3.out.size (fun _ _ => by omega))
        have HK4 := Lib.hid hb
        clear hb hc
        go_wp2_with fail
        (try simp only [Exit.inBlock, Exit.then])
        refine bodyPost_ret (res_cell_tmp rfl _ _ (w.heap.size + 1) 32 vv rfl HK4.out (by kernel_rfl) (by kernel_rfl) HVL.out) rfl ?_
        exact ⟨by rw [HVV.out]; rfl, HB4.out⟩
end Go.Proofs.Ytchcnkobgdbdkaa


/- What wal's Put and Get make of a disk's state, in plain Lean. -/
namespace Go.Proofs.Ytchcnkobgdbdkaa
open Go.RowKit
set_option linter.unusedVariables false
set_option linter.unusedSimpArgs false

/-! ### a disk that turns within one call -/
structure DGo (wT : TypeId) (w w' : World) (g gs : Nat) (lv lv' : Value) (t : Dst) : Prop where
  at_ : DAt wT w' g gs lv' t
  ft : ∀ j, footD g gs lv' j → footD g gs lv j ∨ w.heap.size ≤ j
  ch : Chg (footD g gs lv) w w'
section
variable {wT : TypeId} {w w1 w' : World} {g gs : Nat} {lv lv1 lv2 : Value} {s s' t : Dst}
theorem DGo.refl (h : DAt wT w g gs lv s) : DGo wT w w g gs lv lv s := ⟨h, fun _ h => .inl h, .refl _⟩
theorem DGo.post (h : DGo wT w w1 g gs lv lv1 s) {r : Value} {e : Ending} (hp : DPost wT w1 g gs lv1 s' r e w') : e = .returned r ∧ ∃ lv2, DGo wT w w' g gs lv lv2 s' := by
  obtain ⟨he, lv2, h1, h2, h3⟩ := hp
  refine ⟨he, lv2, h1, fun j hj => ?_, h.ch.then_ h3 (fun j hj hlt => (h.ft j hj).elim id (fun hh => by omega))⟩
  rcases h2 j hj with h4 | h4
  · exact h.ft j h4
  · exact .inr (Nat.le_trans h.ch.size h4)
theorem DGo.below (h : DGo wT w w1 g gs lv lv1 s) (hb : Below w1.heap.size w1 w') : DGo wT w w' g gs lv lv1 s :=
  ⟨DiskAt.below h.at_ hb, h.ft, h.ch.then_ (T := NoS) (.of_below hb) (fun _ hj => hj.elim)⟩
theorem DGo.chgN (h : DGo wT w w1 g gs lv lv1 s) (hb : Chg NoS w1 w') : DGo wT w w' g gs lv lv1 s := h.below (hb.below (Nat.le_refl _) (fun _ _ => id))
theorem DGo.trans (h : DGo wT w w1 g gs lv lv1 s) (k : DGo wT w1 w' g gs lv1 lv2 t) : DGo wT w w' g gs lv lv2 t := by
  refine ⟨k.at_, fun j hj => ?_, h.ch.then_ k.ch (fun j hj hlt => (h.ft j hj).elim id (fun hh => by omega))⟩
  rcases k.ft j hj with h4 | h4
  · exact h.ft j h4
  · exact .inr (Nat.le_trans h.ch.size h4)
theorem DGo.fin (h : DGo wT w w' g gs lv lv1 s) (r : Value) : DPost wT w g gs lv s r (.returned r) w' := ⟨rfl, lv1, h.at_, h.ft, h.ch⟩
end
/-! ### a state within bounds -/
structure DOk (lo : Int) (m : Nat) (t : Dst) : Prop where
  ll : t.L.length ≤ m
  f1 : lo ≤ t.f
  f2 : t.f ≤ 9223372036854775807
theorem passF_ok {lo f : Int} {dn : Bool} (h0 : lo ≤ 0) (h1 : lo ≤ f) : lo ≤ passF f dn := by
  unfold passF
  split
  · exact h1
  · split <;> omega
theorem passF_le {f : Int} {dn : Bool} (h1 : f ≤ 9223372036854775807) : passF f dn ≤ 9223372036854775807 := by
  unfold passF
  split
  · exact h1
  · split <;> omega
theorem DOk.mono {lo : Int} {m k : Nat} {t : Dst} (h : DOk lo m t) (hk : m ≤ k) : DOk lo k t := ⟨Nat.le_trans h.ll hk, h.f1, h.f2⟩
theorem DOk.write {lo : Int} {m : Nat} {t : Dst} (h : DOk lo m t) (h0 : lo ≤ 0) (i : Int) (b : List UInt8) : DOk lo (m + 1) (t.write i b) := by
  unfold Dst.write
  have := h.ll
  split
  · split
    · exact ⟨by show t.L.length ≤ _; omega, passF_ok h0 h.f1, passF_le h.f2⟩
    · exact ⟨by show (t.L ++ [_]).length ≤ _; rw [List.length_append]; simp; omega, passF_ok h0 h.f1, passF_le h.f2⟩
  · exact h.mono (Nat.le_succ _)
theorem DOk.flush {lo : Int} {m : Nat} {t : Dst} (h : DOk lo m t) (h0 : lo ≤ 0) : DOk lo m t.flush := by
  unfold Dst.flush
  have := h.ll
  split
  · exact ⟨by show t.L.length ≤ _; omega, passF_ok h0 h.f1, passF_le h.f2⟩
  · exact ⟨Nat.zero_le _, passF_ok h0 h.f1, passF_le h.f2⟩
theorem Dst.write_S (t : Dst) (i : Int) (b : List UInt8) : (t.write i b).S = t.S := by
  unfold Dst.write
  split
  · split <;> rfl
  · rfl
theorem Dst.flush_len (t : Dst) : t.flush.S.length = t.S.length := by
  unfold Dst.flush
  split
  · rfl
  · show (doneS t.S t.L).length = _
    rw [doneS_length]
/-! ### Put -/
def Dst.imgs (s : Dst) (fr : Int) : List PutV → Dst × Int
  | [] => (s, 0)
  | p :: ps => if s.writeE fr = 0 then (s.write fr p.data).imgs (fr + 1) ps else (s.write fr p.data, s.writeE fr)
theorem Dst.imgs_nil (s : Dst) (fr : Int) : s.imgs fr [] = (s, 0) := rfl
theorem Dst.imgs_go {s : Dst} {fr : Int} {p : PutV} {ps : List PutV} (h : s.writeE fr = 0) : s.imgs fr (p :: ps) = (s.write fr p.data).imgs (fr + 1) ps := by rw [Dst.imgs, if_pos h]
theorem Dst.imgs_no {s : Dst} {fr : Int} {p : PutV} {ps : List PutV} (h : ¬ s.writeE fr = 0) : s.imgs fr (p :: ps) = (s.write fr p.data, s.writeE fr) := by rw [Dst.imgs, if_neg h]
/-- Behind the images. -/
def Dst.walEnd (t : Dst) (fr : Int) (h : List UInt8) : Dst × Int :=
  if t.flushE = 0 then (if t.flush.writeE fr = 0 then ((t.flush.write fr h).flush, (t.flush.write fr h).flushE) else (t.flush.write fr h, t.flush.writeE fr)) else (t.flush, t.flushE)
def Dst.walPut (s : Dst) (fr : Int) (e q : UInt32) (ps : List PutV) : Dst × Int :=
  if mayB s.S.length fr = true ∧ goodB ps = true then (if (s.imgs (fr + 1) ps).2 = 0 then (s.imgs (fr + 1) ps).1.walEnd fr (hdrS e q ps) else s.imgs (fr + 1) ps) else (s, 1)
theorem Dst.walPut_no {s : Dst} {fr : Int} {e q : UInt32} {ps : List PutV} (h : ¬ (mayB s.S.length fr = true ∧ goodB ps = true)) : s.walPut fr e q ps = (s, 1) := if_neg h
theorem Dst.walPut_yes {s : Dst} {fr : Int} {e q : UInt32} {ps : List PutV} (h : mayB s.S.length fr = true) (h2 : goodB ps = true) : s.walPut fr e q ps = if (s.imgs (fr + 1) ps).2 = 0 then (s.imgs (fr + 1) ps).1.walEnd fr (hdrS e q ps) else s.imgs (fr + 1) ps := if_pos ⟨h, h2⟩
theorem walEnd_a {t : Dst} {fr : Int} {h : List UInt8} (h1 : ¬ t.flushE = 0) : t.walEnd fr h = (t.flush, t.flushE) := if_neg h1
theorem walEnd_b {t : Dst} {fr : Int} {h : List UInt8} (h1 : t.flushE = 0) (h2 : ¬ t.flush.writeE fr = 0) : t.walEnd fr h = (t.flush.write fr h, t.flush.writeE fr) := by rw [Dst.walEnd, if_pos h1, if_neg h2]
theorem walEnd_c {t : Dst} {fr : Int} {h : List UInt8} (h1 : t.flushE = 0) (h2 : t.flush.writeE fr = 0) : t.walEnd fr h = ((t.flush.write fr h).flush, (t.flush.write fr h).flushE) := by rw [Dst.walEnd, if_pos h1, if_pos h2]
theorem mayB_at {n : Nat} {i : Int} (h : mayB n i = true) : 0 ≤ i ∧ i + 6 ≤ (n : Int) := of_decide_eq_true h
theorem goodB_at {ps : List PutV} (h : goodB ps = true) : 1 ≤ ps.length ∧ ps.length ≤ 5 ∧ (∀ p ∈ ps, 0 ≤ p.at_ ∧ p.at_ < 12) ∧ (ps.map (·.at_)).Nodup := of_decide_eq_true h
/-- Put's loop: so many images are written. -/
def PutLoop (wT : TypeId) (lo : Int) (m : Nat) (w1 : World) (g gs : Nat) (lv : Value) (s : Dst) (fr : Int) (ps : List PutV) (v : Value) (wr : World) : Prop :=
  ∃ (k : Nat) (lv' : Value) (t : Dst), k ≤ ps.length ∧ v = .int .i64 k ∧ DGo wT w1 wr g gs lv lv' t ∧ s.imgs (fr + 1) ps = t.imgs (fr + 1 + k) (ps.drop k) ∧ DOk lo (m + k) t ∧ t.S.length = s.S.length
end Go.Proofs.Ytchcnkobgdbdkaa


/- The walk of wal.Put. -/
namespace Go.Proofs.Ytchcnkobgdbdkaa
open Go.RowKit
set_option linter.unusedVariables false
set_option linter.unusedSimpArgs false

set_option maxRecDepth 100000 in
set_option maxHeartbeats 8000000 in
theorem walPut_calls (w : World) (g gs : Nat) (lv : Value) (s : Dst) (fr : Int) (e q : UInt32) (ps : List PutV) (A : Option Addr) (n c m : Nat) (hl : ps.length = n) (hd : DAt 99 w g gs lv s) (hok : DOk (-1) m s) (hm : m ≤ 990)
    (hkr : ∀ w', Chg (footD g gs lv) w w' → Rd w' A (ps.flatMap putC)) (ho : PutsOk ps) :
    Calls Try.prog 11 #[.pointer (some ⟨g, 0, none⟩), .int .i64 fr, .agg #[vu32 e, vu32 q, .slice A n c]] w (DPost 99 w g gs lv (s.walPut fr e q ps).1 (.int .i64 (s.walPut fr e q ps).2)) := by
  subst hl
  have HO := Lib.hid ho
  obtain ⟨bx, hbx⟩ : ∃ bx, [vu32 e, vu32 q, .slice A ps.length c] = bx := ⟨_, rfl⟩
  have HBX := Lib.hid hbx
  have D2 : Hid (bx[2]? = some (.slice A ps.length c)) := by rw [← hbx]; exact (rfl : _ = _)
  have HBL : Hid (bx.length = 3) := by rw [← hbx]; exact (rfl : _ = _)
  rw [show (#[vu32 e, vu32 q, .slice A ps.length c] : Array Value) = bx.toArray by rw [← hbx]]
  clear hbx ho
  have HW := Lib.hid (DGo.refl hd)
  have HKR := Lib.hid hkr
  have HOK := Lib.hid hok
  clear hd hkr hok
  go_enter Try.func11, Try.ntmps11
  go_wp2_with fail
  refine calls_at fun w1 hw1 => ?_
  have X1 : Hid (Bk w1 w.heap.size bx) := by show Bk _ _ _; rw [← hw1]; exact Bk.new w bx _
  have G1 : Hid (DGo 99 w w1 g gs lv lv s) := by show DGo _ _ _ _ _ _ _ _; rw [← hw1]; exact HW.out.chgN ((Chg.refl _).alloc _)
  clear hw1
  refine (may_calls w1 g gs lv s fr G1.out.at_).mono ?_
  rintro en w' ⟨rfl, rfl⟩
  by_cases hmay : mayB s.S.length fr = true
  case neg =>
    have HF := Lib.hid (Dst.walPut_no (e := e) (q := q) (ps := ps) (fun h => hmay h.1))
    rw [Bool.eq_false_iff.2 hmay]
    clear hmay
    go_wp2_with fail
    (try simp only [Exit.inBlock, Exit.then])
    go_ret
    rw [HF.out]
    exact G1.out.fin _
  have hfr := mayB_at hmay
  obtain ⟨f, hf⟩ := Int.eq_ofNat_of_zero_le hfr.1
  have HS : Hid (f + 6 ≤ s.S.length) := by show _ ≤ _; omega
  have HSL : Hid (s.S.length ≤ 1024) := G1.out.at_.sl
  have HMAY := Lib.hid hmay
  rw [hmay]
  clear hmay hfr
  subst hf
  have d2 := X1.out.cell D2.out
  go_wp2_with fail
  have HR1 := Lib.hid (HKR.out w1 G1.out.ch)
  refine (good_calls ps A ps.length c w1 rfl HR1.out HO.out).mono ?_
  rintro en w2 ⟨rfl, hb⟩
  have X2 := Lib.hid (X1.out.below hb)
  have G2 := Lib.hid (G1.out.below hb)
  clear hb d2
  by_cases hgood : goodB ps = true
  case neg =>
    have HF := Lib.hid (Dst.walPut_no (s := s) (fr := (f : Int)) (e := e) (q := q) (ps := ps) (fun h => hgood h.2))
    rw [Bool.eq_false_iff.2 hgood]
    clear hgood
    go_wp2_with fail
    (try simp only [Exit.inBlock, Exit.then])
    go_ret
    rw [HF.out]
    exact G2.out.fin _
  have HG := Lib.hid (goodB_at hgood)
  have HF := Lib.hid (Dst.walPut_yes (e := e) (q := q) HMAY.out hgood)
  rw [hgood]
  clear hgood
  have h5 : ps.length ≤ 5 := HG.out.2.1
  have d2 := X2.out.cell D2.out
  go_wp2_with fail
  clear d2
  have HX2 : Hid (∀ w', Chg (footD g gs lv) w2 w' → Bk w' w.heap.size bx) := fun w' hc => X2.out.chg hc (fun hj => by have := DiskAt.lt HW.out.at_ _ hj; omega)
  have H0 : Hid (PutLoop 99 (-1) m w2 g gs lv s f ps (.int .i64 0) w2) := ⟨0, lv, s, Nat.zero_le _, rfl, .refl G2.out.at_, by simp, HOK.out, rfl⟩
  go_loopw [27] (fun v27 wr => PutLoop 99 (-1) m w2 g gs lv s f ps v27 wr) (fun v27 _ => ps.length - (intOf v27).toNat)
  case atStart => exact H0.out
  case round =>
    obtain ⟨k, lv3, t, hk, rfl, hgo, him, hok3, hsl3⟩ := hrel
    have G3 := Lib.hid hgo
    have HIM := Lib.hid him
    have K3 := Lib.hid hok3
    have HS3 := Lib.hid hsl3
    clear hgo him hok3 hsl3 H0
    by_cases hlt : k < ps.length
    · have hki : (k : Int) < (ps.length : Int) := by omega
      have hrr := HKR.out wr (G2.out.trans G3.out).ch
      obtain ⟨ad, hA⟩ := puts_some hrr hlt
      subst hA
      have hpr := put_rd hrr HO.out hlt
      have hpo := HO.out _ (List.getElem_mem hlt)
      have him := HIM.out
      rw [List.drop_eq_getElem_cons hlt] at him
      obtain ⟨p, hp⟩ : ∃ p, ps[k] = p := ⟨_, rfl⟩
      rw [hp] at hpr hpo him
      have HPR := Lib.hid hpr
      have HIM2 := Lib.hid him
      have HPD := Lib.hid hpo.1
      have HPL := Lib.hid (putC_len hpo.1)
      clear hp hpr hpo hrr him HIM
      go_wp2_with (first
        | (refine wpList_ldr2 rfl 39 (.tmp 30) rfl (ad.add (k * 33)) 33 (putC p) rfl HPR.out (by kernel_rfl) (by kernel_rfl) HPL.out ?_)
        | (refine wpList_al rfl 39 rfl (.int .i64 0 :: bts (List.replicate 32 0)) (by kernel_rfl) ?_))
      intro g5 w3 hg hb hc hs
      subst hg
      have G4 := Lib.hid (G3.out.chgN hc)
      have K4 := Lib.hid hb
      clear hb hs hc
      go_wp2_with (refine wpList_st rfl 39 (.tmp 8) (.tmp 31) rfl wr.heap.size 0 33 (.int .i64 0 :: bts (List.replicate 32 0)) (putC p) rfl rfl K4.out (by kernel_rfl) HPL.out (by decide) (one_put p) ?_)
      intro w4 hb hc
      rw [splice_whole _ _ (by rw [HPL.out]; rfl)] at hb
      have G5 : Hid (DGo 99 w2 w4 g gs lv lv3 t) := ⟨DiskAt.chg G4.out.at_ hc (fun j hj he => by have := DiskAt.lt G3.out.at_ j hj; omega), G4.out.ft, G4.out.ch.then_ hc (fun j hj hlt => by have := G3.out.ch.size; omega)⟩
      have KP := Lib.hid hb
      have HSR := Lib.hid HS.out
      have h1024 := HSL.out
      have hfs := HS.out
      clear hb hc K4
      go_wp2_with (refine wpList_ld rfl 37 _ rfl wr.heap.size 1 32 (putC p) (bts p.data) rfl KP.out rfl (by kernel_rfl) (by rw [HPL.out]; decide) (by show ((bts p.data)).take 32 = _; rw [List.take_of_length_le (by rw [bts_length, HPD.out]; exact Nat.le_refl _)]) ?_)
      rw [show ((f : Int) + 1 + (k : Int)) = (f : Int) + 1 + k from rfl]
      refine (diskWrite_at w4 g gs lv3 t ((f : Int) + 1 + k) p.data G5.out.at_ HPD.out (by have := K3.out.ll; omega) K3.out.f1 K3.out.f2).mono ?_
      intro en w5 hp
      obtain ⟨rfl, lv5, hgo⟩ := G5.out.post hp
      have G6 := Lib.hid hgo
      clear hp hgo
      by_cases he : t.writeE ((f : Int) + 1 + k) = 0
      · have HN := Lib.hid (Dst.imgs_go (p := p) (ps := ps.drop (k + 1)) he)
        rw [he]
        go_wp2_with fail
        go_roundw
        case rel => exact ⟨k + 1, lv5, _, by omega, by go_num, G6.out, by rw [HIM2.out, HN.out]; congr 1, K3.out.write (by decide) _ _, by rw [Dst.write_S]; exact HS3.out⟩
        case measure => simp [intOf]; omega
      · have HN := Lib.hid (Dst.imgs_no (p := p) (ps := ps.drop (k + 1)) he)
        obtain ⟨z, hz⟩ : ∃ z, t.writeE ((f : Int) + 1 + k) = z := ⟨_, rfl⟩
        have HZ := Lib.hid hz
        rw [hz] at he ⊢
        clear hz
        go_wp2_with fail
        (try simp only [Exit.inBlock, Exit.then])
        go_ret
        rw [HF.out, HIM2.out, HN.out, HZ.out]
        simp only []
        rw [if_neg he]
        exact (G2.out.trans G6.out).fin _
    · have hke : k = ps.length := by omega
      subst hke
      have hki : ¬ (((ps.length : Nat) : Int) < (ps.length : Int)) := by omega
      have HI : Hid (s.imgs ((f : Int) + 1) ps = (t, 0)) := by
        show _ = _
        rw [HIM.out, List.drop_length]
        rfl
      go_wp2_with fail
      refine (diskFlush_at wr g gs lv3 t G3.out.at_ K3.out.f1 K3.out.f2).mono ?_
      intro en w4 hp
      obtain ⟨rfl, lv4, hgo⟩ := G3.out.post hp
      have G4 := Lib.hid hgo
      have K4 := Lib.hid (K3.out.flush (by decide))
      clear hp hgo K3 HIM
      have HF2 : Hid (s.walPut f e q ps = t.walEnd f (hdrS e q ps)) := by
        show _ = _
        rw [HF.out, HI.out]
        rfl
      by_cases he : t.flushE = 0
      case neg =>
        have HN := Lib.hid (walEnd_a (fr := (f : Int)) (h := hdrS e q ps) he)
        obtain ⟨z, hz⟩ : ∃ z, t.flushE = z := ⟨_, rfl⟩
        have HZ := Lib.hid hz
        rw [hz] at he ⊢
        clear hz
        go_wp2_with fail
        (try simp only [Exit.inBlock, Exit.then])
        go_ret
        rw [HF2.out, HN.out, HZ.out]
        exact (G2.out.trans G4.out).fin _
      have HE := Lib.hid he
      obtain ⟨t2, ht2⟩ : ∃ t2, t.flush = t2 := ⟨_, rfl⟩
      have HT2 := Lib.hid ht2
      rw [he]
      rw [ht2] at G4 K4
      have HB4 := Lib.hid (HX2.out w4 G4.out.ch)
      clear he ht2
      have hbx := HBX.out
      go_wp2_with (refine wpList_ld rfl 25 _ rfl w.heap.size 0 3 bx bx rfl HB4.out rfl (by kernel_rfl) (by rw [HBL.out]; decide) (by rw [List.drop_zero, List.take_of_length_le (by rw [HBL.out]; exact Nat.le_refl _)]) ?_)
      rw [show bx.toArray = #[vu32 e, vu32 q, .slice A ps.length c] by rw [← HBX.out]]
      have HR4 := Lib.hid (HKR.out w4 (G2.out.trans G4.out).ch)
      refine (header_calls e q ps A ps.length c w4 rfl (by omega) HR4.out HO.out (fun p hp => by have := HG.out.2.2.1 p hp; omega)).mono ?_
      rintro en w5 ⟨rfl, hb5⟩
      have HB5 := Lib.hid hb5
      obtain ⟨vv, hvv⟩ : ∃ vv, bts (hdrS e q ps) = vv := ⟨_, rfl⟩
      have HVV := Lib.hid hvv
      have HVL : Hid (vv.length = 32) := by show _ = _; rw [← hvv, bts_length, hdrS_length e q ps (by omega)]
      have HVO : Hid (∀ u ∈ vv, u.oneCell' = true) := by rw [← hvv]; exact one_bts _
      rw [hvv]
      clear hvv hb5 hbx
      go_wp2_with (refine wpList_al rfl 37 rfl (bts (List.replicate 32 0)) (by kernel_rfl) ?_)
      intro g6 w6 hg hb hc hs
      subst hg
      have HB6 : Hid (Below w4.heap.size w4 w6) := HB5.out.trans (hc.below HB5.out.size (fun _ _ => id))
      have HK6 := Lib.hid hb
      clear hb hc hs
      go_wp2_with (refine wpList_st rfl 37 (.tmp 11) (.tmp 52) rfl w5.heap.size 0 32 (bts (List.replicate 32 0)) vv rfl rfl HK6.out (by kernel_rfl) HVL.out (by decide) HVO.out ?_)
      intro w7 hb hc
      rw [splice_whole _ _ (by rw [HVL.out]; rfl)] at hb
      have G7 : Hid (DGo 99 w2 w7 g gs lv lv4 t2) := G4.out.below (HB6.out.trans (hc.below HB6.out.size (fun j hj he => by have := HB5.out.size; omega)))
      have HK7 := Lib.hid hb
      clear hb hc HB6 HB5 HK6
      go_wp2_with (refine wpList_ld rfl 37 _ rfl w5.heap.size 0 32 vv vv rfl HK7.out rfl (by kernel_rfl) (by rw [HVL.out]; decide) (by rw [List.drop_zero, List.take_of_length_le (by rw [HVL.out]; exact Nat.le_refl _)]) ?_)
      rw [← HVV.out]
      refine (diskWrite_at w7 g gs lv4 t2 f (hdrS e q ps) G7.out.at_ (hdrS_length e q ps (by omega)) (by have := K4.out.ll; omega) K4.out.f1 K4.out.f2).mono ?_
      intro en w8 hp
      obtain ⟨rfl, lv8, hgo⟩ := G7.out.post hp
      have G8 := Lib.hid hgo
      have K8 := Lib.hid (K4.out.write (by decide) f (hdrS e q ps))
      clear hp hgo K4 HK7 HVV HVL HVO
      by_cases he : t2.writeE f = 0
      case neg =>
        have HN := Lib.hid (walEnd_b (h := hdrS e q ps) HE.out (by rw [HT2.out]; exact he))
        rw [HT2.out] at HN
        obtain ⟨z, hz⟩ : ∃ z, t2.writeE f = z := ⟨_, rfl⟩
        have HZ := Lib.hid hz
        rw [hz] at he ⊢
        clear hz
        go_wp2_with fail
        (try simp only [Exit.inBlock, Exit.then])
        go_ret
        rw [HF2.out, HN.out, HZ.out]
        exact (G2.out.trans G8.out).fin _
      have HN := Lib.hid (walEnd_c (h := hdrS e q ps) HE.out (by rw [HT2.out]; exact he))
      rw [HT2.out] at HN
      rw [he]
      clear he
      go_wp2_with fail
      refine (diskFlush_at w8 g gs lv8 _ G8.out.at_ K8.out.f1 K8.out.f2).mono ?_
      intro en w9 hp
      obtain ⟨rfl, lv9, hgo⟩ := G8.out.post hp
      have G9 := Lib.hid hgo
      clear hp hgo
      go_wp2_with fail
      (try simp only [Exit.inBlock, Exit.then])
      go_ret
      rw [HF2.out, HN.out]
      exact (G2.out.trans G9.out).fin _
end Go.Proofs.Ytchcnkobgdbdkaa


/- The walks of the reference's may and Put. -/
namespace Go.Proofs.Ytchcnkobgdbdkaa
open Go.RowKit
set_option linter.unusedVariables false
set_option linter.unusedSimpArgs false

theorem DGo.apart {wT : TypeId} {w w1 w' : World} {g gs : Nat} {lv lv1 : Value} {s : Dst} {T : Nat → Prop} (h : DGo wT w w1 g gs lv lv1 s) (hc : Chg T w1 w') (hT : ∀ j, T j → w.heap.size ≤ j ∧ ¬ footD g gs lv1 j) : DGo wT w w' g gs lv lv1 s :=
  ⟨DiskAt.chg h.at_ hc (fun j hj ht => (hT j ht).2 hj), h.ft, h.ch.then_ hc (fun j hj hlt => by have := (hT j hj).1; omega)⟩
theorem DPost.chg {wT : TypeId} {w w' : World} {g gs : Nat} {lv : Value} {s' : Dst} {r : Value} {e : Ending} (h : DPost wT w g gs lv s' r e w') : Chg (footD g gs lv) w w' := by
  obtain ⟨_, _, _, _, h3⟩ := h
  exact h3
theorem DGo.post2 {wT : TypeId} {w w1 w' : World} {g gs : Nat} {lv lv1 : Value} {s s' : Dst} (h : DGo wT w w1 g gs lv lv1 s) {r : Value} {e : Ending} (hp : DPost wT w1 g gs lv1 s' r e w') : e = .returned r ∧ ∃ lv2, DGo wT w w' g gs lv lv2 s' ∧ ∀ j, footD g gs lv2 j → footD g gs lv1 j ∨ w1.heap.size ≤ j := by
  obtain ⟨he, lv2, h1, h2, h3⟩ := hp
  refine ⟨he, lv2, ⟨h1, fun j hj => ?_, h.ch.then_ h3 (fun j hj hlt => (h.ft j hj).elim id (fun hh => by omega))⟩, h2⟩
  rcases h2 j hj with h4 | h4
  · exact h.ft j h4
  · exact .inr (Nat.le_trans h.ch.size h4)
set_option maxHeartbeats 1000000 in
theorem refMay_calls (w : World) (g gs : Nat) (lv : Value) (s : Dst) (i : Int) (hd : DAt 101 w g gs lv s) :
    Calls Try.prog 34 #[.pointer (some ⟨g, 0, none⟩), .int .i64 i] w fun e w' => e = .returned (.bool (mayB s.S.length i)) ∧ w = w' := by
  have c0 := hd.dk.cell (j := 0) rfl
  have hsl : s.S.length ≤ 1024 := DiskAt.sl hd
  obtain ⟨n, hn⟩ : ∃ n, s.S.length = n := ⟨_, rfl⟩
  rw [hn] at c0 hsl ⊢
  clear hd hn
  by_cases hi : 0 ≤ i
  · by_cases h6 : i ≤ (n : Int)
    · by_cases h7 : 6 ≤ (n : Int) - i
      · have HM : Hid (mayB n i = true) := mayB_yes hi (by omega)
        go_enter Try.func34, Try.ntmps34
        go_wp2
        go_ret
        exact ⟨by rw [HM.out]; (try simp [h7]), rfl⟩
      · have HM : Hid (mayB n i = false) := mayB_no (fun hh => by omega)
        go_enter Try.func34, Try.ntmps34
        go_wp2
        go_ret
        exact ⟨by rw [HM.out]; (try simp [h7]), rfl⟩
    · have HM : Hid (mayB n i = false) := mayB_no (fun hh => by omega)
      go_enter Try.func34, Try.ntmps34
      go_wp2
      go_ret
      exact ⟨by rw [HM.out]; (try simp [h6]), rfl⟩
  · have HM : Hid (mayB n i = false) := mayB_no (fun hh => hi hh.1)
    go_enter Try.func34, Try.ntmps34
    go_wp2
    go_ret
    exact ⟨by rw [HM.out]; (try rfl), rfl⟩
set_option maxHeartbeats 1000000 in
theorem refMay_nil (w : World) (i : Int) :
    Calls Try.prog 34 #[.pointer none, .int .i64 i] w fun e w' => e = .returned (.bool false) ∧ w = w' := by
  go_enter Try.func34, Try.ntmps34
  go_wp2
  go_ret
  exact ⟨rfl, rfl⟩
/-- Put's loop in the reference. -/
def RPutLoop (lo : Int) (m : Nat) (w1 : World) (g gs : Nat) (lv : Value) (s : Dst) (fr : Int) (e q : UInt32) (ps : List PutV) (v7 v8 : Value) (wr : World) : Prop :=
  ∃ (k : Nat) (lv' : Value) (t : Dst), k ≤ ps.length ∧ v8 = .int .i64 k ∧ wr.ownsRow w1.heap.size 5 1 v7 (9 + k) (bts (hdrK e q ps k)) ∧ (∀ j, v7.ownBlock = some j → ¬ footD g gs lv' j) ∧ DGo 101 w1 wr g gs lv lv' t ∧ s.imgs (fr + 1) ps = t.imgs (fr + 1 + k) (ps.drop k) ∧ DOk lo (m + k) t ∧ t.S.length = s.S.length
set_option maxRecDepth 100000 in
set_option maxHeartbeats 16000000 in
theorem refPut_calls (w : World) (g gs : Nat) (lv : Value) (s : Dst) (fr : Int) (e q : UInt32) (er : Int) (ps : List PutV) (A : Option Addr) (n c m : Nat) (hl : ps.length = n) (hnn : n ≤ 9223372036854775807) (hd : DAt 101 w g gs lv s) (hok : DOk (-9223372036854775808) m s) (hm : m ≤ 990)
    (hkr : ∀ w', Chg (footD g gs lv) w w' → Rd w' A (ps.flatMap putC)) (ho : PutsOk ps) :
    Calls Try.prog 15 #[.pointer (some ⟨g, 0, none⟩), .int .i64 fr, .agg #[vu32 e, vu32 q, .slice A n c, .int .i64 er]] w (DPost 101 w g gs lv (s.walPut fr e q ps).1 (.int .i64 (s.walPut fr e q ps).2)) := by
  subst hl
  have HO := Lib.hid ho
  obtain ⟨bx, hbx⟩ : ∃ bx, [vu32 e, vu32 q, .slice A ps.length c, .int .i64 er] = bx := ⟨_, rfl⟩
  have D0 : Hid (bx[0]? = some (vu32 e)) := by rw [← hbx]; exact (rfl : _ = _)
  have D1 : Hid (bx[1]? = some (vu32 q)) := by rw [← hbx]; exact (rfl : _ = _)
  have D2 : Hid (bx[2]? = some (.slice A ps.length c)) := by rw [← hbx]; exact (rfl : _ = _)
  rw [show (#[vu32 e, vu32 q, .slice A ps.length c, .int .i64 er] : Array Value) = bx.toArray by rw [← hbx]]
  clear hbx ho
  have HW := Lib.hid (DGo.refl hd)
  have HKR := Lib.hid hkr
  have HOK := Lib.hid hok
  clear hd hkr hok
  go_enter Try.func15, Try.ntmps15
  go_wp2_with fail
  refine calls_at fun w1 hw1 => ?_
  have X1 : Hid (Bk w1 w.heap.size bx) := by show Bk _ _ _; rw [← hw1]; exact Bk.new w bx _
  have G1 : Hid (DGo 101 w w1 g gs lv lv s) := by show DGo _ _ _ _ _ _ _ _; rw [← hw1]; exact HW.out.chgN ((Chg.refl _).alloc _)
  have HS1 : Hid (w1.heap.size = w.heap.size + 1) := by show _ = _; rw [← hw1]; simp
  clear hw1
  refine (refMay_calls w1 g gs lv s fr G1.out.at_).mono ?_
  rintro en w' ⟨rfl, rfl⟩
  by_cases hmay : mayB s.S.length fr = true
  case neg =>
    have HF := Lib.hid (Dst.walPut_no (e := e) (q := q) (ps := ps) (fun h => hmay h.1))
    rw [Bool.eq_false_iff.2 hmay]
    clear hmay
    go_wp2_with fail
    (try simp only [Exit.inBlock, Exit.then])
    go_ret
    rw [HF.out]
    exact G1.out.fin _
  have hfr := mayB_at hmay
  obtain ⟨f, hf⟩ := Int.eq_ofNat_of_zero_le hfr.1
  have HS : Hid (f + 6 ≤ s.S.length) := by show _ ≤ _; omega
  have HSL : Hid (s.S.length ≤ 1024) := G1.out.at_.sl
  have HMAY := Lib.hid hmay
  rw [hmay]
  clear hmay hfr
  subst hf
  have d2 := X1.out.cell D2.out
  go_wp2_with fail
  have HR1 := Lib.hid (HKR.out w1 G1.out.ch)
  refine (refGood_calls ps A ps.length c w1 rfl hnn HR1.out HO.out).mono ?_
  rintro en w3 ⟨rfl, hb⟩
  have X3 := Lib.hid (X1.out.below hb)
  have G3 : Hid (DGo 101 w1 w3 g gs lv lv s) := (DGo.refl G1.out.at_).below hb
  have HS3 : Hid (w1.heap.size ≤ w3.heap.size) := hb.size
  clear hb d2
  by_cases hgood : goodB ps = true
  case neg =>
    have HF := Lib.hid (Dst.walPut_no (s := s) (fr := (f : Int)) (e := e) (q := q) (ps := ps) (fun h => hgood h.2))
    rw [Bool.eq_false_iff.2 hgood]
    clear hgood
    go_wp2_with fail
    (try simp only [Exit.inBlock, Exit.then])
    go_ret
    rw [HF.out]
    exact (G1.out.trans G3.out).fin _
  have HG := Lib.hid (goodB_at hgood)
  have HF := Lib.hid (Dst.walPut_yes (e := e) (q := q) HMAY.out hgood)
  rw [hgood]
  clear hgood
  have h5 : ps.length ≤ 5 := HG.out.2.1
  have HAT : Hid (∀ p ∈ ps, 0 ≤ p.at_ ∧ p.at_ < 256) := fun p hp => by have := HG.out.2.2.1 p hp; omega
  have OAP : ∀ {A2 : Option Addr} {c2 : Nat} {w4 : World}, w4.ownsRow w1.heap.size 5 1 (.slice A2 4 c2) 4 (bts (le e.toNat 4)) → ∀ j, (Value.slice A2 4 c2).ownBlock = some j → ¬ footD g gs lv j := fun ho j hj hf => by
    have h1 := (ho.lt _ hj).1
    have h2 := DiskAt.lt HW.out.at_ j hf
    have h3 := HS1.out
    omega
  have HX : Hid (∀ w', Chg (footD g gs lv) w1 w' → Bk w' w.heap.size bx) := fun w' hc => X1.out.chg hc (fun hj => by have := DiskAt.lt HW.out.at_ _ hj; omega)
  go_wp2_with fail
  apply wp_region_rel 6 (Chg NoS) [(Veq _), (Veq _), (OwnF w1.heap.size 4 (le e.toNat 4)), (Veq _), (Veq _), (OwnF w1.heap.size 4 (le q.toNat 4))] [[], [0], [1], [], [3], [4]] [24, 25, 26, 27, 28, 29] (by kernel_rfl) (by kernel_rfl) rfl rfl rfl Chg.refl (fun _ _ _ => Chg.trans) ⟨Veq.lasts, Veq.lasts, OwnF.lasts, Veq.lasts, Veq.lasts, OwnF.lasts, trivial⟩ ?aops ?afin
  case aops =>
    refine ⟨?ao0, ?ao1, ?ao2, ?ao3, ?ao4, ?ao5, trivial⟩
    case ao0 =>
      intro a wx hE hin
      have i5 : a.eval (.tmp 5) = .pointer (some ⟨w.heap.size, 0, none⟩) := hin 5 rfl
      clear hin
      have hcst : ∀ v, a.eval (.const v) = v := fun _ => rfl
      have hfnc : ∀ f, a.eval (.func f) = .func (.func f) #[] #[] := fun _ => rfl
      refine want_none rfl ?_
      unfold Oper.wp
      generalize a.eval = ρ at *
      go_simp
      try go_bits
      first | exact rel_val (Chg.refl _) | (go_simp; exact rel_val (Chg.refl _))
    case ao1 =>
      rintro a wx hE hin (h0 : a.eval (.tmp 24) = _)
      clear hin
      have hcst : ∀ v, a.eval (.const v) = v := fun _ => rfl
      have hfnc : ∀ f, a.eval (.func f) = .func (.func f) #[] #[] := fun _ => rfl
      refine want_none rfl ?_
      unfold Oper.wp
      generalize a.eval = ρ at *
      have c := Bk.cell ((X3.out.drew).chg hE id) D0.out
      go_simp
      try go_bits
      first | exact rel_val (Chg.refl _) | (go_simp; exact rel_val (Chg.refl _))
    case ao2 =>
      rintro a wx hE hin (h1 : a.eval (.tmp 25) = _)
      clear hin
      have hcst : ∀ v, a.eval (.const v) = v := fun _ => rfl
      have hfnc : ∀ f, a.eval (.func f) = .func (.func f) #[] #[] := fun _ => rfl
      refine want_none rfl ?_
      unfold Oper.wp
      generalize a.eval = ρ at *
      go_simp
      refine (put_calls e 4 wx (by decide)).mono ?_
      intro e w' hp
      obtain ⟨A, c, rfl, ho, hb⟩ := hp
      rw [le_length] at ho ⊢
      exact ⟨_, rfl, ⟨A, c, rfl, own_lower ho (Nat.le_trans HS3.out (hE.size))⟩, .of_below hb⟩
    case ao3 =>
      intro a wx hE hin
      have i5 : a.eval (.tmp 5) = .pointer (some ⟨w.heap.size, 0, none⟩) := hin 5 rfl
      clear hin
      have hcst : ∀ v, a.eval (.const v) = v := fun _ => rfl
      have hfnc : ∀ f, a.eval (.func f) = .func (.func f) #[] #[] := fun _ => rfl
      refine want_none rfl ?_
      unfold Oper.wp
      generalize a.eval = ρ at *
      go_simp
      try go_bits
      first | exact rel_val (Chg.refl _) | (go_simp; exact rel_val (Chg.refl _))
    case ao4 =>
      rintro a wx hE hin (h3 : a.eval (.tmp 27) = _)
      clear hin
      have hcst : ∀ v, a.eval (.const v) = v := fun _ => rfl
      have hfnc : ∀ f, a.eval (.func f) = .func (.func f) #[] #[] := fun _ => rfl
      refine want_none rfl ?_
      unfold Oper.wp
      generalize a.eval = ρ at *
      have c := Bk.cell ((X3.out.drew).chg hE id) D1.out
      go_simp
      try go_bits
      first | exact rel_val (Chg.refl _) | (go_simp; exact rel_val (Chg.refl _))
    case ao5 =>
      rintro a wx hE hin (h4 : a.eval (.tmp 28) = _)
      clear hin
      have hcst : ∀ v, a.eval (.const v) = v := fun _ => rfl
      have hfnc : ∀ f, a.eval (.func f) = .func (.func f) #[] #[] := fun _ => rfl
      refine want_none rfl ?_
      unfold Oper.wp
      generalize a.eval = ρ at *
      go_simp
      refine (put_calls q 4 wx (by decide)).mono ?_
      intro e w' hp
      obtain ⟨A, c, rfl, ho, hb⟩ := hp
      rw [le_length] at ho ⊢
      exact ⟨_, rfl, ⟨A, c, rfl, own_lower ho (Nat.le_trans HS3.out (hE.size))⟩, .of_below hb⟩
  case afin =>
    intro wx hE
    rintro _ rfl _ rfl _ ⟨A2, c2, rfl, o2⟩ _ rfl _ rfl _ ⟨A5, c5, rfl, o5⟩
    simp only [FinOk, List.take_succ_cons, List.take_zero, List.take_nil, List.drop_succ_cons, List.drop_zero, List.drop_nil, Act.put, List.setIfInBounds_toArray, List.set_cons_succ, List.set_cons_zero]
    have X4 := Lib.hid ((X3.out.drew).chg hE id)
    have G4 := Lib.hid (G3.out.below (hE.undrew.below (Nat.le_refl _) (fun _ _ => id)))
    have S4 : Hid (w1.heap.size ≤ wx.heap.size) := Nat.le_trans HS3.out hE.size
    have O4 := Lib.hid o2
    obtain ⟨A5', c5', hv5, hr5, _, _⟩ := own_rd o5
    injection hv5 with e1 _ e3
    subst e1
    subst e3
    have RD5 := Lib.hid hr5
    have OA : Hid (∀ j, (Value.slice A2 4 c2).ownBlock = some j → ¬ footD g gs lv j) := OAP o2
    clear hE o2 o5 hr5
    go_wp2_with (at_builtin; refine wpList_append_rd rfl (.tmp 26) (.tmp 29) 48 rfl w1.heap.size 5 (.int .u8 0) 1 1 Try.underlying48 info_u8l rfl (by decide) (by decide) (.slice A2 4 c2) 4 (bts (le e.toNat 4)) rfl O4.out A5 4 c5 (bts (le q.toNat 4)) rfl (by rw [bts_length, le_length, Nat.mul_one]) RD5.out (one_bts _) (by decide) S4.out ?_)
    intro v1 w5 hown hg hat
    have O5 : Hid (w5.ownsRow w1.heap.size 5 1 v1 8 (bts (le e.toNat 4 ++ le q.toNat 4))) := by show World.ownsRow _ _ _ _ _ _ _; rw [bts_append]; exact hown
    have hc5 : Chg (fun q => (Value.slice A2 4 c2).ownBlock = some q) wx w5 := ⟨hg.os, hg.tape, hg.output, hg.size, fun q hq hne => hg.block q hq (fun he => hne he.symm)⟩
    have hge : ∀ q, (Value.slice A2 4 c2).ownBlock = some q → w1.heap.size ≤ q := fun q hq => (O4.out.lt _ hq).1
    have G5 := Lib.hid (G4.out.apart hc5 (fun j hj => ⟨hge j hj, OA.out j hj⟩))
    have S5 : Hid (w1.heap.size ≤ w5.heap.size) := Nat.le_trans S4.out hc5.size
    have X5 := Lib.hid (HX.out w5 G5.out.ch)
    have HLB : Hid (vu8 (UInt8.ofNat ps.length) = .int .u8 (ps.length : Int)) := byte_at _ (by omega)
    obtain ⟨A6, c6, rfl, _, _, _⟩ := own_rd O5.out
    have OA5 : Hid (∀ j, (Value.slice A6 8 c6).ownBlock = some j → ¬ footD g gs lv j) := fun j hj hf => by
      have h1 := (O5.out.lt _ hj).1
      have h2 := DiskAt.lt HW.out.at_ j hf
      have h3 := HS1.out
      omega
    clear hown hg hat hc5 hge
    have d2 := X5.out.cell D2.out
    go_wp2_with (at_builtin; refine wpList_append_rd rfl (.tmp 31) (.tmp 36) 48 rfl w1.heap.size 5 (.int .u8 0) 1 1 Try.underlying48 info_u8l rfl (by decide) (by decide) (.slice A6 8 c6) 8 (bts (le e.toNat 4 ++ le q.toNat 4)) rfl ?own (some ⟨w5.heap.size, 0, none⟩) 1 1 (bts [UInt8.ofNat ps.length]) rfl rfl ?rd (one_bts _) (by decide) ?base ?_)
    case own => exact own_chg O5.out ((Chg.refl (S := NoS) w5).alloc _) (fun _ _ => id)
    case rd => show Rd _ _ [vu8 (UInt8.ofNat ps.length)]; rw [HLB.out]; exact Rd.new _ _ _
    case base => have := S5.out; simp; omega
    intro v2 w6 hown hg hat
    have O6 : Hid (w6.ownsRow w1.heap.size 5 1 v2 (9 + 0) (bts (hdrK e q ps 0))) := by
      show World.ownsRow _ _ _ _ _ _ _
      rw [hdrK_zero]
      exact hown
    have hc6 : Chg (fun q => (Value.slice A6 8 c6).ownBlock = some q) w5 w6 := (show Chg (fun q => (Value.slice A6 8 c6).ownBlock = some q) w5 (w5.alloc _) from (Chg.refl _).alloc _).trans ⟨hg.os, hg.tape, hg.output, hg.size, fun q hq hne => hg.block q hq (fun he => hne he.symm)⟩
    have G6 := Lib.hid (G5.out.apart hc6 (fun j hj => ⟨(O5.out.lt _ hj).1, OA5.out j hj⟩))
    have H0 : Hid (RPutLoop (-9223372036854775808) m w1 g gs lv s f e q ps v2 (.int .i64 0) w6) := ⟨0, lv, s, Nat.zero_le _, rfl, O6.out, fun j hj hf => by
      have h1 := (O6.out.lt _ hj).1
      have h2 := DiskAt.lt HW.out.at_ j hf
      have h3 := HS1.out
      omega, G6.out, by simp, HOK.out, rfl⟩
    clear hown hg hat hc6 d2
    go_wp2_with fail
    go_loopw [7, 8] (fun v7 v8 wr => RPutLoop (-9223372036854775808) m w1 g gs lv s f e q ps v7 v8 wr) (fun _ v8 _ => ps.length - (intOf v8).toNat)
    case atStart => exact H0.out
    case round =>
      obtain ⟨k, lv3, t, hk, rfl, hown, hoa, hgo, him, hok3, hsl3⟩ := hrel
      have O7 := Lib.hid hown
      have OA7 := Lib.hid hoa
      have G7 := Lib.hid hgo
      have HIM := Lib.hid him
      have K7 := Lib.hid hok3
      have HS7 := Lib.hid hsl3
      obtain ⟨A7, c7, rfl, _, _, _⟩ := own_rd hown
      have X7 := Lib.hid (HX.out wr G7.out.ch)
      have d2 := X7.out.cell D2.out
      clear hown hoa hgo him hok3 hsl3 H0
      by_cases hlt : k < ps.length
      · have hki : (k : Int) < (ps.length : Int) := by omega
        have hrr := HKR.out wr (G1.out.trans G7.out).ch
        obtain ⟨ad, hA⟩ := puts_some hrr hlt
        subst hA
        have c0 := put_at hrr HO.out hlt
        have hpo := HO.out _ (List.getElem_mem hlt)
        have hpa := HAT.out _ (List.getElem_mem hlt)
        have him := HIM.out
        rw [List.drop_eq_getElem_cons hlt] at him
        obtain ⟨p, hp⟩ : ∃ p, ps[k] = p := ⟨_, rfl⟩
        have HP := Lib.hid hp
        rw [hp] at hpo him c0 hpa
        have HIM2 := Lib.hid him
        have HPD := Lib.hid hpo.1
        have HPL := Lib.hid (putC_len hpo.1)
        obtain ⟨x, hx⟩ := Int.eq_ofNat_of_zero_le hpa.1
        have HQ := Lib.hid hx
        have hx256 : x < 256 := by have := hpa.2; omega
        rw [hx] at c0
        have HBY := Lib.hid (byte_at x hx256)
        have HKN : k + 9 + 1 ≤ 140737488355328 := by omega
        clear hp hpo him HIM hrr hpa hx
        go_wp2_with (at_builtin; refine wpList_append_rd rfl (.tmp 45) (.tmp 53) 48 rfl w1.heap.size 5 (.int .u8 0) 1 1 Try.underlying48 info_u8l rfl (by decide) (by decide) (.slice A7 (9 + k) c7) (9 + k) (bts (hdrK e q ps k)) rfl ?own (some ⟨wr.heap.size, 0, none⟩) 1 1 (bts [UInt8.ofNat x]) rfl rfl ?rd (one_bts _) ?bytes ?base ?_)
        case own => exact own_chg O7.out ((Chg.refl (S := NoS) wr).alloc _) (fun _ _ => id)
        case rd => show Rd _ _ [vu8 (UInt8.ofNat x)]; rw [HBY.out]; exact Rd.new _ _ _
        case bytes => omega
        case base => have := G7.out.ch.size; simp; omega
        intro v8 w8 hown hg hat
        have O8 : Hid (w8.ownsRow w1.heap.size 5 1 v8 (9 + (k + 1)) (bts (hdrK e q ps (k + 1)))) := by
          show World.ownsRow _ _ _ _ _ _ _
          rw [hdrK_succ e q ps k hlt, HP.out, HQ.out]
          exact hown
        have hc8 : Chg (fun q => (Value.slice A7 (9 + k) c7).ownBlock = some q) wr w8 := (show Chg (fun q => (Value.slice A7 (9 + k) c7).ownBlock = some q) wr (wr.alloc _) from (Chg.refl _).alloc _).trans ⟨hg.os, hg.tape, hg.output, hg.size, fun q hq hne => hg.block q hq (fun he => hne he.symm)⟩
        have G8 := Lib.hid (G7.out.apart hc8 (fun j hj => ⟨(O7.out.lt _ hj).1, OA7.out j hj⟩))
        have OA8 : Hid (∀ j, v8.ownBlock = some j → ¬ footD g gs lv3 j) := fun j hj hf => by
          rcases hat with he | he
          · exact OA7.out j (by rw [← he, hj]) hf
          · have h1 := DiskAt.lt G7.out.at_ j hf
            rw [hj] at he
            injection he with he
            have : wr.heap.size < j := by rw [he]; simp
            omega
        have X8 := Lib.hid (HX.out w8 G8.out.ch)
        have HPR : Hid (Rd w8 (some ((ad.add (k * 33)).add 1)) (bts p.data)) := by
          have := put_rd (HKR.out w8 (G1.out.trans G8.out).ch) HO.out hlt
          rw [HP.out] at this
          exact this.drop 1
        have HSR := Lib.hid HS.out
        have h1024 := HSL.out
        have hfs := HS.out
        clear hown hg hat hc8 c0 d2
        have d2 := X8.out.cell D2.out
        go_wp2_with (refine wpList_ldr2 rfl 37 (.tmp 64) rfl ((ad.add (k * 33)).add 1) 32 (bts p.data) rfl HPR.out (by kernel_rfl) (by kernel_rfl) (by rw [bts_length, HPD.out]) ?_)
        rw [show ((f : Int) + 1 + (k : Int)) = (f : Int) + 1 + k from rfl]
        refine (refWrite_at w8 g gs lv3 t ((f : Int) + 1 + k) p.data G8.out.at_ HPD.out (by have := K7.out.ll; omega) K7.out.f1 K7.out.f2).mono ?_
        intro en w9 hp
        have hap : ∀ lv5, (∀ j, footD g gs lv5 j → footD g gs lv3 j ∨ w8.heap.size ≤ j) → ∀ j, v8.ownBlock = some j → ¬ footD g gs lv5 j := fun lv5 h j hj hf => by
          rcases h j hf with h1 | h1
          · exact OA8.out j hj h1
          · have := (O8.out.lt _ hj).2
            omega
        have hown9 : w9.ownsRow w1.heap.size 5 1 v8 (9 + (k + 1)) (bts (hdrK e q ps (k + 1))) := own_chg O8.out hp.chg (fun j hj => OA8.out j hj)
        obtain ⟨rfl, lv5, hgo, hft⟩ := G8.out.post2 hp
        have G9 := Lib.hid hgo
        have OA9 := Lib.hid (hap lv5 hft)
        have O9 := Lib.hid hown9
        clear hp hgo hft hap hown9 d2
        by_cases he : t.writeE ((f : Int) + 1 + k) = 0
        · have HN := Lib.hid (Dst.imgs_go (p := p) (ps := ps.drop (k + 1)) he)
          rw [he]
          go_wp2_with fail
          go_roundw
          case rel => exact ⟨k + 1, lv5, _, by omega, by go_num, O9.out, OA9.out, G9.out, by rw [HIM2.out, HN.out]; congr 1, K7.out.write (by decide) _ _, by rw [Dst.write_S]; exact HS7.out⟩
          case measure => simp [intOf]; omega
        · have HN := Lib.hid (Dst.imgs_no (p := p) (ps := ps.drop (k + 1)) he)
          obtain ⟨z, hz⟩ : ∃ z, t.writeE ((f : Int) + 1 + k) = z := ⟨_, rfl⟩
          have HZ := Lib.hid hz
          rw [hz] at he ⊢
          clear hz
          go_wp2_with fail
          (try simp only [Exit.inBlock, Exit.then])
          go_ret
          rw [HF.out, HIM2.out, HN.out, HZ.out]
          simp only []
          rw [if_neg he]
          exact (G1.out.trans G9.out).fin _
      · have hke : k = ps.length := by omega
        subst hke
        have hki : ¬ (((ps.length : Nat) : Int) < (ps.length : Int)) := by omega
        have HI : Hid (s.imgs ((f : Int) + 1) ps = (t, 0)) := by
          show _ = _
          rw [HIM.out, List.drop_length]
          rfl
        go_wp2_with fail
        refine (refFlush_at wr g gs lv3 t G7.out.at_ K7.out.f1 K7.out.f2).mono ?_
        intro en w8 hp
        have O8 : Hid (w8.ownsRow w1.heap.size 5 1 (.slice A7 (9 + ps.length) c7) (9 + ps.length) (bts (hdrB e q ps))) := by
          show World.ownsRow _ _ _ _ _ _ _
          rw [← hdrK_all e q ps _ rfl]
          exact own_chg O7.out hp.chg (fun j hj => OA7.out j hj)
        obtain ⟨rfl, lv4, hgo⟩ := G7.out.post hp
        have G8 := Lib.hid hgo
        have K8 := Lib.hid (K7.out.flush (by decide))
        clear hp hgo K7 HIM d2
        have HF2 : Hid (s.walPut f e q ps = t.walEnd f (hdrS e q ps)) := by
          show _ = _
          rw [HF.out, HI.out]
          rfl
        by_cases he : t.flushE = 0
        case neg =>
          have HN := Lib.hid (walEnd_a (fr := (f : Int)) (h := hdrS e q ps) he)
          obtain ⟨z, hz⟩ : ∃ z, t.flushE = z := ⟨_, rfl⟩
          have HZ := Lib.hid hz
          rw [hz] at he ⊢
          clear hz
          go_wp2_with fail
          (try simp only [Exit.inBlock, Exit.then])
          go_ret
          rw [HF2.out, HN.out, HZ.out]
          exact (G1.out.trans G8.out).fin _
        have HE := Lib.hid he
        obtain ⟨t2, ht2⟩ : ∃ t2, t.flush = t2 := ⟨_, rfl⟩
        have HT2 := Lib.hid ht2
        rw [he]
        rw [ht2] at G8 K8
        obtain ⟨A8, c8, hv8, hr8, hlc8, hcm8⟩ := own_rd O8.out
        injection hv8 with q1 q2 q3
        clear q2
        subst q1
        subst q3
        have HR8 := Lib.hid hr8
        have hl8 : (hdrB e q ps).length = 9 + ps.length := hdrB_length e q ps
        have HHE := Lib.hid (hdr_enc e q ps (by omega))
        clear he ht2 hr8
        go_wp2_with fail
        refine (refEncode_calls 87 A7 (9 + ps.length) c7 (hdrB e q ps) w8 hl8 hlc8 hcm8 HR8.out).mono ?_
        rintro en w9 ⟨rfl, hb9⟩
        rw [HHE.out]
        have HB9 := Lib.hid hb9
        obtain ⟨vv, hvv⟩ : ∃ vv, bts (hdrS e q ps) = vv := ⟨_, rfl⟩
        have HVV := Lib.hid hvv
        have HVL : Hid (vv.length = 32) := by show _ = _; rw [← hvv, bts_length, hdrS_length e q ps (by omega)]
        have HVO : Hid (∀ u ∈ vv, u.oneCell' = true) := by rw [← hvv]; exact one_bts _
        simp only []
        rw [hvv]
        clear hvv hb9 hl8
        go_wp2_with (refine wpList_al rfl 37 rfl (bts (List.replicate 32 0)) (by kernel_rfl) ?_)
        intro g6 wa hg hb hc hs
        subst hg
        have HBa : Hid (Below w8.heap.size w8 wa) := HB9.out.trans (hc.below HB9.out.size (fun _ _ => id))
        have HKa := Lib.hid hb
        clear hb hc hs
        go_wp2_with (refine wpList_st rfl 37 (.tmp 11) (.tmp 78) rfl w9.heap.size 0 32 (bts (List.replicate 32 0)) vv rfl rfl HKa.out (by kernel_rfl) HVL.out (by decide) HVO.out ?_)
        intro wb hb hc
        rw [splice_whole _ _ (by rw [HVL.out]; rfl)] at hb
        have Gb : Hid (DGo 101 w1 wb g gs lv lv4 t2) := G8.out.below (HBa.out.trans (hc.below HBa.out.size (fun j hj he => by have := HB9.out.size; omega)))
        have HKb := Lib.hid hb
        clear hb hc HBa HB9 HKa
        go_wp2_with (refine wpList_ld rfl 37 _ rfl w9.heap.size 0 32 vv vv rfl HKb.out rfl (by kernel_rfl) (by rw [HVL.out]; decide) (by rw [List.drop_zero, List.take_of_length_le (by rw [HVL.out]; exact Nat.le_refl _)]) ?_)
        rw [← HVV.out]
        refine (refWrite_at wb g gs lv4 t2 f (hdrS e q ps) Gb.out.at_ (hdrS_length e q ps (by omega)) (by have := K8.out.ll; omega) K8.out.f1 K8.out.f2).mono ?_
        intro en wc hp
        obtain ⟨rfl, lvc, hgo⟩ := Gb.out.post hp
        have Gc := Lib.hid hgo
        have Kc := Lib.hid (K8.out.write (by decide) f (hdrS e q ps))
        clear hp hgo K8 HKb HVV HVL HVO
        by_cases he : t2.writeE f = 0
        case neg =>
          have HN := Lib.hid (walEnd_b (h := hdrS e q ps) HE.out (by rw [HT2.out]; exact he))
          rw [HT2.out] at HN
          obtain ⟨z, hz⟩ : ∃ z, t2.writeE f = z := ⟨_, rfl⟩
          have HZ := Lib.hid hz
          rw [hz] at he ⊢
          clear hz
          go_wp2_with fail
          (try simp only [Exit.inBlock, Exit.then])
          go_ret
          rw [HF2.out, HN.out, HZ.out]
          exact (G1.out.trans Gc.out).fin _
        have HN := Lib.hid (walEnd_c (h := hdrS e q ps) HE.out (by rw [HT2.out]; exact he))
        rw [HT2.out] at HN
        rw [he]
        clear he
        go_wp2_with fail
        refine (refFlush_at wc g gs lvc _ Gc.out.at_ Kc.out.f1 Kc.out.f2).mono ?_
        intro en wd hp
        obtain ⟨rfl, lvd, hgo⟩ := Gc.out.post hp
        have Gd := Lib.hid hgo
        clear hp hgo
        go_wp2_with fail
        (try simp only [Exit.inBlock, Exit.then])
        go_ret
        rw [HF2.out, HN.out]
        exact (G1.out.trans Gd.out).fin _

end Go.Proofs.Ytchcnkobgdbdkaa
