
/- The walk of wal.Good. -/
import Derived.Test.YtpldcmcldoidaaaPuts
import Derived.Maps.OwnSet
import Derived.Maps.OwnOps
namespace Go.Proofs.Ytpldcmcldoidaaa
open Go.RowKit
set_option linter.unusedVariables false
set_option linter.unusedSimpArgs false

def goodB (ps : List PutV) : Bool := decide (1 ≤ ps.length ∧ ps.length ≤ 5 ∧ (∀ p ∈ ps, 0 ≤ p.at_ ∧ p.at_ < 12) ∧ (ps.map (·.at_)).Nodup)
theorem goodB_no {ps : List PutV} (h : ¬ (1 ≤ ps.length ∧ ps.length ≤ 5 ∧ (∀ p ∈ ps, 0 ≤ p.at_ ∧ p.at_ < 12) ∧ (ps.map (·.at_)).Nodup)) : goodB ps = false := decide_eq_false h
theorem goodB_len {ps : List PutV} (h : ¬ (1 ≤ ps.length ∧ ps.length ≤ 5)) : goodB ps = false := goodB_no fun hh => h ⟨hh.1, hh.2.1⟩
theorem goodB_range {ps : List PutV} {k : Nat} (hk : k < ps.length) (h : ¬ (0 ≤ ps[k].at_ ∧ ps[k].at_ < 12)) : goodB ps = false := goodB_no fun hh => h (hh.2.2.1 _ (List.getElem_mem hk))
theorem goodB_dup {ps : List PutV} {k : Nat} (hk : k < ps.length) (h : ps[k].at_ ∈ (ps.take k).map (·.at_)) : goodB ps = false := goodB_no fun hh => by
  have hn := hh.2.2.2
  rw [← List.take_append_drop k ps, List.map_append, List.nodup_append] at hn
  refine hn.2.2 _ h ps[k].at_ ?_ rfl
  rw [List.drop_eq_getElem_cons hk]
  exact List.mem_map.2 ⟨ps[k], List.mem_cons_self, rfl⟩
theorem goodB_yes {ps : List PutV} (h1 : 1 ≤ ps.length) (h2 : ps.length ≤ 5) (h3 : ∀ p ∈ ps, 0 ≤ p.at_ ∧ p.at_ < 12) (h4 : (ps.map (·.at_)).Nodup) : goodB ps = true := decide_eq_true ⟨h1, h2, h3, h4⟩
/-- What the loop keeps: the first k are right, the map knows just them. -/
structure GoodAt (w : World) (g : Nat) (ps : List PutV) (k : Nat) (D : DataW Unit) (wr : World) : Prop where
  rg : ∀ p ∈ ps.take k, 0 ≤ p.at_ ∧ p.at_ < 12
  nd : ((ps.take k).map (·.at_)).Nodup
  own : wr.ownsMap Try.prog 3 (plainElem Try.prog 3) g k D
  has : ∀ z : Int, Maps.has D (.int .i64 z) = decide (z ∈ (ps.take k).map (·.at_))
  bel : Below w.heap.size w wr
  gp : w.heap.size ≤ g
theorem lawInt : Maps.Keyed Try.prog 3 := Maps.int_keyed Try.underlying3
theorem zeroInt (w : World) : (zeroValue 3).run Try.prog w = .ok (.int .i64 0) w := by kernel_rfl
theorem wf64 {z : Int} (h1 : -9223372036854775808 ≤ z) (h2 : z ≤ 9223372036854775807) : (Lit.int .i64 z).wf = true := by
  simp only [Lit.wf, IntKind.min, IntKind.max, IntKind.signed, IntKind.bits, Bool.and_eq_true, decide_eq_true_eq, if_true]
  omega
theorem GoodAt.more {w wr w2 : World} {g : Nat} {ps : List PutV} {k : Nat} {D : DataW Unit} (h : GoodAt w g ps k D wr) (hk : k < ps.length) (hr : 0 ≤ ps[k].at_ ∧ ps[k].at_ < 12) (hn : ¬ ps[k].at_ ∈ (ps.take k).map (·.at_)) (d : DataW Unit)
    (ho : w2.ownsMap Try.prog 3 (plainElem Try.prog 3) g (k + 1) (D.put (.int .i64 ps[k].at_) d)) (hb : Below w.heap.size w w2) : GoodAt w g ps (k + 1) (D.put (.int .i64 ps[k].at_) d) w2 := by
  refine ⟨fun p hp => ?_, ?_, ho, fun z => ?_, hb, h.gp⟩
  · rw [List.take_succ_eq_append_getElem hk] at hp
    rcases List.mem_append.1 hp with hp | hp
    · exact h.rg p hp
    · obtain rfl := List.mem_singleton.1 hp
      exact hr
  · rw [List.take_succ_eq_append_getElem hk, List.map_append, List.nodup_append]
    refine ⟨h.nd, by simp, fun a ha b hb2 => ?_⟩
    simp at hb2
    subst hb2
    exact fun he => hn (by rw [← he]; exact ha)
  · by_cases hz : z = ps[k].at_
    · subst hz
      rw [Maps.has_put_same h.own.isMap (by exact trivial), List.take_succ_eq_append_getElem hk, List.map_append]
      exact (decide_eq_true (List.mem_append.2 (.inr (List.mem_singleton.2 rfl)))).symm
    · rw [Maps.has_put_other (fun he => hz (by injection he)), h.has, List.take_succ_eq_append_getElem hk, decide_eq_decide, List.map_append, List.mem_append]
      simp only [List.map_cons, List.map_nil, List.mem_singleton, hz, or_false]
theorem ownsMap_chg {P : Program} {k : TypeId} {R : Value → Option (DataW Unit × List MemPlace)} {b n : Nat} {D : DataW Unit} {S : Nat → Prop} {w w' : World} (h : w.ownsMap P k R b n D) (hc : Chg S w w') (hS : ¬ S b) : w'.ownsMap P k R b n D := by
  obtain ⟨es, clock, hb, r⟩ := h
  exact ⟨es, clock, hc.get hb hS, r⟩
def GoodRel (w : World) (ps : List PutV) (v : Value) (wr : World) : Prop := ∃ (k : Nat) (D : DataW Unit), k ≤ ps.length ∧ v = .int .i64 k ∧ GoodAt w w.heap.size ps k D wr
set_option maxRecDepth 100000 in
set_option maxHeartbeats 4000000 in
theorem good_calls (ps : List PutV) (A : Option Addr) (n c : Nat) (w : World) (hl : ps.length = n) (hr : Rd w A (ps.flatMap putC)) (ho : PutsOk ps) :
    Calls Try.prog 31 #[.slice A n c] w fun e w' => e = .returned (.bool (goodB ps)) ∧ Below w.heap.size w w' := by
  subst hl
  have HR := Lib.hid hr
  have HO := Lib.hid ho
  clear hr ho
  by_cases h1 : ps.length < 1
  · have h1i : (ps.length : Int) < 1 := by omega
    have HG : Hid (goodB ps = false) := goodB_len (by omega)
    go_enter Try.func31, Try.ntmps31
    go_wp2
    go_ret
    exact ⟨by rw [HG.out]; rfl, Below.refl _ _⟩
  by_cases h5 : 5 < ps.length
  · have h1i : ¬ ((ps.length : Int) < 1) := by omega
    have h5i : (5 : Int) < (ps.length : Int) := by omega
    have HG : Hid (goodB ps = false) := goodB_len (by omega)
    go_enter Try.func31, Try.ntmps31
    go_wp2
    go_ret
    exact ⟨by rw [HG.out]; rfl, Below.refl _ _⟩
  have h1i : ¬ ((ps.length : Int) < 1) := by omega
  have h5i : ¬ ((5 : Int) < (ps.length : Int)) := by omega
  have H0 : Hid (GoodRel w ps (.int .i64 0) (w.alloc (.map #[] 0))) := ⟨0, .map [], Nat.zero_le _, rfl, ⟨fun p hp => by simp at hp, by simp, World.ownsMap_made _ _ _ _, fun z => by rw [Maps.has_eq]; simp, (Below.refl _ _).alloc (Nat.le_refl _) _, Nat.le_refl _⟩⟩
  have hmm := @run_makeMap Try.prog
  go_enter Try.func31, Try.ntmps31
  go_wp2_with fail
  clear hmm
  go_loopw [19] (fun v wr => GoodRel w ps v wr) (fun v _ => ps.length - (intOf v).toNat)
  case atStart => exact H0.out
  case round =>
    obtain ⟨k, D, hk, rfl, hg⟩ := hrel
    have HG := Lib.hid hg
    clear hg H0
    by_cases hlt : k < ps.length
    · have hki : (k : Int) < (ps.length : Int) := by omega
      have hrr := HR.out.below HG.out.bel
      obtain ⟨ad, hA⟩ := puts_some hrr hlt
      subst hA
      have hpr := put_rd hrr HO.out hlt
      have hpo := HO.out _ (List.getElem_mem hlt)
      have hrg := @goodB_range ps k hlt
      have hdp := @goodB_dup ps k hlt
      have hhas := HG.out.has ps[k].at_
      obtain ⟨p, hp⟩ : ∃ p, ps[k] = p := ⟨_, rfl⟩
      have HMORE : Hid (∀ (w2 : World) (d : DataW Unit), (0 ≤ p.at_ ∧ p.at_ < 12) → ¬ p.at_ ∈ (ps.take k).map (·.at_) → w2.ownsMap Try.prog 3 (plainElem Try.prog 3) w.heap.size (k + 1) (D.put (.int .i64 p.at_) d) → Below w.heap.size w w2 → GoodAt w w.heap.size ps (k + 1) (D.put (.int .i64 p.at_) d) w2) := by
        intro w2 d a1 a2 a3 a4
        have := HG.out.more (w2 := w2) hlt (by rw [hp]; exact a1) (by rw [hp]; exact a2) d (by rw [hp]; exact a3) a4
        rw [hp] at this
        exact this
      rw [hp] at hpr hpo hrg hdp hhas
      have HPR := Lib.hid hpr
      have HPL := Lib.hid (putC_len hpo.1)
      have HRG := Lib.hid hrg
      have HDP := Lib.hid hdp
      have hwf := wf64 hpo.2.1 hpo.2.2
      have hkey : keyOf Try.prog 3 (.int .i64 p.at_) = some (.int .i64 p.at_) := Maps.keyOf_int_mk Try.underlying3 hwf
      have HKEY := Lib.hid hkey
      have HHAS := Lib.hid hhas
      have hkm : k < 6 := by omega
      clear hp hpr hpo hrg hdp hrr hwf hkey hhas
      go_wp2_with (first
        | (refine wpList_ldr2 rfl 48 (.tmp 22) rfl (ad.add (k * 33)) 33 (putC p) rfl HPR.out (by kernel_rfl) (by kernel_rfl) HPL.out ?_)
        | (refine wpList_al rfl 48 rfl (.int .i64 0 :: bts (List.replicate 32 0)) (by kernel_rfl) ?_))
      intro g5 w2 hg hb hc hs
      have HB2 : Hid (Below w.heap.size w w2) := HG.out.bel.trans (hc.below HG.out.bel.size (fun _ _ => id))
      have HM2 := Lib.hid (ownsMap_chg HG.out.own hc id)
      have HG5 : Hid (w.heap.size < g5) := by
        show _ < _
        rw [hg]
        obtain ⟨es, clock, hb, _⟩ := HG.out.own
        exact (Array.getElem?_eq_some_iff.1 hb).1
      have K2 := Lib.hid hb
      clear hb hc hs hg
      go_wp2_with (refine wpList_st rfl 48 (.tmp 5) (.tmp 23) rfl g5 0 33 (.int .i64 0 :: bts (List.replicate 32 0)) (putC p) rfl rfl K2.out (by kernel_rfl) HPL.out (by decide) (one_put p) ?_)
      intro w3 hb hc
      rw [splice_whole _ _ (by rw [HPL.out]; rfl)] at hb
      have hg5 := HG5.out
      have HB3 : Hid (Below w.heap.size w w3) := HB2.out.trans (hc.below HB2.out.size (fun _ _ => by omega))
      have HM3 := Lib.hid (ownsMap_chg HM2.out hc (by omega))
      have c0 := hb.cell (j := 0) rfl
      clear hb hc hg5 K2 HPR HPL HM2 HB2
      by_cases h0 : p.at_ < 0
      · have HN : Hid (goodB ps = false) := HRG.out (fun hh => by omega)
        go_wp2
        go_ret
        exact ⟨by rw [HN.out]; rfl, HB3.out⟩
      · by_cases h12 : p.at_ < 12
        · have h12n : ¬ ((12 : Int) ≤ p.at_) := by omega
          by_cases hd : p.at_ ∈ (ps.take k).map (·.at_)
          · have hh : Maps.has D (Lit.int IntKind.i64 p.at_) = true := by rw [HHAS.out]; exact decide_eq_true hd
            have HN : Hid (goodB ps = false) := HDP.out hd
            clear hd
            go_wp2_with (first
              | (at_lookup; refine wpList_lookup_own_ok_int _ rfl (.tmp 33) (.tmp 35) 71 rfl 3 3 .i64 lawInt Try.underlying71 Try.underlying3 (zeroInt _) w.heap.size k D rfl HM3.out _ _ rfl HKEY.out ?_))
            intro c2 hat hwc
            clear hat hwc
            go_wp2
            go_ret
            exact ⟨by rw [HN.out]; rfl, HB3.out⟩
          · have hh : Maps.has D (Lit.int IntKind.i64 p.at_) = false := by rw [HHAS.out]; exact decide_eq_false hd
            have HD := Lib.hid hd
            clear hd
            go_wp2_with (first
              | (at_lookup; refine wpList_lookup_own_ok_int _ rfl (.tmp 33) (.tmp 35) 71 rfl 3 3 .i64 lawInt Try.underlying71 Try.underlying3 (zeroInt _) w.heap.size k D rfl HM3.out _ _ rfl HKEY.out ?_))
            intro c2 hat hwc
            clear hat hwc
            have HWK : Hid ((Lit.int .i64 (k : Int)).wf = true) := wf64 (by omega) (by omega)
            go_wp2_with (first
              | (at_mapUpdate; refine wpList_mapUpdate_own _ rfl (.tmp 40) (.tmp 42) (.tmp 43) 71 rfl 3 3 lawInt Try.underlying71 (plainElem Try.prog 3) w.heap.size k D rfl HM3.out (by unfold maxLen; omega) _ _ (.int .i64 p.at_) rfl rfl HKEY.out (.lit (.int .i64 (k : Int))) [] (plainElem_int Try.underlying3 HWK.out) ?_))
            intro w4 hown4 hgrow4
            have HB4 : Hid (Below w.heap.size w w4) := HB3.out.trans (below_grown hgrow4 HB3.out.size (fun q hq => by injection hq with hq; omega))
            have HG4 := Lib.hid (HMORE.out w4 _ ⟨by omega, h12⟩ HD.out hown4 HB4.out)
            clear hown4 hgrow4
            go_wp2_with fail
            go_roundw
            case rel => exact ⟨k + 1, _, by omega, by go_num, HG4.out⟩
            case measure => simp [intOf]; omega
        · have h12n : (12 : Int) ≤ p.at_ := by omega
          have HN : Hid (goodB ps = false) := HRG.out (fun hh => by omega)
          go_wp2
          go_ret
          exact ⟨by rw [HN.out]; rfl, HB3.out⟩
    · have hke : k = ps.length := by omega
      have hki : ¬ ((k : Int) < (ps.length : Int)) := by omega
      have HN : Hid (goodB ps = true) := by
        have h1' := HG.out.rg
        have h2' := HG.out.nd
        rw [hke, List.take_length] at h1' h2'
        exact goodB_yes (by omega) (by omega) h1' h2'
      go_wp2
      go_ret
      exact ⟨by rw [HN.out]; rfl, HG.out.bel⟩
end Go.Proofs.Ytpldcmcldoidaaa
