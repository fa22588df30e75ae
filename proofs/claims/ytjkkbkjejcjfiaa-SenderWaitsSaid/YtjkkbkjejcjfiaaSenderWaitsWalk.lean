
/- The walk of SenderWaits. -/
import Derived.Test.YtjkkbkjejcjfiaaWakes24
namespace Go.Proofs.Ytjkkbkjejcjfiaa
open Go.RowKit
set_option linter.unusedVariables false
set_option linter.unusedSimpArgs false

def wst : Nat → SV
  | 0 => .no
  | 1 => ⟨false, .no, true, syncP 0 5, 0, false⟩
  | 2 => ⟨false, .no, true, syncP 1 6, 0, false⟩
  | _ => ⟨false, .no, true, syncP 2 7, 0, false⟩
theorem SSt.new' {w : World} {g g' : Nat} (h : Bk w g' (sndC .no none 0 0 none 0 0)) (e : g' = g) : SSt w g .no := e ▸ SSt.new h
def WaRel (w : World) (g : Nat) (bx : List Value) (v4 : Value) (wr : World) : Prop := ∃ (k : Nat) (u : World), u = wr ∧ k ≤ 3 ∧ v4 = .int .i64 k ∧ SSt u g (wst k) ∧ Bk u w.heap.size bx ∧ Below w.heap.size w u
def wu (o y : PkV) (was : Bool) (m : Nat) : SV := ⟨true, o, was, y, m, false⟩
def WiRel (w : World) (g : Nat) (bx : List Value) (o y : PkV) (was : Bool) (n : Nat) (v5 : Value) (wr : World) : Prop := ∃ (m : Nat) (u : World), u = wr ∧ m ≤ n ∧ v5 = .int .i64 m ∧ SSt u g (wu o y was m) ∧ Bk u w.heap.size bx ∧ Below w.heap.size w u
theorem wu_missed (o y : PkV) (was : Bool) (m : Nat) : (wu o y was m).missed = wu o y was (m + 1) := rfl
theorem wu_missedN (o y : PkV) (was : Bool) (m : Nat) : (wu o y was m).missedN = m + 1 := rfl
theorem wsS0 : (wst 0).send (syncP 0 5) = wu (syncP 0 5) .no false 0 := (send_in (by decide) rfl).2
theorem wsE0 : (wst 0).sendE (syncP 0 5) = 0 := (send_in (by decide) rfl).1
theorem wsS1 : (wst 1).send (syncP 1 6) = wu (syncP 1 6) (syncP 0 5) true 0 := (send_in (by decide) rfl).2
theorem wsE1 : (wst 1).sendE (syncP 1 6) = 0 := (send_in (by decide) rfl).1
theorem wsS2 : (wst 2).send (syncP 2 7) = wu (syncP 2 7) (syncP 1 6) true 0 := (send_in (by decide) rfl).2
theorem wsE2 : (wst 2).sendE (syncP 2 7) = 0 := (send_in (by decide) rfl).1
theorem wsT0 (n : Nat) : (wu (syncP 0 5) .no false n).stop true = wst 1 := rfl
theorem wsT1 (n : Nat) : (wu (syncP 1 6) (syncP 0 5) true n).stop true = wst 2 := rfl
theorem wsT2 (n : Nat) : (wu (syncP 2 7) (syncP 1 6) true n).stop true = wst 3 := rfl
set_option maxRecDepth 100000 in
set_option maxHeartbeats 8000000 in
theorem senderWaits_calls (x y z : UInt8) (w : World) : Calls Try.prog 10 #[.agg #[vu8 x, vu8 y, vu8 z]] w fun e w' => e = .returned (.bool true) ∧ Below w.heap.size w w' := by
  obtain ⟨bx, hbx⟩ : ∃ bx, [vu8 x, vu8 y, vu8 z] = bx := ⟨_, rfl⟩
  have D0 : Hid (bx[0]? = some (vu8 x)) := by rw [← hbx]; exact (rfl : _ = _)
  have D1 : Hid (bx[1]? = some (vu8 y)) := by rw [← hbx]; exact (rfl : _ = _)
  have D2 : Hid (bx[2]? = some (vu8 z)) := by rw [← hbx]; exact (rfl : _ = _)
  rw [show (#[vu8 x, vu8 y, vu8 z] : Array Value) = bx.toArray by rw [← hbx]]
  clear hbx
  go_enter Try.func10, Try.ntmps10
  go_wp2_with (refine wpList_bld rfl 57 [] rfl (sndC .no none 0 0 none 0 0) [] (sndC .no none 0 0 none 0 0) (by kernel_rfl) (by kernel_rfl) trivial rfl ?_)
  refine calls_at fun w1 hw => ?_
  have Ew1 : Hid (Below w.heap.size w w1) := by rw [← hw]; exact ((Below.refl _ _).alloc (Nat.le_refl _) _).alloc (by simp) _
  have KBw1 : Hid (Bk w1 w.heap.size bx) := by rw [← hw]; exact (Bk.new w bx _).below ((Below.refl _ _).alloc (Nat.le_refl _) _)
  obtain ⟨gs, hgs⟩ : ∃ gs, w.heap.size + 1 = gs := ⟨_, rfl⟩
  have Sw1 : Hid (SSt w1 gs (wst 0)) := by rw [← hw]; exact SSt.new' (Bk.new _ _ _) (by simpa using hgs)
  have GS : Hid (w.heap.size ≤ gs) := by show _ ≤ _; omega
  have NA : Hid (w.heap.size ≠ gs) := by show _ ≠ _; omega
  rw [hgs]
  clear hw hgs
  refine (sndMissed_calls w1 gs (wst 0) Sw1.out (by decide)).mono ?_
  intro en w2 hp
  rw [show (wst 0).missed = wst 0 from rfl, show (wst 0).missedN = 0 from rfl] at hp
  obtain ⟨rfl, hst, hch⟩ := hp
  have Sw2 : Hid (SSt w2 gs (wst 0)) := hst
  have Ew2 : Hid (Below w.heap.size w w2) := Ew1.out.trans (hch.below Ew1.out.size (fun q hq he => by have := GS.out; omega))
  have HCH := Lib.hid hch
  clear hst hch Sw1 Ew1
  have KBw2 : Hid (Bk w2 w.heap.size bx) := KBw1.out.chg HCH.out (fun h => NA.out h)
  clear KBw1
  clear HCH
  go_wp2_with fail
  go_loopw [4] (fun v4 wr => WaRel w gs bx v4 wr) (fun v4 _ => 3 - (intOf v4).toNat)
  case atStart => exact ⟨0, _, rfl, by decide, rfl, Sw2.out, KBw2.out, Ew2.out⟩
  case round =>
    obtain ⟨k, u, rfl, hk, rfl, hs, hb, he⟩ := hrel
    clear Sw2 KBw2 Ew2
    have hk4 : k = 0 ∨ k = 1 ∨ k = 2 ∨ k = 3 := by omega
    clear hk
    rcases hk4 with rfl | rfl | rfl | rfl
    · have Su : Hid (SSt u gs (wst 0)) := hs
      have KBu : Hid (Bk u w.heap.size bx) := hb
      have Eu : Hid (Below w.heap.size w u) := he
      clear hs hb he
      go_wp2_with fail
      refine (sync_calls 0 5 u).mono ?_
      rintro en w3 ⟨Aw3, rfl, hr, hb⟩
      have Ew3 : Hid (Below w.heap.size w w3) := Eu.out.trans (hb.mono Eu.out.size)
      have KBw3 : Hid (Bk w3 w.heap.size bx) := KBu.out.below hb
      clear Eu KBu
      have Sw3 : Hid (SSt w3 gs (wst 0)) := Su.out.below hb
      clear Su
      have hrw3 : Rd w3 (some Aw3) ((syncP 0 5).ps.flatMap putC) := hr
      have RSw3 := Lib.hid hrw3
      clear hb hr hrw3
      go_wp2_with fail
      refine (sndSend_calls w3 gs (wst 0) Sw3.out (syncP 0 5) (some Aw3) 1 1 rfl (by decide) RSw3.out (syncP_ok _ _ (by omega))).mono ?_
      intro en w4 hp
      rw [wsS0, wsE0] at hp
      obtain ⟨rfl, hst, hch⟩ := hp
      have Sw4 : Hid (SSt w4 gs (wu (syncP 0 5) .no false 0)) := hst
      have Ew4 : Hid (Below w.heap.size w w4) := Ew3.out.trans (hch.below Ew3.out.size (fun q hq he => by have := GS.out; omega))
      have HCH := Lib.hid hch
      clear hst hch Sw3 Ew3
      have KBw4 : Hid (Bk w4 w.heap.size bx) := KBw3.out.chg HCH.out (fun h => NA.out h)
      clear KBw3
      clear HCH
      go_wp2_with fail
      obtain ⟨n, hn20, hmod⟩ : ∃ n : Nat, n < 20 ∧ (wrap64 (x.toNat : Int)).tmod 20 = (n : Int) := ⟨x.toNat % 20, Nat.mod_lt _ (by decide), by have := x.toNat_lt; rw [show wrap64 (x.toNat : Int) = x.toNat by unfold wrap64; omega, Int.tmod_eq_emod_of_nonneg (by omega)]; omega⟩
      go_loopw [5] (fun v5 wr => WiRel w gs bx (syncP 0 5) .no false n v5 wr) (fun v5 _ => n - (intOf v5).toNat)
      case atStart => exact ⟨0, _, rfl, Nat.zero_le _, rfl, Sw4.out, KBw4.out, Ew4.out⟩
      case round =>
        obtain ⟨m, r, rfl, hm, rfl, hs, hb, he⟩ := hrel
        clear Sw4 KBw4 Ew4
        have Sr : Hid (SSt r gs (wu (syncP 0 5) .no false m)) := hs
        have KBr : Hid (Bk r w.heap.size bx) := hb
        have Er : Hid (Below w.heap.size w r) := he
        clear hs hb he
        have cx : r.cell? ⟨w.heap.size, 0, none⟩ = some (vu8 x) := KBr.out.cell D0.out
        by_cases hlt : m < n
        · have hmi : (m : Int) < (n : Int) := by omega
          have HM : Hid (m < n) := hlt
          clear hm
          go_wp2_with fail
          clear cx hmod
          refine (sndMissed_calls r gs (wu (syncP 0 5) .no false m) Sr.out (by show m ≤ 1000000; omega)).mono ?_
          intro en w5 hp
          rw [wu_missed, wu_missedN] at hp
          obtain ⟨rfl, hst, hch⟩ := hp
          have Sw5 : Hid (SSt w5 gs (wu (syncP 0 5) .no false (m + 1))) := hst
          have Ew5 : Hid (Below w.heap.size w w5) := Er.out.trans (hch.below Er.out.size (fun q hq he => by have := GS.out; omega))
          have HCH := Lib.hid hch
          clear hst hch Sr Er
          have KBw5 : Hid (Bk w5 w.heap.size bx) := KBr.out.chg HCH.out (fun h => NA.out h)
          clear KBr
          clear HCH
          go_wp2_with fail
          go_roundw
          case rel => exact ⟨m + 1, _, rfl, HM.out, by go_num, Sw5.out, KBw5.out, Ew5.out⟩
          case measure => simp [intOf]; have := HM.out; omega
        · obtain rfl : m = n := by omega
          have hmi : ¬ ((m : Int) < (m : Int)) := by omega
          clear hm hlt
          go_wp2_with fail
          clear cx hmod
          refine (sndEarly_calls r gs (wu (syncP 0 5) .no false m) Sr.out).mono ?_
          rintro en w5 ⟨Aw5, cw5, rfl, hrn, hncw5, hmcw5, hb⟩
          have Ew5 : Hid (Below w.heap.size w w5) := Er.out.trans (hb.mono Er.out.size)
          have KBw5 : Hid (Bk w5 w.heap.size bx) := KBr.out.below hb
          clear Er KBr
          have Sw5 : Hid (SSt w5 gs (wu (syncP 0 5) .no false m)) := Sr.out.below hb
          clear Sr
          have RNw5 := Lib.hid hrn
          clear hb hrn
          go_wp2_with (refine wpList_al rfl 25 rfl zPk (by kernel_rfl) ?_)
          intro ga w6 hg hb hc hs
          have HQa : Hid (Below w5.heap.size w5 w6) := hc.below (Nat.le_refl _) (fun _ _ => id)
          have HGa : Hid (ga = w5.heap.size) := hg
          have KZa := Lib.hid hb
          clear hg hb hc hs
          go_wp2_with (refine wpList_st rfl 25 (.tmp 6) (.tmp 44) rfl ga 0 4 zPk [.int .i64 (wu (syncP 0 5) .no false m).y.k, vu32 (wu (syncP 0 5) .no false m).y.e, vu32 (wu (syncP 0 5) .no false m).y.q, .slice Aw5 (wu (syncP 0 5) .no false m).y.ps.length cw5] rfl rfl KZa.out (by kernel_rfl) rfl (by decide) (one_pkt _ _ _ _ _ _) ?_)
          intro w7 hbk hc
          rw [splice_whole zPk [.int .i64 (wu (syncP 0 5) .no false m).y.k, vu32 (wu (syncP 0 5) .no false m).y.e, vu32 (wu (syncP 0 5) .no false m).y.q, .slice Aw5 (wu (syncP 0 5) .no false m).y.ps.length cw5] rfl] at hbk
          have hb : Below w5.heap.size w5 w7 := HQa.out.trans (hc.below HQa.out.size (fun q hq he => by have := HGa.out; omega))
          have ABa : Hid (w.heap.size < ga) := by show _ < _; have := KBw5.out.lt; have := HGa.out; omega
          have Ew7 : Hid (Below w.heap.size w w7) := Ew5.out.trans (hb.mono Ew5.out.size)
          have KBw7 : Hid (Bk w7 w.heap.size bx) := KBw5.out.below hb
          clear Ew5 KBw5
          have Sw7 : Hid (SSt w7 gs (wu (syncP 0 5) .no false m)) := Sw5.out.below hb
          clear Sw5
          have Kaw7 : Hid (Bk w7 ga [.int .i64 (wu (syncP 0 5) .no false m).y.k, vu32 (wu (syncP 0 5) .no false m).y.e, vu32 (wu (syncP 0 5) .no false m).y.q, .slice Aw5 (wu (syncP 0 5) .no false m).y.ps.length cw5]) := hbk
          have Kaw7 : Hid (Bk w7 ga [.int .i64 (wu (syncP 0 5) .no false m).y.k, vu32 (wu (syncP 0 5) .no false m).y.e, vu32 (wu (syncP 0 5) .no false m).y.q, .slice Aw5 (wu (syncP 0 5) .no false m).y.ps.length cw5]) := hbk
          clear hbk hb hc KZa HQa HGa
          go_wp2_with fail
          refine (sndStop_calls w7 gs (wu (syncP 0 5) .no false m) true Sw7.out).mono ?_
          intro en w8 hp
          rw [wsT0] at hp
          obtain ⟨rfl, hst, hch⟩ := hp
          have Sw8 : Hid (SSt w8 gs (wst 1)) := hst
          have Ew8 : Hid (Below w.heap.size w w8) := Ew7.out.trans (hch.below Ew7.out.size (fun q hq he => by have := GS.out; omega))
          have HCH := Lib.hid hch
          clear hst hch Sw7 Ew7
          have KBw8 : Hid (Bk w8 w.heap.size bx) := KBw7.out.chg HCH.out (fun h => NA.out h)
          clear KBw7
          clear HCH
          go_wp2_with fail
          refine (sndMissed_calls w8 gs (wst 1) Sw8.out (by decide)).mono ?_
          intro en w9 hp
          rw [show (wst 1).missed = wst 1 from rfl, show (wst 1).missedN = 0 from rfl] at hp
          obtain ⟨rfl, hst, hch⟩ := hp
          have Sw9 : Hid (SSt w9 gs (wst 1)) := hst
          have Ew9 : Hid (Below w.heap.size w w9) := Ew8.out.trans (hch.below Ew8.out.size (fun q hq he => by have := GS.out; omega))
          have HCH := Lib.hid hch
          clear hst hch Sw8 Ew8
          have KBw9 : Hid (Bk w9 w.heap.size bx) := KBw8.out.chg HCH.out (fun h => NA.out h)
          clear KBw8
          clear HCH
          go_wp2_with fail
          refine (sndStop_calls w9 gs (wst 1) true Sw9.out).mono ?_
          intro en w10 hp
          rw [show (wst 1).stop true = wst 1 from rfl] at hp
          obtain ⟨rfl, hst, hch⟩ := hp
          have Sw10 : Hid (SSt w10 gs (wst 1)) := hst
          have Ew10 : Hid (Below w.heap.size w w10) := Ew9.out.trans (hch.below Ew9.out.size (fun q hq he => by have := GS.out; omega))
          have HCH := Lib.hid hch
          clear hst hch Sw9 Ew9
          have KBw10 : Hid (Bk w10 w.heap.size bx) := KBw9.out.chg HCH.out (fun h => NA.out h)
          clear KBw9
          clear HCH
          go_wp2_with fail
          go_roundw
          case rel => exact ⟨1, _, rfl, by decide, by go_num, Sw10.out, KBw10.out, Ew10.out⟩
          case measure => simp [intOf]
    · have Su : Hid (SSt u gs (wst 1)) := hs
      have KBu : Hid (Bk u w.heap.size bx) := hb
      have Eu : Hid (Below w.heap.size w u) := he
      clear hs hb he
      go_wp2_with fail
      refine (sync_calls 1 6 u).mono ?_
      rintro en w3 ⟨Aw3, rfl, hr, hb⟩
      have Ew3 : Hid (Below w.heap.size w w3) := Eu.out.trans (hb.mono Eu.out.size)
      have KBw3 : Hid (Bk w3 w.heap.size bx) := KBu.out.below hb
      clear Eu KBu
      have Sw3 : Hid (SSt w3 gs (wst 1)) := Su.out.below hb
      clear Su
      have hrw3 : Rd w3 (some Aw3) ((syncP 1 6).ps.flatMap putC) := hr
      have RSw3 := Lib.hid hrw3
      clear hb hr hrw3
      go_wp2_with fail
      refine (sndSend_calls w3 gs (wst 1) Sw3.out (syncP 1 6) (some Aw3) 1 1 rfl (by decide) RSw3.out (syncP_ok _ _ (by omega))).mono ?_
      intro en w4 hp
      rw [wsS1, wsE1] at hp
      obtain ⟨rfl, hst, hch⟩ := hp
      have Sw4 : Hid (SSt w4 gs (wu (syncP 1 6) (syncP 0 5) true 0)) := hst
      have Ew4 : Hid (Below w.heap.size w w4) := Ew3.out.trans (hch.below Ew3.out.size (fun q hq he => by have := GS.out; omega))
      have HCH := Lib.hid hch
      clear hst hch Sw3 Ew3
      have KBw4 : Hid (Bk w4 w.heap.size bx) := KBw3.out.chg HCH.out (fun h => NA.out h)
      clear KBw3
      clear HCH
      go_wp2_with fail
      obtain ⟨n, hn20, hmod⟩ : ∃ n : Nat, n < 20 ∧ (wrap64 (y.toNat : Int)).tmod 20 = (n : Int) := ⟨y.toNat % 20, Nat.mod_lt _ (by decide), by have := y.toNat_lt; rw [show wrap64 (y.toNat : Int) = y.toNat by unfold wrap64; omega, Int.tmod_eq_emod_of_nonneg (by omega)]; omega⟩
      go_loopw [5] (fun v5 wr => WiRel w gs bx (syncP 1 6) (syncP 0 5) true n v5 wr) (fun v5 _ => n - (intOf v5).toNat)
      case atStart => exact ⟨0, _, rfl, Nat.zero_le _, rfl, Sw4.out, KBw4.out, Ew4.out⟩
      case round =>
        obtain ⟨m, r, rfl, hm, rfl, hs, hb, he⟩ := hrel
        clear Sw4 KBw4 Ew4
        have Sr : Hid (SSt r gs (wu (syncP 1 6) (syncP 0 5) true m)) := hs
        have KBr : Hid (Bk r w.heap.size bx) := hb
        have Er : Hid (Below w.heap.size w r) := he
        clear hs hb he
        have cx : r.cell? ⟨w.heap.size, 1, none⟩ = some (vu8 y) := KBr.out.cell D1.out
        by_cases hlt : m < n
        · have hmi : (m : Int) < (n : Int) := by omega
          have HM : Hid (m < n) := hlt
          clear hm
          go_wp2_with fail
          clear cx hmod
          refine (sndMissed_calls r gs (wu (syncP 1 6) (syncP 0 5) true m) Sr.out (by show m ≤ 1000000; omega)).mono ?_
          intro en w5 hp
          rw [wu_missed, wu_missedN] at hp
          obtain ⟨rfl, hst, hch⟩ := hp
          have Sw5 : Hid (SSt w5 gs (wu (syncP 1 6) (syncP 0 5) true (m + 1))) := hst
          have Ew5 : Hid (Below w.heap.size w w5) := Er.out.trans (hch.below Er.out.size (fun q hq he => by have := GS.out; omega))
          have HCH := Lib.hid hch
          clear hst hch Sr Er
          have KBw5 : Hid (Bk w5 w.heap.size bx) := KBr.out.chg HCH.out (fun h => NA.out h)
          clear KBr
          clear HCH
          go_wp2_with fail
          go_roundw
          case rel => exact ⟨m + 1, _, rfl, HM.out, by go_num, Sw5.out, KBw5.out, Ew5.out⟩
          case measure => simp [intOf]; have := HM.out; omega
        · obtain rfl : m = n := by omega
          have hmi : ¬ ((m : Int) < (m : Int)) := by omega
          clear hm hlt
          go_wp2_with fail
          clear cx hmod
          refine (sndEarly_calls r gs (wu (syncP 1 6) (syncP 0 5) true m) Sr.out).mono ?_
          rintro en w5 ⟨Aw5, cw5, rfl, hrn, hncw5, hmcw5, hb⟩
          have Ew5 : Hid (Below w.heap.size w w5) := Er.out.trans (hb.mono Er.out.size)
          have KBw5 : Hid (Bk w5 w.heap.size bx) := KBr.out.below hb
          clear Er KBr
          have Sw5 : Hid (SSt w5 gs (wu (syncP 1 6) (syncP 0 5) true m)) := Sr.out.below hb
          clear Sr
          have RNw5 := Lib.hid hrn
          clear hb hrn
          go_wp2_with (refine wpList_al rfl 25 rfl zPk (by kernel_rfl) ?_)
          intro ga w6 hg hb hc hs
          have HQa : Hid (Below w5.heap.size w5 w6) := hc.below (Nat.le_refl _) (fun _ _ => id)
          have HGa : Hid (ga = w5.heap.size) := hg
          have KZa := Lib.hid hb
          clear hg hb hc hs
          go_wp2_with (refine wpList_st rfl 25 (.tmp 6) (.tmp 44) rfl ga 0 4 zPk [.int .i64 (wu (syncP 1 6) (syncP 0 5) true m).y.k, vu32 (wu (syncP 1 6) (syncP 0 5) true m).y.e, vu32 (wu (syncP 1 6) (syncP 0 5) true m).y.q, .slice Aw5 (wu (syncP 1 6) (syncP 0 5) true m).y.ps.length cw5] rfl rfl KZa.out (by kernel_rfl) rfl (by decide) (one_pkt _ _ _ _ _ _) ?_)
          intro w7 hbk hc
          rw [splice_whole zPk [.int .i64 (wu (syncP 1 6) (syncP 0 5) true m).y.k, vu32 (wu (syncP 1 6) (syncP 0 5) true m).y.e, vu32 (wu (syncP 1 6) (syncP 0 5) true m).y.q, .slice Aw5 (wu (syncP 1 6) (syncP 0 5) true m).y.ps.length cw5] rfl] at hbk
          have hb : Below w5.heap.size w5 w7 := HQa.out.trans (hc.below HQa.out.size (fun q hq he => by have := HGa.out; omega))
          have ABa : Hid (w.heap.size < ga) := by show _ < _; have := KBw5.out.lt; have := HGa.out; omega
          have Ew7 : Hid (Below w.heap.size w w7) := Ew5.out.trans (hb.mono Ew5.out.size)
          have KBw7 : Hid (Bk w7 w.heap.size bx) := KBw5.out.below hb
          clear Ew5 KBw5
          have Sw7 : Hid (SSt w7 gs (wu (syncP 1 6) (syncP 0 5) true m)) := Sw5.out.below hb
          clear Sw5
          have Kaw7 : Hid (Bk w7 ga [.int .i64 (wu (syncP 1 6) (syncP 0 5) true m).y.k, vu32 (wu (syncP 1 6) (syncP 0 5) true m).y.e, vu32 (wu (syncP 1 6) (syncP 0 5) true m).y.q, .slice Aw5 (wu (syncP 1 6) (syncP 0 5) true m).y.ps.length cw5]) := hbk
          have Kaw7 : Hid (Bk w7 ga [.int .i64 (wu (syncP 1 6) (syncP 0 5) true m).y.k, vu32 (wu (syncP 1 6) (syncP 0 5) true m).y.e, vu32 (wu (syncP 1 6) (syncP 0 5) true m).y.q, .slice Aw5 (wu (syncP 1 6) (syncP 0 5) true m).y.ps.length cw5]) := hbk
          clear hbk hb hc KZa HQa HGa
          have ca2 : w7.cell? ⟨ga, 2, none⟩ = some (.int .u32 5) := Kaw7.out.cell (j := 2) rfl
          go_wp2_with fail
          refine (sndStop_calls w7 gs (wu (syncP 1 6) (syncP 0 5) true m) true Sw7.out).mono ?_
          intro en w8 hp
          rw [wsT1] at hp
          obtain ⟨rfl, hst, hch⟩ := hp
          have Sw8 : Hid (SSt w8 gs (wst 2)) := hst
          have Ew8 : Hid (Below w.heap.size w w8) := Ew7.out.trans (hch.below Ew7.out.size (fun q hq he => by have := GS.out; omega))
          have HCH := Lib.hid hch
          clear hst hch Sw7 Ew7
          have KBw8 : Hid (Bk w8 w.heap.size bx) := KBw7.out.chg HCH.out (fun h => NA.out h)
          clear KBw7
          clear HCH
          go_wp2_with fail
          refine (sndMissed_calls w8 gs (wst 2) Sw8.out (by decide)).mono ?_
          intro en w9 hp
          rw [show (wst 2).missed = wst 2 from rfl, show (wst 2).missedN = 0 from rfl] at hp
          obtain ⟨rfl, hst, hch⟩ := hp
          have Sw9 : Hid (SSt w9 gs (wst 2)) := hst
          have Ew9 : Hid (Below w.heap.size w w9) := Ew8.out.trans (hch.below Ew8.out.size (fun q hq he => by have := GS.out; omega))
          have HCH := Lib.hid hch
          clear hst hch Sw8 Ew8
          have KBw9 : Hid (Bk w9 w.heap.size bx) := KBw8.out.chg HCH.out (fun h => NA.out h)
          clear KBw8
          clear HCH
          go_wp2_with fail
          refine (sndStop_calls w9 gs (wst 2) true Sw9.out).mono ?_
          intro en w10 hp
          rw [show (wst 2).stop true = wst 2 from rfl] at hp
          obtain ⟨rfl, hst, hch⟩ := hp
          have Sw10 : Hid (SSt w10 gs (wst 2)) := hst
          have Ew10 : Hid (Below w.heap.size w w10) := Ew9.out.trans (hch.below Ew9.out.size (fun q hq he => by have := GS.out; omega))
          have HCH := Lib.hid hch
          clear hst hch Sw9 Ew9
          have KBw10 : Hid (Bk w10 w.heap.size bx) := KBw9.out.chg HCH.out (fun h => NA.out h)
          clear KBw9
          clear HCH
          go_wp2_with fail
          go_roundw
          case rel => exact ⟨2, _, rfl, by decide, by go_num, Sw10.out, KBw10.out, Ew10.out⟩
          case measure => simp [intOf]
    · have Su : Hid (SSt u gs (wst 2)) := hs
      have KBu : Hid (Bk u w.heap.size bx) := hb
      have Eu : Hid (Below w.heap.size w u) := he
      clear hs hb he
      go_wp2_with fail
      refine (sync_calls 2 7 u).mono ?_
      rintro en w3 ⟨Aw3, rfl, hr, hb⟩
      have Ew3 : Hid (Below w.heap.size w w3) := Eu.out.trans (hb.mono Eu.out.size)
      have KBw3 : Hid (Bk w3 w.heap.size bx) := KBu.out.below hb
      clear Eu KBu
      have Sw3 : Hid (SSt w3 gs (wst 2)) := Su.out.below hb
      clear Su
      have hrw3 : Rd w3 (some Aw3) ((syncP 2 7).ps.flatMap putC) := hr
      have RSw3 := Lib.hid hrw3
      clear hb hr hrw3
      go_wp2_with fail
      refine (sndSend_calls w3 gs (wst 2) Sw3.out (syncP 2 7) (some Aw3) 1 1 rfl (by decide) RSw3.out (syncP_ok _ _ (by omega))).mono ?_
      intro en w4 hp
      rw [wsS2, wsE2] at hp
      obtain ⟨rfl, hst, hch⟩ := hp
      have Sw4 : Hid (SSt w4 gs (wu (syncP 2 7) (syncP 1 6) true 0)) := hst
      have Ew4 : Hid (Below w.heap.size w w4) := Ew3.out.trans (hch.below Ew3.out.size (fun q hq he => by have := GS.out; omega))
      have HCH := Lib.hid hch
      clear hst hch Sw3 Ew3
      have KBw4 : Hid (Bk w4 w.heap.size bx) := KBw3.out.chg HCH.out (fun h => NA.out h)
      clear KBw3
      clear HCH
      go_wp2_with fail
      obtain ⟨n, hn20, hmod⟩ : ∃ n : Nat, n < 20 ∧ (wrap64 (z.toNat : Int)).tmod 20 = (n : Int) := ⟨z.toNat % 20, Nat.mod_lt _ (by decide), by have := z.toNat_lt; rw [show wrap64 (z.toNat : Int) = z.toNat by unfold wrap64; omega, Int.tmod_eq_emod_of_nonneg (by omega)]; omega⟩
      go_loopw [5] (fun v5 wr => WiRel w gs bx (syncP 2 7) (syncP 1 6) true n v5 wr) (fun v5 _ => n - (intOf v5).toNat)
      case atStart => exact ⟨0, _, rfl, Nat.zero_le _, rfl, Sw4.out, KBw4.out, Ew4.out⟩
      case round =>
        obtain ⟨m, r, rfl, hm, rfl, hs, hb, he⟩ := hrel
        clear Sw4 KBw4 Ew4
        have Sr : Hid (SSt r gs (wu (syncP 2 7) (syncP 1 6) true m)) := hs
        have KBr : Hid (Bk r w.heap.size bx) := hb
        have Er : Hid (Below w.heap.size w r) := he
        clear hs hb he
        have cx : r.cell? ⟨w.heap.size, 2, none⟩ = some (vu8 z) := KBr.out.cell D2.out
        by_cases hlt : m < n
        · have hmi : (m : Int) < (n : Int) := by omega
          have HM : Hid (m < n) := hlt
          clear hm
          go_wp2_with fail
          clear cx hmod
          refine (sndMissed_calls r gs (wu (syncP 2 7) (syncP 1 6) true m) Sr.out (by show m ≤ 1000000; omega)).mono ?_
          intro en w5 hp
          rw [wu_missed, wu_missedN] at hp
          obtain ⟨rfl, hst, hch⟩ := hp
          have Sw5 : Hid (SSt w5 gs (wu (syncP 2 7) (syncP 1 6) true (m + 1))) := hst
          have Ew5 : Hid (Below w.heap.size w w5) := Er.out.trans (hch.below Er.out.size (fun q hq he => by have := GS.out; omega))
          have HCH := Lib.hid hch
          clear hst hch Sr Er
          have KBw5 : Hid (Bk w5 w.heap.size bx) := KBr.out.chg HCH.out (fun h => NA.out h)
          clear KBr
          clear HCH
          go_wp2_with fail
          go_roundw
          case rel => exact ⟨m + 1, _, rfl, HM.out, by go_num, Sw5.out, KBw5.out, Ew5.out⟩
          case measure => simp [intOf]; have := HM.out; omega
        · obtain rfl : m = n := by omega
          have hmi : ¬ ((m : Int) < (m : Int)) := by omega
          clear hm hlt
          go_wp2_with fail
          clear cx hmod
          refine (sndEarly_calls r gs (wu (syncP 2 7) (syncP 1 6) true m) Sr.out).mono ?_
          rintro en w5 ⟨Aw5, cw5, rfl, hrn, hncw5, hmcw5, hb⟩
          have Ew5 : Hid (Below w.heap.size w w5) := Er.out.trans (hb.mono Er.out.size)
          have KBw5 : Hid (Bk w5 w.heap.size bx) := KBr.out.below hb
          clear Er KBr
          have Sw5 : Hid (SSt w5 gs (wu (syncP 2 7) (syncP 1 6) true m)) := Sr.out.below hb
          clear Sr
          have RNw5 := Lib.hid hrn
          clear hb hrn
          go_wp2_with (refine wpList_al rfl 25 rfl zPk (by kernel_rfl) ?_)
          intro ga w6 hg hb hc hs
          have HQa : Hid (Below w5.heap.size w5 w6) := hc.below (Nat.le_refl _) (fun _ _ => id)
          have HGa : Hid (ga = w5.heap.size) := hg
          have KZa := Lib.hid hb
          clear hg hb hc hs
          go_wp2_with (refine wpList_st rfl 25 (.tmp 6) (.tmp 44) rfl ga 0 4 zPk [.int .i64 (wu (syncP 2 7) (syncP 1 6) true m).y.k, vu32 (wu (syncP 2 7) (syncP 1 6) true m).y.e, vu32 (wu (syncP 2 7) (syncP 1 6) true m).y.q, .slice Aw5 (wu (syncP 2 7) (syncP 1 6) true m).y.ps.length cw5] rfl rfl KZa.out (by kernel_rfl) rfl (by decide) (one_pkt _ _ _ _ _ _) ?_)
          intro w7 hbk hc
          rw [splice_whole zPk [.int .i64 (wu (syncP 2 7) (syncP 1 6) true m).y.k, vu32 (wu (syncP 2 7) (syncP 1 6) true m).y.e, vu32 (wu (syncP 2 7) (syncP 1 6) true m).y.q, .slice Aw5 (wu (syncP 2 7) (syncP 1 6) true m).y.ps.length cw5] rfl] at hbk
          have hb : Below w5.heap.size w5 w7 := HQa.out.trans (hc.below HQa.out.size (fun q hq he => by have := HGa.out; omega))
          have ABa : Hid (w.heap.size < ga) := by show _ < _; have := KBw5.out.lt; have := HGa.out; omega
          have Ew7 : Hid (Below w.heap.size w w7) := Ew5.out.trans (hb.mono Ew5.out.size)
          have KBw7 : Hid (Bk w7 w.heap.size bx) := KBw5.out.below hb
          clear Ew5 KBw5
          have Sw7 : Hid (SSt w7 gs (wu (syncP 2 7) (syncP 1 6) true m)) := Sw5.out.below hb
          clear Sw5
          have Kaw7 : Hid (Bk w7 ga [.int .i64 (wu (syncP 2 7) (syncP 1 6) true m).y.k, vu32 (wu (syncP 2 7) (syncP 1 6) true m).y.e, vu32 (wu (syncP 2 7) (syncP 1 6) true m).y.q, .slice Aw5 (wu (syncP 2 7) (syncP 1 6) true m).y.ps.length cw5]) := hbk
          have Kaw7 : Hid (Bk w7 ga [.int .i64 (wu (syncP 2 7) (syncP 1 6) true m).y.k, vu32 (wu (syncP 2 7) (syncP 1 6) true m).y.e, vu32 (wu (syncP 2 7) (syncP 1 6) true m).y.q, .slice Aw5 (wu (syncP 2 7) (syncP 1 6) true m).y.ps.length cw5]) := hbk
          clear hbk hb hc KZa HQa HGa
          have ca2 : w7.cell? ⟨ga, 2, none⟩ = some (.int .u32 6) := Kaw7.out.cell (j := 2) rfl
          go_wp2_with fail
          refine (sndStop_calls w7 gs (wu (syncP 2 7) (syncP 1 6) true m) true Sw7.out).mono ?_
          intro en w8 hp
          rw [wsT2] at hp
          obtain ⟨rfl, hst, hch⟩ := hp
          have Sw8 : Hid (SSt w8 gs (wst 3)) := hst
          have Ew8 : Hid (Below w.heap.size w w8) := Ew7.out.trans (hch.below Ew7.out.size (fun q hq he => by have := GS.out; omega))
          have HCH := Lib.hid hch
          clear hst hch Sw7 Ew7
          have KBw8 : Hid (Bk w8 w.heap.size bx) := KBw7.out.chg HCH.out (fun h => NA.out h)
          clear KBw7
          clear HCH
          go_wp2_with fail
          refine (sndMissed_calls w8 gs (wst 3) Sw8.out (by decide)).mono ?_
          intro en w9 hp
          rw [show (wst 3).missed = wst 3 from rfl, show (wst 3).missedN = 0 from rfl] at hp
          obtain ⟨rfl, hst, hch⟩ := hp
          have Sw9 : Hid (SSt w9 gs (wst 3)) := hst
          have Ew9 : Hid (Below w.heap.size w w9) := Ew8.out.trans (hch.below Ew8.out.size (fun q hq he => by have := GS.out; omega))
          have HCH := Lib.hid hch
          clear hst hch Sw8 Ew8
          have KBw9 : Hid (Bk w9 w.heap.size bx) := KBw8.out.chg HCH.out (fun h => NA.out h)
          clear KBw8
          clear HCH
          go_wp2_with fail
          refine (sndStop_calls w9 gs (wst 3) true Sw9.out).mono ?_
          intro en w10 hp
          rw [show (wst 3).stop true = wst 3 from rfl] at hp
          obtain ⟨rfl, hst, hch⟩ := hp
          have Sw10 : Hid (SSt w10 gs (wst 3)) := hst
          have Ew10 : Hid (Below w.heap.size w w10) := Ew9.out.trans (hch.below Ew9.out.size (fun q hq he => by have := GS.out; omega))
          have HCH := Lib.hid hch
          clear hst hch Sw9 Ew9
          have KBw10 : Hid (Bk w10 w.heap.size bx) := KBw9.out.chg HCH.out (fun h => NA.out h)
          clear KBw9
          clear HCH
          go_wp2_with fail
          go_roundw
          case rel => exact ⟨3, _, rfl, by decide, by go_num, Sw10.out, KBw10.out, Ew10.out⟩
          case measure => simp [intOf]
    · have Su : Hid (SSt u gs (wst 3)) := hs
      have KBu : Hid (Bk u w.heap.size bx) := hb
      have Eu : Hid (Below w.heap.size w u) := he
      clear hs hb he
      go_wp2_with fail
      refine (sndEarly_calls u gs (wst 3) Su.out).mono ?_
      rintro en w3 ⟨Aw3, cw3, rfl, hrn, hncw3, hmcw3, hb⟩
      have Ew3 : Hid (Below w.heap.size w w3) := Eu.out.trans (hb.mono Eu.out.size)
      have KBw3 : Hid (Bk w3 w.heap.size bx) := KBu.out.below hb
      clear Eu KBu
      have Sw3 : Hid (SSt w3 gs (wst 3)) := Su.out.below hb
      clear Su
      have RNw3 := Lib.hid hrn
      clear hb hrn
      go_wp2_with (refine wpList_al rfl 25 rfl zPk (by kernel_rfl) ?_)
      intro ga w4 hg hb hc hs
      have HQa : Hid (Below w3.heap.size w3 w4) := hc.below (Nat.le_refl _) (fun _ _ => id)
      have HGa : Hid (ga = w3.heap.size) := hg
      have KZa := Lib.hid hb
      clear hg hb hc hs
      go_wp2_with (refine wpList_st rfl 25 (.tmp 8) (.tmp 77) rfl ga 0 4 zPk [.int .i64 (wst 3).y.k, vu32 (wst 3).y.e, vu32 (wst 3).y.q, .slice Aw3 (wst 3).y.ps.length cw3] rfl rfl KZa.out (by kernel_rfl) rfl (by decide) (one_pkt _ _ _ _ _ _) ?_)
      intro w5 hbk hc
      rw [splice_whole zPk [.int .i64 (wst 3).y.k, vu32 (wst 3).y.e, vu32 (wst 3).y.q, .slice Aw3 (wst 3).y.ps.length cw3] rfl] at hbk
      have hb : Below w3.heap.size w3 w5 := HQa.out.trans (hc.below HQa.out.size (fun q hq he => by have := HGa.out; omega))
      have ABa : Hid (w.heap.size < ga) := by show _ < _; have := KBw3.out.lt; have := HGa.out; omega
      have Ew5 : Hid (Below w.heap.size w w5) := Ew3.out.trans (hb.mono Ew3.out.size)
      have KBw5 : Hid (Bk w5 w.heap.size bx) := KBw3.out.below hb
      clear Ew3 KBw3
      have Sw5 : Hid (SSt w5 gs (wst 3)) := Sw3.out.below hb
      clear Sw3
      have Kaw5 : Hid (Bk w5 ga [.int .i64 (wst 3).y.k, vu32 (wst 3).y.e, vu32 (wst 3).y.q, .slice Aw3 (wst 3).y.ps.length cw3]) := hbk
      have Kaw5 : Hid (Bk w5 ga [.int .i64 (wst 3).y.k, vu32 (wst 3).y.e, vu32 (wst 3).y.q, .slice Aw3 (wst 3).y.ps.length cw3]) := hbk
      clear hbk hb hc KZa HQa HGa
      have ca2 : w5.cell? ⟨ga, 2, none⟩ = some (.int .u32 7) := Kaw5.out.cell (j := 2) rfl
      go_wp2_with fail
      refine (wakes24_calls w5).mono ?_
      rintro en wz ⟨rfl, hb⟩
      have EZ : Hid (Below w.heap.size w wz) := Ew5.out.trans (hb.mono Ew5.out.size)
      clear hb
      go_wp2_with fail
      (try simp only [Exit.inBlock, Exit.then])
      go_ret
      exact ⟨rfl, EZ.out⟩
end Go.Proofs.Ytjkkbkjejcjfiaa
