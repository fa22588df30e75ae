
/- The walk of SenderOne. -/
import Derived.Test.YtjkkbkjejcjfiaaWakes24
import Derived.Test.YtjkkbkjejcjfiaaPkOpen
namespace Go.Proofs.Ytjkkbkjejcjfiaa
open Go.RowKit
set_option linter.unusedVariables false
set_option linter.unusedSimpArgs false

theorem SSt.new1 {w : World} {g g' : Nat} (h : Bk w g' (sndC .no none 0 0 none 0 0)) (e : g' = g) : SSt w g .no := e ▸ SSt.new h
def so (a : Nat) (q : UInt32) (T : Bool) : SV := ⟨true, syncP a q, false, .no, 0, T⟩
def soS (a : Nat) (q : UInt32) : SV := ⟨false, .no, true, syncP a q, 0, false⟩
def soB (b a : Nat) (q2 q : UInt32) (m : Nat) : SV := ⟨true, syncP b q2, true, syncP a q, m, false⟩
theorem hit12 : ∀ a m : Fin 12, decide (bitsN [⟨(a.val : Int), List.replicate 32 0⟩] &&& bitsN [⟨(m.val : Int), List.replicate 32 0⟩] ≠ 0) = decide (m.val = a.val) := by decide +kernel
theorem so_touch {a m : Nat} (ha : a < 12) (hm : m < 12) (q : UInt32) (T : Bool) : (so a q T).touch [⟨(m : Int), List.replicate 32 0⟩] = so a q (T || decide (m = a)) := by
  have h : hitB (so a q T) [⟨(m : Int), List.replicate 32 0⟩] = decide (m = a) := by
    rw [hitB]
    show (true && decide ((2 : Int) = 2) && decide (bitsN [⟨(a : Int), List.replicate 32 0⟩] &&& bitsN [⟨(m : Int), List.replicate 32 0⟩] ≠ 0)) = _
    rw [hit12 ⟨a, ha⟩ ⟨m, hm⟩]
    rfl
  rw [SV.touch, h]
  by_cases hma : m = a
  · rw [if_pos (by simp [hma]), decide_eq_true hma, Bool.or_true]; rfl
  · rw [if_neg (by simp [hma]), decide_eq_false hma, Bool.or_false]
theorem so1 {a : Nat} (ha : a < 12) (q : UInt32) : SV.no.send (syncP a q) = so a q false := (send_in (by omega) rfl).2
theorem so1e {a : Nat} (ha : a < 12) (q : UInt32) : SV.no.sendE (syncP a q) = 0 := (send_in (by omega) rfl).1
theorem so2 {b : Nat} (hb : b < 12) (a : Nat) (q q2 : UInt32) : (so a q false).send (syncP b q2) = so a q false := (send_out (by omega) rfl).2
theorem so2e {b : Nat} (hb : b < 12) (a : Nat) (q q2 : UInt32) : (so a q false).sendE (syncP b q2) = 19 := (send_out (by omega) rfl).1
theorem so3 (a : Nat) (q : UInt32) (T : Bool) : (so a q T).acked ⟨4, 1, q, []⟩ = so a q T := by rw [SV.acked, if_neg]; simp [SV.ackB, so]
theorem so3b (a : Nat) (q : UInt32) (T : Bool) : (so a q T).ackB ⟨4, 1, q, []⟩ = false := by simp [SV.ackB, so]
theorem so4 (a : Nat) (q : UInt32) (T : Bool) : (so a q T).acked ⟨3, 2, q, []⟩ = so a q T := by rw [SV.acked, if_neg]; simp [SV.ackB, so, syncP]
theorem so4b (a : Nat) (q : UInt32) (T : Bool) : (so a q T).ackB ⟨3, 2, q, []⟩ = false := by simp [SV.ackB, so, syncP]
theorem so5b (a : Nat) (q : UInt32) (T : Bool) : (so a q T).ackB ⟨3, 1, q, []⟩ = true := by simp [SV.ackB, so, syncP]
theorem so5 (a : Nat) (q : UInt32) (T : Bool) : (so a q T).acked ⟨3, 1, q, []⟩ = soS a q := by rw [SV.acked, if_pos (so5b a q T)]; rfl
theorem so6b (a : Nat) (q : UInt32) : (soS a q).ackB ⟨3, 1, q, []⟩ = false := rfl
theorem so6 (a : Nat) (q : UInt32) : (soS a q).acked ⟨3, 1, q, []⟩ = soS a q := by rw [SV.acked, if_neg]; rw [so6b]; decide
theorem so7 {b : Nat} (hb : b < 12) (a : Nat) (q q2 : UInt32) : (soS a q).send (syncP b q2) = soB b a q2 q 0 := (send_in (by omega) rfl).2
theorem so7e {b : Nat} (hb : b < 12) (a : Nat) (q q2 : UInt32) : (soS a q).sendE (syncP b q2) = 0 := (send_in (by omega) rfl).1
def SoRel (w : World) (g a : Nat) (q : UInt32) (n : Nat) (v10 v11 : Value) (wr : World) : Prop := ∃ (i : Nat) (T : Bool) (u : World), u = wr ∧ i ≤ n ∧ v11 = .int .i64 i ∧ v10 = .bool T ∧ SSt u g (so a q T) ∧ Below w.heap.size w u
set_option maxRecDepth 100000 in
set_option maxHeartbeats 16000000 in
theorem senderOne_calls (x y : UInt8) (q : UInt32) (A : Option Addr) (n c : Nat) (l : List UInt8) (w : World) (hl : l.length = n) (hcap : n ≤ c) (hmax : c ≤ 9223372036854775807) (hr : Rd w A (bts l)) : Calls Try.prog 7 #[.agg #[vu8 x, vu8 y], vu32 q, .slice A n c] w fun e w' => e = .returned (.bool true) ∧ Below w.heap.size w w' := by
  subst hl
  have HR := Lib.hid hr
  clear hr
  obtain ⟨bx, hbx⟩ : ∃ bx, [vu8 x, vu8 y] = bx := ⟨_, rfl⟩
  have D0 : Hid (bx[0]? = some (vu8 x)) := by rw [← hbx]; exact (rfl : _ = _)
  have D1 : Hid (bx[1]? = some (vu8 y)) := by rw [← hbx]; exact (rfl : _ = _)
  rw [show (#[vu8 x, vu8 y] : Array Value) = bx.toArray by rw [← hbx]]
  clear hbx
  obtain ⟨a, ha, hA⟩ : ∃ a : Nat, a < 12 ∧ (wrap64 (x.toNat : Int)).tmod 12 = (a : Int) := ⟨x.toNat % 12, Nat.mod_lt _ (by decide), by have := x.toNat_lt; rw [show wrap64 (x.toNat : Int) = x.toNat by unfold wrap64; omega, Int.tmod_eq_emod_of_nonneg (by omega)]; omega⟩
  obtain ⟨b, hb, hB⟩ : ∃ b : Nat, b < 12 ∧ (wrap64 (y.toNat : Int)).tmod 12 = (b : Int) := ⟨y.toNat % 12, Nat.mod_lt _ (by decide), by have := y.toNat_lt; rw [show wrap64 (y.toNat : Int) = y.toNat by unfold wrap64; omega, Int.tmod_eq_emod_of_nonneg (by omega)]; omega⟩
  obtain ⟨q2, hq2⟩ : ∃ q2 : UInt32, Value.int .u32 (((q.toNat : Int) + 1) % 4294967296) = vu32 q2 := ⟨q + 1, by rw [vu32, UInt32.toNat_add]; congr 1⟩
  have HA12 := Lib.hid ha
  have HB12 := Lib.hid hb
  clear ha hb
  go_enter Try.func7, Try.ntmps7
  by_cases h50 : l.length ≤ 50
  case neg =>
    have h50i : (50 : Int) < (l.length : Int) := by omega
    go_wp2_with fail
    refine calls_at fun w1 hw => ?_
    have Ew1 : Hid (Below w.heap.size w w1) := by rw [← hw]; exact (Below.refl _ _).alloc (Nat.le_refl _) _
    clear hw
    refine (wakes24_calls w1).mono ?_
    rintro en wz ⟨rfl, hb⟩
    have EZ : Hid (Below w.heap.size w wz) := Ew1.out.trans (hb.mono Ew1.out.size)
    clear hb
    go_wp2_with fail
    (try simp only [Exit.inBlock, Exit.then])
    go_ret
    exact ⟨rfl, EZ.out⟩
  have h50i : ¬ (50 : Int) < (l.length : Int) := by omega
  have HL50 := Lib.hid h50
  clear h50
  go_wp2_with (refine wpList_bld rfl 57 [] rfl (sndC .no none 0 0 none 0 0) [] (sndC .no none 0 0 none 0 0) (by kernel_rfl) (by kernel_rfl) trivial rfl ?_)
  refine code_at fun w1 hw => ?_
  have Ew1 : Hid (Below w.heap.size w w1) := by rw [← hw]; exact ((Below.refl _ _).alloc (Nat.le_refl _) _).alloc (by simp) _
  have KBw1 : Hid (Bk w1 w.heap.size bx) := by rw [← hw]; exact (Bk.new w bx _).below ((Below.refl _ _).alloc (Nat.le_refl _) _)
  obtain ⟨gs, hgs⟩ : ∃ gs, w.heap.size + 1 = gs := ⟨_, rfl⟩
  have Sw1 : Hid (SSt w1 gs .no) := by rw [← hw]; exact SSt.new1 (Bk.new _ _ _) (by simpa using hgs)
  have GS : Hid (w.heap.size ≤ gs) := by show _ ≤ _; omega
  rw [hgs]
  clear hw hgs h50i
  apply wp_region_rel 10 (Chg NoS) [(Veq _), (Veq _), (Veq _), (Veq _), (Veq _), (Veq _), (Veq _), (Veq _), (Veq _), (Veq _)] [[], [0], [1], [2], [], [4], [5], [6], [3], [7]] [31, 32, 33, 34, 35, 36, 37, 38, 8, 9] (by kernel_rfl) (by kernel_rfl) rfl rfl rfl Chg.refl (fun _ _ _ => Chg.trans) ⟨Veq.lasts, Veq.lasts, Veq.lasts, Veq.lasts, Veq.lasts, Veq.lasts, Veq.lasts, Veq.lasts, Veq.lasts, Veq.lasts, trivial⟩ ?aops ?afin
  case aops =>
    refine ⟨?ao0, ?ao1, ?ao2, ?ao3, ?ao4, ?ao5, ?ao6, ?ao7, ?ao8, ?ao9, trivial⟩
    case ao0 =>
      intro a wx hE hin
      have i3 : a.eval (.tmp 3) = .pointer (some ⟨w.heap.size, 0, none⟩) := hin 3 rfl
      clear hin
      have hcst : ∀ v, a.eval (.const v) = v := fun _ => rfl
      have hfnc : ∀ f, a.eval (.func f) = .func (.func f) #[] #[] := fun _ => rfl
      refine want_none rfl ?_
      unfold Oper.wp
      generalize a.eval = ρ at *
      go_simp
      try go_bits
      first | exact rel_val (Chg.refl _) | (go_simp; exact rel_val (Chg.refl _))
    case ao1 =>
      rintro a wx hE hin (h0 : a.eval (.tmp 31) = _)
      clear hin
      have hcst : ∀ v, a.eval (.const v) = v := fun _ => rfl
      have hfnc : ∀ f, a.eval (.func f) = .func (.func f) #[] #[] := fun _ => rfl
      refine want_none rfl ?_
      unfold Oper.wp
      generalize a.eval = ρ at *
      have c := Bk.cell (KBw1.out.drew.chg hE id) D0.out
      go_simp
      try go_bits
      first | exact rel_val (Chg.refl _) | (go_simp; exact rel_val (Chg.refl _))
    case ao2 =>
      rintro a wx hE hin (h1 : a.eval (.tmp 32) = _)
      clear hin
      have hcst : ∀ v, a.eval (.const v) = v := fun _ => rfl
      have hfnc : ∀ f, a.eval (.func f) = .func (.func f) #[] #[] := fun _ => rfl
      refine want_none rfl ?_
      unfold Oper.wp
      generalize a.eval = ρ at *
      go_simp
      try go_bits
      first | exact rel_val (Chg.refl _) | (go_simp; exact rel_val (Chg.refl _))
    case ao3 =>
      rintro a wx hE hin (h2 : a.eval (.tmp 33) = _)
      clear hin
      have hcst : ∀ v, a.eval (.const v) = v := fun _ => rfl
      have hfnc : ∀ f, a.eval (.func f) = .func (.func f) #[] #[] := fun _ => rfl
      refine want_none rfl ?_
      unfold Oper.wp
      generalize a.eval = ρ at *
      go_simp
      try go_bits
      first | exact rel_val (Chg.refl _) | (go_simp; exact rel_val (Chg.refl _))
    case ao4 =>
      intro a wx hE hin
      have i3 : a.eval (.tmp 3) = .pointer (some ⟨w.heap.size, 0, none⟩) := hin 3 rfl
      clear hin
      have hcst : ∀ v, a.eval (.const v) = v := fun _ => rfl
      have hfnc : ∀ f, a.eval (.func f) = .func (.func f) #[] #[] := fun _ => rfl
      refine want_none rfl ?_
      unfold Oper.wp
      generalize a.eval = ρ at *
      go_simp
      try go_bits
      first | exact rel_val (Chg.refl _) | (go_simp; exact rel_val (Chg.refl _))
    case ao5 =>
      rintro a wx hE hin (h4 : a.eval (.tmp 35) = _)
      clear hin
      have hcst : ∀ v, a.eval (.const v) = v := fun _ => rfl
      have hfnc : ∀ f, a.eval (.func f) = .func (.func f) #[] #[] := fun _ => rfl
      refine want_none rfl ?_
      unfold Oper.wp
      generalize a.eval = ρ at *
      have c := Bk.cell (KBw1.out.drew.chg hE id) D1.out
      go_simp
      try go_bits
      first | exact rel_val (Chg.refl _) | (go_simp; exact rel_val (Chg.refl _))
    case ao6 =>
      rintro a wx hE hin (h5 : a.eval (.tmp 36) = _)
      clear hin
      have hcst : ∀ v, a.eval (.const v) = v := fun _ => rfl
      have hfnc : ∀ f, a.eval (.func f) = .func (.func f) #[] #[] := fun _ => rfl
      refine want_none rfl ?_
      unfold Oper.wp
      generalize a.eval = ρ at *
      go_simp
      try go_bits
      first | exact rel_val (Chg.refl _) | (go_simp; exact rel_val (Chg.refl _))
    case ao7 =>
      rintro a wx hE hin (h6 : a.eval (.tmp 37) = _)
      clear hin
      have hcst : ∀ v, a.eval (.const v) = v := fun _ => rfl
      have hfnc : ∀ f, a.eval (.func f) = .func (.func f) #[] #[] := fun _ => rfl
      refine want_none rfl ?_
      unfold Oper.wp
      generalize a.eval = ρ at *
      go_simp
      try go_bits
      first | exact rel_val (Chg.refl _) | (go_simp; exact rel_val (Chg.refl _))
    case ao8 =>
      rintro a wx hE hin (h3 : a.eval (.tmp 34) = _)
      clear hin
      have hcst : ∀ v, a.eval (.const v) = v := fun _ => rfl
      have hfnc : ∀ f, a.eval (.func f) = .func (.func f) #[] #[] := fun _ => rfl
      refine want_none rfl ?_
      unfold Oper.wp
      generalize a.eval = ρ at *
      go_simp
      try go_bits
      first | exact rel_val (Chg.refl _) | (go_simp; exact rel_val (Chg.refl _))
    case ao9 =>
      rintro a wx hE hin (h7 : a.eval (.tmp 38) = _)
      clear hin
      have hcst : ∀ v, a.eval (.const v) = v := fun _ => rfl
      have hfnc : ∀ f, a.eval (.func f) = .func (.func f) #[] #[] := fun _ => rfl
      refine want_none rfl ?_
      unfold Oper.wp
      generalize a.eval = ρ at *
      go_simp
      try go_bits
      first | exact rel_val (Chg.refl _) | (go_simp; exact rel_val (Chg.refl _))
  case afin =>
    intro wx hE
    rintro _ rfl _ rfl _ rfl _ rfl _ rfl _ rfl _ rfl _ rfl _ rfl _ rfl
    simp only [FinOk, List.take_succ_cons, List.take_zero, List.take_nil, List.drop_succ_cons, List.drop_zero, List.drop_nil, Act.put, List.setIfInBounds_toArray, List.set_cons_succ, List.set_cons_zero]
    have Ewx : Hid (Below w.heap.size w wx) := Ew1.out.trans (hE.undrew.below Ew1.out.size (fun _ _ => id))
    have Swx : Hid (SSt wx gs .no) := Sw1.out.chgN hE.undrew
    clear hE hA hB Sw1 Ew1 KBw1
    go_wp2_with fail
    refine (sync_calls (a : Int) q wx).mono ?_
    rintro en z1 ⟨Az1, rfl, hr, hb⟩
    have Ez1 : Hid (Below w.heap.size w z1) := Ewx.out.trans (hb.mono Ewx.out.size)
    clear Ewx
    have Sz1 : Hid (SSt z1 gs .no) := Swx.out.below hb
    clear Swx
    have hrz1 : Rd z1 (some Az1) ((syncP (a : Int) q).ps.flatMap putC) := hr
    have RSz1 := Lib.hid hrz1
    clear hb hr hrz1
    go_wp2_with fail
    refine (sndSend_calls z1 gs .no Sz1.out (syncP (a : Int) q) (some Az1) 1 1 rfl (by decide) RSz1.out (syncP_ok _ _ (by have := HA12.out; omega))).mono ?_
    intro en z2 hp
    rw [so1 HA12.out, so1e HA12.out] at hp
    obtain ⟨rfl, hst, hch⟩ := hp
    have Sz2 : Hid (SSt z2 gs (so a q false)) := hst
    have Ez2 : Hid (Below w.heap.size w z2) := Ez1.out.trans (hch.below Ez1.out.size (fun q hq he => by have := GS.out; omega))
    have HCH := Lib.hid hch
    clear hst hch Sz1 Ez1
    clear HCH
    go_wp2_with fail
    refine (sync_calls (b : Int) q2 z2).mono ?_
    rintro en z3 ⟨Az3, rfl, hr, hb⟩
    have Ez3 : Hid (Below w.heap.size w z3) := Ez2.out.trans (hb.mono Ez2.out.size)
    clear Ez2
    have Sz3 : Hid (SSt z3 gs (so a q false)) := Sz2.out.below hb
    clear Sz2
    have hrz3 : Rd z3 (some Az3) ((syncP (b : Int) q2).ps.flatMap putC) := hr
    have RSz3 := Lib.hid hrz3
    clear hb hr hrz3
    go_wp2_with fail
    refine (sndSend_calls z3 gs (so a q false) Sz3.out (syncP (b : Int) q2) (some Az3) 1 1 rfl (by decide) RSz3.out (syncP_ok _ _ (by have := HB12.out; omega))).mono ?_
    intro en z4 hp
    rw [so2 HB12.out, so2e HB12.out] at hp
    obtain ⟨rfl, hst, hch⟩ := hp
    have Sz4 : Hid (SSt z4 gs (so a q false)) := hst
    have Ez4 : Hid (Below w.heap.size w z4) := Ez3.out.trans (hch.below Ez3.out.size (fun q hq he => by have := GS.out; omega))
    have HCH := Lib.hid hch
    clear hst hch Sz3 Ez3
    clear HCH
    go_wp2_with fail
    go_loopw [10, 11] (fun v10 v11 wr => SoRel w gs a q l.length v10 v11 wr) (fun _ v11 _ => l.length - (intOf v11).toNat)
    case atStart => exact ⟨0, false, _, rfl, Nat.zero_le _, rfl, rfl, Sz4.out, Ez4.out⟩
    case round =>
      obtain ⟨i, T, u, rfl, hi, rfl, rfl, hs, he⟩ := hrel
      have Su : Hid (SSt u gs (so a q T)) := hs
      have Eu : Hid (Below w.heap.size w u) := he
      clear hs he Sz4 Ez4
      by_cases hlt : i < l.length
      · have hlti : (i : Int) < (l.length : Int) := by omega
        have HLT := Lib.hid hlt
        obtain ⟨ad, rfl, hc0⟩ := HR.out.at_ i (by simpa using hlt)
        obtain ⟨ad2, e2, cx⟩ := HR.out.below Eu.out i _ (bts_get hlt)
        injection e2 with e2
        subst e2
        obtain ⟨z, hz⟩ : ∃ z, l.getD i 0 = z := ⟨_, rfl⟩
        rw [hz] at cx
        obtain ⟨m, hm, hM⟩ : ∃ m : Nat, m < 12 ∧ (wrap64 (z.toNat : Int)).tmod 12 = (m : Int) := ⟨z.toNat % 12, Nat.mod_lt _ (by decide), by have := z.toNat_lt; rw [show wrap64 (z.toNat : Int) = z.toNat by unfold wrap64; omega, Int.tmod_eq_emod_of_nonneg (by omega)]; omega⟩
        have HM12 := Lib.hid hm
        clear hz hm hi hlt hc0
        go_wp2_with (first
          | (refine wpList_bld rfl 48 [(0, .tmp 67)] rfl (.int .i64 0 :: bts (List.replicate 32 0)) [(0, [.int .i64 (m : Int)])] (putC ⟨(m : Int), List.replicate 32 0⟩) (by kernel_rfl) (by kernel_rfl) ⟨rfl, ⟨1, rfl, by kernel_rfl, by decide⟩, trivial⟩ rfl ?_)
          | (refine wpList_bs1 rfl 23 48 (.tmp 68) rfl zPut 33 (putC ⟨(m : Int), List.replicate 32 0⟩) Try.underlying23 infoPut rfl (by decide) (by decide) rfl rfl ?_))
        intro gt z5 hg hbk hc
        have hb : Below u.heap.size u z5 := hc.below (Nat.le_refl _) (fun _ _ => id)
        have Ez5 : Hid (Below w.heap.size w z5) := Eu.out.trans (hb.mono Eu.out.size)
        clear Eu
        have Sz5 : Hid (SSt z5 gs (so a q T)) := Su.out.below hb
        clear Su
        have hrt : Rd z5 (some ⟨gt, 0, none⟩) ([(⟨(m : Int), List.replicate 32 0⟩ : PutV)].flatMap putC) := by have h := hbk.rd; simpa using h
        have RTz5 := Lib.hid hrt
        clear hg hbk hc hb hrt
        go_wp2_with fail
        refine (sndTouch_calls z5 gs (so a q T) Sz5.out [⟨(m : Int), List.replicate 32 0⟩] (some ⟨gt, 0, none⟩) 1 1 rfl (by decide) RTz5.out (syncP_ok _ 0 (by have := HM12.out; omega))).mono ?_
        intro en z6 hp
        rw [so_touch HA12.out HM12.out] at hp
        obtain ⟨rfl, hst, hch⟩ := hp
        have Sz6 : Hid (SSt z6 gs (so a q (T || decide (m = a)))) := hst
        have Ez6 : Hid (Below w.heap.size w z6) := Ez5.out.trans (hch.below Ez5.out.size (fun q hq he => by have := GS.out; omega))
        have HCH := Lib.hid hch
        clear hst hch Sz5 Ez5
        clear HCH
        clear cx hM
        cases T with
        | true =>
            have SF : Hid (SSt z6 gs (so a q true)) := by have h := Sz6.out; rwa [show (true || decide (m = a)) = true from by simp] at h
            clear Sz6
            go_wp2_with fail
            go_roundw
            case rel => exact ⟨i + 1, true, _, rfl, HLT.out, by go_num, rfl, SF.out, Ez6.out⟩
            case measure => simp [intOf]; have := HLT.out; omega
        | false =>
          by_cases hma : m = a
          · have hmi : (m : Int) = (a : Int) := by omega
            have SF : Hid (SSt z6 gs (so a q true)) := by have h := Sz6.out; rwa [show (false || decide (m = a)) = true from by simp [hma]] at h
            clear Sz6 hma
            go_wp2_with fail
            go_roundw
            case rel => exact ⟨i + 1, true, _, rfl, HLT.out, by go_num, rfl, SF.out, Ez6.out⟩
            case measure => simp [intOf]; have := HLT.out; omega
          · have hmi : ((m : Int) == (a : Int)) = false := by rw [beq_eq_false_iff_ne]; omega
            have SF : Hid (SSt z6 gs (so a q false)) := by have h := Sz6.out; rwa [show (false || decide (m = a)) = false from by simp [hma]] at h
            clear Sz6 hma
            go_wp2_with fail
            go_roundw
            case rel => exact ⟨i + 1, false, _, rfl, HLT.out, by go_num, rfl, SF.out, Ez6.out⟩
            case measure => simp [intOf]; have := HLT.out; omega
      · obtain rfl : i = l.length := by omega
        have hlti : ¬ ((l.length : Int) < (l.length : Int)) := by omega
        clear hi hlt
        go_wp2_with (refine wpList_bld rfl 25 [(0, .const (.int .i64 4)), (1, .const (.int .u32 1)), (2, .tmp 79)] rfl zPk [(0, [.int .i64 4]), (1, [vu32 1]), (2, [vu32 q])] [.int .i64 4, vu32 1, vu32 q, .slice none 0 0] (by kernel_rfl) (by kernel_rfl) ⟨rfl, ⟨1, rfl, by kernel_rfl, by decide⟩, rfl, ⟨1, rfl, by kernel_rfl, by decide⟩, rfl, ⟨1, rfl, by kernel_rfl, by decide⟩, trivial⟩ rfl ?_)
        refine (sndAcked_calls u gs (so a q T) Su.out ⟨4, 1, q, []⟩ none 0 0).mono ?_
        intro en z5 hp
        rw [so3, so3b] at hp
        obtain ⟨rfl, hst, hch⟩ := hp
        have Sz5 : Hid (SSt z5 gs (so a q T)) := hst
        have Ez5 : Hid (Below w.heap.size w z5) := Eu.out.trans (hch.below Eu.out.size (fun q hq he => by have := GS.out; omega))
        have HCH := Lib.hid hch
        clear hst hch Su Eu
        clear HCH
        go_wp2_with (refine wpList_bld rfl 25 [(0, .const (.int .i64 3)), (1, .const (.int .u32 2)), (2, .tmp 87)] rfl zPk [(0, [.int .i64 3]), (1, [vu32 2]), (2, [vu32 q])] [.int .i64 3, vu32 2, vu32 q, .slice none 0 0] (by kernel_rfl) (by kernel_rfl) ⟨rfl, ⟨1, rfl, by kernel_rfl, by decide⟩, rfl, ⟨1, rfl, by kernel_rfl, by decide⟩, rfl, ⟨1, rfl, by kernel_rfl, by decide⟩, trivial⟩ rfl ?_)
        refine (sndAcked_calls z5 gs (so a q T) Sz5.out ⟨3, 2, q, []⟩ none 0 0).mono ?_
        intro en z6 hp
        rw [so4, so4b] at hp
        obtain ⟨rfl, hst, hch⟩ := hp
        have Sz6 : Hid (SSt z6 gs (so a q T)) := hst
        have Ez6 : Hid (Below w.heap.size w z6) := Ez5.out.trans (hch.below Ez5.out.size (fun q hq he => by have := GS.out; omega))
        have HCH := Lib.hid hch
        clear hst hch Sz5 Ez5
        clear HCH
        go_wp2_with (refine wpList_bld rfl 25 [(0, .const (.int .i64 3)), (1, .const (.int .u32 1)), (2, .tmp 95)] rfl zPk [(0, [.int .i64 3]), (1, [vu32 1]), (2, [vu32 q])] [.int .i64 3, vu32 1, vu32 q, .slice none 0 0] (by kernel_rfl) (by kernel_rfl) ⟨rfl, ⟨1, rfl, by kernel_rfl, by decide⟩, rfl, ⟨1, rfl, by kernel_rfl, by decide⟩, rfl, ⟨1, rfl, by kernel_rfl, by decide⟩, trivial⟩ rfl ?_)
        refine (sndAcked_calls z6 gs (so a q T) Sz6.out ⟨3, 1, q, []⟩ none 0 0).mono ?_
        intro en z7 hp
        rw [so5, so5b] at hp
        obtain ⟨rfl, hst, hch⟩ := hp
        have Sz7 : Hid (SSt z7 gs (soS a q)) := hst
        have Ez7 : Hid (Below w.heap.size w z7) := Ez6.out.trans (hch.below Ez6.out.size (fun q hq he => by have := GS.out; omega))
        have HCH := Lib.hid hch
        clear hst hch Sz6 Ez6
        clear HCH
        go_wp2_with (refine wpList_bld rfl 25 [(0, .const (.int .i64 3)), (1, .const (.int .u32 1)), (2, .tmp 102)] rfl zPk [(0, [.int .i64 3]), (1, [vu32 1]), (2, [vu32 q])] [.int .i64 3, vu32 1, vu32 q, .slice none 0 0] (by kernel_rfl) (by kernel_rfl) ⟨rfl, ⟨1, rfl, by kernel_rfl, by decide⟩, rfl, ⟨1, rfl, by kernel_rfl, by decide⟩, rfl, ⟨1, rfl, by kernel_rfl, by decide⟩, trivial⟩ rfl ?_)
        refine (sndAcked_calls z7 gs (soS a q) Sz7.out ⟨3, 1, q, []⟩ none 0 0).mono ?_
        intro en z8 hp
        rw [so6, so6b] at hp
        obtain ⟨rfl, hst, hch⟩ := hp
        have Sz8 : Hid (SSt z8 gs (soS a q)) := hst
        have Ez8 : Hid (Below w.heap.size w z8) := Ez7.out.trans (hch.below Ez7.out.size (fun q hq he => by have := GS.out; omega))
        have HCH := Lib.hid hch
        clear hst hch Sz7 Ez7
        clear HCH
        go_wp2_with fail
        refine (sndEarly_calls z8 gs (soS a q) Sz8.out).mono ?_
        rintro en z9 ⟨Az9, cz9, rfl, hrn, hncz9, hmcz9, hb⟩
        have Ez9 : Hid (Below w.heap.size w z9) := Ez8.out.trans (hb.mono Ez8.out.size)
        clear Ez8
        have Sz9 : Hid (SSt z9 gs (soS a q)) := Sz8.out.below hb
        clear Sz8
        have RNz9 := Lib.hid hrn
        clear hb hrn
        go_wp2_with (refine wpList_al rfl 25 rfl zPk (by kernel_rfl) ?_)
        intro ga z10 hg hb hc hs
        have HQa : Hid (Below z9.heap.size z9 z10) := hc.below (Nat.le_refl _) (fun _ _ => id)
        have HGa : Hid (ga = z9.heap.size) := hg
        have KZa := Lib.hid hb
        clear hg hb hc hs
        go_wp2_with (refine wpList_st rfl 25 (.tmp 21) (.tmp 110) rfl ga 0 4 zPk [.int .i64 (soS a q).y.k, vu32 (soS a q).y.e, vu32 (soS a q).y.q, .slice Az9 (soS a q).y.ps.length cz9] rfl rfl KZa.out (by kernel_rfl) rfl (by decide) (one_pkt _ _ _ _ _ _) ?_)
        intro z11 hbk hc
        rw [splice_whole zPk [.int .i64 (soS a q).y.k, vu32 (soS a q).y.e, vu32 (soS a q).y.q, .slice Az9 (soS a q).y.ps.length cz9] rfl] at hbk
        have hb : Below z9.heap.size z9 z11 := HQa.out.trans (hc.below HQa.out.size (fun q hq he => by have := HGa.out; omega))
        have Ez11 : Hid (Below w.heap.size w z11) := Ez9.out.trans (hb.mono Ez9.out.size)
        clear Ez9
        have Sz11 : Hid (SSt z11 gs (soS a q)) := Sz9.out.below hb
        clear Sz9
        have Kaz11 : Hid (Bk z11 ga [.int .i64 (soS a q).y.k, vu32 (soS a q).y.e, vu32 (soS a q).y.q, .slice Az9 (soS a q).y.ps.length cz9]) := hbk
        have Kaz11 : Hid (Bk z11 ga [.int .i64 (soS a q).y.k, vu32 (soS a q).y.e, vu32 (soS a q).y.q, .slice Az9 (soS a q).y.ps.length cz9]) := hbk
        clear hbk hb hc KZa HQa HGa
        have ca2 : z11.cell? ⟨ga, 2, none⟩ = some (vu32 q) := Kaz11.out.cell (j := 2) rfl
        go_wp2_with fail
        refine (sndMissed_calls z11 gs (soS a q) Sz11.out (show (0 : Nat) ≤ 1000000 by decide)).mono ?_
        intro en z12 hp
        rw [show (soS a q).missed = soS a q from rfl, show (soS a q).missedN = 0 from rfl] at hp
        obtain ⟨rfl, hst, hch⟩ := hp
        have Sz12 : Hid (SSt z12 gs (soS a q)) := hst
        have Ez12 : Hid (Below w.heap.size w z12) := Ez11.out.trans (hch.below Ez11.out.size (fun q hq he => by have := GS.out; omega))
        have HCH := Lib.hid hch
        clear hst hch Sz11 Ez11
        clear HCH
        go_wp2_with fail
        clear ca2
        refine (sync_calls (b : Int) q2 z12).mono ?_
        rintro en z13 ⟨Az13, rfl, hr, hb⟩
        have Ez13 : Hid (Below w.heap.size w z13) := Ez12.out.trans (hb.mono Ez12.out.size)
        clear Ez12
        have Sz13 : Hid (SSt z13 gs (soS a q)) := Sz12.out.below hb
        clear Sz12
        have hrz13 : Rd z13 (some Az13) ((syncP (b : Int) q2).ps.flatMap putC) := hr
        have RSz13 := Lib.hid hrz13
        clear hb hr hrz13
        go_wp2_with fail
        refine (sndSend_calls z13 gs (soS a q) Sz13.out (syncP (b : Int) q2) (some Az13) 1 1 rfl (by decide) RSz13.out (syncP_ok _ _ (by have := HB12.out; omega))).mono ?_
        intro en z14 hp
        rw [so7 HB12.out, so7e HB12.out] at hp
        obtain ⟨rfl, hst, hch⟩ := hp
        have Sz14 : Hid (SSt z14 gs (soB b a q2 q 0)) := hst
        have Ez14 : Hid (Below w.heap.size w z14) := Ez13.out.trans (hch.below Ez13.out.size (fun q hq he => by have := GS.out; omega))
        have HCH := Lib.hid hch
        clear hst hch Sz13 Ez13
        clear HCH
        go_wp2_with fail
        refine (sndMissed_calls z14 gs (soB b a q2 q 0) Sz14.out (show (0 : Nat) ≤ 1000000 by decide)).mono ?_
        intro en z15 hp
        rw [show (soB b a q2 q 0).missed = soB b a q2 q 1 from rfl, show (soB b a q2 q 0).missedN = 1 from rfl] at hp
        obtain ⟨rfl, hst, hch⟩ := hp
        have Sz15 : Hid (SSt z15 gs (soB b a q2 q 1)) := hst
        have Ez15 : Hid (Below w.heap.size w z15) := Ez14.out.trans (hch.below Ez14.out.size (fun q hq he => by have := GS.out; omega))
        have HCH := Lib.hid hch
        clear hst hch Sz14 Ez14
        clear HCH
        go_wp2_with fail
        refine (sndMissed_calls z15 gs (soB b a q2 q 1) Sz15.out (show (1 : Nat) ≤ 1000000 by decide)).mono ?_
        intro en z16 hp
        rw [show (soB b a q2 q 1).missed = soB b a q2 q 2 from rfl, show (soB b a q2 q 1).missedN = 2 from rfl] at hp
        obtain ⟨rfl, hst, hch⟩ := hp
        have Sz16 : Hid (SSt z16 gs (soB b a q2 q 2)) := hst
        have Ez16 : Hid (Below w.heap.size w z16) := Ez15.out.trans (hch.below Ez15.out.size (fun q hq he => by have := GS.out; omega))
        have HCH := Lib.hid hch
        clear hst hch Sz15 Ez15
        clear HCH
        go_wp2_with fail
        refine (sndStop_calls z16 gs (soB b a q2 q 2) false Sz16.out).mono ?_
        intro en z17 hp
        rw [show (soB b a q2 q 2).stop false = SV.no from rfl] at hp
        obtain ⟨rfl, hst, hch⟩ := hp
        have Sz17 : Hid (SSt z17 gs SV.no) := hst
        have Ez17 : Hid (Below w.heap.size w z17) := Ez16.out.trans (hch.below Ez16.out.size (fun q hq he => by have := GS.out; omega))
        have HCH := Lib.hid hch
        clear hst hch Sz16 Ez16
        clear HCH
        go_wp2_with fail
        refine (sndOut_calls z17 gs SV.no Sz17.out).mono ?_
        rintro en z18 ⟨Az18, cz18, rfl, hrn, hncz18, hmcz18, hb⟩
        have Ez18 : Hid (Below w.heap.size w z18) := Ez17.out.trans (hb.mono Ez17.out.size)
        clear Ez17
        have Sz18 : Hid (SSt z18 gs SV.no) := Sz17.out.below hb
        clear Sz17
        have RNz18 := Lib.hid hrn
        clear hb hrn
        go_wp2_with (refine wpList_al rfl 25 rfl zPk (by kernel_rfl) ?_)
        intro gb z19 hg hb hc hs
        have HQb : Hid (Below z18.heap.size z18 z19) := hc.below (Nat.le_refl _) (fun _ _ => id)
        have HGb : Hid (gb = z18.heap.size) := hg
        have KZb := Lib.hid hb
        clear hg hb hc hs
        go_wp2_with (refine wpList_st rfl 25 (.tmp 23) (.tmp 159) rfl gb 0 4 zPk [.int .i64 SV.no.o.k, vu32 SV.no.o.e, vu32 SV.no.o.q, .slice Az18 SV.no.o.ps.length cz18] rfl rfl KZb.out (by kernel_rfl) rfl (by decide) (one_pkt _ _ _ _ _ _) ?_)
        intro z20 hbk hc
        rw [splice_whole zPk [.int .i64 SV.no.o.k, vu32 SV.no.o.e, vu32 SV.no.o.q, .slice Az18 SV.no.o.ps.length cz18] rfl] at hbk
        have hb : Below z18.heap.size z18 z20 := HQb.out.trans (hc.below HQb.out.size (fun q hq he => by have := HGb.out; omega))
        have Ez20 : Hid (Below w.heap.size w z20) := Ez18.out.trans (hb.mono Ez18.out.size)
        clear Ez18
        have Sz20 : Hid (SSt z20 gs SV.no) := Sz18.out.below hb
        clear Sz18
        have Kbz20 : Hid (Bk z20 gb [.int .i64 SV.no.o.k, vu32 SV.no.o.e, vu32 SV.no.o.q, .slice Az18 SV.no.o.ps.length cz18]) := hbk
        have Kbz20 : Hid (Bk z20 gb [.int .i64 SV.no.o.k, vu32 SV.no.o.e, vu32 SV.no.o.q, .slice Az18 SV.no.o.ps.length cz18]) := hbk
        clear hbk hb hc KZb HQb HGb
        go_wp2_with fail
        refine (sndEarly_calls z20 gs SV.no Sz20.out).mono ?_
        rintro en z21 ⟨A9, c9, rfl, hrn9, hnc9, hmc9, hb⟩
        have Ez21 : Hid (Below w.heap.size w z21) := Ez20.out.trans (hb.mono Ez20.out.size)
        have Kbz21 : Hid (Bk z21 gb [.int .i64 SV.no.o.k, vu32 SV.no.o.e, vu32 SV.no.o.q, .slice Az18 SV.no.o.ps.length cz18]) := Kbz20.out.below hb
        clear Ez20 Kbz20
        have Sz21 : Hid (SSt z21 gs SV.no) := Sz20.out.below hb
        clear Sz20
        clear hb
        go_wp2_with fail
        refine (wakes24_calls z21).mono ?_
        rintro en wz ⟨rfl, hb⟩
        have EZ : Hid (Below w.heap.size w wz) := Ez21.out.trans (hb.mono Ez21.out.size)
        clear hb
        go_wp2_with fail
        (try simp only [Exit.inBlock, Exit.then])
        go_ret
        exact ⟨rfl, EZ.out⟩
end Go.Proofs.Ytjkkbkjejcjfiaa
