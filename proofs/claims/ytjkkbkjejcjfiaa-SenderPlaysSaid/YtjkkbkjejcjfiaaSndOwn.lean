
/- A sender's slots and packets; slot.own. -/
import Derived.Test.YtjkkbkjejcjfiaaPkEnc
import Derived.Test.YtjkkbkjejcjfiaaBits
namespace Go.Proofs.Ytjkkbkjejcjfiaa
open Go.RowKit
set_option linter.unusedVariables false
set_option linter.unusedSimpArgs false

/-! ### a new row, that lasts whatever older blocks do -/
def RdN (base : Nat) (w : World) (A : Option Addr) (ys : List Value) : Prop := ∀ (T : Nat → Prop) (w' : World), Chg T w w' → (∀ j, T j → j < base) → Rd w' A ys
theorem RdN.rd {base : Nat} {w : World} {A : Option Addr} {ys : List Value} (h : RdN base w A ys) : Rd w A ys := h NoS w (Chg.refl _) (fun _ hj => hj.elim)
theorem RdN.mono {base b2 : Nat} {w : World} {A : Option Addr} {ys : List Value} (h : RdN base w A ys) (hb : b2 ≤ base) : RdN b2 w A ys := fun T w' hc hT => h T w' hc (fun j hj => Nat.lt_of_lt_of_le (hT j hj) hb)
theorem RdN.chg {base : Nat} {w w1 : World} {A : Option Addr} {ys : List Value} (h : RdN base w A ys) {T : Nat → Prop} (hc : Chg T w w1) (hT : ∀ j, T j → j < base) : RdN base w1 A ys := fun T' w' hc' hT' =>
  h (fun j => T j ∨ T' j) w' ((hc.mono (fun _ hj => .inl hj)).trans (hc'.mono (fun _ hj => .inr hj))) (fun j hj => hj.elim (hT j) (hT' j))
theorem RdN.nil {base : Nat} {w : World} {A : Option Addr} : RdN base w A [] := fun _ _ _ _ => Rd.nil _ _
theorem RdN.own {base : Nat} {w : World} {e : TypeId} {size n : Nat} {v : Value} {A : Option Addr} {c : Nat} {ys : List Value} (h : w.ownsRow base e size (.slice A n c) n ys) : RdN base w A ys := fun T w' hc hT => by
  obtain ⟨A', c', hv, hr, _, _⟩ := own_rd (own_chg h hc (fun j hj ht => by have := (h.lt j hj).1; have := hT j ht; omega))
  injection hv with h1 _ _
  subst h1
  exact hr
def BkF (g : Nat) (vs : List Value) : Fact := fun w _ => Bk w g vs
theorem BkF.lasts {g : Nat} {vs : List Value} : ∀ w w' v, Chg NoS w w' → BkF g vs w v → BkF g vs w' v := fun _ _ _ h hb => hb.chg h id
theorem infoPut3 : (Try.prog.info? 48).map (fun i => (i.zero, i.size, i.bytes)) = some (some zPut, 33, 40) := by kernel_rfl
theorem puts_length {ps : List PutV} (h : PutsOk ps) : (ps.flatMap putC).length = ps.length * 33 := flat_length putC 33 ps (fun p hp => putC_len (h p hp).1)
theorem one_puts (ps : List PutV) : ∀ u ∈ ps.flatMap putC, u.oneCell' = true := by
  intro u hu
  obtain ⟨p, _, hp⟩ := List.mem_flatMap.1 hu
  exact one_put p u hp
/-- A packet. -/
structure PkV where
  k : Int
  e : UInt32
  q : UInt32
  ps : List PutV
def PkV.no : PkV := ⟨0, 0, 0, []⟩
def zPk : List Value := [.int .i64 0, vu32 0, vu32 0, .slice none 0 0]
theorem one_pkt (k : Int) (e q : UInt32) (A : Option Addr) (n c : Nat) : ∀ u ∈ [Value.int .i64 k, vu32 e, vu32 q, .slice A n c], u.oneCell' = true := by
  intro u hu
  simp only [List.mem_cons, List.not_mem_nil, or_false] at hu
  rcases hu with rfl | rfl | rfl | rfl <;> rfl
def slotC (p : PkV) (A : Option Addr) (n c : Nat) (b : Bool) : List Value := [.int .i64 p.k, vu32 p.e, vu32 p.q, .slice A n c, .bool b]
theorem one_slot (p : PkV) (A : Option Addr) (n c : Nat) (b : Bool) : ∀ u ∈ slotC p A n c b, u.oneCell' = true := by
  intro u hu
  simp only [slotC, List.mem_cons, List.not_mem_nil, or_false] at hu
  rcases hu with rfl | rfl | rfl | rfl | rfl <;> rfl
def SlotPost (w : World) (p : PkV) (n : Nat) (b : Bool) (e : Ending) (w' : World) : Prop := ∃ A c, e = .returned (.tuple #[.agg #[.int .i64 p.k, vu32 p.e, vu32 p.q, .slice A n c], .bool b]) ∧ RdN w.heap.size w' A (p.ps.flatMap putC) ∧ n ≤ c ∧ c ≤ 9223372036854775807 ∧ Below w.heap.size w w'
set_option maxRecDepth 100000 in
set_option maxHeartbeats 8000000 in
theorem slotOwn_calls (w : World) (p : PkV) (A : Option Addr) (n c : Nat) (b : Bool) (hl : p.ps.length = n) (hn : n ≤ 1000) (hr : Rd w A (p.ps.flatMap putC)) (ho : PutsOk p.ps) :
    Calls Try.prog 54 #[.agg (slotC p A n c b).toArray] w (SlotPost w p n b) := by
  have HR := Lib.hid hr
  have HO := Lib.hid ho
  have HL := Lib.hid hl
  clear hr ho hl
  obtain ⟨bx, hbx⟩ : ∃ bx, slotC p A n c b = bx := ⟨_, rfl⟩
  have D4 : Hid (bx[4]? = some (.bool b)) := by rw [← hbx]; exact (rfl : _ = _)
  have HBL : Hid (bx.length = 5) := by show _ = _; rw [← hbx]; rfl
  have HB4 : Hid ((bx.drop 0).take 4 = [.int .i64 p.k, vu32 p.e, vu32 p.q, .slice A n c]) := by show _ = _; rw [← hbx]; rfl
  rw [hbx]
  clear hbx
  go_enter Try.func54, Try.ntmps54
  go_wp2_with (refine wpList_al rfl 25 rfl zPk (by kernel_rfl) ?_)
  intro g2 w1 hg hb hc hs
  have L02 : Hid (w.heap.size < g2) := by show _ < _; rw [hg]; simp
  have K2 := Lib.hid hb
  have KX1 : Hid (Bk w1 w.heap.size bx) := (Bk.new w bx _).chg hc id
  have E1 : Hid (Below w.heap.size w w1) := ((Below.refl _ _).alloc (Nat.le_refl _) _).trans (hc.below (by simp) (fun _ _ => id))
  clear hg hb hc hs
  go_wp2_with (first
    | (refine wpList_ld rfl 25 (.tmp 5) rfl w.heap.size 0 4 bx [.int .i64 p.k, vu32 p.e, vu32 p.q, .slice A n c] rfl KX1.out (by kernel_rfl) (by kernel_rfl) (by rw [HBL.out]; decide) HB4.out ?_)
    | (refine wpList_al rfl 25 rfl zPk (by kernel_rfl) ?_))
  intro g4 w2 hg hb hc hs
  have L24 : Hid (g2 < g4) := by show _ < _; rw [hg]; exact K2.out.lt
  have L04 : Hid (w.heap.size < g4) := Nat.lt_trans L02.out L24.out
  have KZ := Lib.hid hb
  have K2a := Lib.hid (K2.out.chg hc id)
  have KX2 := Lib.hid (KX1.out.chg hc id)
  have E2 : Hid (Below w.heap.size w w2) := E1.out.trans (hc.below E1.out.size (fun _ _ => id))
  clear hg hb hc hs K2 KX1 E1
  go_wp2_with (refine wpList_st rfl 25 (.tmp 4) (.tmp 6) rfl g4 0 4 zPk [.int .i64 p.k, vu32 p.e, vu32 p.q, .slice A n c] rfl rfl KZ.out (by kernel_rfl) rfl (by decide) (one_pkt _ _ _ _ _ _) ?_)
  intro w3 hb hc
  rw [splice_whole zPk [.int .i64 p.k, vu32 p.e, vu32 p.q, .slice A n c] rfl] at hb
  have K4 := Lib.hid hb
  have K2c : Hid (Bk w3 g2 zPk) := K2a.out.chg hc (by have := L24.out; omega)
  have KX3 : Hid (Bk w3 w.heap.size bx) := KX2.out.chg hc (by have := L04.out; omega)
  have E3 : Hid (Below w.heap.size w w3) := E2.out.trans (hc.below E2.out.size (fun j hj he => by have := L04.out; omega))
  have c3 := K4.out.cell (j := 3) rfl
  clear hb hc KZ K2a KX2 E2
  go_wp2_with (at_builtin; refine wpList_append_rd rfl _ _ 23 rfl (g4 + 1) 48 zPut 33 40 Try.underlying23 infoPut3 rfl (by decide) (by decide) (.slice none 0 0) 0 [] rfl ⟨rfl, .inl ⟨rfl, rfl⟩⟩ A n c (p.ps.flatMap putC) rfl (by rw [puts_length HO.out, HL.out]) (HR.out.below E3.out) (one_puts _) (by omega) K4.out.lt ?_)
  intro v1 w4 hown hg hat
  have hown2 : w4.ownsRow (g4 + 1) 48 33 v1 n (p.ps.flatMap putC) := by simpa using hown
  have hch : Chg NoS w3 w4 := ⟨hg.os, hg.tape, hg.output, hg.size, fun k hk _ => hg.block k hk (fun h => by cases h)⟩
  obtain ⟨A2, c2, rfl, _, hc2, hm2⟩ := own_rd hown2
  have RN3 : Hid (RdN (g4 + 1) w4 A2 (p.ps.flatMap putC)) := RdN.own (v := .slice A2 n c2) hown2
  have HC2 := Lib.hid hc2
  have HM2 := Lib.hid hm2
  have K4a := Lib.hid (K4.out.chg hch id)
  have K2d := Lib.hid (K2c.out.chg hch id)
  have KX3a := Lib.hid (KX3.out.chg hch id)
  have E3a : Hid (Below w.heap.size w w4) := E3.out.trans (hch.below E3.out.size (fun _ _ => id))
  clear hown hown2 hg hat hch hc2 hm2 c3 K4 K2c KX3 E3
  go_wp2_with (refine wpList_st rfl 23 (.tmp 10) (.tmp 9) rfl g4 3 1 [.int .i64 p.k, vu32 p.e, vu32 p.q, .slice A n c] [.slice A2 n c2] rfl rfl K4a.out (by kernel_rfl) rfl (by simp) (fun u hu => by obtain rfl := List.mem_singleton.1 hu; rfl) ?_)
  intro w5 hb hc
  have K4b : Hid (Bk w5 g4 [.int .i64 p.k, vu32 p.e, vu32 p.q, .slice A2 n c2]) := hb
  have K2b : Hid (Bk w5 g2 zPk) := K2d.out.chg hc (by have := L24.out; omega)
  have KX4 : Hid (Bk w5 w.heap.size bx) := KX3a.out.chg hc (by have := L04.out; omega)
  have E4 : Hid (Below w.heap.size w w5) := E3a.out.trans (hc.below E3a.out.size (fun j hj he => by have := L04.out; omega))
  have RN4 : Hid (RdN (g4 + 1) w5 A2 (p.ps.flatMap putC)) := RN3.out.chg hc (fun j hj => by omega)
  clear hb hc K4a K2d KX3a E3a RN3
  go_wp2_with fail
  apply wp_region_relt 4 3 11 (BkF g2 [.int .i64 p.k, vu32 p.e, vu32 p.q, .slice A2 n c2]) (Chg (· = g2)) (Chg NoS) (Chg (· = g2)) [(Veq _), (Veq _), (Veq _), (fun _ _ => True)] [[], [], [1], [0]] [11, 12, 13] (by kernel_rfl) (by kernel_rfl) rfl rfl rfl (by kernel_rfl) Chg.refl (fun _ _ _ => Chg.trans) (fun _ _ _ => Chg.trans) (fun _ _ h => h.mono (fun _ hk => hk.elim)) (fun _ _ h => h) ⟨Veq.lasts, Veq.lasts, Veq.lasts, (fun _ _ _ _ _ => trivial), trivial⟩ ⟨Veq.lasts, Veq.lasts, Veq.lasts, (fun _ _ _ _ _ => trivial), trivial⟩ BkF.lasts (fun F h w v => by cases h; trivial) ?aops ?afin
  case aops =>
    refine ⟨?ao0, ?ao1, ?ao2, ?ao3, trivial⟩
    case ao0 =>
      rw [if_neg (by decide)]
      intro a wx hE hin
      have i4 : a.eval (.tmp 4) = .pointer (some ⟨g4, 0, none⟩) := hin 4 rfl
      clear hin
      have hcst : ∀ v, a.eval (.const v) = v := fun _ => rfl
      have hfnc : ∀ f, a.eval (.func f) = .func (.func f) #[] #[] := fun _ => rfl
      refine want_none rfl ?_
      exact wp_ld 25 _ rfl g4 0 4 [.int .i64 p.k, vu32 p.e, vu32 p.q, .slice A2 n c2] [.int .i64 p.k, vu32 p.e, vu32 p.q, .slice A2 n c2] i4 (K4b.out.drew.chg hE (by have := L24.out; omega)) (by kernel_rfl) (by kernel_rfl) (Nat.le_refl 4) rfl (rel_val (Chg.refl _))
    case ao1 =>
      rw [if_neg (by decide)]
      intro a wx hE hin
      have i1 : a.eval (.tmp 1) = .pointer (some ⟨w.heap.size, 0, none⟩) := hin 1 rfl
      clear hin
      have hcst : ∀ v, a.eval (.const v) = v := fun _ => rfl
      have hfnc : ∀ f, a.eval (.func f) = .func (.func f) #[] #[] := fun _ => rfl
      refine want_none rfl ?_
      unfold Oper.wp
      generalize a.eval = ρ at *
      go_simp
      try go_bits
      first | exact rel_val (Chg.refl _) | (go_simp; exact rel_val (Chg.refl _))
    case ao2 =>
      rw [if_neg (by decide)]
      rintro a wx hE hin (h1 : a.eval (.tmp 12) = _)
      clear hin
      have hcst : ∀ v, a.eval (.const v) = v := fun _ => rfl
      have hfnc : ∀ f, a.eval (.func f) = .func (.func f) #[] #[] := fun _ => rfl
      refine want_none rfl ?_
      unfold Oper.wp
      generalize a.eval = ρ at *
      have c := Bk.cell (KX4.out.drew.chg hE (by have := L02.out; omega)) D4.out
      go_simp
      try go_bits
      first | exact rel_val (Chg.refl _) | (go_simp; exact rel_val (Chg.refl _))
    case ao3 =>
      rw [if_pos (by decide)]
      rintro a wx hE hin (h0 : a.eval (.tmp 11) = _)
      have i2 : a.eval (.tmp 2) = .pointer (some ⟨g2, 0, none⟩) := hin 2 rfl
      clear hin
      have hcst : ∀ v, a.eval (.const v) = v := fun _ => rfl
      have hfnc : ∀ f, a.eval (.func f) = .func (.func f) #[] #[] := fun _ => rfl
      refine wp_st 25 _ _ rfl g2 0 zPk [.int .i64 p.k, vu32 p.e, vu32 p.q, .slice A2 n c2] i2 (by rw [h0]; rfl) (K2b.out.drew.chg hE id) (by kernel_rfl) (Nat.le_refl 4) (one_pkt _ _ _ _ _ _) ?_
      intro w2 hb2 hc2
      rw [splice_whole zPk [.int .i64 p.k, vu32 p.e, vu32 p.q, .slice A2 n c2] rfl] at hb2
      exact ⟨_, rfl, hb2, hc2⟩
  case afin =>
    intro wx hE
    rintro _ rfl _ rfl _ rfl _ hsp
    simp only [FinOk, List.take_succ_cons, List.take_zero, List.take_nil, List.drop_succ_cons, List.drop_zero, List.drop_nil, Act.put, List.setIfInBounds_toArray, List.set_cons_succ, List.set_cons_zero]
    have K5 : Hid (Bk wx g2 [.int .i64 p.k, vu32 p.e, vu32 p.q, .slice A2 n c2]) := hsp
    have R5 : Hid (RdN w.heap.size wx A2 (p.ps.flatMap putC)) := (RN4.out.chg (T := (· = g2)) hE.undrew (fun j hj => by have := L24.out; omega)).mono (by have := L04.out; omega)
    have E5 : Hid (Below w.heap.size w wx) := E4.out.trans (hE.undrew.below E4.out.size (fun j hj he => by have := L02.out; omega))
    clear hsp hE
    go_wp2_with fail
    (try simp only [Exit.inBlock, Exit.then])
    refine bodyPost_ret (res_cell_tmp rfl _ _ g2 4 _ rfl K5.out (by kernel_rfl) (by kernel_rfl) rfl) rfl ?_
    exact ⟨A2, c2, rfl, R5.out, HC2.out, HM2.out, E5.out⟩
/-! ### a sender -/
structure SV where
  is : Bool
  o : PkV
  was : Bool
  y : PkV
  wt : Nat
  tc : Bool
def SV.no : SV := ⟨false, .no, false, .no, 0, false⟩
def sndC (v : SV) (A : Option Addr) (n c : Nat) (B : Option Addr) (m d : Nat) : List Value := slotC v.o A n c v.is ++ slotC v.y B m d v.was ++ [.int .i64 (v.wt : Nat), .bool v.tc]
/-- The sender's block, and the rows of its packets. -/
structure SAt (w : World) (g : Nat) (v : SV) (A : Option Addr) (n c : Nat) (B : Option Addr) (m d : Nat) : Prop where
  bk : Bk w g (sndC v A n c B m d)
  ln : v.o.ps.length = n
  ra : RdN (g + 2) w A (v.o.ps.flatMap putC)
  oa : PutsOk v.o.ps
  lm : v.y.ps.length = m
  rb : RdN (g + 2) w B (v.y.ps.flatMap putC)
  ob : PutsOk v.y.ps
  n5 : n ≤ 5
  m5 : m ≤ 5
  good : v.is = true → goodP v.o.k v.o.ps = true ∧ (v.o.k = 1 ∨ v.o.k = 2)
def SSt (w : World) (g : Nat) (v : SV) : Prop := ∃ A n c B m d, SAt w g v A n c B m d
theorem SAt.below {w w' : World} {g : Nat} {v : SV} {A : Option Addr} {n c : Nat} {B : Option Addr} {m d : Nat} (h : SAt w g v A n c B m d) (hb : Below w.heap.size w w') : SAt w' g v A n c B m d :=
  ⟨h.bk.below hb, h.ln, h.ra.chg (Chg.of_below (S := NoS) hb) (fun _ hj => hj.elim), h.oa, h.lm, h.rb.chg (Chg.of_below (S := NoS) hb) (fun _ hj => hj.elim), h.ob, h.n5, h.m5, h.good⟩
theorem SSt.below {w w' : World} {g : Nat} {v : SV} (h : SSt w g v) (hb : Below w.heap.size w w') : SSt w' g v := by
  obtain ⟨A, n, c, B, m, d, h⟩ := h
  exact ⟨A, n, c, B, m, d, h.below hb⟩
theorem SSt.chgN {w w' : World} {g : Nat} {v : SV} (h : SSt w g v) (hb : Chg NoS w w') : SSt w' g v := h.below (hb.below (Nat.le_refl _) (fun _ _ => id))
theorem SSt.drew {w : World} {g : Nat} {v : SV} (h : SSt w g v) : SSt w.drew g v := h.below ⟨rfl, rfl, rfl, Nat.le_refl _, fun _ _ => rfl⟩
theorem SSt.lt {w : World} {g : Nat} {v : SV} (h : SSt w g v) : g < w.heap.size := by
  obtain ⟨A, n, c, B, m, d, h⟩ := h
  exact h.bk.lt
theorem SSt.new {w : World} {g : Nat} (h : Bk w g (sndC .no none 0 0 none 0 0)) : SSt w g .no :=
  ⟨none, 0, 0, none, 0, 0, ⟨h, rfl, RdN.nil, (fun p hp => by cases hp), rfl, RdN.nil, (fun p hp => by cases hp), (by decide), (by decide), (fun h => by cases h)⟩⟩
/-- What an operation leaves of a sender. -/
def SPost (w : World) (g : Nat) (v : SV) (r : Value) (e : Ending) (w' : World) : Prop := e = .returned r ∧ SSt w' g v ∧ Chg (· = g) w w'
def SV.stop (v : SV) (early : Bool) : SV := ⟨false, .no, if early = true then (if v.is = true then true else v.was) else false, if early = true then (if v.is = true then v.o else v.y) else .no, 0, false⟩
def SV.sendE (v : SV) (p : PkV) : Int := if goodP p.k p.ps = true ∧ (p.k = 1 ∨ p.k = 2) then (if v.is = true then 19 else 0) else 1
def SV.send (v : SV) (p : PkV) : SV := if v.sendE p = 0 then ⟨true, p, v.was, v.y, 0, false⟩ else v
def SV.missed (v : SV) : SV := if v.is = true then { v with wt := v.wt + 1 } else v
def SV.missedN (v : SV) : Nat := if v.is = true then v.wt + 1 else 0
def SV.ackB (v : SV) (a : PkV) : Bool := v.is && decide (a.k = 3) && decide (a.e = v.o.e) && decide (a.q = v.o.q)
def SV.acked (v : SV) (a : PkV) : SV := if v.ackB a = true then v.stop true else v
def hitB (v : SV) (ps : List PutV) : Bool := v.is && decide (v.o.k = 2) && decide (bitsN (v.o.ps.take 1) &&& bitsN ps ≠ 0)
def SV.touch (v : SV) (ps : List PutV) : SV := if hitB v ps = true then { v with tc := true } else v
end Go.Proofs.Ytjkkbkjejcjfiaa
