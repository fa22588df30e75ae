/- Texts of this seat, merged: Base, Rel, Mem, Arr, Blk, DiskPure, RelS, RelT, Bs. -/
import Derived.WalkKit
import Derived.KernelRfl
import Derived.Deep.LoopGhost
import Derived.Lib.Hide
import Derived.OrdersHeld
import Derived.Deep.Draws
import Derived.Deep.QuietTactic
import Derived.BigQuiet
import Derived.StillTail
import Derived.Maps.AppendAt
import Derived.Laws.CopyOwn
import Derived.Laws.CopyRow
import Derived.Laws.Tables

/- Words that the texts of this seat share: numbers as Go values, cells that are read, bits. -/
namespace Go.Proofs.Ytcmfkdfegfablaa
open Go.RowKit
set_option linter.unusedVariables false
set_option linter.unusedSimpArgs false

abbrev vu8 (x : UInt8) : Value := .int .u8 (x.toNat : Int)
abbrev vu16 (x : UInt16) : Value := .int .u16 (x.toNat : Int)
abbrev vu32 (x : UInt32) : Value := .int .u32 (x.toNat : Int)
def bts (l : List UInt8) : List Value := l.map vu8
@[simp] theorem bts_length (l : List UInt8) : (bts l).length = l.length := by simp [bts]
theorem bts_append (a b : List UInt8) : bts (a ++ b) = bts a ++ bts b := by simp [bts]
theorem bts_get {l : List UInt8} {j : Nat} (h : j < l.length) : (bts l)[j]? = some (vu8 (l.getD j 0)) := by
  simp [bts, List.getElem?_eq_getElem h, List.getD_eq_getElem?_getD]

/-! ### Cells that are read -/
/-- The cells vs stand from A on. -/
def Rd (w : World) (A : Option Addr) (vs : List Value) : Prop :=
  ∀ (j : Nat) (v : Value), vs[j]? = some v → ∃ ad, A = some ad ∧ w.cell? (ad.add j) = some v
theorem Rd.nil (w : World) (A : Option Addr) : Rd w A [] := fun j v h => by simp at h
theorem Rd.below {w w1 : World} {A : Option Addr} {vs : List Value} (h : Rd w A vs) (hb : Below w.heap.size w w1) : Rd w1 A vs := by
  intro j v hj
  obtain ⟨ad, e, hc⟩ := h j v hj
  exact ⟨ad, e, (hb.cell (World.block_lt_of_cell? w _ hc)).trans hc⟩
theorem Rd.at_ {w : World} {A : Option Addr} {vs : List Value} (h : Rd w A vs) (j : Nat) (hj : j < vs.length) : ∃ ad, A = some ad ∧ w.cell? (ad.add j) = some vs[j] :=
  h j _ (List.getElem?_eq_getElem hj)
theorem Rd.bt {w : World} {A : Option Addr} {l : List UInt8} (h : Rd w A (bts l)) (j : Nat) (hj : j < l.length) : ∃ ad, A = some ad ∧ w.cell? (ad.add j) = some (vu8 (l.getD j 0)) :=
  h j _ (bts_get hj)
theorem Rd.take {w : World} {A : Option Addr} {vs : List Value} (h : Rd w A vs) (k : Nat) : Rd w A (vs.take k) := by
  intro j v hj
  rw [List.getElem?_take] at hj
  split at hj
  · exact h j v hj
  · cases hj
theorem add_add (a : Addr) (i j : Nat) : (a.add i).add j = a.add (i + j) := by
  unfold Addr.add
  by_cases hi : i = 0 <;> by_cases hj : j = 0 <;> simp [hi, hj, Nat.add_assoc]
theorem add_plain (g i j : Nat) : (⟨g, i, none⟩ : Addr).add j = ⟨g, i + j, none⟩ := by
  unfold Addr.add; split <;> simp_all
theorem Rd.drop {w : World} {A : Option Addr} {vs : List Value} (h : Rd w A vs) (k : Nat) : Rd w (A.map (·.add k)) (vs.drop k) := by
  intro j v hj
  rw [List.getElem?_drop] at hj
  obtain ⟨ad, rfl, hc⟩ := h _ v hj
  exact ⟨ad.add k, rfl, by rw [add_add]; exact hc⟩
theorem Rd.of_block {w : World} {g : Nat} {cs : Array Value} {t : TypeId} {fr : Nat × Nat} (h : w.heap[g]? = some (.cells cs t fr)) : Rd w (some ⟨g, 0, none⟩) cs.toList := by
  intro j v hj
  refine ⟨_, rfl, ?_⟩
  rw [add_plain, Nat.zero_add]
  simpa [World.cell?, h] using hj
theorem Rd.of_block_at {w : World} {g : Nat} {cs : Array Value} {t : TypeId} {fr : Nat × Nat} (h : w.heap[g]? = some (.cells cs t fr)) (o : Nat) : Rd w (some ⟨g, o, none⟩) (cs.toList.drop o) := by
  intro j v hj
  refine ⟨_, rfl, ?_⟩
  rw [add_plain]
  rw [List.getElem?_drop] at hj
  simpa [World.cell?, h] using hj

theorem Rd.alloc {w : World} {A : Option Addr} {vs : List Value} (h : Rd w A vs) (o : Obj) : Rd (w.alloc o) A vs := h.below ((Below.refl _ _).alloc (Nat.le_refl _) o)
theorem Rd.drew {w : World} {A : Option Addr} {vs : List Value} (h : Rd w A vs) : Rd w.drew A vs := h
theorem Rd.drewN {w : World} {A : Option Addr} {vs : List Value} (h : Rd w A vs) (n : Nat) : Rd (w.drewN n) A vs := h
theorem Rd.new (w : World) (cs : Array Value) (t : TypeId) : Rd (w.alloc (.cells cs t)) (some ⟨w.heap.size, 0, none⟩) cs.toList := Rd.of_block (heap_alloc_new w _)

/-- A row of bytes that is an element of a row: where it stands, its room, its bytes. -/
structure Pt where
  A : Option Addr
  c : Nat
  l : List UInt8
def ptv (p : Pt) : Value := .slice p.A p.l.length p.c
def PtOk (w : World) (p : Pt) : Prop := Rd w p.A (bts p.l) ∧ p.l.length ≤ p.c ∧ p.c ≤ 9223372036854775807
def Pts (w : World) (ps : List Pt) : Prop := ∀ p, p ∈ ps → PtOk w p
theorem PtOk.below {w w1 : World} {p : Pt} (h : PtOk w p) (hb : Below w.heap.size w w1) : PtOk w1 p := ⟨h.1.below hb, h.2⟩
theorem Pts.below {w w1 : World} {ps : List Pt} (h : Pts w ps) (hb : Below w.heap.size w w1) : Pts w1 ps := fun p hp => (h p hp).below hb

/-! ### Bits -/
theorem bits_u16 (a b : Nat) (ha : a < 65536) (hb : b < 65536) : Go.bits .xor .u16 (a : Int) (b : Int) = ((a ^^^ b : Nat) : Int) ∧ Go.bits .and .u16 (a : Int) (b : Int) = ((a &&& b : Nat) : Int) ∧ Go.bits .or .u16 (a : Int) (b : Int) = ((a ||| b : Nat) : Int) := by
  have ha' : a % 2 ^ IntKind.u16.bits = a := Nat.mod_eq_of_lt ha
  have hb' : b % 2 ^ IntKind.u16.bits = b := Nat.mod_eq_of_lt hb
  have h1 : a ^^^ b < 2 ^ 16 := Nat.xor_lt_two_pow ha hb
  have h2 : a &&& b < 2 ^ 16 := Nat.and_lt_two_pow _ hb
  have h3 : a ||| b < 2 ^ 16 := Nat.or_lt_two_pow ha hb
  refine ⟨?_, ?_, ?_⟩ <;> simp only [Go.bits, BitVec.ofInt_natCast, BitVec.toNat_xor, BitVec.toNat_and, BitVec.toNat_or, BitVec.toNat_ofNat, ha', hb'] <;> exact IntWalk.u16_in _ (by omega)
theorem bits_u8 (a b : Nat) (ha : a < 256) (hb : b < 256) : Go.bits .xor .u8 (a : Int) (b : Int) = ((a ^^^ b : Nat) : Int) ∧ Go.bits .and .u8 (a : Int) (b : Int) = ((a &&& b : Nat) : Int) ∧ Go.bits .or .u8 (a : Int) (b : Int) = ((a ||| b : Nat) : Int) := by
  have ha' : a % 2 ^ IntKind.u8.bits = a := Nat.mod_eq_of_lt ha
  have hb' : b % 2 ^ IntKind.u8.bits = b := Nat.mod_eq_of_lt hb
  have h1 : a ^^^ b < 2 ^ 8 := Nat.xor_lt_two_pow ha hb
  have h2 : a &&& b < 2 ^ 8 := Nat.and_lt_two_pow _ hb
  have h3 : a ||| b < 2 ^ 8 := Nat.or_lt_two_pow ha hb
  refine ⟨?_, ?_, ?_⟩ <;> simp only [Go.bits, BitVec.ofInt_natCast, BitVec.toNat_xor, BitVec.toNat_and, BitVec.toNat_or, BitVec.toNat_ofNat, ha', hb'] <;> exact IntWalk.u8_in _ (by omega)
theorem bits_xor16 (a b : UInt16) : Go.bits .xor .u16 (a.toNat : Int) (b.toNat : Int) = ((a ^^^ b).toNat : Int) := by
  rw [(bits_u16 a.toNat b.toNat a.toNat_lt b.toNat_lt).1, UInt16.toNat_xor]
theorem bits_xor8 (a b : UInt8) : Go.bits .xor .u8 (a.toNat : Int) (b.toNat : Int) = ((a ^^^ b).toNat : Int) := by
  rw [(bits_u8 a.toNat b.toNat a.toNat_lt b.toNat_lt).1, UInt8.toNat_xor]
theorem bits_and16_1 (a : UInt16) : Go.bits .and .u16 (a.toNat : Int) 1 = ((a &&& 1).toNat : Int) := by
  have := (bits_u16 a.toNat 1 a.toNat_lt (by decide)).2.1
  rw [UInt16.toNat_and]
  exact this
theorem wrap16_u8 (a : UInt8) : IntKind.u16.wrap (a.toNat : Int) = (a.toUInt16.toNat : Int) := by
  have := a.toNat_lt
  rw [IntWalk.u16_in _ (by omega)]; simp
theorem wrap8_u16 (a : UInt16) : IntKind.u8.wrap (a.toNat : Int) = (a.toUInt8.toNat : Int) := by
  rw [IntKind.wrap_u8]; simp
theorem wrap8_hi (a : UInt16) : IntKind.u8.wrap ((a.toNat : Int) / (256 : Int)) = ((a >>> 8).toUInt8.toNat : Int) := by
  rw [IntKind.wrap_u8]; simp [Nat.shiftRight_eq_div_pow]
theorem mod8_u16 (a : UInt16) : ((a.toNat : Int) % (256 : Int)) = (a.toUInt8.toNat : Int) := by simp
theorem mod8_hi (a : UInt16) : ((a.toNat : Int) / (256 : Int) % (256 : Int)) = ((a >>> 8).toUInt8.toNat : Int) := by
  simp [Nat.shiftRight_eq_div_pow]
end Go.Proofs.Ytcmfkdfegfablaa


/- A statement that leaves its order open: whatever the order, each operation leaves a fact that lasts; behind them all the facts are there. -/
namespace Go.Proofs.Ytcmfkdfegfablaa
open Go.RowKit
set_option linter.unusedVariables false
set_option linter.unusedSimpArgs false

/-- What is known of an operation's answer, once it has been carried out. -/
abbrev Fact := World → Value → Prop
def dv : Option Tmp → Value → Value
  | some _, v => v
  | none, _ => undef

def NoExit : Exit → Act → World → Prop := fun _ _ _ => False
def RelPost (E : World → World → Prop) (F : Fact) (a : Act) (dst : Option Tmp) (w : World) (a' : Act) (w' : World) : Prop :=
  ∃ v, a' = a.put dst v ∧ F w' (dv dst v) ∧ E w w'

def factOf (o : Oper) (F : Fact) (a : Act) (w : World) : Prop :=
  match o.dst with
  | some d => F w (a.eval (.tmp d))
  | none => F w undef

/-- G, where the facts of the operations D hold. -/
def WithFacts (l : List Oper) (Fs : List Fact) (a : Act) (w : World) (G : Prop) : List Nat → Prop
  | [] => G
  | j :: js => (match l[j]?, Fs[j]? with
      | some o, some F => factOf o F a w
      | _, _ => True) → WithFacts l Fs a w G js

def OpOk (P : Program) (l : List Oper) (E : World → World → Prop) (Fs : List Fact) (a0 : Act) (w0 : World) (wr : List Tmp) (o : Oper) (F : Fact) (D : List Nat) : Prop :=
  ∀ (a : Act) (w : World), E w0 w → (∀ t, wr.contains t = false → a.eval (.tmp t) = a0.eval (.tmp t)) →
    WithFacts l Fs a w (if Region.wanted o (yielded l.toArray a.tmps) = true then o.wp P a w (RelPost E F a o.dst w) NoExit else F w undef) D

def OpsOk (P : Program) (l : List Oper) (E : World → World → Prop) (Fs0 : List Fact) (a0 : Act) (w0 : World) (wr : List Tmp) : List Oper → List Fact → List (List Nat) → Prop
  | o :: os, F :: Fs, D :: Ds => OpOk P l E Fs0 a0 w0 wr o F D ∧ OpsOk P l E Fs0 a0 w0 wr os Fs Ds
  | [], _, _ => True
  | _ :: _, _, _ => False

def FinOk (w : World) (K : Act → Prop) : List Oper → List Fact → Act → Prop
  | o :: os, F :: Fs, a =>
    match o.dst with
    | some d => ∀ v, F w v → FinOk w K os Fs (a.put (some d) v)
    | none => F w undef → FinOk w K os Fs a
  | _, _, a => K a

def maskOf (acc : List Nat) (es : List Edge) : Nat :=
  es.foldl (fun s e => if Region.binds .any e then s ||| 2 ^ e.on ||| acc.getD e.on 0 else s) 0
def masks : List Oper → List Nat → List Nat
  | [], acc => acc
  | o :: os, acc => masks os (acc ++ [maskOf acc o.after.toList])

def headListed (n m : Nat) : Array Bool := (List.replicate n true ++ List.replicate (m - n) false).toArray
def nodupB : List Tmp → Bool
  | [] => true
  | t :: ts => !ts.contains t && nodupB ts
def relB (l : List Oper) (n : Nat) (Ds : List (List Nat)) : Bool :=
  decide (n ≤ l.length) && nodupB ((l.take n).filterMap (·.dst)) && decide (Ds.length = n) &&
  ((List.range n).all fun i => (Ds.getD i []).all fun j => decide (j < n) && ((masks l []).getD i 0).testBit j) &&
  (decide (n = l.length) || (Region.sinkB .any l.toArray n && Region.chainB .any l.toArray n)) &&
  ((List.range n).all fun i => match l[i]? with
    | some o => o.after.all fun e => !Region.binds .any e || decide (e.on < i)
    | none => true) &&
  Region.seqB .any l.toArray (l.length - n) n (headListed n l.length)

/-! ### the masks -/
theorem foldl_bit (acc : List Nat) (j : Nat) : ∀ (es : List Edge) (s : Nat),
    (es.foldl (fun s e => if Region.binds .any e then s ||| 2 ^ e.on ||| acc.getD e.on 0 else s) s).testBit j = true →
    s.testBit j = true ∨ ∃ e ∈ es, Region.binds .any e = true ∧ (e.on = j ∨ (acc.getD e.on 0).testBit j = true)
  | [], s, h => .inl h
  | e :: es, s, h => by
    simp only [List.foldl_cons] at h
    rcases foldl_bit acc j es _ h with h | ⟨e', he, hb, hj⟩
    · by_cases hb : Region.binds .any e = true
      · rw [if_pos hb, Nat.testBit_or, Nat.testBit_or, Bool.or_eq_true, Bool.or_eq_true] at h
        rcases h with (h | h) | h
        · exact .inl h
        · refine .inr ⟨e, List.mem_cons_self, hb, .inl ?_⟩
          rw [Nat.testBit_two_pow] at h
          exact of_decide_eq_true h
        · exact .inr ⟨e, List.mem_cons_self, hb, .inr h⟩
      · rw [if_neg hb] at h
        exact .inl h
    · exact .inr ⟨e', List.mem_cons_of_mem _ he, hb, hj⟩
theorem masks_get : ∀ (os : List Oper) (acc : List Nat) (k : Nat), k < acc.length → (masks os acc).getD k 0 = acc.getD k 0
  | [], _, _, _ => rfl
  | o :: os, acc, k, h => by
    rw [masks, masks_get os _ k (by rw [List.length_append]; omega)]
    simp [List.getElem?_append_left h]
theorem masks_at : ∀ (os : List Oper) (acc : List Nat) (i : Nat) (o : Oper), os[i]? = some o →
    (masks os acc).getD (acc.length + i) 0 = maskOf ((masks os acc).take (acc.length + i)) o.after.toList
  | o :: os, acc, 0, o', h => by
    have : o = o' := by simpa using h
    subst this
    have h1 : (masks os (acc ++ [maskOf acc o.after.toList])).getD acc.length 0 = maskOf acc o.after.toList := by
      rw [masks_get os _ _ (by simp)]
      simp
    have h2 : ∀ (os : List Oper) (a b : List Nat), (masks os (a ++ b)).take a.length = a := by
      intro os
      induction os with
      | nil => intro a b; simp [masks]
      | cons o os ih => intro a b; rw [masks, List.append_assoc]; exact ih a _
    rw [Nat.add_zero, masks, h1, h2]
  | o :: os, acc, i + 1, o', h => by
    have := masks_at os (acc ++ [maskOf acc o.after.toList]) i o' (by simpa using h)
    rw [List.length_append, List.length_singleton, show acc.length + 1 + i = acc.length + (i + 1) by omega] at this
    exact this
  | [], _, _, _, h => by simp at h

/-- Whoever is behind, behind those that it waits for, is listed where these are. -/
theorem mask_listed {l : List Oper} {listed : Array Bool} (hc : ∀ j oj, l.toArray[j]? = some oj → listed.getD j false = true → ∀ e ∈ oj.after, Region.binds .any e = true → listed.getD e.on false = true) :
    ∀ (i : Nat) (o : Oper), l[i]? = some o → (∀ e ∈ o.after, Region.binds .any e = true → listed.getD e.on false = true) →
      ∀ j, ((masks l []).getD i 0).testBit j = true → listed.getD j false = true := by
  intro i
  induction i using Nat.strongRecOn with
  | _ i ih =>
    intro o ho hall j hj
    have h1 := masks_at l [] i o ho
    rw [List.length_nil, Nat.zero_add] at h1
    rw [h1] at hj
    rcases foldl_bit _ j _ _ hj with h0 | ⟨e, he, hb, hej⟩
    · simp at h0
    · have hl := hall e (by simpa using he) hb
      rcases hej with rfl | hej
      · exact hl
      · have hei : e.on < i := by
          rcases Nat.lt_or_ge e.on i with h | h
          · exact h
          · rw [List.getD_eq_getElem?_getD, List.getElem?_eq_none (by rw [List.length_take]; omega)] at hej
            simp at hej
        have hg : ((masks l []).take i).getD e.on 0 = (masks l []).getD e.on 0 := by
          simp [List.getD_eq_getElem?_getD, List.getElem?_take, hei]
        rw [hg] at hej
        have hil : i < l.length := (List.getElem?_eq_some_iff.1 ho).1
        have hoe : l[e.on]? = some l[e.on] := List.getElem?_eq_getElem (by omega)
        exact ih e.on hei _ hoe (fun e' he' hb' => hc e.on _ (by simp [List.getElem?_eq_getElem (show e.on < l.length by omega)]) hl e' he' hb') j hej

/-! ### the frame -/
def putAll (a : Act) : List Tmp → (Tmp → Value) → Act
  | [], _ => a
  | t :: ts, f => putAll (a.put (some t) (f t)) ts f
theorem putAll_size (f : Tmp → Value) : ∀ (ts : List Tmp) (a : Act), (putAll a ts f).tmps.size = a.tmps.size
  | [], _ => rfl
  | t :: ts, a => by rw [putAll, putAll_size f ts]; simp [Act.put]
theorem putAll_defers (f : Tmp → Value) : ∀ (ts : List Tmp) (a : Act), (putAll a ts f).defers = a.defers
  | [], _ => rfl
  | t :: ts, a => by rw [putAll, putAll_defers f ts]; simp [Act.put]
theorem putAll_get (f : Tmp → Value) : ∀ (ts : List Tmp) (a : Act) (t : Nat), t < a.tmps.size → (putAll a ts f).tmps.getD t undef = if ts.contains t = true then f t else a.tmps.getD t undef
  | [], _, _, _ => by simp [putAll]
  | s :: ts, a, t, ht => by
    rw [putAll, putAll_get f ts _ t (by simpa [Act.put] using ht)]
    by_cases h : ts.contains t = true
    · rw [if_pos h, if_pos (by rw [List.contains_cons, h, Bool.or_true])]
    · rw [if_neg h]
      by_cases hs : t = s
      · subst hs
        rw [if_pos (by simp)]
        simp [Act.put, ht]
      · rw [if_neg (by rw [List.contains_cons]; simp only [Bool.or_eq_true, beq_iff_eq, not_or]; exact ⟨hs, h⟩)]
        simp [Act.put, Array.getElem?_setIfInBounds_ne (Ne.symm hs)]
theorem act_eq {a b : Act} (hd : a.defers = b.defers) (hs : a.tmps.size = b.tmps.size) (h : ∀ t, t < a.tmps.size → a.tmps.getD t undef = b.tmps.getD t undef) : a = b := by
  obtain ⟨ta, da⟩ := a
  obtain ⟨tb, db⟩ := b
  simp only at hd hs h
  subst hd
  congr 1
  apply Array.ext hs
  intro i h1 h2
  have := h i h1
  simpa [h1, h2] using this
theorem fin_of {w : World} {K : Act → Prop} {f : Tmp → Value} : ∀ (os : List Oper) (Fs : List Fact) (a : Act), os.length ≤ Fs.length →
    (∀ (i : Nat) (o : Oper) (F : Fact), os[i]? = some o → Fs[i]? = some F → match o.dst with | some d => F w (f d) | none => F w undef) →
    FinOk w K os Fs a → K (putAll a (os.filterMap (·.dst)) f)
  | [], _, a, _, _, h => by cases ‹List Fact› <;> exact h
  | o :: os, [], a, hl, _, _ => by simp at hl
  | o :: os, F :: Fs, a, hl, hf, h => by
    have h0 := hf 0 o F rfl rfl
    have hrest : ∀ (i : Nat) (o' : Oper) (F' : Fact), os[i]? = some o' → Fs[i]? = some F' → match o'.dst with | some d => F' w (f d) | none => F' w undef :=
      fun i o' F' h1 h2 => hf (i + 1) o' F' (by simpa using h1) (by simpa using h2)
    unfold FinOk at h
    cases hd : o.dst with
    | none =>
      rw [hd] at h h0
      rw [List.filterMap_cons_none (by simpa using hd)]
      exact fin_of os Fs a (by simpa using hl) hrest (h h0)
    | some d =>
      rw [hd] at h h0
      rw [List.filterMap_cons_some (by simpa using hd), putAll]
      exact fin_of os Fs _ (by simpa using hl) hrest (h _ h0)

/-! ### the rule -/
def Lasts (E : World → World → Prop) : List Fact → Prop
  | [] => True
  | F :: Fs => (∀ w w' v, E w w' → F w v → F w' v) ∧ Lasts E Fs
theorem lasts_at {E : World → World → Prop} (Fs : List Fact) (h : Lasts E Fs) : ∀ F, F ∈ Fs → ∀ w w' v, E w w' → F w v → F w' v := by
  induction Fs with
  | nil => intro F hF; cases hF
  | cons x Fs ih =>
    intro F hF
    rcases List.mem_cons.1 hF with rfl | hF
    · exact h.1
    · exact ih h.2 F hF
def cnt (L : Array Bool) : Nat → Nat
  | 0 => 0
  | k + 1 => cnt L k + if L.getD k false = true then 0 else 1
theorem cnt_same {L M : Array Bool} : ∀ (n : Nat), (∀ k, k < n → L.getD k false = M.getD k false) → cnt L n = cnt M n
  | 0, _ => rfl
  | n + 1, h => by rw [cnt, cnt, cnt_same n (fun k hk => h k (by omega)), h n (by omega)]
theorem cnt_set {L : Array Bool} {i : Nat} (hi : i < L.size) (hu : L.getD i false = false) : ∀ (n : Nat), i < n → cnt (L.setIfInBounds i true) n + 1 = cnt L n
  | n + 1, h => by
    rw [cnt, cnt]
    by_cases hin : i = n
    · subst hin
      rw [cnt_same i (fun k hk => getD_set_ne false (by omega)), hu]
      simp [hi]
    · have := cnt_set hi hu n (by omega)
      rw [getD_set_ne false hin]
      omega
theorem cnt_zero {L : Array Bool} : ∀ (n : Nat), cnt L n = 0 → ∀ i, i < n → L.getD i false = true
  | n + 1, h, i, hi => by
    rw [cnt] at h
    by_cases hin : i = n
    · subst hin
      cases hL : L.getD i false with
      | true => rfl
      | false => rw [hL] at h; simp at h
    · exact cnt_zero n (by omega) i (by omega)
theorem cnt_none (m : Nat) : ∀ n, cnt (Array.replicate m false) n = n
  | 0 => rfl
  | n + 1 => by rw [cnt, cnt_none m n, getD_replicate_false]; rfl
theorem cnt_pos {L : Array Bool} : ∀ (n : Nat), cnt L n ≠ 0 → ∃ i, i < n ∧ L.getD i false = false ∧ ∀ k, k < i → L.getD k false = true
  | 0, h => absurd rfl h
  | n + 1, h => by
    by_cases h0 : cnt L n = 0
    · rw [cnt, h0] at h
      refine ⟨n, by omega, ?_, fun k hk => cnt_zero n h0 k hk⟩
      cases hL : L.getD n false with
      | true => rw [hL] at h; simp at h
      | false => rfl
    · obtain ⟨i, hi, h1, h2⟩ := cnt_pos n h0
      exact ⟨i, by omega, h1, h2⟩
theorem wp_weaken {P : Program} {o : Oper} {a : Act} {w : World} {K : Act → World → Prop} {Q : Exit → Act → World → Prop} (h : o.wp P a w K NoExit) : o.wp P a w K Q := by
  unfold Oper.wp at *
  generalize (execOp a.eval o).run P w = r at *
  cases r with
  | ok n w' =>
    cases n <;> simp only [Oper.upon] at h ⊢ <;>
      first
        | exact h
        | exact Calls.mono h (fun e w'' he => by
            cases e
            · exact he
            · exact he.elim
            · obtain ⟨_, _, hf⟩ := he
              exact hf.elim)
  | halt x w' => cases x <;> simp only [Oper.upon] at h ⊢ <;> first | exact h | exact h.elim
theorem with_facts {l : List Oper} {Fs : List Fact} {a : Act} {w : World} {G : Prop} : ∀ (D : List Nat), (∀ j o F, j ∈ D → l[j]? = some o → Fs[j]? = some F → factOf o F a w) → WithFacts l Fs a w G D → G
  | [], _, h => h
  | j :: js, hf, h => by
    unfold WithFacts at h
    refine with_facts js (fun k o F hk => hf k o F (List.mem_cons_of_mem _ hk)) (h ?_)
    split
    · rename_i o F ho hF
      exact hf j o F List.mem_cons_self ho hF
    · trivial
theorem ops_at {P : Program} {l : List Oper} {E : World → World → Prop} {Fs0 : List Fact} {a0 : Act} {w0 : World} {wr : List Tmp} (os : List Oper) : ∀ (Fs : List Fact) (Ds : List (List Nat)), OpsOk P l E Fs0 a0 w0 wr os Fs Ds →
    ∀ (i : Nat) (o : Oper), os[i]? = some o → ∃ F, Fs[i]? = some F ∧ OpOk P l E Fs0 a0 w0 wr o F (Ds.getD i []) := by
  induction os with
  | nil => intro Fs Ds h i o ho; simp at ho
  | cons x os ih =>
    intro Fs Ds h i o ho
    cases Fs with
    | nil => exact h.elim
    | cons F Fs =>
      cases Ds with
      | nil => exact h.elim
      | cons D Ds =>
        cases i with
        | zero =>
          have : x = o := by simpa using ho
          subst this
          exact ⟨F, rfl, h.1⟩
        | succ i =>
          obtain ⟨F', h1, h2⟩ := ih Fs Ds h.2 i o (by simpa using ho)
          exact ⟨F', by simpa using h1, by simpa using h2⟩
theorem nodup_spec : ∀ (os : List Oper), nodupB (os.filterMap (·.dst)) = true → ∀ (i j : Nat) (o o' : Oper) (d : Tmp), os[i]? = some o → os[j]? = some o' → o.dst = some d → o'.dst = some d → i = j
  | [], _, i, _, _, _, _, h, _, _, _ => by simp at h
  | x :: os, hn, i, j, o, o', d, hi, hj, hd, hd' => by
    have key : ∀ (k : Nat) (y : Oper), os[k]? = some y → y.dst = some d → d ∈ os.filterMap (·.dst) := fun k y hk hy =>
      List.mem_filterMap.2 ⟨y, List.mem_of_getElem? hk, hy⟩
    have htail : nodupB (os.filterMap (·.dst)) = true := by
      cases hx : x.dst with
      | none => rwa [List.filterMap_cons_none (by simpa using hx)] at hn
      | some t =>
        rw [List.filterMap_cons_some (by simpa using hx), nodupB, Bool.and_eq_true] at hn
        exact hn.2
    have hhead : ∀ (k : Nat) (y : Oper), x.dst = some d → os[k]? = some y → y.dst = some d → False := by
      intro k y hx hk hy
      rw [List.filterMap_cons_some (by simpa using hx), nodupB, Bool.and_eq_true] at hn
      have := hn.1
      simp only [Bool.not_eq_true', List.contains_eq_mem, decide_eq_false_iff_not] at this
      exact this (key k y hk hy)
    cases i with
    | zero =>
      have : x = o := by simpa using hi
      subst this
      cases j with
      | zero => rfl
      | succ j => exact (hhead j o' hd (by simpa using hj) hd').elim
    | succ i =>
      cases j with
      | zero =>
        have : x = o' := by simpa using hj
        subst this
        exact (hhead i o hd' (by simpa using hi) hd).elim
      | succ j => rw [nodup_spec os htail i j o o' d (by simpa using hi) (by simpa using hj) hd hd']

theorem eval_put_ne {a : Act} {dst : Option Tmp} {v : Value} {t : Tmp} (h : dst ≠ some t) : (a.put dst v).eval (.tmp t) = a.eval (.tmp t) := by
  cases dst with
  | none => rfl
  | some d =>
    have : d ≠ t := fun e => h (by rw [e])
    simp [Act.put, Act.eval, Array.getElem?_setIfInBounds_ne this]
theorem eval_put_same {a : Act} {v : Value} {t : Tmp} (h : t < a.tmps.size) : (a.put (some t) v).eval (.tmp t) = v := by
  simp [Act.put, Act.eval, h]
theorem put_size (a : Act) (dst : Option Tmp) (v : Value) : (a.put dst v).tmps.size = a.tmps.size := by cases dst <;> simp [Act.put]
theorem put_defers (a : Act) (dst : Option Tmp) (v : Value) : (a.put dst v).defers = a.defers := by cases dst <;> simp [Act.put]

section
variable {P : Program} {id : Nat} {l : List Oper} {Q : Exit → Act → World → Prop} {a0 : Act} {w0 : World}
theorem wp_region_rel (n : Nat) (E : World → World → Prop) (Fs : List Fact) (Ds : List (List Nat)) (wr : List Tmp) (hm : P.follows .mixedOrders = true) (hB : relB l n Ds = true) (hlen : Fs.length = n)
    (hwr : (l.take n).filterMap (·.dst) = wr) (hsz : wr.all (fun t => decide (t < a0.tmps.size)) = true)
    (hr : ∀ w, E w w) (ht : ∀ a b c, E a b → E b c → E a c) (hs0 : Lasts E Fs)
    (hops : OpsOk P l E Fs a0 w0.drew wr (l.take n) Fs Ds)
    (hfin : ∀ w, E w0.drew w → FinOk w (fun a => wpList P l.toArray Q (l.drop n) a w) (l.take n) Fs a0) : (Code.region id l.toArray true).wp P Q a0 w0 := by
  simp only [relB, Bool.and_eq_true, decide_eq_true_eq] at hB
  obtain ⟨⟨⟨⟨⟨⟨hn, hnd⟩, hDl⟩, hDs⟩, htail⟩, hback⟩, hseq⟩ := hB
  have hs := lasts_at Fs hs0
  rw [hwr] at hnd
  have hsize : l.toArray.size = l.length := by simp
  have htk : ∀ i o, l[i]? = some o → i < n → (l.take n)[i]? = some o := fun i o ho hi => by simpa [List.getElem?_take, hi] using ho
  have hdst : ∀ (i : Nat) (o : Oper) (d : Tmp), i < n → l[i]? = some o → o.dst = some d → wr.contains d = true ∧ d < a0.tmps.size := by
    intro i o d hi ho hd
    have hmem : d ∈ wr := by
      rw [← hwr]
      exact List.mem_filterMap.2 ⟨o, List.mem_of_getElem? (htk i o ho hi), hd⟩
    exact ⟨by simpa using hmem, of_decide_eq_true (List.all_eq_true.1 hsz d hmem)⟩
  have key : ∀ (m : Nat) (listed : Array Bool) (a : Act) (w : World), cnt listed n = m → HeadInv .any l.toArray n listed → E w0.drew w → a.defers = a0.defers → a.tmps.size = a0.tmps.size →
      (∀ t, wr.contains t = false → a.eval (.tmp t) = a0.eval (.tmp t)) → (∀ (i : Nat) (o : Oper) (F : Fact), i < n → listed.getD i false = true → l[i]? = some o → Fs[i]? = some F → factOf o F a w) →
      wpAny P .any l.toArray Q (m + (l.length - n)) listed a w := by
    intro m
    induction m with
    | zero =>
      intro listed a w hc inv hE hd hs' hin hf
      have hall := cnt_zero n hc
      have hL : listed = headListed n l.length := by
        apply Array.ext
        · rw [inv.size]; simp [headListed]; omega
        · intro i h1 h2
          rw [inv.size, hsize] at h1
          by_cases hi : i < n
          · have := hall i hi
            have hi' : i < listed.size := by rw [inv.size, hsize]; omega
            simp [hi'] at this
            simp [headListed, List.getElem_append, hi, this]
          · have := inv.tail i (by omega) (by rw [hsize]; omega)
            have hi' : i < listed.size := by rw [inv.size, hsize]; omega
            simp [hi'] at this
            simp [headListed, List.getElem_append, hi, this]
      have hfo := hfin w hE
      have hput : putAll a0 wr (fun t => a.eval (.tmp t)) = a := by
        apply act_eq
        · rw [putAll_defers, hd]
        · rw [putAll_size, hs']
        · intro t htt
          rw [putAll_size] at htt
          rw [putAll_get _ _ _ _ htt]
          by_cases hct : wr.contains t = true
          · rw [if_pos hct]; rfl
          · rw [if_neg hct]
            exact (hin t (by simpa using hct)).symm
      have h1 := fin_of (f := fun t => a.eval (.tmp t)) (l.take n) Fs a0 (by rw [List.length_take]; omega) (fun i o F ho hF => by
        have hi : i < n := by
          have := (List.getElem?_eq_some_iff.1 ho).1
          rw [List.length_take] at this
          omega
        have ho' : l[i]? = some o := by simpa [List.getElem?_take, hi] using ho
        exact hf i o F hi (hall i hi) ho' hF) hfo
      rw [hwr, hput] at h1
      have h2 := wpAny_of_seq (md := .any) (Q' := Q) (l.drop n) n listed a w (fun j => by simp [List.getElem?_drop]) (by rw [hL, List.length_drop]; exact hseq) h1
      rw [List.length_drop] at h2
      rw [Nat.zero_add]
      exact h2
    | succ m ih =>
      intro listed a w hc inv hE hd hs' hin hf
      rw [show m + 1 + (l.length - n) = (m + (l.length - n)) + 1 by omega]
      obtain ⟨i0, hi0, hu0, hmin⟩ := cnt_pos (L := listed) n (by omega)
      refine ⟨fun hnil => ?_, fun i hi => ?_⟩
      · -- the first that is not listed is ready
        exfalso
        have : i0 ∈ Region.ready .any l.toArray listed := by
          have ho : l[i0]? = some l[i0] := List.getElem?_eq_getElem (by omega)
          refine mem_ready.2 ⟨getD_in (by rw [inv.size, hsize]; omega) hu0, l[i0], by simp, fun e he hb => ?_⟩
          have h1 := List.all_eq_true.1 hback i0 (List.mem_range.2 hi0)
          rw [ho] at h1
          have h2 := Array.all_eq_true_iff_forall_mem.1 h1 e he
          rw [hb] at h2
          exact hmin _ (by simpa using h2)
        rw [hnil] at this
        cases this
      · obtain ⟨hun, oi, hoi, hall⟩ := mem_ready.1 hi
        have hil : i < l.length := by have := (Array.getElem?_eq_some_iff.1 hoi).1; rwa [hsize] at this
        have hoi' : l[i]? = some oi := by simpa using hoi
        have hin' : i < n := by
          rcases Nat.lt_or_ge i n with h | h
          · exact h
          · exfalso
            simp only [Bool.or_eq_true, Bool.and_eq_true, decide_eq_true_eq] at htail
            rcases htail with h0 | ⟨h1, h2⟩
            · omega
            · exact tail_waits h1 h2 (by rw [hsize]; omega) inv _ i0 rfl hi0 (getD_in (by rw [inv.size, hsize]; omega) hu0) i h hi
        obtain ⟨F, hF, hop⟩ := ops_at _ _ _ hops i oi (htk i oi hoi' hin')
        have hun' := getD_both hun
        have hw := with_facts _ (fun j o F' hj ho hF' => by
          have h1 := List.all_eq_true.1 hDs i (List.mem_range.2 hin')
          have h2 := List.all_eq_true.1 h1 j hj
          simp only [Bool.and_eq_true, decide_eq_true_eq] at h2
          exact hf j o F' h2.1 (mask_listed inv.closed i oi hoi' hall j h2.2) ho hF') (hop a w hE hin)
        have hstep : ∀ (a' : Act) (w' : World) (v : Value), a' = a.put oi.dst v → F w' (dv oi.dst v) → E w w' → wpAny P .any l.toArray Q (m + (l.length - n)) (listed.setIfInBounds i true) a' w' := by
          intro a' w' v ha hFv hEw
          subst ha
          have hlt : i < listed.size := by rw [inv.size, hsize]; omega
          have hcs := cnt_set hlt hun' n hin'
          refine ih _ _ _ (by omega) (inv.set hi hin') (ht _ _ _ hE hEw) ((put_defers _ _ _).trans hd) ((put_size _ _ _).trans hs') (fun t htt => ?_) (fun j o F' hj hjl ho hF' => ?_)
          · rw [eval_put_ne, hin t htt]
            intro hdt
            rw [(hdst i oi t hin' hoi' hdt).1] at htt
            cases htt
          · by_cases hji : j = i
            · subst hji
              have : oi = o := Option.some.inj (hoi'.symm.trans ho)
              subst this
              have : F = F' := Option.some.inj (hF.symm.trans hF')
              subst this
              unfold factOf
              cases hdd : oi.dst with
              | none => rw [hdd] at hFv; exact hFv
              | some d =>
                rw [hdd] at hFv
                simp only
                rw [eval_put_same (by rw [hs']; exact (hdst j oi d hin' hoi' hdd).2)]
                exact hFv
            · rw [getD_set_ne false (Ne.symm hji)] at hjl
              have h1 := hf j o F' hj hjl ho hF'
              have hst := hs F' (List.mem_of_getElem? hF') w w'
              unfold factOf at h1 ⊢
              cases hdd : o.dst with
              | none => rw [hdd] at h1; exact hst _ hEw h1
              | some d =>
                rw [hdd] at h1
                simp only at h1 ⊢
                rw [eval_put_ne]
                · exact hst _ hEw h1
                · intro hdt
                  exact hji (nodup_spec (l.take n) (by rw [hwr]; exact hnd) j i o oi d (htk j o ho hj) (htk i oi hoi' hin') hdd hdt)
        unfold wpOp
        simp only [hoi]
        split
        · rename_i hwant
          rw [if_pos hwant] at hw
          refine .inl (wp_weaken (Oper.wp_mono (fun a' w' hp => ?_) hw))
          obtain ⟨v, h1, h2, h3⟩ := hp
          exact hstep a' w' v h1 h2 h3
        · rename_i hwant
          rw [if_neg hwant] at hw
          refine hstep _ w undef rfl ?_ (hr w)
          cases hdd : oi.dst <;> exact hw
  refine wp_region_any hm ?_
  have inv0 : HeadInv .any l.toArray n (Array.replicate l.toArray.size false) :=
    ⟨by simp, fun j oj _ hl => (by rw [getD_replicate_false] at hl; cases hl), fun t _ ht => getD_in (by simpa using ht) (getD_replicate_false _ _)⟩
  have := key n (Array.replicate l.toArray.size false) a0 w0.drew (cnt_none _ _) inv0 (hr _) rfl rfl (fun _ _ => rfl) (fun i o F _ hl => by rw [getD_replicate_false] at hl; cases hl)
  rw [show n + (l.length - n) = l.toArray.size by rw [hsize]; omega] at this
  exact this
end

/-! ### what has turned: the blocks of S, and new ones -/
structure Chg (S : Nat → Prop) (w w' : World) : Prop where
  os : w'.os = w.os
  tape : w'.tape = w.tape
  output : w'.output = w.output
  size : w.heap.size ≤ w'.heap.size
  block : ∀ k, k < w.heap.size → ¬ S k → w'.heap[k]? = w.heap[k]?
theorem Chg.refl {S : Nat → Prop} (w : World) : Chg S w w := ⟨rfl, rfl, rfl, Nat.le_refl _, fun _ _ _ => rfl⟩
theorem Chg.trans {S : Nat → Prop} {a b c : World} (h : Chg S a b) (k : Chg S b c) : Chg S a c :=
  ⟨k.os.trans h.os, k.tape.trans h.tape, k.output.trans h.output, Nat.le_trans h.size k.size, fun i hi hn => (k.block i (Nat.lt_of_lt_of_le hi h.size) hn).trans (h.block i hi hn)⟩
theorem Chg.mono {S S' : Nat → Prop} {a b : World} (h : Chg S a b) (hs : ∀ k, S k → S' k) : Chg S' a b :=
  ⟨h.os, h.tape, h.output, h.size, fun i hi hn => h.block i hi (fun hk => hn (hs i hk))⟩
theorem Chg.alloc {S : Nat → Prop} {a w : World} (h : Chg S a w) (o : Obj) : Chg S a (w.alloc o) :=
  h.trans ⟨rfl, rfl, rfl, by simp, fun k hk _ => Below.heap_alloc _ _ _ hk⟩
theorem Chg.drew {S : Nat → Prop} {a w : World} (h : Chg S a w) : Chg S a w.drew := ⟨h.os, h.tape, h.output, h.size, h.block⟩
theorem Chg.of_below {S : Nat → Prop} {w w' : World} (h : Below w.heap.size w w') : Chg S w w' := ⟨h.os, h.tape, h.output, h.size, fun k hk _ => h.block k hk⟩
theorem Chg.below {S : Nat → Prop} {w w' : World} (h : Chg S w w') {B : Nat} (hB : B ≤ w.heap.size) (hS : ∀ k, k < B → ¬ S k) : Below B w w' :=
  ⟨h.os, h.tape, h.output, h.size, fun k hk => h.block k (by omega) (hS k hk)⟩
theorem Chg.get {S : Nat → Prop} {w w' : World} (h : Chg S w w') {g : Nat} {o : Obj} (hg : w.heap[g]? = some o) (hS : ¬ S g) : w'.heap[g]? = some o :=
  (h.block g (Array.getElem?_eq_some_iff.1 hg).1 hS).trans hg
theorem Chg.cell {S : Nat → Prop} {w w' : World} (h : Chg S w w') {p : Addr} {v : Value} (hc : w.cell? p = some v) (hS : ¬ S p.block) : w'.cell? p = some v :=
  (World.cell?_of_block (w := w) (h.block p.block (World.block_lt_of_cell? w p hc) hS)).trans hc
def NoS : Nat → Prop := fun _ => False
theorem Rd.chg {w w1 : World} {A : Option Addr} {vs : List Value} (h : Rd w A vs) (hb : Chg NoS w w1) : Rd w1 A vs := by
  intro j v hj
  obtain ⟨ad, e, hc⟩ := h j v hj
  exact ⟨ad, e, hb.cell hc id⟩

/-! ### facts -/
def Veq (e : Value) : Fact := fun _ v => v = e
theorem Veq.lasts {E : World → World → Prop} {e : Value} : ∀ w w' v, E w w' → Veq e w v → Veq e w' v := fun _ _ _ _ h => h
/-- A row that the region itself makes. -/
def RowAt (S : Nat → Prop) (n : Nat) (vs : List Value) : Fact := fun w v => ∃ g, v = .slice (some ⟨g, 0, none⟩) n n ∧ ¬ S g ∧ ∃ t fr, w.heap[g]? = some (.cells vs.toArray t fr)
theorem RowAt.lasts {S : Nat → Prop} {n : Nat} {vs : List Value} : ∀ w w' v, Chg S w w' → RowAt S n vs w v → RowAt S n vs w' v :=
  fun _ _ _ h ⟨g, e, hs, t, fr, hg⟩ => ⟨g, e, hs, t, fr, h.get hg hs⟩
theorem rel_val {E : World → World → Prop} {a : Act} {d : Tmp} {w w' : World} {e : Value} (h : E w w') : RelPost E (Veq e) a (some d) w (a.put (some d) e) w' := ⟨e, rfl, rfl, h⟩
theorem rel_row {S : Nat → Prop} {a : Act} {d : Tmp} {w : World} {n : Nat} {t : TypeId} {fr : Nat × Nat} {vs : List Value} (hS : ¬ S w.heap.size) :
    RelPost (Chg S) (RowAt S n vs) a (some d) w (a.put (some d) (.slice (some ⟨w.heap.size, 0, none⟩) n n)) (w.alloc (.cells vs.toArray t fr)) :=
  ⟨_, rfl, ⟨_, rfl, hS, t, fr, heap_alloc_new w _⟩, (Chg.refl _).alloc _⟩
theorem want_none {o : Oper} {y : Nat → Option Bool} {A B : Prop} (hg : o.guard = none) (h : A) : if Region.wanted o y = true then A else B := by
  rw [if_pos (by simp [Region.wanted, hg])]; exact h
theorem yield_of {ops : Array Oper} {a : Act} {j : Nat} {d : Tmp} {b : Bool} (hd : (ops[j]?).bind (·.dst) = some d) (hv : a.eval (.tmp d) = .bool b) : yielded ops a.tmps j = some b := by
  unfold yielded
  rw [hd]
  simp only [Option.bind_some]
  simp only [Act.eval, Array.getD_eq_getD_getElem?] at hv
  cases ht : a.tmps[d]? with
  | none => rw [ht] at hv; simp [undef] at hv
  | some v => rw [ht] at hv; simp only [Option.getD_some] at hv; rw [hv]
theorem want_yes {o : Oper} {ops : Array Oper} {a : Act} {A B : Prop} {j : Nat} {d : Tmp} {b : Bool} (hg : o.guard = some (j, b)) (hd : (ops[j]?).bind (·.dst) = some d) (hv : a.eval (.tmp d) = .bool b) (h : A) :
    if Region.wanted o (yielded ops a.tmps) = true then A else B := by
  rw [if_pos (by simp [Region.wanted, hg, yield_of hd hv])]; exact h
theorem want_not {o : Oper} {ops : Array Oper} {a : Act} {A B : Prop} {j : Nat} {d : Tmp} {b : Bool} (hg : o.guard = some (j, b)) (hd : (ops[j]?).bind (·.dst) = some d) (hv : a.eval (.tmp d) = .bool (!b)) (h : B) :
    if Region.wanted o (yielded ops a.tmps) = true then A else B := by
  rw [if_neg (by simp [Region.wanted, hg, yield_of hd hv])]; exact h
end Go.Proofs.Ytcmfkdfegfablaa


/- Rows that a call makes: append onto an own row from whatever is read; blocks behind new blocks. -/
namespace Go.Proofs.Ytcmfkdfegfablaa
open Go.RowKit
set_option linter.unusedVariables false
set_option linter.unusedSimpArgs false

theorem hal_new {w : World} {o : Obj} {g : Nat} (h : g = w.heap.size) : (w.alloc o).heap[g]? = some o := by subst h; exact heap_alloc_new w o
theorem hal_old {w : World} {o x : Obj} {g : Nat} (h : w.heap[g]? = some x) : (w.alloc o).heap[g]? = some x :=
  (Below.heap_alloc w o g (Array.getElem?_eq_some_iff.1 h).1).trans h
theorem Rd.row {S : Nat → Prop} {w : World} {g : Nat} {vs : List Value} {t : TypeId} {fr : Nat × Nat} (h : w.heap[g]? = some (.cells vs.toArray t fr)) : Rd w (some ⟨g, 0, none⟩) vs := by
  have := Rd.of_block h
  simpa using this

section
variable {P : Program}
theorem run_append_rd (w : World) (base : Nat) (t ty e : TypeId) (z : Value) (size bytes : Nat) (ht : P.underlying t = some (.slice e)) (hinfo : (P.info? e).map (fun i => (i.zero, i.size, i.bytes)) = some (some z, size, bytes))
    (hzs : z.cells.size = size) (hsz : 0 < size) (hby : 0 < bytes) (v : Value) (n : Nat) (xs : List Value) (hown : w.ownsRow base e size v n xs)
    (A : Option Addr) (m c : Nat) (ys : List Value) (hl : ys.length = m * size) (HR : Rd w A ys) (h1 : ∀ u ∈ ys, u.oneCell' = true)
    (hbytes : (n + m) * bytes ≤ 140737488355328) (hbase : base ≤ w.heap.size) :
    ∃ v' w', (Builtin.append_ #[t, t] ty #[v, .slice A m c]).run P w = .ok v' w' ∧ w'.ownsRow base e size v' (n + m) (xs ++ ys) ∧ w.grownBy w' v.ownBlock ∧ (v'.ownBlock = v.ownBlock ∨ v'.ownBlock = some w.heap.size) := by
  obtain ⟨i0, hi, hzz⟩ := Option.map_eq_some_iff.1 hinfo
  simp only [Prod.mk.injEq] at hzz
  obtain ⟨hz0, hz1, hz2⟩ := hzz
  have hlen : n + m ≤ 140737488355328 := Nat.le_trans (Nat.le_mul_of_pos_right _ hby) hbytes
  rcases A with _ | ad
  · have hy : ys = [] := by
      cases ys with
      | nil => rfl
      | cons y ys => obtain ⟨ad, h, _⟩ := HR 0 y rfl; cases h
    subst hy
    have h0 : m = 0 := by
      rcases Nat.eq_zero_or_pos m with h | h
      · exact h
      · have := Nat.mul_pos h hsz
        simp at hl
        omega
    subst h0
    refine ⟨v, w, ?_, by simpa using hown, World.grownBy.refl w _, .inl rfl⟩
    rcases hown.2 with ⟨rfl, hn⟩ | ⟨g, cap, cur, rfl, _, _, hnc, _⟩
    · simp [Builtin.append_, run_underlying ht, sizeOf, typeInfo, hi, Builtin.lenOf, Builtin.firstCells]
    · simp [Builtin.append_, run_underlying ht, sizeOf, typeInfo, hi, Builtin.lenOf, Builtin.firstCells, hnc, storeCells]
  · obtain ⟨v1, w1, hr, h2, h3, _, h5⟩ := run_append_own_at (P := P) w base t ty e i0 z size bytes ht hi hz0 hz1 hz2 hzs hsz v n xs hown ad m c ys hl
      (fun j u hu => by obtain ⟨ad', e', hc⟩ := HR j u hu; injection e' with e'; subst e'; exact hc) h1 (by simp only [maxLen]; omega) hbytes hbase
    exact ⟨v1, w1, hr, h2, h3, h5⟩

/-- append at an operation of a list. -/
theorem wpList_append_rd {ops : Array Oper} {rest : List Oper} {o : Oper} {a : Act} {Q : Exit → Act → World → Prop} {W : World} (hw : Region.wanted o (yielded ops a.tmps) = true) (s x : Operand) (t : TypeId)
    (ho : o.op = .call { callee := .builtin .append, args := #[s, x], argTypes := #[t, t] }) (base : Nat) (e : TypeId) (z : Value) (size bytes : Nat)
    (ht : P.underlying t = some (.slice e)) (hinfo : (P.info? e).map (fun i => (i.zero, i.size, i.bytes)) = some (some z, size, bytes)) (hzs : z.cells.size = size) (hsz : 0 < size) (hby : 0 < bytes)
    (v : Value) (n : Nat) (xs : List Value) (hs : a.eval s = v) (hown : W.ownsRow base e size v n xs)
    (A : Option Addr) (m c : Nat) (ys : List Value) (hx : a.eval x = .slice A m c) (hl : ys.length = m * size) (HR : Rd W A ys) (h1 : ∀ u ∈ ys, u.oneCell' = true)
    (hbytes : (n + m) * bytes ≤ 140737488355328) (hbase : base ≤ W.heap.size)
    (h : ∀ v1 w1, w1.ownsRow base e size v1 (n + m) (xs ++ ys) → W.grownBy w1 v.ownBlock → (v1.ownBlock = v.ownBlock ∨ v1.ownBlock = some W.heap.size) → wpList P ops Q rest (a.put o.dst v1) w1) : wpList P ops Q (o :: rest) a W := by
  obtain ⟨v1, w1, hr, h2, h3, h4⟩ := run_append_rd (P := P) W base t o.type e z size bytes ht hinfo hzs hsz hby v n xs hown A m c ys hl HR h1 hbytes hbase
  refine wpList_step fun K hK => ?_
  rw [if_pos hw]
  unfold Oper.wp execOp
  simp only [ho, resolve, invoke, builtin, Sem.run_bind, Sem.run_pure, Result.andThen_ok, List.map_toArray, List.map_cons, List.map_nil, hs, hx, hr]
  exact hK _ _ (h v1 w1 h2 h3 h4)
/-- append at an operation of a statement that draws its order. -/
theorem step_append_rd {o : Oper} {a : Act} {K : Act → World → Prop} {Q : Exit → Act → World → Prop} {W : World} (s x : Operand) (t : TypeId)
    (ho : o.op = .call { callee := .builtin .append, args := #[s, x], argTypes := #[t, t] }) (base : Nat) (e : TypeId) (z : Value) (size bytes : Nat)
    (ht : P.underlying t = some (.slice e)) (hinfo : (P.info? e).map (fun i => (i.zero, i.size, i.bytes)) = some (some z, size, bytes)) (hzs : z.cells.size = size) (hsz : 0 < size) (hby : 0 < bytes)
    (v : Value) (n : Nat) (xs : List Value) (hs : a.eval s = v) (hown : W.ownsRow base e size v n xs)
    (A : Option Addr) (m c : Nat) (ys : List Value) (hx : a.eval x = .slice A m c) (hl : ys.length = m * size) (HR : Rd W A ys) (h1 : ∀ u ∈ ys, u.oneCell' = true)
    (hbytes : (n + m) * bytes ≤ 140737488355328) (hbase : base ≤ W.heap.size)
    (h : ∀ v1 w1, w1.ownsRow base e size v1 (n + m) (xs ++ ys) → W.grownBy w1 v.ownBlock → (v1.ownBlock = v.ownBlock ∨ v1.ownBlock = some W.heap.size) → K (a.put o.dst v1) w1) : o.wp P a W K Q := by
  obtain ⟨v1, w1, hr, h2, h3, h4⟩ := run_append_rd (P := P) W base t o.type e z size bytes ht hinfo hzs hsz hby v n xs hown A m c ys hl HR h1 hbytes hbase
  unfold Oper.wp execOp
  simp only [ho, resolve, invoke, builtin, Sem.run_bind, Sem.run_pure, Result.andThen_ok, List.map_toArray, List.map_cons, List.map_nil, hs, hx, hr]
  exact h v1 w1 h2 h3 h4
end
theorem one_bts (l : List UInt8) : ∀ u ∈ bts l, u.oneCell' = true := by
  intro u hu
  simp only [bts, List.mem_map] at hu
  obtain ⟨x, _, rfl⟩ := hu
  rfl
theorem below_grown {B : Nat} {w w1 : World} {row : Option Nat} (hg : w.grownBy w1 row) (hB : B ≤ w.heap.size) (hr : ∀ k, row = some k → B ≤ k) : Below B w w1 := (Below.refl B w).grown hg hB hr
/-- An own row is read. -/
theorem own_rd {w : World} {base n : Nat} {e : TypeId} {size : Nat} {v : Value} {xs : List Value} (h : w.ownsRow base e size v n xs) : ∃ A c, v = .slice A n c ∧ Rd w A xs ∧ n ≤ c ∧ c ≤ 9223372036854775807 := by
  rcases h.2 with ⟨hv, hn⟩ | ⟨g, cap, cur, hv, _, _, h1, h2, _⟩
  · subst hv
    have hx : xs = [] := List.eq_nil_of_length_eq_zero (by rw [h.1, hn, Nat.zero_mul])
    rw [hx, hn]
    exact ⟨none, 0, rfl, Rd.nil _ _, by omega, by omega⟩
  · subst hv
    exact ⟨_, cap, rfl, fun j u hj => ⟨_, rfl, h.cells (g := g) rfl j u hj⟩, h1, by simpa [maxLen] using h2⟩
theorem own_chg {S : Nat → Prop} {w w1 : World} {base n : Nat} {e : TypeId} {size : Nat} {v : Value} {xs : List Value} (h : w.ownsRow base e size v n xs) (hc : Chg S w w1) (hS : ∀ k, v.ownBlock = some k → ¬ S k) : w1.ownsRow base e size v n xs := by
  refine ⟨h.1, ?_⟩
  rcases h.2 with h0 | ⟨g, cap, cur, rfl, hb, hg, r⟩
  · exact .inl h0
  · exact .inr ⟨g, cap, cur, rfl, hb, hc.get hg (hS g rfl), r⟩
theorem own_drew {w : World} {base n : Nat} {e : TypeId} {size : Nat} {v : Value} {xs : List Value} (h : w.ownsRow base e size v n xs) : w.drew.ownsRow base e size v n xs := h
theorem chg_setCell (w : World) (g j : Nat) (u : Value) : Chg (· = g) w (w.setCell ⟨g, j, none⟩ u) :=
  ⟨rfl, rfl, rfl, by simp [World.setCell], fun k _ hk => Below.heap_setCell w _ u k (fun h => hk h)⟩
theorem own_frozen {w : World} {base n g cap : Nat} {e : TypeId} {size : Nat} {xs : List Value} (h : w.ownsRow base e size (.slice (some ⟨g, 0, none⟩) n cap) n xs) (j : Nat) : w.frozen? ⟨g, j, none⟩ = false := by
  rcases h.2 with ⟨hv, _⟩ | ⟨g', cap', cur, hv, _, hg, _⟩
  · cases hv
  · have : g = g' := by injection hv with hv; injection hv with hv; injection hv with hv
    subst this
    simp [World.frozen?, hg]
theorem bts_set (l : List UInt8) (k : Nat) (z : UInt8) : (bts l).set k (vu8 z) = bts (l.set k z) := by simp [bts, List.map_set]
/-- 'xs[m:]' of a row of one-cell elements: its address is a letter. -/
theorem cut_of {P : Program} (t e : TypeId) (kl : IntKind) {i : TypeInfo} (ht : P.underlying t = some (.slice e)) (hi : P.info? e = some i) (hsz : i.size = 1) (A : Option Addr) (n c m : Nat) (hm : m ≤ n) (hc : n ≤ c) :
    ∃ A' : Option Addr, (∀ W : World, (Instr.slice t (.slice A n c) (some (.int kl (m : Int))) none none).run P W = .ok (.slice A' (n - m) (c - m)) W) ∧
      ∀ (w : World) (vs : List Value), vs.length = n → Rd w A vs → Rd w A' (vs.drop m) := by
  refine ⟨if c = m then A else A.map (·.add m), fun W => ?_, fun w vs hl h => ?_⟩
  · have hel : P.elem t = e := by simp [Program.elem, ht]
    have hu : P.underlying t = some (.slice (P.elem t)) := by rw [hel]; exact ht
    rw [run_slice_l W t A n c hu kl (m : Int) (Int.natCast_nonneg _) (by omega), hel]
    simp [sizeOf, typeInfo, hi, hsz, sliced, Result.andThen]
  · by_cases hcm : c = m
    · have : vs.drop m = [] := List.drop_eq_nil_of_le (by omega)
      rw [this]
      exact Rd.nil _ _
    · rw [if_neg hcm]
      exact h.drop m
theorem bts_take (l : List UInt8) (k : Nat) : (bts l).take k = bts (l.take k) := by simp [bts, List.map_take]
theorem bts_drop (l : List UInt8) (k : Nat) : (bts l).drop k = bts (l.drop k) := by simp [bts, List.map_drop]
end Go.Proofs.Ytcmfkdfegfablaa


/- Arrays of numbers, held against each other. -/
namespace Go.Proofs.Ytcmfkdfegfablaa
set_option linter.unusedVariables false
set_option linter.unusedSimpArgs false
open Go.RowKit
def ints (k : IntKind) (xs : List Int) : List Value := xs.map (.int k)
theorem run_part_int {P : Program} {w : World} {e : TypeId} {k : IntKind} (he : P.underlying e = some (.int k)) (cs : Array Value) (i : Nat) (v : Value) (h : cs[i]? = some v) : (part e cs i).run P w = .ok v w := by
  simp [part, isAgg, run_underlying he, h]
theorem run_equalIn_arr {P : Program} {w : World} (d : Nat) (t e n : Nat) (k : IntKind) (ht : P.underlying t = some (.array n e)) (he : P.underlying e = some (.int k)) (hsz : (P.info? e).map (·.size) = some 1) (xs ys : List Int) (hx : xs.length = n) (hy : ys.length = n) :
    (Op.equalIn (d + 2) t (.agg (ints k xs).toArray) (.agg (ints k ys).toArray)).run P w = .ok (decide (xs = ys)) w := by
  obtain ⟨i0, hi, hs⟩ := Option.map_eq_some_iff.1 hsz
  have key : ∀ (i : Nat), i < n → (Op.equalIn (d + 1) e (.int k (xs.getD i 0)) (.int k (ys.getD i 0))).run P w = .ok (xs.getD i 0 == ys.getD i 0) w := by
    intro i _
    simp [Op.equalIn, run_underlying he]
  have hgx : ∀ i, i < n → (ints k xs).toArray[i]? = some (.int k (xs.getD i 0)) := by
    intro i h
    simp [ints, List.getElem?_eq_getElem (show i < xs.length by omega)]
  have hgy : ∀ i, i < n → (ints k ys).toArray[i]? = some (.int k (ys.getD i 0)) := by
    intro i h
    simp [ints, List.getElem?_eq_getElem (show i < ys.length by omega)]
  rw [Op.equalIn.eq_def]
  simp only [Sem.run_bind, run_underlying ht, Result.andThen_ok, sizeOf, typeInfo, hi]
  simp only [hi, Sem.run_pure, Result.andThen_ok, hs, Nat.mul_one]
  simp only [Std.Legacy.Range.forIn_eq_forIn_range', Std.Legacy.Range.size, Nat.sub_zero, Nat.add_sub_cancel, Nat.div_one, Sem.run_bind]
  have loop : ∀ (L : List Nat), (∀ i ∈ L, i < n) → (forIn L ((none : Option Bool), ()) fun i __s => do
        let a ← part e (ints k xs).toArray i
        let b ← part e (ints k ys).toArray i
        let r ← Op.equalIn (d + 1) e a b
        if (!r) = true then pure (ForInStep.done (some false, ())) else pure (ForInStep.yield (none, ()))).run P w =
      .ok (if ∀ i ∈ L, xs.getD i 0 = ys.getD i 0 then (none, ()) else (some false, ())) w := by
    intro L
    induction L with
    | nil => intro _; simp
    | cons i L ih =>
      intro hL
      have hin := hL i List.mem_cons_self
      rw [List.forIn_cons]
      simp only [Sem.run_bind, run_part_int he _ _ _ (hgx i hin), run_part_int he _ _ _ (hgy i hin), key i hin, Result.andThen_ok]
      by_cases h : xs.getD i 0 = ys.getD i 0
      · have hb : (xs.getD i 0 == ys.getD i 0) = true := by rw [h]; simp
        rw [hb]
        simp only [Bool.not_true, Bool.false_eq_true, if_false, Sem.run_pure, Result.andThen_ok]
        rw [ih (fun j hj => hL j (List.mem_cons_of_mem _ hj))]
        simp only [List.mem_cons, forall_eq_or_imp, h, true_and]
      · have hb : (xs.getD i 0 == ys.getD i 0) = false := by simpa using h
        rw [hb]
        simp only [Bool.not_false, if_true, Sem.run_pure, Result.andThen_ok]
        rw [if_neg]
        intro hall
        exact h (hall i List.mem_cons_self)
  simp only [run_program, Result.andThen_ok, hi, Sem.run_pure, hs, Nat.mul_one]
  rw [loop _ (by intro i hi'; rw [List.mem_range'] at hi'; obtain ⟨j, h1, h2⟩ := hi'; omega)]
  have hiff : (∀ i ∈ List.range' 0 n, xs.getD i 0 = ys.getD i 0) ↔ xs = ys := by
    constructor
    · intro h
      apply List.ext_getElem (by omega)
      intro i h1 h2
      have := h i (by rw [List.mem_range']; exact ⟨i, by omega, by omega⟩)
      simpa [List.getElem?_eq_getElem h1, List.getElem?_eq_getElem h2] using this
    · rintro rfl i _; rfl
  by_cases h : xs = ys
  · rw [if_pos (hiff.2 h)]
    simp [h]
  · rw [if_neg (fun h' => h (hiff.1 h'))]
    simp [h]
theorem bts_ints (l : List UInt8) : bts l = ints .u8 (l.map fun x => (x.toNat : Int)) := by simp [bts, ints]
theorem nat_inj {xs ys : List UInt8} : xs.map (fun x => (x.toNat : Int)) = ys.map (fun x => (x.toNat : Int)) ↔ xs = ys := by
  constructor
  · intro h
    refine (List.map_inj_right ?_).1 h
    intro a b hab
    exact UInt8.toNat_inj.1 (by omega)
  · rintro rfl; rfl
/-- Arrays of bytes are alike. -/
theorem run_eq_bytes {P : Program} {w : World} (d : Nat) (t e n : Nat) (ht : P.underlying t = some (.array n e)) (he : P.underlying e = some (.int .u8)) (hsz : (P.info? e).map (·.size) = some 1) (xs ys : List UInt8) (hx : xs.length = n) (hy : ys.length = n) :
    (Op.equalIn (d + 2) t (.agg (bts xs).toArray) (.agg (bts ys).toArray)).run P w = .ok (decide (xs = ys)) w := by
  rw [bts_ints, bts_ints, run_equalIn_arr d t e n .u8 ht he hsz _ _ (by simpa using hx) (by simpa using hy)]
  congr 1
  rw [decide_eq_decide]
  exact nat_inj
theorem bin_eq_bytes {P : Program} {w : World} (t e n : Nat) (ht : P.underlying t = some (.array n e)) (he : P.underlying e = some (.int .u8)) (hsz : (P.info? e).map (·.size) = some 1) (xs ys : List UInt8) (hx : xs.length = n) (hy : ys.length = n) :
    (binOp .eql t (.agg (bts xs).toArray) (.agg (bts ys).toArray)).run P w = .ok (.bool (decide (xs = ys))) w ∧ (binOp .neq t (.agg (bts xs).toArray) (.agg (bts ys).toArray)).run P w = .ok (.bool (!decide (xs = ys))) w := by
  rw [run_eql_struct, run_neq_struct, run_eq_bytes 9998 t e n ht he hsz xs ys hx hy]
  exact ⟨rfl, rfl⟩
/-- '==' and '!=' of arrays of bytes as an operation. -/
theorem wp_eq_bytes {P : Program} {w : World} {o : Oper} {a : Act} {K : Act → World → Prop} {Q : Exit → Act → World → Prop} (neg : Bool) (t ty : TypeId) (x y : Operand) (ho : o.op = .binOp (if neg then .neq else .eql) t x y ty)
    (e n : Nat) (ht : P.underlying t = some (.array n e)) (he : P.underlying e = some (.int .u8)) (hsz : (P.info? e).map (·.size) = some 1) (hm : P.eqGuardType P.depth t = false) (xs ys : List UInt8)
    (hx : a.eval x = .agg (bts xs).toArray) (hy : a.eval y = .agg (bts ys).toArray) (hlx : xs.length = n) (hly : ys.length = n)
    (h : K (a.put o.dst (.bool (neg ^^ decide (xs = ys)))) w) : o.wp P a w K Q := by
  obtain ⟨h1, h2⟩ := bin_eq_bytes (w := w) t e n ht he hsz xs ys hlx hly
  unfold Oper.wp execOp
  cases neg
  · simp only [ho, Bool.false_eq_true, if_false, hx, hy, Sem.run_bind, run_eqGuard_agg w _ _ _ _ _ _ hm, Result.andThen_ok, h1, Sem.run_pure]
    rw [Oper.upon_value]
    simpa using h
  · simp only [ho, if_true, hx, hy, Sem.run_bind, run_eqGuard_agg w _ _ _ _ _ _ hm, Result.andThen_ok, h2, Sem.run_pure]
    rw [Oper.upon_value]
    simpa using h
end Go.Proofs.Ytcmfkdfegfablaa


/- Blocks whose cells are known whole: what is read out of them, stored and copied into them. -/
namespace Go.Proofs.Ytcmfkdfegfablaa
open Go.RowKit
set_option linter.unusedVariables false
set_option linter.unusedSimpArgs false

/-- Block g holds the cells vs. -/
def Bk (w : World) (g : Nat) (vs : List Value) : Prop := ∃ t, w.heap[g]? = some (.cells vs.toArray t (0, 0))
theorem Bk.chg {S : Nat → Prop} {w w1 : World} {g : Nat} {vs : List Value} (h : Bk w g vs) (hc : Chg S w w1) (hS : ¬ S g) : Bk w1 g vs := by
  obtain ⟨t, h⟩ := h
  exact ⟨t, hc.get h hS⟩
theorem Bk.below {w w1 : World} {g : Nat} {vs : List Value} (h : Bk w g vs) (hc : Below w.heap.size w w1) : Bk w1 g vs := h.chg (S := NoS) (.of_below hc) id
theorem Bk.lt {w : World} {g : Nat} {vs : List Value} (h : Bk w g vs) : g < w.heap.size := by
  obtain ⟨t, h⟩ := h
  exact (Array.getElem?_eq_some_iff.1 h).1
theorem Bk.drew {w : World} {g : Nat} {vs : List Value} (h : Bk w g vs) : Bk w.drew g vs := h
theorem Bk.new (w : World) (vs : List Value) (t : TypeId) : Bk (w.alloc (.cells vs.toArray t)) w.heap.size vs := ⟨t, heap_alloc_new w _⟩
theorem Bk.new_at {w : World} {g : Nat} {cs : Array Value} {t : TypeId} {vs : List Value} (hg : g = w.heap.size) (hv : cs = vs.toArray) : Bk (w.alloc (.cells cs t)) g vs := by
  subst hg
  subst hv
  exact Bk.new w vs t
theorem Bk.alloc {w : World} {g : Nat} {vs : List Value} (h : Bk w g vs) (o : Obj) : Bk (w.alloc o) g vs := h.chg (S := NoS) ((Chg.refl w).alloc o) id
theorem Bk.rd {w : World} {g : Nat} {vs : List Value} (h : Bk w g vs) : Rd w (some ⟨g, 0, none⟩) vs := by
  obtain ⟨t, h⟩ := h
  exact Rd.row (S := NoS) h
theorem Bk.rd_at {w : World} {g : Nat} {vs : List Value} (h : Bk w g vs) (off n : Nat) : Rd w (some ⟨g, off, none⟩) ((vs.drop off).take n) := by
  obtain ⟨t, h⟩ := h
  have := Rd.of_block_at h off
  simp only at this
  exact Rd.take this n
theorem Bk.cell {w : World} {g j : Nat} {vs : List Value} {v : Value} (h : Bk w g vs) (hj : vs[j]? = some v) : w.cell? ⟨g, j, none⟩ = some v := by
  obtain ⟨t, h⟩ := h
  simpa [World.cell?, h] using hj
theorem Bk.frozen {w : World} {g : Nat} {vs : List Value} (h : Bk w g vs) (j : Nat) : w.frozen? ⟨g, j, none⟩ = false := by
  obtain ⟨t, h⟩ := h
  simp [World.frozen?, h]
theorem Bk.set {w : World} {g j : Nat} {vs : List Value} (h : Bk w g vs) (v : Value) : Bk (w.setCell ⟨g, j, none⟩ v) g (vs.set j v) := by
  obtain ⟨t, h⟩ := h
  refine ⟨t, ?_⟩
  rw [heap_setCell_same w g j _ t v h]
  simp
theorem Bk.inj {w : World} {g : Nat} {vs us : List Value} (h : Bk w g vs) (h' : Bk w g us) : vs = us := by
  obtain ⟨t, h⟩ := h
  obtain ⟨t', h'⟩ := h'
  rw [h] at h'
  injection h' with h'
  injection h' with h' _
  exact List.toArray_inj h'

theorem Chg.undrew {S : Nat → Prop} {w w1 : World} (h : Chg S w.drew w1) : Chg S w w1 := ⟨h.os, h.tape, h.output, h.size, h.block⟩
theorem chg_setRow (w : World) (g : Nat) (cs : Array Value) : Chg (· = g) w (w.setRow g cs) :=
  ⟨rfl, rfl, rfl, by simp, fun k _ hk => setRow_other w g k cs hk⟩
theorem splice_eq (vs us : List Value) (off : Nat) : vs.take off ++ us ++ vs.drop (off + us.length) = splice vs off us := by simp [splice]
theorem splice_nil (vs : List Value) (off : Nat) : splice vs off [] = vs := by simp [splice]
theorem splice_all (vs us : List Value) (h : us.length = vs.length) : splice vs 0 us = us := by simp [splice, h]

section
variable {P : Program} {o : Oper} {a : Act} {w : World} {K : Act → World → Prop} {Q : Exit → Act → World → Prop}
/-- An operation of a list, carried out by a law of its own. -/
theorem wpl {ops : Array Oper} {rest : List Oper} (hw : Region.wanted o (yielded ops a.tmps) = true) (h : ∀ K : Act → World → Prop, (∀ a w, wpList P ops Q rest a w → K a w) → o.wp P a w K Q) : wpList P ops Q (o :: rest) a w := by
  refine wpList_step fun K hK => ?_
  rw [if_pos hw]
  exact h K hK
theorem run_loadVar_at (w : World) (ty g off n : Nat) (vs : List Value) (hb : Bk w g vs) (hagg : (match P.underlying ty with | some (.struct _) | some (.array _ _) => true | _ => false) = true) (hsz : (P.info? ty).map (·.size) = some n) (hn : off + n ≤ vs.length) :
    (loadVar ty ⟨g, off, none⟩).run P w = .ok (.agg ((vs.drop off).take n).toArray) w := by
  obtain ⟨i0, hi, hs⟩ := Option.map_eq_some_iff.1 hsz
  have hl : (loadCells ⟨g, off, none⟩ ((vs.drop off).take n).length).run P w = .ok ((vs.drop off).take n).toArray w :=
    run_loadCells_list (P := P) w ⟨g, off, none⟩ _ (fun j v hv => by
      rw [add_plain]
      rw [List.getElem?_take] at hv
      split at hv
      · rw [List.getElem?_drop] at hv
        exact hb.cell hv
      · cases hv)
  have hlen : ((vs.drop off).take n).length = n := by rw [List.length_take, List.length_drop]; omega
  rw [hlen] at hl
  have hag : (isAgg ty).run P w = .ok true w := by
    unfold isAgg
    cases hu : P.underlying ty with
    | none => simp [hu] at hagg
    | some d =>
      rw [Sem.run_bind, run_underlying hu w]
      cases d <;> simp_all
  simp [loadVar, Sem.run_bind, hag, sizeOf, typeInfo, hi, hs, hl]
/-- A part of a block is read. -/
theorem wp_ld (ty : TypeId) (x : Operand) (ho : o.op = .load ty x) (g off n : Nat) (vs us : List Value) (hx : a.eval x = .pointer (some ⟨g, off, none⟩)) (hb : Bk w g vs)
    (hagg : (match P.underlying ty with | some (.struct _) | some (.array _ _) => true | _ => false) = true) (hsz : (P.info? ty).map (·.size) = some n) (hn : off + n ≤ vs.length) (hus : (vs.drop off).take n = us)
    (h : K (a.put o.dst (.agg us.toArray)) w) : o.wp P a w K Q := by
  subst hus
  unfold Oper.wp execOp
  simp only [ho, hx, Instr.loadAt, Instr.sureAddr, Sem.run_bind, Sem.run_pure, Result.andThen_ok, run_loadVar_at w ty g off n vs hb hagg hsz hn]
  exact h
theorem run_storeVar_at (w : World) (ty g off : Nat) (vs : List Value) (v : Value) (hb : Bk w g vs) (hsz : (P.info? ty).map (·.size) = some v.cells.toList.length) (hn : off + v.cells.toList.length ≤ vs.length) (h1 : ∀ u ∈ v.cells.toList, u.oneCell' = true) :
    ∃ w', (storeVar ty ⟨g, off, none⟩ v).run P w = .ok () w' ∧ Bk w' g (splice vs off v.cells.toList) ∧ Chg (· = g) w w' := by
  obtain ⟨t, hb⟩ := hb
  obtain ⟨i0, hi, hs⟩ := Option.map_eq_some_iff.1 hsz
  have := run_storeCells_at P g off t v.cells.toList 0 vs.toArray w hb (by simpa using hn) h1
  simp only [Nat.add_zero] at this
  refine ⟨_, ?_, ⟨t, setRow_heap w g _ _ t _ hb⟩, chg_setRow w g _⟩
  rw [← splice_eq]
  simp only [storeVar, Sem.run_bind, sizeOf, typeInfo, run_program, Result.andThen_ok, hi, Sem.run_pure]
  rw [if_neg (by rw [hs]; simp)]
  simpa using this
/-- A value is stored into a part of a block. -/
theorem wp_st (ty : TypeId) (x y : Operand) (ho : o.op = .store ty x y) (g off : Nat) (vs us : List Value) (hx : a.eval x = .pointer (some ⟨g, off, none⟩)) (hy : (a.eval y).cells.toList = us) (hb : Bk w g vs)
    (hsz : (P.info? ty).map (·.size) = some us.length) (hn : off + us.length ≤ vs.length) (h1 : ∀ u ∈ us, u.oneCell' = true)
    (h : ∀ w', Bk w' g (splice vs off us) → Chg (· = g) w w' → K (a.put o.dst undef) w') : o.wp P a w K Q := by
  subst hy
  obtain ⟨w', hr, hb', hc⟩ := run_storeVar_at (P := P) w ty g off vs (a.eval y) hb hsz hn h1
  unfold Oper.wp execOp
  simp only [ho, hx, Instr.storeAt, Instr.sureAddr, Sem.run_bind, Sem.run_pure, Result.andThen_ok, hr]
  exact h w' hb' hc
/-- copy into a part of a block. -/
theorem wp_cp (d s : Operand) (dT sT elem : TypeId) (ho : o.op = .call { callee := .builtin .copy, args := #[d, s], argTypes := #[dT, sT] }) (hu : P.underlying dT = some (.slice elem)) (hs1 : (P.info? elem).map (·.size) = some 1)
    (g off n cd : Nat) (A : Option Addr) (m cs : Nat) (vs us : List Value) (hd : a.eval d = .slice (some ⟨g, off, none⟩) n cd) (hs : a.eval s = .slice A m cs) (hb : Bk w g vs) (hr : Rd w A us) (hl : us.length = m) (hn : off + n ≤ vs.length) (h1 : ∀ u ∈ us, u.oneCell' = true)
    (h : ∀ w', Bk w' g (splice vs off (us.take n)) → Chg (· = g) w w' → K (a.put o.dst (goInt (Nat.min m n : Nat))) w') : o.wp P a w K Q := by
  obtain ⟨i0, hi, hsz⟩ := Option.map_eq_some_iff.1 hs1
  have hlen : (us.take n).length = Nat.min m n := by rw [List.length_take, hl]; exact Nat.min_comm n m
  have key : ∃ w', (Builtin.copy_ #[dT, sT] o.type #[.slice (some ⟨g, off, none⟩) n cd, .slice A m cs]).run P w = .ok (goInt (Nat.min m n : Nat)) w' ∧ Bk w' g (splice vs off (us.take n)) ∧ Chg (· = g) w w' := by
    by_cases hz : Nat.min m n = 0
    · refine ⟨w, ?_, ?_, Chg.refl w⟩
      · rw [hz]
        exact run_copy_none w dT sT o.type elem _ A n cd m cs hu hs1 hz
      · rw [show us.take n = [] from List.eq_nil_of_length_eq_zero (by omega), splice_nil]
        exact hb
    · have hpos : 0 < us.length := by
        rw [hl]
        rcases Nat.eq_zero_or_pos m with h0 | h0
        · subst h0; simp at hz
        · exact h0
      obtain ⟨ad, rfl, _⟩ := hr.at_ 0 hpos
      obtain ⟨t, hb⟩ := hb
      have hnle : off + Nat.min m n ≤ vs.length := Nat.le_trans (Nat.add_le_add_left (Nat.min_le_right m n) off) hn
      have hld := run_loadCells_list (P := P) w ad (us.take n) (fun j v hv => by
        rw [List.getElem?_take] at hv
        split at hv
        · obtain ⟨ad', e, hc⟩ := hr j v hv
          injection e with e
          subst e
          exact hc
        · cases hv)
      have hst := run_storeCells_at P g off t (us.take n) 0 vs.toArray w hb (by rw [hlen]; simpa using hnle) (fun u hu => h1 u (List.mem_of_mem_take hu))
      simp only [Nat.add_zero] at hst
      rw [hlen] at hld
      refine ⟨_, ?_, ⟨t, setRow_heap w g _ _ t _ hb⟩, chg_setRow w g _⟩
      rw [← splice_eq]
      simp [Builtin.copy_, run_underlying hu, Builtin.lenOf, Builtin.firstCells, sizeOf, typeInfo, hi, hsz, hld, hst]
  obtain ⟨w', hrun, hb', hc⟩ := key
  unfold Oper.wp execOp
  simp only [ho, resolve, invoke, builtin, Sem.run_bind, Sem.run_pure, Result.andThen_ok, List.map_toArray, List.map_cons, List.map_nil, hd, hs, hrun]
  exact h w' hb' hc
end
/-! ### the same within lists of operations -/
section
variable {P : Program} {o : Oper} {a : Act} {w : World} {Q : Exit → Act → World → Prop} {ops : Array Oper} {rest : List Oper}
theorem wpList_ld (hw : Region.wanted o (yielded ops a.tmps) = true) (ty : TypeId) (x : Operand) (ho : o.op = .load ty x) (g off n : Nat) (vs us : List Value) (hx : a.eval x = .pointer (some ⟨g, off, none⟩)) (hb : Bk w g vs)
    (hagg : (match P.underlying ty with | some (.struct _) | some (.array _ _) => true | _ => false) = true) (hsz : (P.info? ty).map (·.size) = some n) (hn : off + n ≤ vs.length) (hus : (vs.drop off).take n = us)
    (h : wpList P ops Q rest (a.put o.dst (.agg us.toArray)) w) : wpList P ops Q (o :: rest) a w :=
  wpl hw fun K hK => wp_ld ty x ho g off n vs us hx hb hagg hsz hn hus (hK _ _ h)
theorem wpList_st (hw : Region.wanted o (yielded ops a.tmps) = true) (ty : TypeId) (x y : Operand) (ho : o.op = .store ty x y) (g off n : Nat) (vs us : List Value) (hx : a.eval x = .pointer (some ⟨g, off, none⟩)) (hy : (a.eval y).cells.toList = us) (hb : Bk w g vs)
    (hsz : (P.info? ty).map (·.size) = some n) (hlen : us.length = n) (hn : off + n ≤ vs.length) (h1 : ∀ u ∈ us, u.oneCell' = true)
    (h : ∀ w', Bk w' g (splice vs off us) → Chg (· = g) w w' → wpList P ops Q rest (a.put o.dst undef) w') : wpList P ops Q (o :: rest) a w := by
  subst hlen
  exact wpl hw fun K hK => wp_st ty x y ho g off vs us hx hy hb hsz hn h1 fun w' hb' hc => hK _ _ (h w' hb' hc)
theorem wpList_cp (hw : Region.wanted o (yielded ops a.tmps) = true) (d s : Operand) (dT sT elem : TypeId) (ho : o.op = .call { callee := .builtin .copy, args := #[d, s], argTypes := #[dT, sT] }) (hu : P.underlying dT = some (.slice elem)) (hs1 : (P.info? elem).map (·.size) = some 1)
    (g off n cd : Nat) (A : Option Addr) (m cs : Nat) (vs us : List Value) (hd : a.eval d = .slice (some ⟨g, off, none⟩) n cd) (hs : a.eval s = .slice A m cs) (hb : Bk w g vs) (hr : Rd w A us) (hl : us.length = m) (hn : off + n ≤ vs.length) (h1 : ∀ u ∈ us, u.oneCell' = true)
    (h : ∀ w', Bk w' g (splice vs off (us.take n)) → Chg (· = g) w w' → wpList P ops Q rest (a.put o.dst (goInt (Nat.min m n : Nat))) w') : wpList P ops Q (o :: rest) a w :=
  wpl hw fun K hK => wp_cp d s dT sT elem ho hu hs1 g off n cd A m cs vs us hd hs hb hr hl hn h1 fun w' hb' hc => hK _ _ (h w' hb' hc)
end
theorem wpList_eq_bytes {P : Program} {o : Oper} {a : Act} {w : World} {Q : Exit → Act → World → Prop} {ops : Array Oper} {rest : List Oper} (hw : Region.wanted o (yielded ops a.tmps) = true) (neg : Bool) (t ty : TypeId) (x y : Operand) (ho : o.op = .binOp (if neg then .neq else .eql) t x y ty)
    (e n : Nat) (ht : P.underlying t = some (.array n e)) (he : P.underlying e = some (.int .u8)) (hsz : (P.info? e).map (·.size) = some 1) (hm : P.eqGuardType P.depth t = false) (xs ys : List UInt8)
    (hx : a.eval x = .agg (bts xs).toArray) (hy : a.eval y = .agg (bts ys).toArray) (hlx : xs.length = n) (hly : ys.length = n) (r : Bool) (hr : (neg ^^ decide (xs = ys)) = r)
    (h : wpList P ops Q rest (a.put o.dst (.bool r)) w) : wpList P ops Q (o :: rest) a w := by
  subst hr
  exact wpl hw fun K hK => wp_eq_bytes neg t ty x y ho e n ht he hsz hm xs ys hx hy hlx hly (hK _ _ h)
/-- The world of a call, of code, gets a name. -/
theorem calls_at {P : Program} {n : Nat} {args : Array Value} {w : World} {Q : Ending → World → Prop} (h : ∀ w', w = w' → Calls P n args w' Q) : Calls P n args w Q := h w rfl
theorem code_at {P : Program} {c : Code} {Q : Exit → Act → World → Prop} {a : Act} {w : World} (h : ∀ w', w = w' → Code.wp P c Q a w') : Code.wp P c Q a w := h w rfl
/-! ### a struct or an array out of parts -/
theorem fold_set (off : Nat) : ∀ (us : List Value) (i : Nat) (z : Array Value), off + i + us.length ≤ z.size →
    ((us.zipIdx i).foldl (fun cs (x : Value × Nat) => cs.setIfInBounds (off + x.2) x.1) z) = (splice z.toList (off + i) us).toArray
  | [], i, z, _ => by simp [splice]
  | u :: us, i, z, h => by
    rw [List.zipIdx_cons, List.foldl_cons, fold_set off us (i + 1) _ (by simp at h ⊢; omega)]
    congr 1
    have e := list_seg_step z.toList (off + i) u us (by simp at h ⊢; omega)
    rw [← splice_eq, ← splice_eq, List.length_cons]
    simpa [Nat.add_assoc] using e
theorem fill_step {place : Nat → Option (Nat × Nat)} {z : List Value} {i off : Nat} {v : Value} {rest : List (Nat × Value)} {us : List Value} (hus : v.cells.toList = us) (hp : place i = some (off, us.length)) (hl : off + us.length ≤ z.length) :
    Instr.fill place z.toArray ((i, v) :: rest) = Instr.fill place (splice z off us).toArray rest := by
  subst hus
  have e := fold_set off v.cells.toList 0 z.toArray (by simpa using hl)
  have hz : v.cells.zipIdx = (v.cells.toList.zipIdx 0).toArray := by
    apply Array.toList_inj.1
    simp
  rw [Instr.fill, hp]
  simp only
  rw [if_neg (by simp at hl ⊢; omega)]
  rw [hz, List.foldl_toArray', e]
  · simp
  · simp
def placesOf (P : Program) (t : TypeId) : Option (List (Nat × Nat)) :=
  match P.underlying t with
  | some (.struct fields) => fields.toList.mapM fun f => (P.info? f.type).map fun i => (f.offset, i.size)
  | _ => none
theorem built_of {P : Program} {t : TypeId} {zs : List Value} {pl : List (Nat × Nat)} {parts : List (Nat × Value)} {us : List Value} (hz : (P.info? t).bind (·.zero) = some (.agg zs.toArray)) (hp : placesOf P t = some pl)
    (hf : Instr.fill (pl.toArray[·]?) zs.toArray parts = some us.toArray) : P.built t parts = some us.toArray := by
  unfold placesOf at hp
  cases hi : P.info? t with
  | none => rw [hi] at hz; simp at hz
  | some it =>
    rw [hi] at hz
    simp at hz
    split at hp
    · rename_i fields hu
      unfold Program.built
      rw [hi, hu]
      simp only [hz, hp]
      simpa [Value.cells] using hf
    · cases hp
/-- A struct whose two parts fill it. -/
theorem wp_bld2 {P : Program} {o : Oper} {a : Act} {w : World} {K : Act → World → Prop} {Q : Exit → Act → World → Prop} (t : TypeId) (i j : Nat) (x y : Operand) (ho : o.op = .build t #[(i, x), (j, y)]) (n : Nat) (zs : List Value) (pl : List (Nat × Nat)) (hz : (P.info? t).bind (·.zero) = some (.agg zs.toArray)) (hp : placesOf P t = some pl)
    (us vs : List Value) (hx : (a.eval x).cells.toList = us) (hy : (a.eval y).cells.toList = vs) (hpi : pl.toArray[i]? = some (0, us.length)) (hpj : pl.toArray[j]? = some (us.length, vs.length)) (hl : zs.length = us.length + vs.length)
    (h : K (a.put o.dst (.agg (us ++ vs).toArray)) w) : o.wp P a w K Q := by
  have hb : P.built t [(i, a.eval x), (j, a.eval y)] = some (us ++ vs).toArray := by
    refine built_of hz hp ?_
    rw [fill_step hx hpi (by omega), fill_step hy hpj (by rw [length_splice _ _ _ (by omega)]; omega), Instr.fill]
    congr 2
    simp only [splice, List.take_zero, List.nil_append, Nat.zero_add]
    rw [List.take_append_of_le_length (by omega), List.take_length, List.drop_append, List.drop_eq_nil_of_le (show us.length ≤ us.length + vs.length by omega), List.nil_append, List.drop_drop, List.drop_eq_nil_of_le (by omega), List.append_nil]
  unfold Oper.wp execOp
  simp only [ho, Sem.run_bind, List.map_toArray, List.map_cons, List.map_nil, run_build w t _ _ hb, Result.andThen_ok]
  exact h
/-! ### any build -/
def splices (zs : List Value) : List (Nat × List Value) → List Value
  | [] => zs
  | (off, us) :: r => splices (splice zs off us) r
def placeAt (P : Program) (t : TypeId) (i : Nat) : Option (Nat × Nat) :=
  match P.underlying t with
  | some (.struct fields) => (fields.toList.mapM fun f => (P.info? f.type).map fun i => (f.offset, i.size)).bind (·.toArray[i]?)
  | some (.array _ e) => (P.info? e).map fun ie => (i * ie.size, ie.size)
  | _ => none
def placesB (P : Program) (t : TypeId) : Bool :=
  match P.underlying t with
  | some (.struct fields) => (fields.toList.mapM fun f => (P.info? f.type).map fun i => (f.offset, i.size)).isSome
  | some (.array _ e) => (P.info? e).isSome
  | _ => false
def FitsAt (P : Program) (t : TypeId) (n : Nat) (ev : Operand → Value) : List (Nat × Operand) → List (Nat × List Value) → Prop
  | (i, x) :: ps, (off, us) :: sp => (ev x).cells.toList = us ∧ (∃ k, us.length = k ∧ placeAt P t i = some (off, k) ∧ off + k ≤ n) ∧ FitsAt P t n ev ps sp
  | [], [] => True
  | _, _ => False
theorem fill_fits {P : Program} {t : TypeId} {n : Nat} {ev : Operand → Value} {place : Nat → Option (Nat × Nat)} (hp : place = placeAt P t) : ∀ (ps : List (Nat × Operand)) (sp : List (Nat × List Value)) (zs : List Value), zs.length = n → FitsAt P t n ev ps sp →
    Instr.fill place zs.toArray (ps.map fun p => (p.1, ev p.2)) = some (splices zs sp).toArray
  | [], [], zs, _, _ => by simp [Instr.fill, splices]
  | (i, x) :: ps, (off, us) :: sp, zs, hz, h => by
    obtain ⟨h1, ⟨k, h2, h3, h4⟩, h5⟩ := h
    subst h2
    rw [List.map_cons, fill_step h1 (by rw [hp]; exact h3) (by omega)]
    exact fill_fits hp ps sp _ (by rw [length_splice _ _ _ (by omega)]; exact hz) h5
  | [], _ :: _, _, _, h => h.elim
  | _ :: _, [], _, _, h => h.elim
theorem built_fits {P : Program} {t : TypeId} {zs : List Value} {ev : Operand → Value} {ps : List (Nat × Operand)} {sp : List (Nat × List Value)} (hz : (P.info? t).bind (·.zero) = some (.agg zs.toArray)) (hok : placesB P t = true)
    (h : FitsAt P t zs.length ev ps sp) : P.built t (ps.map fun p => (p.1, ev p.2)) = some (splices zs sp).toArray := by
  cases hi : P.info? t with
  | none => rw [hi] at hz; simp at hz
  | some it =>
    rw [hi] at hz
    simp at hz
    unfold placesB at hok
    split at hok
    · rename_i fields hu
      obtain ⟨pl, hpl⟩ := Option.isSome_iff_exists.1 hok
      unfold Program.built
      rw [hi, hu]
      simp only [hz, hpl]
      exact fill_fits (by funext i; simp [placeAt, hu, hpl]) ps sp zs rfl h
    · rename_i n e hu
      obtain ⟨ie, hie⟩ := Option.isSome_iff_exists.1 hok
      unfold Program.built
      rw [hi, hu]
      simp only [hz, hie]
      exact fill_fits (by funext i; simp [placeAt, hu, hie]) ps sp zs rfl h
    · cases hok
theorem wp_bld {P : Program} {o : Oper} {a : Act} {w : World} {K : Act → World → Prop} {Q : Exit → Act → World → Prop} (t : TypeId) (ps : List (Nat × Operand)) (ho : o.op = .build t ps.toArray) (zs : List Value) (sp : List (Nat × List Value)) (us : List Value) (hz : (P.info? t).bind (·.zero) = some (.agg zs.toArray)) (hok : placesB P t = true)
    (hf : FitsAt P t zs.length a.eval ps sp) (hus : splices zs sp = us) (h : K (a.put o.dst (.agg us.toArray)) w) : o.wp P a w K Q := by
  subst hus
  have hb := built_fits hz hok hf
  unfold Oper.wp execOp
  simp only [ho, Sem.run_bind, List.map_toArray, run_build w t _ _ hb, Result.andThen_ok]
  exact h
theorem wpList_bld {P : Program} {o : Oper} {a : Act} {w : World} {Q : Exit → Act → World → Prop} {ops : Array Oper} {rest : List Oper} (hw : Region.wanted o (yielded ops a.tmps) = true) (t : TypeId) (ps : List (Nat × Operand)) (ho : o.op = .build t ps.toArray) (zs : List Value) (sp : List (Nat × List Value)) (us : List Value) (hz : (P.info? t).bind (·.zero) = some (.agg zs.toArray)) (hok : placesB P t = true)
    (hf : FitsAt P t zs.length a.eval ps sp) (hus : splices zs sp = us) (h : wpList P ops Q rest (a.put o.dst (.agg us.toArray)) w) : wpList P ops Q (o :: rest) a w :=
  wpl hw fun K hK => wp_bld t ps ho zs sp us hz hok hf hus (hK _ _ h)
/-! ### a new block -/
theorem run_alloc_zero {P : Program} (w : World) (t : TypeId) (zs : List Value) (hz : (P.info? t).bind (·.zero) = some (.agg zs.toArray)) : (Instr.alloc t true (.tuple #[])).run P w = .ok (.pointer (some ⟨w.heap.size, 0, none⟩)) (w.alloc (.cells zs.toArray t)) := by
  obtain ⟨it, hi, hz'⟩ := Option.bind_eq_some_iff.1 hz
  simp [Instr.alloc, zeroValue, typeInfo, hi, hz', Value.cells, newVar, newRow]
theorem wp_al {P : Program} {o : Oper} {a : Act} {w : World} {K : Act → World → Prop} {Q : Exit → Act → World → Prop} (t : TypeId) (ho : o.op = .alloc t) (zs : List Value) (hz : (P.info? t).bind (·.zero) = some (.agg zs.toArray))
    (h : K (a.put o.dst (.pointer (some ⟨w.heap.size, 0, none⟩))) (w.alloc (.cells zs.toArray t))) : o.wp P a w K Q := by
  unfold Oper.wp execOp
  simp only [ho, Sem.run_bind, run_alloc_zero w t zs hz, Result.andThen_ok, Sem.run_pure]
  exact h
theorem wpList_al {P : Program} {o : Oper} {a : Act} {w : World} {Q : Exit → Act → World → Prop} {ops : Array Oper} {rest : List Oper} (hw : Region.wanted o (yielded ops a.tmps) = true) (t : TypeId) (ho : o.op = .alloc t) (zs : List Value) (hz : (P.info? t).bind (·.zero) = some (.agg zs.toArray))
    (h : ∀ g w', g = w.heap.size → Bk w' g zs → Chg NoS w w' → w'.heap.size = g + 1 → wpList P ops Q rest (a.put o.dst (.pointer (some ⟨g, 0, none⟩))) w') : wpList P ops Q (o :: rest) a w :=
  wpl hw fun K hK => wp_al t ho zs hz (hK _ _ (h _ _ rfl (Bk.new w zs t) ((Chg.refl w).alloc _) (by simp)))
/-- Behind the walk's own steps the call's result is in a cell. -/
theorem sized_bts (l : List UInt8) {n : Nat} (h : l.length = n) : (bts l).length = n := by simpa using h
theorem splice_whole (vs us : List Value) (h : us.length = vs.length) : splice vs 0 us = us := by
  simp only [splice, List.take_zero, List.nil_append, Nat.zero_add, h, List.drop_length, List.append_nil]
/-- A place that was made behind a world, and what it holds. -/
def PtrAt (S : Nat → Prop) (base : Nat) (vs : List Value) : Fact := fun w v => ∃ g, v = .pointer (some ⟨g, 0, none⟩) ∧ base ≤ g ∧ ¬ S g ∧ Bk w g vs
theorem PtrAt.lasts {S : Nat → Prop} {base : Nat} {vs : List Value} : ∀ w w' v, Chg S w w' → PtrAt S base vs w v → PtrAt S base vs w' v :=
  fun _ _ _ h ⟨g, e, hb, hs, hk⟩ => ⟨g, e, hb, hs, hk.chg h hs⟩
/-- Two rows, the first of them made here, and the row of both. -/
def RowsAt (u : Value) (l : List Value) : Fact := fun W v => ∃ g k, v = .slice (some ⟨g, 0, none⟩) 2 2 ∧ Rd W (some ⟨g, 0, none⟩) [.slice (some ⟨k, 0, none⟩) 1 1, u] ∧ Rd W (some ⟨k, 0, none⟩) l
theorem RowsAt.lasts {u : Value} {l : List Value} : ∀ w w' v, Chg NoS w w' → RowsAt u l w v → RowsAt u l w' v :=
  fun _ _ _ h ⟨g, k, e, h1, h2⟩ => ⟨g, k, e, h1.chg h, h2.chg h⟩
/-! ### results in memory -/
theorem res_cell_tmp {P : Program} {fn : Func} {p u : Tmp} {ty : TypeId} (h : fn.results = #[.cell p ty, .tmp u]) (tmps : Array Value) (w : World) (g n : Nat) (vs : List Value) (hp : tmps.getD p undef = .pointer (some ⟨g, 0, none⟩)) (hb : Bk w g vs)
    (hagg : (match P.underlying ty with | some (.struct _) | some (.array _ _) => true | _ => false) = true) (hsz : (P.info? ty).map (·.size) = some n) (hn : vs.length = n) :
    (results fn tmps).run P w = .ok (.tuple #[.agg vs.toArray, tmps.getD u undef]) w := by
  have := run_loadVar_at (P := P) w ty g 0 n vs hb hagg hsz (by omega)
  rw [List.drop_zero, ← hn, List.take_length] at this
  rw [results_cell_tmp h, hp]
  simp [asAddr, this]
theorem res_cell {P : Program} {fn : Func} {p : Tmp} {ty : TypeId} (h : fn.results = #[.cell p ty]) (tmps : Array Value) (w : World) (g n : Nat) (vs : List Value) (hp : tmps.getD p undef = .pointer (some ⟨g, 0, none⟩)) (hb : Bk w g vs)
    (hagg : (match P.underlying ty with | some (.struct _) | some (.array _ _) => true | _ => false) = true) (hsz : (P.info? ty).map (·.size) = some n) (hn : vs.length = n) :
    (results fn tmps).run P w = .ok (.agg vs.toArray) w := by
  have := run_loadVar_at (P := P) w ty g 0 n vs hb hagg hsz (by omega)
  rw [List.drop_zero, ← hn, List.take_length] at this
  have hp' : tmps[p]?.getD undef = .pointer (some ⟨g, 0, none⟩) := by simpa using hp
  simp [results, h, hp', asAddr, this]
/-! ### the bytes of a splice -/
theorem splice_bts (a b : List UInt8) (off : Nat) : splice (bts a) off (bts b) = bts (splice a off b) := by simp [splice, bts, List.map_take, List.map_drop]
end Go.Proofs.Ytcmfkdfegfablaa


/- Rows of equal pieces: one piece read, one piece written. -/
namespace Go.Proofs.Ytcmfkdfegfablaa
open Go.RowKit
set_option linter.unusedVariables false
set_option linter.unusedSimpArgs false

theorem flat_length {α : Type} (f : α → List Value) (C : Nat) : ∀ (l : List α), (∀ x ∈ l, (f x).length = C) → (l.flatMap f).length = l.length * C
  | [], _ => by simp
  | x :: l, h => by
    rw [List.flatMap_cons, List.length_append, h x List.mem_cons_self, flat_length f C l (fun y hy => h y (List.mem_cons_of_mem _ hy)), List.length_cons, Nat.add_mul]
    omega
theorem flat_piece {α : Type} (f : α → List Value) (C : Nat) : ∀ (l : List α) (i : Nat) (x : α), (∀ x ∈ l, (f x).length = C) → l[i]? = some x → ((l.flatMap f).drop (i * C)).take C = f x
  | [], i, x, _, h => by simp at h
  | y :: l, 0, x, h, hx => by
    have : y = x := by simpa using hx
    subst this
    rw [Nat.zero_mul, List.drop_zero, List.flatMap_cons, List.take_append_of_le_length (by rw [h y List.mem_cons_self]; exact Nat.le_refl _), List.take_of_length_le (by rw [h y List.mem_cons_self]; exact Nat.le_refl _)]
  | y :: l, i + 1, x, h, hx => by
    have hl := h y List.mem_cons_self
    rw [List.flatMap_cons, List.drop_append, List.drop_eq_nil_of_le (by rw [hl, Nat.add_mul]; omega), List.nil_append, hl, show (i + 1) * C - C = i * C by rw [Nat.add_mul]; omega]
    exact flat_piece f C l i x (fun z hz => h z (List.mem_cons_of_mem _ hz)) (by simpa using hx)
theorem flat_set {α : Type} (f : α → List Value) (C : Nat) : ∀ (l : List α) (i : Nat) (x : α), (∀ x ∈ l, (f x).length = C) → (f x).length = C → i < l.length → splice (l.flatMap f) (i * C) (f x) = (l.set i x).flatMap f
  | [], i, x, _, _, h => by simp at h
  | y :: l, 0, x, h, hx, _ => by
    have hl := h y List.mem_cons_self
    simp only [splice, List.set_cons_zero, List.flatMap_cons, Nat.zero_mul, List.take_zero, List.nil_append, Nat.zero_add, hx]
    rw [List.drop_append, List.drop_eq_nil_of_le (by omega), hl, Nat.sub_self, List.drop_zero, List.nil_append]
  | y :: l, i + 1, x, h, hx, hi => by
    have hl := h y List.mem_cons_self
    have ih := flat_set f C l i x (fun z hz => h z (List.mem_cons_of_mem _ hz)) hx (by simpa using hi)
    simp only [splice, List.set_cons_succ, List.flatMap_cons] at ih ⊢
    rw [← ih, List.take_append, List.drop_append, List.take_of_length_le (by rw [hl, Nat.add_mul]; omega), List.drop_eq_nil_of_le (by rw [hl, Nat.add_mul]; omega), hl, show (i + 1) * C - C = i * C by rw [Nat.add_mul]; omega, show (i + 1) * C + (f x).length - C = i * C + (f x).length by rw [Nat.add_mul]; omega]
    simp
/-- An own row's block: the row, and what is spare. -/
theorem own_bkr {w : World} {base n : Nat} {e : TypeId} {size : Nat} {v : Value} {xs : List Value} (h : w.ownsRow base e size v n xs) (hn : 0 < n) : ∃ g cap rest, v = .slice (some ⟨g, 0, none⟩) n cap ∧ Bk w g (xs ++ rest) ∧ v.ownBlock = some g := by
  obtain ⟨hl, h2⟩ := h
  rcases h2 with ⟨_, h0⟩ | ⟨g, cap, cur, rfl, _, hh, _, _, hs, ht⟩
  · omega
  · refine ⟨g, cap, cur.toList.drop (n * size), rfl, ⟨e, ?_⟩, rfl⟩
    have : xs ++ cur.toList.drop (n * size) = cur.toList := by
      rw [← ht]
      exact List.take_append_drop _ _
    rw [this]
    exact hh
/-- What a sector is: the last loose write of it, else the sector. -/
def nowS (S : List (List UInt8)) (L : List (Nat × List UInt8)) (i : Nat) : List UInt8 := L.foldl (fun b p => if p.1 = i then p.2 else b) (S.getD i [])
theorem nowS_take (S : List (List UInt8)) (L : List (Nat × List UInt8)) (i k : Nat) (h : k < L.length) : nowS S (L.take (k + 1)) i = if L[k].1 = i then L[k].2 else nowS S (L.take k) i := by
  rw [nowS, nowS, List.take_succ_eq_append_getElem h, List.foldl_append]
  rfl
/-- What a flush leaves. -/
def doneS (S : List (List UInt8)) (L : List (Nat × List UInt8)) : List (List UInt8) := L.foldl (fun s p => s.set p.1 p.2) S
theorem doneS_take (S : List (List UInt8)) (L : List (Nat × List UInt8)) (k : Nat) (h : k < L.length) : doneS S (L.take (k + 1)) = (doneS S (L.take k)).set L[k].1 L[k].2 := by
  rw [doneS, doneS, List.take_succ_eq_append_getElem h, List.foldl_append]
  rfl
theorem doneS_length (S : List (List UInt8)) : ∀ (L : List (Nat × List UInt8)), (doneS S L).length = S.length := by
  intro L
  unfold doneS
  induction L generalizing S with
  | nil => rfl
  | cons p L ih => rw [List.foldl_cons, ih]; simp
end Go.Proofs.Ytcmfkdfegfablaa


/- A region that draws its order, one of whose operations turns what the region itself made: the others' facts last, and its own is told of another operation's place. -/
namespace Go.Proofs.Ytcmfkdfegfablaa
open Go.RowKit
set_option linter.unusedVariables false
set_option linter.unusedSimpArgs false
set_option linter.unnecessarySimpa false

def OpOk2 (P : Program) (l : List Oper) (G E : World → World → Prop) (Fs : List Fact) (a0 : Act) (w0 : World) (wr : List Tmp) (o : Oper) (F : Fact) (D : List Nat) : Prop :=
  ∀ (a : Act) (w : World), G w0 w → (∀ t, wr.contains t = false → a.eval (.tmp t) = a0.eval (.tmp t)) →
    WithFacts l Fs a w (if Region.wanted o (yielded l.toArray a.tmps) = true then o.wp P a w (RelPost E F a o.dst w) NoExit else F w undef) D
/-- The operation apart. -/
def OpOkS (P : Program) (l : List Oper) (G Es : World → World → Prop) (Fs : List Fact) (a0 : Act) (w0 : World) (wr : List Tmp) (o : Oper) (ts : Tmp) (Fp : Fact) (D : List Nat) : Prop :=
  ∀ (a : Act) (w : World), G w0 w → (∀ t, wr.contains t = false → a.eval (.tmp t) = a0.eval (.tmp t)) →
    WithFacts l Fs a w (o.wp P a w (fun a' w' => a' = a.put none undef ∧ Fp w' (a.eval (.tmp ts)) ∧ Es w w') NoExit) D
def OpsOk2 (P : Program) (l : List Oper) (G E Es : World → World → Prop) (Fs0 : List Fact) (a0 : Act) (w0 : World) (wr : List Tmp) (s : Nat) (ts : Tmp) (Fp : Fact) : Nat → List Oper → List Fact → List (List Nat) → Prop
  | k, o :: os, F :: Fs, D :: Ds => (if k = s then OpOkS P l G Es Fs0 a0 w0 wr o ts Fp D else OpOk2 P l G E Fs0 a0 w0 wr o F D) ∧ OpsOk2 P l G E Es Fs0 a0 w0 wr s ts Fp (k + 1) os Fs Ds
  | _, [], _, _ => True
  | _, _ :: _, _, _ => False
theorem ops_at2 {P : Program} {l : List Oper} {G E Es : World → World → Prop} {Fs0 : List Fact} {a0 : Act} {w0 : World} {wr : List Tmp} {s : Nat} {ts : Tmp} {Fp : Fact} (os : List Oper) : ∀ (k : Nat) (Fs : List Fact) (Ds : List (List Nat)), OpsOk2 P l G E Es Fs0 a0 w0 wr s ts Fp k os Fs Ds →
    ∀ (i : Nat) (o : Oper), os[i]? = some o → ∃ F, Fs[i]? = some F ∧ (if k + i = s then OpOkS P l G Es Fs0 a0 w0 wr o ts Fp (Ds.getD i []) else OpOk2 P l G E Fs0 a0 w0 wr o F (Ds.getD i [])) := by
  induction os with
  | nil => intro k Fs Ds h i o ho; simp at ho
  | cons x os ih =>
    intro k Fs Ds h i o ho
    cases Fs with
    | nil => exact h.elim
    | cons F Fs =>
      cases Ds with
      | nil => exact h.elim
      | cons D Ds =>
        cases i with
        | zero =>
          have : x = o := by simpa using ho
          subst this
          exact ⟨F, rfl, h.1⟩
        | succ i =>
          obtain ⟨F', h1, h2⟩ := ih (k + 1) Fs Ds h.2 i o (by simpa using ho)
          refine ⟨F', by simpa using h1, ?_⟩
          rw [show k + (i + 1) = k + 1 + i by omega]
          simpa using h2
/-- The operation apart has no answer and no guard; the place it tells of is one of an operation that it waits for. -/
def apartB (l : List Oper) (Ds : List (List Nat)) (n s : Nat) (ts : Tmp) : Bool :=
  decide (s < n) && (match l[s]? with | some o => o.dst.isNone && o.guard.isNone | none => false) && ((Ds.getD s []).any fun j => match l[j]? with | some o => o.dst == some ts | none => false)

section
variable {P : Program} {id : Nat} {l : List Oper} {Q : Exit → Act → World → Prop} {a0 : Act} {w0 : World}
theorem wp_region_rels (n s : Nat) (ts : Tmp) (Fp : Fact) (G E Es : World → World → Prop) (Fs : List Fact) (Ds : List (List Nat)) (wr : List Tmp) (hm : P.follows .mixedOrders = true) (hB : relB l n Ds = true) (hlen : Fs.length = n)
    (hwr : (l.take n).filterMap (·.dst) = wr) (hsz : wr.all (fun t => decide (t < a0.tmps.size)) = true)
    (hA : apartB l Ds n s ts = true) (hr : ∀ w, E w w) (ht : ∀ a b c, G a b → G b c → G a c) (hGE : ∀ a b, E a b → G a b) (hGS : ∀ a b, Es a b → G a b) (hs0 : Lasts E Fs) (hs1 : Lasts Es Fs) (hsp : ∀ w w' v, E w w' → Fp w v → Fp w' v) (hFt : ∀ F, Fs[s]? = some F → ∀ w, F w undef)
    (hops : OpsOk2 P l G E Es Fs a0 w0.drew wr s ts Fp 0 (l.take n) Fs Ds)
    (hfin : ∀ w, G w0.drew w → FinOk w (fun a => Fp w (a.eval (.tmp ts)) → wpList P l.toArray Q (l.drop n) a w) (l.take n) Fs a0) : (Code.region id l.toArray true).wp P Q a0 w0 := by
  simp only [relB, Bool.and_eq_true, decide_eq_true_eq] at hB
  obtain ⟨⟨⟨⟨⟨⟨hn, hnd⟩, hDl⟩, hDs⟩, htail⟩, hback⟩, hseq⟩ := hB
  have hs := lasts_at Fs hs0
  have hsS := lasts_at Fs hs1
  simp only [apartB, Bool.and_eq_true, decide_eq_true_eq] at hA
  obtain ⟨⟨hsn, hsd⟩, hsj⟩ := hA
  obtain ⟨js, hjs, hjd⟩ := List.any_eq_true.1 hsj
  rw [hwr] at hnd
  have hsize : l.toArray.size = l.length := by simp
  have htk : ∀ i o, l[i]? = some o → i < n → (l.take n)[i]? = some o := fun i o ho hi => by simpa [List.getElem?_take, hi] using ho
  have hdst : ∀ (i : Nat) (o : Oper) (d : Tmp), i < n → l[i]? = some o → o.dst = some d → wr.contains d = true ∧ d < a0.tmps.size := by
    intro i o d hi ho hd
    have hmem : d ∈ wr := by
      rw [← hwr]
      exact List.mem_filterMap.2 ⟨o, List.mem_of_getElem? (htk i o ho hi), hd⟩
    exact ⟨by simpa using hmem, of_decide_eq_true (List.all_eq_true.1 hsz d hmem)⟩
  have key : ∀ (m : Nat) (listed : Array Bool) (a : Act) (w : World), cnt listed n = m → HeadInv .any l.toArray n listed → G w0.drew w → (listed.getD s false = true → Fp w (a.eval (.tmp ts))) → a.defers = a0.defers → a.tmps.size = a0.tmps.size →
      (∀ t, wr.contains t = false → a.eval (.tmp t) = a0.eval (.tmp t)) → (∀ (i : Nat) (o : Oper) (F : Fact), i < n → listed.getD i false = true → l[i]? = some o → Fs[i]? = some F → factOf o F a w) →
      wpAny P .any l.toArray Q (m + (l.length - n)) listed a w := by
    intro m
    induction m with
    | zero =>
      intro listed a w hc inv hE hsf hd hs' hin hf
      have hall := cnt_zero n hc
      have hL : listed = headListed n l.length := by
        apply Array.ext
        · rw [inv.size]; simp [headListed]; omega
        · intro i h1 h2
          rw [inv.size, hsize] at h1
          by_cases hi : i < n
          · have := hall i hi
            have hi' : i < listed.size := by rw [inv.size, hsize]; omega
            simp [hi'] at this
            simp [headListed, List.getElem_append, hi, this]
          · have := inv.tail i (by omega) (by rw [hsize]; omega)
            have hi' : i < listed.size := by rw [inv.size, hsize]; omega
            simp [hi'] at this
            simp [headListed, List.getElem_append, hi, this]
      have hfo := hfin w hE
      have hput : putAll a0 wr (fun t => a.eval (.tmp t)) = a := by
        apply act_eq
        · rw [putAll_defers, hd]
        · rw [putAll_size, hs']
        · intro t htt
          rw [putAll_size] at htt
          rw [putAll_get _ _ _ _ htt]
          by_cases hct : wr.contains t = true
          · rw [if_pos hct]; rfl
          · rw [if_neg hct]
            exact (hin t (by simpa using hct)).symm
      have h1 := fin_of (f := fun t => a.eval (.tmp t)) (l.take n) Fs a0 (by rw [List.length_take]; omega) (fun i o F ho hF => by
        have hi : i < n := by
          have := (List.getElem?_eq_some_iff.1 ho).1
          rw [List.length_take] at this
          omega
        have ho' : l[i]? = some o := by simpa [List.getElem?_take, hi] using ho
        exact hf i o F hi (hall i hi) ho' hF) hfo
      rw [hwr, hput] at h1
      replace h1 := h1 (hsf (hall s hsn))
      have h2 := wpAny_of_seq (md := .any) (Q' := Q) (l.drop n) n listed a w (fun j => by simp [List.getElem?_drop]) (by rw [hL, List.length_drop]; exact hseq) h1
      rw [List.length_drop] at h2
      rw [Nat.zero_add]
      exact h2
    | succ m ih =>
      intro listed a w hc inv hE hsf hd hs' hin hf
      rw [show m + 1 + (l.length - n) = (m + (l.length - n)) + 1 by omega]
      obtain ⟨i0, hi0, hu0, hmin⟩ := cnt_pos (L := listed) n (by omega)
      refine ⟨fun hnil => ?_, fun i hi => ?_⟩
      · -- the first that is not listed is ready
        exfalso
        have : i0 ∈ Region.ready .any l.toArray listed := by
          have ho : l[i0]? = some l[i0] := List.getElem?_eq_getElem (by omega)
          refine mem_ready.2 ⟨getD_in (by rw [inv.size, hsize]; omega) hu0, l[i0], by simp, fun e he hb => ?_⟩
          have h1 := List.all_eq_true.1 hback i0 (List.mem_range.2 hi0)
          rw [ho] at h1
          have h2 := Array.all_eq_true_iff_forall_mem.1 h1 e he
          rw [hb] at h2
          exact hmin _ (by simpa using h2)
        rw [hnil] at this
        cases this
      · obtain ⟨hun, oi, hoi, hall⟩ := mem_ready.1 hi
        have hil : i < l.length := by have := (Array.getElem?_eq_some_iff.1 hoi).1; rwa [hsize] at this
        have hoi' : l[i]? = some oi := by simpa using hoi
        have hin' : i < n := by
          rcases Nat.lt_or_ge i n with h | h
          · exact h
          · exfalso
            simp only [Bool.or_eq_true, Bool.and_eq_true, decide_eq_true_eq] at htail
            rcases htail with h0 | ⟨h1, h2⟩
            · omega
            · exact tail_waits h1 h2 (by rw [hsize]; omega) inv _ i0 rfl hi0 (getD_in (by rw [inv.size, hsize]; omega) hu0) i h hi
        obtain ⟨F, hF, hop⟩ := ops_at2 _ _ _ _ hops i oi (htk i oi hoi' hin')
        rw [Nat.zero_add] at hop
        have hun' := getD_both hun
        have hmaskd : ∀ j, j ∈ Ds.getD i [] → j < n ∧ listed.getD j false = true := by
          intro j hj
          have h1 := List.all_eq_true.1 hDs i (List.mem_range.2 hin')
          have h2 := List.all_eq_true.1 h1 j hj
          simp only [Bool.and_eq_true, decide_eq_true_eq] at h2
          exact ⟨h2.1, mask_listed inv.closed i oi hoi' hall j h2.2⟩
        by_cases his : i = s
        · -- the operation apart
          rw [if_pos his] at hop
          subst his
          have hw := with_facts _ (fun j o F' hj ho hF' => hf j o F' (hmaskd j hj).1 (hmaskd j hj).2 ho hF') (hop a w hE hin)
          rw [hoi'] at hsd
          simp only [Bool.and_eq_true, Option.isNone_iff_eq_none] at hsd
          have hwant : Region.wanted oi (yielded l.toArray a.tmps) = true := by simp [Region.wanted, hsd.2]
          unfold wpOp
          simp only [hoi]
          rw [if_pos hwant]
          refine .inl (wp_weaken (Oper.wp_mono (fun a' w' hp => ?_) hw))
          obtain ⟨rfl, hFp, hEw⟩ := hp
          have hlt : i < listed.size := by rw [inv.size, hsize]; omega
          have hcs := cnt_set hlt hun' n hin'
          refine ih _ _ _ (by omega) (inv.set hi hin') (ht _ _ _ hE (hGS _ _ hEw)) (fun _ => hFp) hd hs' hin (fun j o F' hj hjl ho hF' => ?_)
          by_cases hji : j = i
          · subst hji
            have : oi = o := Option.some.inj (hoi'.symm.trans ho)
            subst this
            have : F = F' := Option.some.inj (hF.symm.trans hF')
            subst this
            unfold factOf
            rw [hsd.1]
            exact hFt _ hF w'
          · rw [getD_set_ne false (Ne.symm hji)] at hjl
            have h1 := hf j o F' hj hjl ho hF'
            have hst := hsS F' (List.mem_of_getElem? hF') w w'
            unfold factOf at h1 ⊢
            cases hdd : o.dst with
            | none => rw [hdd] at h1; exact hst _ hEw h1
            | some d => rw [hdd] at h1; exact hst _ hEw h1
        rw [if_neg his] at hop
        have hw := with_facts _ (fun j o F' hj ho hF' => hf j o F' (hmaskd j hj).1 (hmaskd j hj).2 ho hF') (hop a w hE hin)
        have hstep : ∀ (a' : Act) (w' : World) (v : Value), a' = a.put oi.dst v → F w' (dv oi.dst v) → E w w' → wpAny P .any l.toArray Q (m + (l.length - n)) (listed.setIfInBounds i true) a' w' := by
          intro a' w' v ha hFv hEw
          subst ha
          have hlt : i < listed.size := by rw [inv.size, hsize]; omega
          have hcs := cnt_set hlt hun' n hin'
          refine ih _ _ _ (by omega) (inv.set hi hin') (ht _ _ _ hE (hGE _ _ hEw)) (fun hsl => ?_) ((put_defers _ _ _).trans hd) ((put_size _ _ _).trans hs') (fun t htt => ?_) (fun j o F' hj hjl ho hF' => ?_)
          · rw [getD_set_ne false his] at hsl
            have hsl1 := hsf hsl
            rw [eval_put_ne]
            · exact hsp _ _ _ hEw hsl1
            · intro hdt
              -- whoever wrote it is listed
              cases hoj : l[js]? with
              | none => rw [hoj] at hjd; cases hjd
              | some oj =>
                rw [hoj] at hjd
                simp only [beq_iff_eq] at hjd
                have h1 := List.all_eq_true.1 hDs s (List.mem_range.2 hsn)
                have h2 := List.all_eq_true.1 h1 js hjs
                simp only [Bool.and_eq_true, decide_eq_true_eq] at h2
                have hso : l[s]? = some l[s] := List.getElem?_eq_getElem (by omega)
                have hjl : listed.getD js false = true := mask_listed inv.closed s _ hso (fun e he hb => inv.closed s _ (by simpa using hso) hsl e he hb) js h2.2
                have : i = js := nodup_spec (l.take n) (by rw [hwr]; exact hnd) i js oi oj ts (htk i oi hoi' hin') (htk js oj hoj h2.1) hdt hjd
                rw [this] at hun'
                rw [hun'] at hjl
                cases hjl
          · rw [eval_put_ne, hin t htt]
            intro hdt
            rw [(hdst i oi t hin' hoi' hdt).1] at htt
            cases htt
          · by_cases hji : j = i
            · subst hji
              have : oi = o := Option.some.inj (hoi'.symm.trans ho)
              subst this
              have : F = F' := Option.some.inj (hF.symm.trans hF')
              subst this
              unfold factOf
              cases hdd : oi.dst with
              | none => rw [hdd] at hFv; exact hFv
              | some d =>
                rw [hdd] at hFv
                simp only
                rw [eval_put_same (by rw [hs']; exact (hdst j oi d hin' hoi' hdd).2)]
                exact hFv
            · rw [getD_set_ne false (Ne.symm hji)] at hjl
              have h1 := hf j o F' hj hjl ho hF'
              have hst := hs F' (List.mem_of_getElem? hF') w w'
              unfold factOf at h1 ⊢
              cases hdd : o.dst with
              | none => rw [hdd] at h1; exact hst _ hEw h1
              | some d =>
                rw [hdd] at h1
                simp only at h1 ⊢
                rw [eval_put_ne]
                · exact hst _ hEw h1
                · intro hdt
                  exact hji (nodup_spec (l.take n) (by rw [hwr]; exact hnd) j i o oi d (htk j o ho hj) (htk i oi hoi' hin') hdd hdt)
        unfold wpOp
        simp only [hoi]
        split
        · rename_i hwant
          rw [if_pos hwant] at hw
          refine .inl (wp_weaken (Oper.wp_mono (fun a' w' hp => ?_) hw))
          obtain ⟨v, h1, h2, h3⟩ := hp
          exact hstep a' w' v h1 h2 h3
        · rename_i hwant
          rw [if_neg hwant] at hw
          refine hstep _ w undef rfl ?_ (hr w)
          cases hdd : oi.dst <;> exact hw
  refine wp_region_any hm ?_
  have inv0 : HeadInv .any l.toArray n (Array.replicate l.toArray.size false) :=
    ⟨by simp, fun j oj _ hl => (by rw [getD_replicate_false] at hl; cases hl), fun t _ ht => getD_in (by simpa using ht) (getD_replicate_false _ _)⟩
  have := key n (Array.replicate l.toArray.size false) a0 w0.drew (cnt_none _ _) inv0 (hGE _ _ (hr _)) (fun hl => by rw [getD_replicate_false] at hl; cases hl) rfl rfl (fun _ _ => rfl) (fun i o F _ hl => by rw [getD_replicate_false] at hl; cases hl)
  rw [show n + (l.length - n) = l.toArray.size by rw [hsize]; omega] at this
  exact this
end

/-! ### new blocks turn, and keep their length -/
def ChgNew (base : Nat) (w w' : World) : Prop := Chg (fun k => base ≤ k) w w' ∧ ∀ g vs, Bk w g vs → ∃ us : List Value, us.length = vs.length ∧ Bk w' g us
theorem ChgNew.st {base g : Nat} {w w' : World} {vs us : List Value} (hb : Bk w g vs) (hb' : Bk w' g us) (hl : us.length = vs.length) (hg : base ≤ g) (hc : Chg (· = g) w w') : ChgNew base w w' := by
  refine ⟨hc.mono (fun k hk => by omega), fun k xs hx => ?_⟩
  by_cases hk : k = g
  · subst hk
    rw [Bk.inj hx hb]
    exact ⟨us, hl, hb'⟩
  · exact ⟨xs, rfl, hx.chg hc hk⟩
def PtrLen (base n : Nat) : Fact := fun w v => ∃ g, v = .pointer (some ⟨g, 0, none⟩) ∧ base ≤ g ∧ ∃ vs : List Value, vs.length = n ∧ Bk w g vs
theorem PtrLen.lasts {base n : Nat} : ∀ w w' v, Chg NoS w w' → PtrLen base n w v → PtrLen base n w' v :=
  fun _ _ _ h ⟨g, e, hb, vs, hl, hk⟩ => ⟨g, e, hb, vs, hl, hk.chg h id⟩
theorem PtrLen.lastsS {base n : Nat} : ∀ w w' v, ChgNew base w w' → PtrLen base n w v → PtrLen base n w' v := by
  rintro w w' v h ⟨g, e, hb, vs, hl, hk⟩
  obtain ⟨us, h1, h2⟩ := h.2 g vs hk
  exact ⟨g, e, hb, us, h1.trans hl, h2⟩
end Go.Proofs.Ytcmfkdfegfablaa


/- A region that draws its order, one of whose operations turns blocks that the others do not: the others' facts last, and its own is told of its answer, or of another operation's place. -/
namespace Go.Proofs.Ytcmfkdfegfablaa
open Go.RowKit
set_option linter.unusedVariables false
set_option linter.unusedSimpArgs false
set_option linter.unnecessarySimpa false

/-- The operation apart. -/
def OpOkT (P : Program) (l : List Oper) (G Es : World → World → Prop) (Fs : List Fact) (a0 : Act) (w0 : World) (wr : List Tmp) (o : Oper) (ts : Tmp) (Fp : Fact) (D : List Nat) : Prop :=
  ∀ (a : Act) (w : World), G w0 w → (∀ t, wr.contains t = false → a.eval (.tmp t) = a0.eval (.tmp t)) →
    WithFacts l Fs a w (o.wp P a w (fun a' w' => ∃ v, a' = a.put o.dst v ∧ Fp w' (if o.dst = some ts then v else a.eval (.tmp ts)) ∧ Es w w') NoExit) D
def OpsOkT (P : Program) (l : List Oper) (G E Es : World → World → Prop) (Fs0 : List Fact) (a0 : Act) (w0 : World) (wr : List Tmp) (s : Nat) (ts : Tmp) (Fp : Fact) : Nat → List Oper → List Fact → List (List Nat) → Prop
  | k, o :: os, F :: Fs, D :: Ds => (if k = s then OpOkT P l E Es Fs0 a0 w0 wr o ts Fp D else OpOk2 P l G E Fs0 a0 w0 wr o F D) ∧ OpsOkT P l G E Es Fs0 a0 w0 wr s ts Fp (k + 1) os Fs Ds
  | _, [], _, _ => True
  | _, _ :: _, _, _ => False
theorem ops_atT {P : Program} {l : List Oper} {G E Es : World → World → Prop} {Fs0 : List Fact} {a0 : Act} {w0 : World} {wr : List Tmp} {s : Nat} {ts : Tmp} {Fp : Fact} (os : List Oper) : ∀ (k : Nat) (Fs : List Fact) (Ds : List (List Nat)), OpsOkT P l G E Es Fs0 a0 w0 wr s ts Fp k os Fs Ds →
    ∀ (i : Nat) (o : Oper), os[i]? = some o → ∃ F, Fs[i]? = some F ∧ (if k + i = s then OpOkT P l E Es Fs0 a0 w0 wr o ts Fp (Ds.getD i []) else OpOk2 P l G E Fs0 a0 w0 wr o F (Ds.getD i [])) := by
  induction os with
  | nil => intro k Fs Ds h i o ho; simp at ho
  | cons x os ih =>
    intro k Fs Ds h i o ho
    cases Fs with
    | nil => exact h.elim
    | cons F Fs =>
      cases Ds with
      | nil => exact h.elim
      | cons D Ds =>
        cases i with
        | zero =>
          have : x = o := by simpa using ho
          subst this
          exact ⟨F, rfl, h.1⟩
        | succ i =>
          obtain ⟨F', h1, h2⟩ := ih (k + 1) Fs Ds h.2 i o (by simpa using ho)
          refine ⟨F', by simpa using h1, ?_⟩
          rw [show k + (i + 1) = k + 1 + i by omega]
          simpa using h2
/-- The operation apart has no answer and no guard; the place it tells of is one of an operation that it waits for. -/
def apartT (l : List Oper) (Ds : List (List Nat)) (n s : Nat) (ts : Tmp) : Bool :=
  decide (s < n) && (match l[s]? with | some o => o.guard.isNone | none => false) && ((s :: Ds.getD s []).any fun j => match l[j]? with | some o => o.dst == some ts | none => false)

section
variable {P : Program} {id : Nat} {l : List Oper} {Q : Exit → Act → World → Prop} {a0 : Act} {w0 : World}
theorem wp_region_relt (n s : Nat) (ts : Tmp) (Fp : Fact) (G E Es : World → World → Prop) (Fs : List Fact) (Ds : List (List Nat)) (wr : List Tmp) (hm : P.follows .mixedOrders = true) (hB : relB l n Ds = true) (hlen : Fs.length = n)
    (hwr : (l.take n).filterMap (·.dst) = wr) (hsz : wr.all (fun t => decide (t < a0.tmps.size)) = true)
    (hA : apartT l Ds n s ts = true) (hr : ∀ w, E w w) (ht : ∀ a b c, G a b → G b c → G a c) (htE : ∀ a b c, E a b → E b c → E a c) (hGE : ∀ a b, E a b → G a b) (hGS : ∀ a b, Es a b → G a b) (hs0 : Lasts E Fs) (hs1 : Lasts Es Fs) (hsp : ∀ w w' v, E w w' → Fp w v → Fp w' v) (hFt : ∀ F, Fs[s]? = some F → ∀ w v, F w v)
    (hops : OpsOkT P l G E Es Fs a0 w0.drew wr s ts Fp 0 (l.take n) Fs Ds)
    (hfin : ∀ w, G w0.drew w → FinOk w (fun a => Fp w (a.eval (.tmp ts)) → wpList P l.toArray Q (l.drop n) a w) (l.take n) Fs a0) : (Code.region id l.toArray true).wp P Q a0 w0 := by
  simp only [relB, Bool.and_eq_true, decide_eq_true_eq] at hB
  obtain ⟨⟨⟨⟨⟨⟨hn, hnd⟩, hDl⟩, hDs⟩, htail⟩, hback⟩, hseq⟩ := hB
  have hs := lasts_at Fs hs0
  have hsS := lasts_at Fs hs1
  simp only [apartT, Bool.and_eq_true, decide_eq_true_eq] at hA
  obtain ⟨⟨hsn, hsd⟩, hsj⟩ := hA
  obtain ⟨js, hjs, hjd⟩ := List.any_eq_true.1 hsj
  rw [hwr] at hnd
  have hsize : l.toArray.size = l.length := by simp
  have htk : ∀ i o, l[i]? = some o → i < n → (l.take n)[i]? = some o := fun i o ho hi => by simpa [List.getElem?_take, hi] using ho
  have hdst : ∀ (i : Nat) (o : Oper) (d : Tmp), i < n → l[i]? = some o → o.dst = some d → wr.contains d = true ∧ d < a0.tmps.size := by
    intro i o d hi ho hd
    have hmem : d ∈ wr := by
      rw [← hwr]
      exact List.mem_filterMap.2 ⟨o, List.mem_of_getElem? (htk i o ho hi), hd⟩
    exact ⟨by simpa using hmem, of_decide_eq_true (List.all_eq_true.1 hsz d hmem)⟩
  have key : ∀ (m : Nat) (listed : Array Bool) (a : Act) (w : World), cnt listed n = m → HeadInv .any l.toArray n listed → G w0.drew w → (listed.getD s false = true → Fp w (a.eval (.tmp ts))) → (listed.getD s false = false → E w0.drew w) → a.defers = a0.defers → a.tmps.size = a0.tmps.size →
      (∀ t, wr.contains t = false → a.eval (.tmp t) = a0.eval (.tmp t)) → (∀ (i : Nat) (o : Oper) (F : Fact), i < n → listed.getD i false = true → l[i]? = some o → Fs[i]? = some F → factOf o F a w) →
      wpAny P .any l.toArray Q (m + (l.length - n)) listed a w := by
    intro m
    induction m with
    | zero =>
      intro listed a w hc inv hE hsf hE0 hd hs' hin hf
      have hall := cnt_zero n hc
      have hL : listed = headListed n l.length := by
        apply Array.ext
        · rw [inv.size]; simp [headListed]; omega
        · intro i h1 h2
          rw [inv.size, hsize] at h1
          by_cases hi : i < n
          · have := hall i hi
            have hi' : i < listed.size := by rw [inv.size, hsize]; omega
            simp [hi'] at this
            simp [headListed, List.getElem_append, hi, this]
          · have := inv.tail i (by omega) (by rw [hsize]; omega)
            have hi' : i < listed.size := by rw [inv.size, hsize]; omega
            simp [hi'] at this
            simp [headListed, List.getElem_append, hi, this]
      have hfo := hfin w hE
      have hput : putAll a0 wr (fun t => a.eval (.tmp t)) = a := by
        apply act_eq
        · rw [putAll_defers, hd]
        · rw [putAll_size, hs']
        · intro t htt
          rw [putAll_size] at htt
          rw [putAll_get _ _ _ _ htt]
          by_cases hct : wr.contains t = true
          · rw [if_pos hct]; rfl
          · rw [if_neg hct]
            exact (hin t (by simpa using hct)).symm
      have h1 := fin_of (f := fun t => a.eval (.tmp t)) (l.take n) Fs a0 (by rw [List.length_take]; omega) (fun i o F ho hF => by
        have hi : i < n := by
          have := (List.getElem?_eq_some_iff.1 ho).1
          rw [List.length_take] at this
          omega
        have ho' : l[i]? = some o := by simpa [List.getElem?_take, hi] using ho
        exact hf i o F hi (hall i hi) ho' hF) hfo
      rw [hwr, hput] at h1
      replace h1 := h1 (hsf (hall s hsn))
      have h2 := wpAny_of_seq (md := .any) (Q' := Q) (l.drop n) n listed a w (fun j => by simp [List.getElem?_drop]) (by rw [hL, List.length_drop]; exact hseq) h1
      rw [List.length_drop] at h2
      rw [Nat.zero_add]
      exact h2
    | succ m ih =>
      intro listed a w hc inv hE hsf hE0 hd hs' hin hf
      rw [show m + 1 + (l.length - n) = (m + (l.length - n)) + 1 by omega]
      obtain ⟨i0, hi0, hu0, hmin⟩ := cnt_pos (L := listed) n (by omega)
      refine ⟨fun hnil => ?_, fun i hi => ?_⟩
      · -- the first that is not listed is ready
        exfalso
        have : i0 ∈ Region.ready .any l.toArray listed := by
          have ho : l[i0]? = some l[i0] := List.getElem?_eq_getElem (by omega)
          refine mem_ready.2 ⟨getD_in (by rw [inv.size, hsize]; omega) hu0, l[i0], by simp, fun e he hb => ?_⟩
          have h1 := List.all_eq_true.1 hback i0 (List.mem_range.2 hi0)
          rw [ho] at h1
          have h2 := Array.all_eq_true_iff_forall_mem.1 h1 e he
          rw [hb] at h2
          exact hmin _ (by simpa using h2)
        rw [hnil] at this
        cases this
      · obtain ⟨hun, oi, hoi, hall⟩ := mem_ready.1 hi
        have hil : i < l.length := by have := (Array.getElem?_eq_some_iff.1 hoi).1; rwa [hsize] at this
        have hoi' : l[i]? = some oi := by simpa using hoi
        have hin' : i < n := by
          rcases Nat.lt_or_ge i n with h | h
          · exact h
          · exfalso
            simp only [Bool.or_eq_true, Bool.and_eq_true, decide_eq_true_eq] at htail
            rcases htail with h0 | ⟨h1, h2⟩
            · omega
            · exact tail_waits h1 h2 (by rw [hsize]; omega) inv _ i0 rfl hi0 (getD_in (by rw [inv.size, hsize]; omega) hu0) i h hi
        obtain ⟨F, hF, hop⟩ := ops_atT _ _ _ _ hops i oi (htk i oi hoi' hin')
        rw [Nat.zero_add] at hop
        have hun' := getD_both hun
        have hmaskd : ∀ j, j ∈ Ds.getD i [] → j < n ∧ listed.getD j false = true := by
          intro j hj
          have h1 := List.all_eq_true.1 hDs i (List.mem_range.2 hin')
          have h2 := List.all_eq_true.1 h1 j hj
          simp only [Bool.and_eq_true, decide_eq_true_eq] at h2
          exact ⟨h2.1, mask_listed inv.closed i oi hoi' hall j h2.2⟩
        by_cases his : i = s
        · -- the operation apart
          rw [if_pos his] at hop
          subst his
          have hw := with_facts _ (fun j o F' hj ho hF' => hf j o F' (hmaskd j hj).1 (hmaskd j hj).2 ho hF') (hop a w (hE0 hun') hin)
          rw [hoi'] at hsd
          simp only [Option.isNone_iff_eq_none] at hsd
          have hwant : Region.wanted oi (yielded l.toArray a.tmps) = true := by simp [Region.wanted, hsd]
          unfold wpOp
          simp only [hoi]
          rw [if_pos hwant]
          refine .inl (wp_weaken (Oper.wp_mono (fun a' w' hp => ?_) hw))
          obtain ⟨v, rfl, hFp0, hEw⟩ := hp
          have hFp : Fp w' ((a.put oi.dst v).eval (.tmp ts)) := by
            by_cases hdt : oi.dst = some ts
            · rw [if_pos hdt] at hFp0
              rw [hdt, eval_put_same (by rw [hs']; exact (hdst i oi ts hin' hoi' hdt).2)]
              exact hFp0
            · rw [if_neg hdt] at hFp0
              rw [eval_put_ne hdt]
              exact hFp0
          have hlt : i < listed.size := by rw [inv.size, hsize]; omega
          have hcs := cnt_set hlt hun' n hin'
          refine ih _ _ _ (by omega) (inv.set hi hin') (ht _ _ _ hE (hGS _ _ hEw)) (fun _ => hFp) (fun hl => by rw [show (listed.setIfInBounds i true).getD i false = true by simp [hlt]] at hl; cases hl) ((put_defers _ _ _).trans hd) ((put_size _ _ _).trans hs') (fun t htt => ?_) (fun j o F' hj hjl ho hF' => ?_)
          · rw [eval_put_ne, hin t htt]
            intro hdt
            rw [(hdst i oi t hin' hoi' hdt).1] at htt
            cases htt
          · by_cases hji : j = i
            · subst hji
              have : oi = o := Option.some.inj (hoi'.symm.trans ho)
              subst this
              have : F = F' := Option.some.inj (hF.symm.trans hF')
              subst this
              unfold factOf
              cases oi.dst <;> exact hFt _ hF _ _
            · rw [getD_set_ne false (Ne.symm hji)] at hjl
              have h1 := hf j o F' hj hjl ho hF'
              have hst := hsS F' (List.mem_of_getElem? hF') w w'
              unfold factOf at h1 ⊢
              cases hdd : o.dst with
              | none => rw [hdd] at h1; exact hst _ hEw h1
              | some d =>
                rw [hdd] at h1
                simp only at h1 ⊢
                rw [eval_put_ne]
                · exact hst _ hEw h1
                · intro hdt
                  exact hji (nodup_spec (l.take n) (by rw [hwr]; exact hnd) j i o oi d (htk j o ho hj) (htk i oi hoi' hin') hdd hdt)
        rw [if_neg his] at hop
        have hw := with_facts _ (fun j o F' hj ho hF' => hf j o F' (hmaskd j hj).1 (hmaskd j hj).2 ho hF') (hop a w hE hin)
        have hstep : ∀ (a' : Act) (w' : World) (v : Value), a' = a.put oi.dst v → F w' (dv oi.dst v) → E w w' → wpAny P .any l.toArray Q (m + (l.length - n)) (listed.setIfInBounds i true) a' w' := by
          intro a' w' v ha hFv hEw
          subst ha
          have hlt : i < listed.size := by rw [inv.size, hsize]; omega
          have hcs := cnt_set hlt hun' n hin'
          refine ih _ _ _ (by omega) (inv.set hi hin') (ht _ _ _ hE (hGE _ _ hEw)) (fun hsl => ?_) (fun hsl => htE _ _ _ (hE0 (by rwa [getD_set_ne false his] at hsl)) hEw) ((put_defers _ _ _).trans hd) ((put_size _ _ _).trans hs') (fun t htt => ?_) (fun j o F' hj hjl ho hF' => ?_)
          · rw [getD_set_ne false his] at hsl
            have hsl1 := hsf hsl
            rw [eval_put_ne]
            · exact hsp _ _ _ hEw hsl1
            · intro hdt
              -- whoever wrote it is listed
              cases hoj : l[js]? with
              | none => rw [hoj] at hjd; cases hjd
              | some oj =>
                rw [hoj] at hjd
                simp only [beq_iff_eq] at hjd
                have hso : l[s]? = some l[s] := List.getElem?_eq_getElem (by omega)
                rcases List.mem_cons.1 hjs with hjs | hjs
                · subst hjs
                  exact his (nodup_spec (l.take n) (by rw [hwr]; exact hnd) i js oi oj ts (htk i oi hoi' hin') (htk js oj hoj hsn) hdt hjd)
                · have h1 := List.all_eq_true.1 hDs s (List.mem_range.2 hsn)
                  have h2 := List.all_eq_true.1 h1 js hjs
                  simp only [Bool.and_eq_true, decide_eq_true_eq] at h2
                  have hjl : listed.getD js false = true := mask_listed inv.closed s _ hso (fun e he hb => inv.closed s _ (by simpa using hso) hsl e he hb) js h2.2
                  have : i = js := nodup_spec (l.take n) (by rw [hwr]; exact hnd) i js oi oj ts (htk i oi hoi' hin') (htk js oj hoj h2.1) hdt hjd
                  rw [this] at hun'
                  rw [hun'] at hjl
                  cases hjl
          · rw [eval_put_ne, hin t htt]
            intro hdt
            rw [(hdst i oi t hin' hoi' hdt).1] at htt
            cases htt
          · by_cases hji : j = i
            · subst hji
              have : oi = o := Option.some.inj (hoi'.symm.trans ho)
              subst this
              have : F = F' := Option.some.inj (hF.symm.trans hF')
              subst this
              unfold factOf
              cases hdd : oi.dst with
              | none => rw [hdd] at hFv; exact hFv
              | some d =>
                rw [hdd] at hFv
                simp only
                rw [eval_put_same (by rw [hs']; exact (hdst j oi d hin' hoi' hdd).2)]
                exact hFv
            · rw [getD_set_ne false (Ne.symm hji)] at hjl
              have h1 := hf j o F' hj hjl ho hF'
              have hst := hs F' (List.mem_of_getElem? hF') w w'
              unfold factOf at h1 ⊢
              cases hdd : o.dst with
              | none => rw [hdd] at h1; exact hst _ hEw h1
              | some d =>
                rw [hdd] at h1
                simp only at h1 ⊢
                rw [eval_put_ne]
                · exact hst _ hEw h1
                · intro hdt
                  exact hji (nodup_spec (l.take n) (by rw [hwr]; exact hnd) j i o oi d (htk j o ho hj) (htk i oi hoi' hin') hdd hdt)
        unfold wpOp
        simp only [hoi]
        split
        · rename_i hwant
          rw [if_pos hwant] at hw
          refine .inl (wp_weaken (Oper.wp_mono (fun a' w' hp => ?_) hw))
          obtain ⟨v, h1, h2, h3⟩ := hp
          exact hstep a' w' v h1 h2 h3
        · rename_i hwant
          rw [if_neg hwant] at hw
          refine hstep _ w undef rfl ?_ (hr w)
          cases hdd : oi.dst <;> exact hw
  refine wp_region_any hm ?_
  have inv0 : HeadInv .any l.toArray n (Array.replicate l.toArray.size false) :=
    ⟨by simp, fun j oj _ hl => (by rw [getD_replicate_false] at hl; cases hl), fun t _ ht => getD_in (by simpa using ht) (getD_replicate_false _ _)⟩
  have := key n (Array.replicate l.toArray.size false) a0 w0.drew (cnt_none _ _) inv0 (hGE _ _ (hr _)) (fun hl => by rw [getD_replicate_false] at hl; cases hl) (fun _ => hr _) rfl rfl (fun _ _ => rfl) (fun i o F _ hl => by rw [getD_replicate_false] at hl; cases hl)
  rw [show n + (l.length - n) = l.toArray.size by rw [hsize]; omega] at this
  exact this
end

end Go.Proofs.Ytcmfkdfegfablaa


/- A slice of one element of many cells, built. -/
namespace Go.Proofs.Ytcmfkdfegfablaa
open Go.RowKit
set_option linter.unusedVariables false
set_option linter.unusedSimpArgs false

theorem run_bs1 {P : Program} (w : World) (t elem : TypeId) (z : Value) (n : Nat) (v : Value) (us : List Value) (hu : P.underlying t = some (.slice elem)) (hinfo : (P.info? elem).map (fun i => (i.zero, i.size)) = some (some z, n))
    (hz : z.cells.size = n) (hn : 0 < n) (hn2 : n ≤ 1000) (hx : v.cells.toList = us) (hl : us.length = n) :
    (Instr.buildSlice t 1 #[(0, v)]).run P w = .ok (.slice (some ⟨w.heap.size, 0, none⟩) 1 1) (w.alloc (.cells us.toArray elem)) := by
  obtain ⟨i0, hi, hzz⟩ := Option.map_eq_some_iff.1 hinfo
  simp only [Prod.mk.injEq] at hzz
  obtain ⟨hz0, hz1⟩ := hzz
  have hbig : ¬ (1 * n > 2 ^ 24) := by omega
  have hne : ¬ (1 * n = 0) := by omega
  obtain ⟨zs, hzs⟩ : ∃ zs : List Value, zs.toArray = (Array.range (1 * n)).map (z.cells[· % z.cells.size]!) := ⟨_, Array.toArray_toList⟩
  have hzl : zs.length = n := by
    have := congrArg Array.size hzs
    simpa using this
  have hf : Instr.fill (fun i => some (i * n, n)) zs.toArray [(0, v)] = some us.toArray := by
    rw [fill_step (place := fun i => some (i * n, n)) (off := 0) hx (by simp [hl]) (by omega), Instr.fill, splice_whole zs us (by omega)]
  rw [hzs] at hf
  simp only [Instr.buildSlice, Sem.run_bind, run_underlying hu, Result.andThen_ok, sizeOf, typeInfo, run_program, hi, Sem.run_pure, hz1, if_neg hbig, if_neg hne, zeroValue, hz0, hf]
  simp [newRow]
theorem wp_bs1 {P : Program} {o : Oper} {a : Act} {w : World} {K : Act → World → Prop} {Q : Exit → Act → World → Prop} (t elem : TypeId) (x : Operand) (ho : o.op = .buildSlice t 1 #[(0, x)]) (z : Value) (n : Nat) (us : List Value) (hu : P.underlying t = some (.slice elem)) (hinfo : (P.info? elem).map (fun i => (i.zero, i.size)) = some (some z, n))
    (hz : z.cells.size = n) (hn : 0 < n) (hn2 : n ≤ 1000) (hx : (a.eval x).cells.toList = us) (hl : us.length = n)
    (h : K (a.put o.dst (.slice (some ⟨w.heap.size, 0, none⟩) 1 1)) (w.alloc (.cells us.toArray elem))) : o.wp P a w K Q := by
  unfold Oper.wp execOp
  simp only [ho, Sem.run_bind, List.map_toArray, List.map_cons, List.map_nil, run_bs1 w t elem z n _ us hu hinfo hz hn hn2 hx hl, Result.andThen_ok]
  exact h
end Go.Proofs.Ytcmfkdfegfablaa
