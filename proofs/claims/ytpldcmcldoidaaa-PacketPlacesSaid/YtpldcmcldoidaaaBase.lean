
/- Words that the texts of this seat share: numbers as Go values, cells that are read, bits. -/
import Derived.WalkKit
import Derived.KernelRfl
import Derived.Deep.LoopGhost
import Derived.Lib.Hide
import Derived.OrdersHeld
import Derived.Deep.Draws
import Derived.Deep.QuietTactic
import Derived.BigQuiet
namespace Go.Proofs.Ytpldcmcldoidaaa
open Go.RowKit
set_option linter.unusedVariables false
set_option linter.unusedSimpArgs false

abbrev vu8 (x : UInt8) : Value := .int .u8 (x.toNat : Int)
abbrev vu16 (x : UInt16) : Value := .int .u16 (x.toNat : Int)
abbrev vu32 (x : UInt32) : Value := .int .u32 (x.toNat : Int)
def bts (l : List UInt8) : List Value := l.map vu8
@[simp] theorem bts_length (l : List UInt8) : (bts l).length = l.length := by simp [bts]
theorem bts_append (a b : List UInt8) : bts (a ++ b) = bts a ++ bts b := by simp [bts]
theorem bts_get {l : List UInt8} {j : Nat} (h : j < l.length) : (bts l)[j]? = some (vu8 (l.getD j 0)) := by
  simp [bts, List.getElem?_eq_getElem h, List.getD_eq_getElem?_getD]

/-! ### Cells that are read -/
/-- The cells vs stand from A on. -/
def Rd (w : World) (A : Option Addr) (vs : List Value) : Prop :=
  ∀ (j : Nat) (v : Value), vs[j]? = some v → ∃ ad, A = some ad ∧ w.cell? (ad.add j) = some v
theorem Rd.nil (w : World) (A : Option Addr) : Rd w A [] := fun j v h => by simp at h
theorem Rd.below {w w1 : World} {A : Option Addr} {vs : List Value} (h : Rd w A vs) (hb : Below w.heap.size w w1) : Rd w1 A vs := by
  intro j v hj
  obtain ⟨ad, e, hc⟩ := h j v hj
  exact ⟨ad, e, (hb.cell (World.block_lt_of_cell? w _ hc)).trans hc⟩
theorem Rd.at_ {w : World} {A : Option Addr} {vs : List Value} (h : Rd w A vs) (j : Nat) (hj : j < vs.length) : ∃ ad, A = some ad ∧ w.cell? (ad.add j) = some vs[j] :=
  h j _ (List.getElem?_eq_getElem hj)
theorem Rd.bt {w : World} {A : Option Addr} {l : List UInt8} (h : Rd w A (bts l)) (j : Nat) (hj : j < l.length) : ∃ ad, A = some ad ∧ w.cell? (ad.add j) = some (vu8 (l.getD j 0)) :=
  h j _ (bts_get hj)
theorem Rd.take {w : World} {A : Option Addr} {vs : List Value} (h : Rd w A vs) (k : Nat) : Rd w A (vs.take k) := by
  intro j v hj
  rw [List.getElem?_take] at hj
  split at hj
  · exact h j v hj
  · cases hj
theorem add_add (a : Addr) (i j : Nat) : (a.add i).add j = a.add (i + j) := by
  unfold Addr.add
  by_cases hi : i = 0 <;> by_cases hj : j = 0 <;> simp [hi, hj, Nat.add_assoc]
theorem add_plain (g i j : Nat) : (⟨g, i, none⟩ : Addr).add j = ⟨g, i + j, none⟩ := by
  unfold Addr.add; split <;> simp_all
theorem Rd.drop {w : World} {A : Option Addr} {vs : List Value} (h : Rd w A vs) (k : Nat) : Rd w (A.map (·.add k)) (vs.drop k) := by
  intro j v hj
  rw [List.getElem?_drop] at hj
  obtain ⟨ad, rfl, hc⟩ := h _ v hj
  exact ⟨ad.add k, rfl, by rw [add_add]; exact hc⟩
theorem Rd.of_block {w : World} {g : Nat} {cs : Array Value} {t : TypeId} {fr : Nat × Nat} (h : w.heap[g]? = some (.cells cs t fr)) : Rd w (some ⟨g, 0, none⟩) cs.toList := by
  intro j v hj
  refine ⟨_, rfl, ?_⟩
  rw [add_plain, Nat.zero_add]
  simpa [World.cell?, h] using hj
theorem Rd.of_block_at {w : World} {g : Nat} {cs : Array Value} {t : TypeId} {fr : Nat × Nat} (h : w.heap[g]? = some (.cells cs t fr)) (o : Nat) : Rd w (some ⟨g, o, none⟩) (cs.toList.drop o) := by
  intro j v hj
  refine ⟨_, rfl, ?_⟩
  rw [add_plain]
  rw [List.getElem?_drop] at hj
  simpa [World.cell?, h] using hj

theorem Rd.alloc {w : World} {A : Option Addr} {vs : List Value} (h : Rd w A vs) (o : Obj) : Rd (w.alloc o) A vs := h.below ((Below.refl _ _).alloc (Nat.le_refl _) o)
theorem Rd.drew {w : World} {A : Option Addr} {vs : List Value} (h : Rd w A vs) : Rd w.drew A vs := h
theorem Rd.drewN {w : World} {A : Option Addr} {vs : List Value} (h : Rd w A vs) (n : Nat) : Rd (w.drewN n) A vs := h
theorem Rd.new (w : World) (cs : Array Value) (t : TypeId) : Rd (w.alloc (.cells cs t)) (some ⟨w.heap.size, 0, none⟩) cs.toList := Rd.of_block (heap_alloc_new w _)

/-- A row of bytes that is an element of a row: where it stands, its room, its bytes. -/
structure Pt where
  A : Option Addr
  c : Nat
  l : List UInt8
def ptv (p : Pt) : Value := .slice p.A p.l.length p.c
def PtOk (w : World) (p : Pt) : Prop := Rd w p.A (bts p.l) ∧ p.l.length ≤ p.c ∧ p.c ≤ 9223372036854775807
def Pts (w : World) (ps : List Pt) : Prop := ∀ p, p ∈ ps → PtOk w p
theorem PtOk.below {w w1 : World} {p : Pt} (h : PtOk w p) (hb : Below w.heap.size w w1) : PtOk w1 p := ⟨h.1.below hb, h.2⟩
theorem Pts.below {w w1 : World} {ps : List Pt} (h : Pts w ps) (hb : Below w.heap.size w w1) : Pts w1 ps := fun p hp => (h p hp).below hb

/-! ### Bits -/
theorem bits_u16 (a b : Nat) (ha : a < 65536) (hb : b < 65536) : Go.bits .xor .u16 (a : Int) (b : Int) = ((a ^^^ b : Nat) : Int) ∧ Go.bits .and .u16 (a : Int) (b : Int) = ((a &&& b : Nat) : Int) ∧ Go.bits .or .u16 (a : Int) (b : Int) = ((a ||| b : Nat) : Int) := by
  have ha' : a % 2 ^ IntKind.u16.bits = a := Nat.mod_eq_of_lt ha
  have hb' : b % 2 ^ IntKind.u16.bits = b := Nat.mod_eq_of_lt hb
  have h1 : a ^^^ b < 2 ^ 16 := Nat.xor_lt_two_pow ha hb
  have h2 : a &&& b < 2 ^ 16 := Nat.and_lt_two_pow _ hb
  have h3 : a ||| b < 2 ^ 16 := Nat.or_lt_two_pow ha hb
  refine ⟨?_, ?_, ?_⟩ <;> simp only [Go.bits, BitVec.ofInt_natCast, BitVec.toNat_xor, BitVec.toNat_and, BitVec.toNat_or, BitVec.toNat_ofNat, ha', hb'] <;> exact IntWalk.u16_in _ (by omega)
theorem bits_u8 (a b : Nat) (ha : a < 256) (hb : b < 256) : Go.bits .xor .u8 (a : Int) (b : Int) = ((a ^^^ b : Nat) : Int) ∧ Go.bits .and .u8 (a : Int) (b : Int) = ((a &&& b : Nat) : Int) ∧ Go.bits .or .u8 (a : Int) (b : Int) = ((a ||| b : Nat) : Int) := by
  have ha' : a % 2 ^ IntKind.u8.bits = a := Nat.mod_eq_of_lt ha
  have hb' : b % 2 ^ IntKind.u8.bits = b := Nat.mod_eq_of_lt hb
  have h1 : a ^^^ b < 2 ^ 8 := Nat.xor_lt_two_pow ha hb
  have h2 : a &&& b < 2 ^ 8 := Nat.and_lt_two_pow _ hb
  have h3 : a ||| b < 2 ^ 8 := Nat.or_lt_two_pow ha hb
  refine ⟨?_, ?_, ?_⟩ <;> simp only [Go.bits, BitVec.ofInt_natCast, BitVec.toNat_xor, BitVec.toNat_and, BitVec.toNat_or, BitVec.toNat_ofNat, ha', hb'] <;> exact IntWalk.u8_in _ (by omega)
theorem bits_xor16 (a b : UInt16) : Go.bits .xor .u16 (a.toNat : Int) (b.toNat : Int) = ((a ^^^ b).toNat : Int) := by
  rw [(bits_u16 a.toNat b.toNat a.toNat_lt b.toNat_lt).1, UInt16.toNat_xor]
theorem bits_xor8 (a b : UInt8) : Go.bits .xor .u8 (a.toNat : Int) (b.toNat : Int) = ((a ^^^ b).toNat : Int) := by
  rw [(bits_u8 a.toNat b.toNat a.toNat_lt b.toNat_lt).1, UInt8.toNat_xor]
theorem bits_and16_1 (a : UInt16) : Go.bits .and .u16 (a.toNat : Int) 1 = ((a &&& 1).toNat : Int) := by
  have := (bits_u16 a.toNat 1 a.toNat_lt (by decide)).2.1
  rw [UInt16.toNat_and]
  exact this
theorem wrap16_u8 (a : UInt8) : IntKind.u16.wrap (a.toNat : Int) = (a.toUInt16.toNat : Int) := by
  have := a.toNat_lt
  rw [IntWalk.u16_in _ (by omega)]; simp
theorem wrap8_u16 (a : UInt16) : IntKind.u8.wrap (a.toNat : Int) = (a.toUInt8.toNat : Int) := by
  rw [IntKind.wrap_u8]; simp
theorem wrap8_hi (a : UInt16) : IntKind.u8.wrap ((a.toNat : Int) / (256 : Int)) = ((a >>> 8).toUInt8.toNat : Int) := by
  rw [IntKind.wrap_u8]; simp [Nat.shiftRight_eq_div_pow]
theorem mod8_u16 (a : UInt16) : ((a.toNat : Int) % (256 : Int)) = (a.toUInt8.toNat : Int) := by simp
theorem mod8_hi (a : UInt16) : ((a.toNat : Int) / (256 : Int) % (256 : Int)) = ((a >>> 8).toUInt8.toNat : Int) := by
  simp [Nat.shiftRight_eq_div_pow]
end Go.Proofs.Ytpldcmcldoidaaa
