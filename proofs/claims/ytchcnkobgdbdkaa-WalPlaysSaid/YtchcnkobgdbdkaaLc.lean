/- Texts of this seat, merged: Crc, WCrc, Check, SealWa, SealWb, SealWc, SealWd, SealRa, SealRb, SealRc, LabPure, NumRef. -/
import Derived.Test.YtchcnkobgdbdkaaLa
import Derived.Test.YtchcnkobgdbdkaaProg
import Derived.Lib.SlBytesConst
import Derived.Deep.AppendLies
import Derived.Laws.OwnMore

/- The check of bytes as a plain function of lists, and its laws: it goes on from a check, it is linear, no two neighboring bytes turn unseen. -/
namespace Go.Proofs.Ytchcnkobgdbdkaa
set_option linter.unusedVariables false
set_option linter.unusedSimpArgs false

def crcBit (c : UInt16) : UInt16 := (c >>> 1) ^^^ (0x8408 * (c &&& 1))
def bitN : Nat → UInt16 → UInt16
  | 0, c => c
  | k+1, c => crcBit (bitN k c)
def crcByte (c : UInt16) (x : UInt8) : UInt16 := bitN 8 (c ^^^ x.toUInt16)
def crcMore (c : UInt16) (l : List UInt8) : UInt16 := l.foldl crcByte c
def crcCheck (l : List UInt8) : UInt16 := ~~~ (crcMore 0xffff l)

theorem crcMore_append (c : UInt16) (a b : List UInt8) : crcMore c (a ++ b) = crcMore (crcMore c a) b := by simp [crcMore]
theorem crcMore_cons (c : UInt16) (x : UInt8) (b : List UInt8) : crcMore c (x :: b) = crcMore (crcByte c x) b := by simp [crcMore]
theorem crcMore_nil (c : UInt16) : crcMore c [] = c := rfl
theorem crcMore_take (c : UInt16) (l : List UInt8) (k : Nat) (h : k < l.length) : crcMore c (l.take (k+1)) = crcByte (crcMore c (l.take k)) (l.getD k 0) := by
  rw [crcMore, List.take_succ_eq_append_getElem h, List.foldl_append]; simp [crcMore, List.getElem?_eq_getElem h]

theorem and_one_cases (a : UInt16) : a &&& 1 = 0 ∨ a &&& 1 = 1 := by
  have h : (a &&& 1).toNat = a.toNat % 2 := by rw [UInt16.toNat_and]; simp
  rcases Nat.mod_two_eq_zero_or_one a.toNat with h0 | h0
  · left; apply UInt16.toNat_inj.1; rw [h, h0]; rfl
  · right; apply UInt16.toNat_inj.1; rw [h, h0]; rfl
theorem shr_xor (a b : UInt16) : (a ^^^ b) >>> 1 = (a >>> 1) ^^^ (b >>> 1) := by
  apply UInt16.toNat_inj.1
  rw [UInt16.toNat_xor, UInt16.toNat_shiftRight, UInt16.toNat_shiftRight, UInt16.toNat_shiftRight, UInt16.toNat_xor, Nat.shiftRight_xor_distrib]
theorem and_xor (a b : UInt16) : (a ^^^ b) &&& 1 = (a &&& 1) ^^^ (b &&& 1) := by
  apply UInt16.toNat_inj.1
  simp only [UInt16.toNat_xor, UInt16.toNat_and, Nat.and_xor_distrib_right]
theorem mul_xor (a b : UInt16) : 0x8408 * ((a ^^^ b) &&& 1) = (0x8408 * (a &&& 1)) ^^^ (0x8408 * (b &&& 1)) := by
  rw [and_xor]
  rcases and_one_cases a with ha | ha <;> rcases and_one_cases b with hb | hb <;> rw [ha, hb] <;> decide
theorem crcBit_xor (a b : UInt16) : crcBit (a ^^^ b) = crcBit a ^^^ crcBit b := by
  unfold crcBit
  rw [shr_xor, mul_xor]
  ac_rfl
theorem bitN_xor (k : Nat) (a b : UInt16) : bitN k (a ^^^ b) = bitN k a ^^^ bitN k b := by
  induction k with
  | zero => rfl
  | succ k ih => simp only [bitN, ih, crcBit_xor]
theorem u8to16_xor (a b : UInt8) : (a ^^^ b).toUInt16 = a.toUInt16 ^^^ b.toUInt16 := by
  apply UInt16.toNat_inj.1
  simp
theorem xor_self0 (a : UInt16) : a ^^^ a = 0 := by simp
theorem xor_eq_zero {a b : UInt16} (h : a ^^^ b = 0) : a = b := by
  have : (a ^^^ b) ^^^ b = 0 ^^^ b := by rw [h]
  rwa [UInt16.xor_assoc, xor_self0, UInt16.xor_zero, UInt16.zero_xor] at this

/-- The turn of one bit has no kernel. -/
theorem crcBit_zero {a : UInt16} (h : crcBit a = 0) : a = 0 := by
  unfold crcBit at h
  have h1 := xor_eq_zero h
  have h2 : (a >>> 1).toNat = (0x8408 * (a &&& 1)).toNat := by rw [h1]
  rw [UInt16.toNat_shiftRight] at h2
  have hlt := a.toNat_lt
  have hm : (a &&& 1).toNat = a.toNat % 2 := by rw [UInt16.toNat_and]; simp
  rcases and_one_cases a with h0 | h0
  · rw [h0] at h2 hm
    apply UInt16.toNat_inj.1
    simp [Nat.shiftRight_eq_div_pow] at h2 hm ⊢
    omega
  · rw [h0] at h2
    simp [Nat.shiftRight_eq_div_pow] at h2
    omega
theorem bitN_zero (k : Nat) {a : UInt16} (h : bitN k a = 0) : a = 0 := by
  induction k with
  | zero => exact h
  | succ k ih => exact ih (crcBit_zero h)
theorem bitN_inj (k : Nat) {a b : UInt16} (h : bitN k a = bitN k b) : a = b := by
  apply xor_eq_zero
  apply bitN_zero k
  rw [bitN_xor, h, xor_self0]
theorem bitN_0 (k : Nat) : bitN k 0 = 0 := by
  induction k with
  | zero => rfl
  | succ k ih => rw [bitN, ih]; rfl
theorem crcByte_inj {a b : UInt16} {x : UInt8} (h : crcByte a x = crcByte b x) : a = b := by
  have := bitN_inj 8 h
  have h2 : (a ^^^ x.toUInt16) ^^^ x.toUInt16 = (b ^^^ x.toUInt16) ^^^ x.toUInt16 := by rw [this]
  rwa [UInt16.xor_assoc, UInt16.xor_assoc, xor_self0, UInt16.xor_zero, UInt16.xor_zero] at h2
theorem crcMore_inj {l : List UInt8} : ∀ {a b : UInt16}, crcMore a l = crcMore b l → a = b := by
  induction l with
  | nil => intro a b h; exact h
  | cons x l ih => intro a b h; exact crcByte_inj (ih (by rwa [crcMore_cons, crcMore_cons] at h))

/-- A byte stands eight bits up till the eight turns are over. -/
theorem bitN_high (y : UInt8) : bitN 8 (y.toUInt16 <<< 8) = y.toUInt16 := by
  have key : ∀ n, n < 256 → bitN 8 ((UInt8.ofNat n).toUInt16 <<< 8) = (UInt8.ofNat n).toUInt16 := by decide +kernel
  have := key y.toNat y.toNat_lt
  rwa [UInt8.ofNat_toNat] at this
theorem crcMore_two (c : UInt16) (x y : UInt8) : crcMore c [x, y] = bitN 8 (bitN 8 (c ^^^ x.toUInt16 ^^^ (y.toUInt16 <<< 8))) := by
  show bitN 8 (bitN 8 (c ^^^ x.toUInt16) ^^^ y.toUInt16) = _
  rw [bitN_xor 8 (c ^^^ x.toUInt16), bitN_high]
theorem two_zero {u v : UInt8} (h : u.toUInt16 ^^^ (v.toUInt16 <<< 8) = 0) : u = 0 ∧ v = 0 := by
  have h1 := congrArg UInt16.toNat (xor_eq_zero h)
  rw [UInt16.toNat_shiftLeft] at h1
  have hu := u.toNat_lt
  have hv := v.toNat_lt
  simp [Nat.shiftLeft_eq] at h1
  constructor
  · apply UInt8.toNat_inj.1; simp; omega
  · apply UInt8.toNat_inj.1; simp; omega
theorem xor8_eq_zero {a b : UInt8} (h : a ^^^ b = 0) : a = b := by
  have : (a ^^^ b) ^^^ b = 0 ^^^ b := by rw [h]
  rwa [UInt8.xor_assoc, UInt8.xor_self, UInt8.xor_zero, UInt8.zero_xor] at this
theorem crcMore_two_inj {c : UInt16} {x y x' y' : UInt8} (h : crcMore c [x, y] = crcMore c [x', y']) : x = x' ∧ y = y' := by
  rw [crcMore_two, crcMore_two] at h
  have h1 := bitN_inj 8 (bitN_inj 8 h)
  have h2 : (x ^^^ x').toUInt16 ^^^ ((y ^^^ y').toUInt16 <<< 8) = 0 := by
    have h3 : (c ^^^ x.toUInt16 ^^^ (y.toUInt16 <<< 8)) ^^^ (c ^^^ x'.toUInt16 ^^^ (y'.toUInt16 <<< 8)) = 0 := by rw [h1, xor_self0]
    have h4 : ((y ^^^ y').toUInt16 <<< 8) = (y.toUInt16 <<< 8) ^^^ (y'.toUInt16 <<< 8) := by
      apply UInt16.toNat_inj.1
      rw [u8to16_xor, UInt16.toNat_xor, UInt16.toNat_shiftLeft, UInt16.toNat_shiftLeft, UInt16.toNat_shiftLeft, UInt16.toNat_xor]
      simp only [UInt16.reduceToNat, Nat.reduceMod, Nat.shiftLeft_xor_distrib, Nat.xor_mod_two_pow]
    rw [u8to16_xor, h4, ← h3]
    have h5 : c ^^^ x.toUInt16 ^^^ (y.toUInt16 <<< 8) ^^^ (c ^^^ x'.toUInt16 ^^^ (y'.toUInt16 <<< 8)) = (c ^^^ c) ^^^ (x.toUInt16 ^^^ x'.toUInt16 ^^^ ((y.toUInt16 <<< 8) ^^^ (y'.toUInt16 <<< 8))) := by ac_rfl
    rw [h5, xor_self0, UInt16.zero_xor]
  obtain ⟨h6, h7⟩ := two_zero h2
  exact ⟨xor8_eq_zero h6, xor8_eq_zero h7⟩
/-- Two rows that part in two neighboring bytes at most have one check just if they are one. -/
theorem crcMore_turn (c : UInt16) (a b : List UInt8) (x y x' y' : UInt8) :
    crcMore c (a ++ x :: y :: b) = crcMore c (a ++ x' :: y' :: b) ↔ x = x' ∧ y = y' := by
  constructor
  · intro h
    rw [show a ++ x :: y :: b = (a ++ [x, y]) ++ b by simp, show a ++ x' :: y' :: b = (a ++ [x', y']) ++ b by simp, crcMore_append, crcMore_append _ (a ++ [x', y'])] at h
    have := crcMore_inj h
    rw [crcMore_append, crcMore_append] at this
    exact crcMore_two_inj this
  · rintro ⟨rfl, rfl⟩; rfl
theorem not_eq_xor (x : UInt16) : ~~~ x = x ^^^ 0xffff := by
  apply UInt16.toBitVec_inj.1
  rw [UInt16.toBitVec_not, UInt16.toBitVec_xor]
  exact (BitVec.xor_allOnes (x := x.toBitVec)).symm
theorem not_inj {a b : UInt16} (h : ~~~ a = ~~~ b) : a = b := by
  have := congrArg (~~~ ·) h
  simpa using this
theorem crcCheck_turn (a b : List UInt8) (x y x' y' : UInt8) :
    crcCheck (a ++ x :: y :: b) = crcCheck (a ++ x' :: y' :: b) ↔ x = x' ∧ y = y' := by
  rw [← crcMore_turn 0xffff a b]
  exact ⟨not_inj, fun h => by rw [crcCheck, crcCheck, h]⟩
theorem split_two (l : List UInt8) (k : Nat) (hk : k + 1 < l.length) : l = l.take k ++ l.getD k 0 :: l.getD (k+1) 0 :: l.drop (k+2) := by
  conv => lhs; rw [← List.take_append_drop k l]
  rw [List.drop_eq_getElem_cons (by omega), List.drop_eq_getElem_cons (by omega)]
  simp [List.getElem?_eq_getElem hk, List.getElem?_eq_getElem (show k < l.length by omega)]
theorem set_two (l : List UInt8) (k : Nat) (hk : k + 1 < l.length) (u v : UInt8) : (l.set k u).set (k+1) v = l.take k ++ u :: v :: l.drop (k+2) := by
  apply List.ext_getElem?
  intro i
  by_cases h1 : i < k
  · rw [List.getElem?_set_ne (by omega), List.getElem?_set_ne (by omega), List.getElem?_append_left (by rw [List.length_take]; omega), List.getElem?_take, if_pos h1]
  · by_cases h2 : i = k
    · subst h2
      rw [List.getElem?_set_ne (by omega), List.getElem?_set_self (by omega), List.getElem?_append_right (by rw [List.length_take]; omega)]
      simp [List.length_take, Nat.min_eq_left (show i ≤ l.length by omega)]
    · by_cases h3 : i = k + 1
      · subst h3
        rw [List.getElem?_set_self (by rw [List.length_set]; omega), List.getElem?_append_right (by rw [List.length_take]; omega)]
        simp [List.length_take, Nat.min_eq_left (show k ≤ l.length by omega)]
      · rw [List.getElem?_set_ne (by omega), List.getElem?_set_ne (by omega), List.getElem?_append_right (by rw [List.length_take]; omega), List.length_take, Nat.min_eq_left (by omega)]
        obtain ⟨j, rfl⟩ : ∃ j, i = k + 2 + j := ⟨i - (k + 2), by omega⟩
        rw [show k + 2 + j - k = j + 1 + 1 by omega, List.getElem?_cons_succ, List.getElem?_cons_succ, List.getElem?_drop]
theorem xor_zero_iff (a b : UInt8) : a ^^^ b = a ↔ b = 0 := by
  constructor
  · intro h
    have h2 : a ^^^ (a ^^^ b) = a ^^^ a := by rw [h]
    rwa [← UInt8.xor_assoc, UInt8.xor_self, UInt8.zero_xor] at h2
  · rintro rfl; exact UInt8.xor_zero
/-- Two neighboring bytes that are turned. -/
theorem crcCheck_turned (l : List UInt8) (k : Nat) (hk : k + 1 < l.length) (x y : UInt8) :
    crcCheck ((l.set k (l.getD k 0 ^^^ x)).set (k+1) (l.getD (k+1) 0 ^^^ y)) = crcCheck l ↔ x = 0 ∧ y = 0 := by
  rw [set_two l k hk]
  conv => lhs; rhs; rw [split_two l k hk]
  rw [crcCheck_turn, xor_zero_iff, xor_zero_iff]
/-- What is left behind bytes and their check. -/
theorem crcMore_rest (s : UInt16) : crcMore s [(~~~ s).toUInt8, ((~~~ s) >>> 8).toUInt8] = 0xf0b8 := by
  rw [crcMore_two]
  have h : s ^^^ (~~~ s).toUInt8.toUInt16 ^^^ (((~~~ s) >>> 8).toUInt8.toUInt16 <<< 8) = 0xffff := by
    have h1 : (~~~ s).toUInt8.toUInt16 ^^^ (((~~~ s) >>> 8).toUInt8.toUInt16 <<< 8) = ~~~ s := by
      generalize ~~~ s = t
      apply UInt16.toNat_inj.1
      have hl : (t.toUInt8.toUInt16).toNat = t.toNat % 256 := by simp
      have hh : ((t >>> 8).toUInt8.toUInt16 <<< 8).toNat = (t.toNat / 256) * 256 := by
        rw [UInt16.toNat_shiftLeft]
        have := t.toNat_lt
        simp [Nat.shiftRight_eq_div_pow, Nat.shiftLeft_eq]
        omega
      rw [UInt16.toNat_xor, hl, hh]
      have hx := Nat.two_pow_add_eq_or_of_lt (i := 8) (b := t.toNat % 256) (Nat.mod_lt _ (by decide)) (t.toNat / 256)
      have hd : (t.toNat % 256) ^^^ (t.toNat / 256 * 256) = 256 * (t.toNat / 256) + t.toNat % 256 := by
        rw [Nat.mul_comm (t.toNat / 256), show (256 : Nat) = 2 ^ 8 from rfl, hx]
        apply Nat.eq_of_testBit_eq
        intro i
        rw [Nat.testBit_xor, Nat.testBit_or]
        by_cases hi : i < 8
        · have : (2 ^ 8 * (t.toNat / 2 ^ 8)).testBit i = false := by
            rw [Nat.testBit_two_pow_mul]; simp; omega
          simp [this]
        · have : (t.toNat % 2 ^ 8).testBit i = false := by
            rw [Nat.testBit_mod_two_pow]; simp; omega
          simp [this]
      rw [hd]
      omega
    rw [UInt16.xor_assoc, h1, not_eq_xor, ← UInt16.xor_assoc, xor_self0, UInt16.zero_xor]
  rw [h]
  decide +kernel
theorem crcMore_rest_inj {s : UInt16} {x y : UInt8} (h : crcMore s [x, y] = 0xf0b8) : x = (~~~ s).toUInt8 ∧ y = ((~~~ s) >>> 8).toUInt8 :=
  crcMore_two_inj (h.trans (crcMore_rest s).symm)

/-- Three rows turned by each other. -/
def xor3 : List UInt8 → List UInt8 → List UInt8 → List UInt8
  | a :: us, b :: bs, c :: cs => (a ^^^ b ^^^ c) :: xor3 us bs cs
  | _, _, _ => []
theorem crcMore_xor3 : ∀ (a b c : List UInt8) (s t u : UInt16), a.length = b.length → a.length = c.length →
    crcMore s a ^^^ crcMore t b ^^^ crcMore u c = crcMore (s ^^^ t ^^^ u) (xor3 a b c)
  | [], [], [], _, _, _, _, _ => rfl
  | x :: a, y :: b, z :: c, s, t, u, h1, h2 => by
    rw [crcMore_cons, crcMore_cons, crcMore_cons, crcMore_xor3 a b c _ _ _ (by simpa using h1) (by simpa using h2), xor3, crcMore_cons]
    congr 1
    unfold crcByte
    rw [← bitN_xor, ← bitN_xor, u8to16_xor, u8to16_xor]
    congr 1
    ac_rfl
theorem crcCheck_xor3 (a b c : List UInt8) (h1 : a.length = b.length) (h2 : a.length = c.length) :
    crcCheck a ^^^ crcCheck b ^^^ crcCheck c = crcCheck (xor3 a b c) := by
  unfold crcCheck
  have h := crcMore_xor3 a b c 0xffff 0xffff 0xffff h1 h2
  rw [show (0xffff : UInt16) ^^^ 0xffff ^^^ 0xffff = 0xffff by decide] at h
  rw [← h]
  simp only [not_eq_xor]
  generalize crcMore 65535 a = p, crcMore 65535 b = q, crcMore 65535 c = r
  have : p ^^^ 65535 ^^^ (q ^^^ 65535) ^^^ (r ^^^ 65535) = (p ^^^ q ^^^ r) ^^^ (65535 ^^^ 65535 ^^^ 65535) := by ac_rfl
  rw [this]
  rfl
end Go.Proofs.Ytchcnkobgdbdkaa


/- The walks of the check: what the program's and the reference's functions compute. -/
namespace Go.Proofs.Ytchcnkobgdbdkaa
open Go.RowKit
set_option linter.unusedVariables false
set_option linter.unusedSimpArgs false

theorem xor16_8 (s : UInt16) (x : UInt8) : Go.bits .xor .u16 (s.toNat : Int) (IntKind.u16.wrap (x.toNat : Int)) = ((s ^^^ x.toUInt16).toNat : Int) := by
  rw [wrap16_u8, bits_xor16]
theorem bit_one (c : UInt16) : Go.bits .xor .u16 ((c.toNat : Int) / (2 : Int)) (IntKind.u16.wrap ((33800 : Int) * Go.bits .and .u16 (c.toNat : Int) 1)) = ((crcBit c).toNat : Int) := by
  have h1 : ((c.toNat : Int) / (2 : Int)) = ((c >>> 1).toNat : Int) := by
    rw [UInt16.toNat_shiftRight]; simp [Nat.shiftRight_eq_div_pow]
  have h2 : IntKind.u16.wrap ((33800 : Int) * ((c &&& 1).toNat : Int)) = ((0x8408 * (c &&& 1)).toNat : Int) := by
    rw [UInt16.toNat_mul, UInt16.toNat_and]
    simp [IntKind.wrap, IntKind.bits, IntKind.signed]
  rw [bits_and16_1, h1, h2, bits_xor16, crcBit]
theorem half16 (c : UInt16) : ((c.toNat : Int) / (2 : Int)) = ((c >>> 1).toNat : Int) := by
  rw [UInt16.toNat_shiftRight]; simp [Nat.shiftRight_eq_div_pow]
theorem bits_xor_poly (c : UInt16) : Go.bits .xor .u16 (c.toNat : Int) 33800 = ((c ^^^ 0x8408).toNat : Int) := bits_xor16 c 0x8408
theorem bit_even {c : UInt16} (h : c &&& 1 = 0) : crcBit c = c >>> 1 := by
  unfold crcBit; rw [h]; simp
theorem bit_odd {c : UInt16} (h : c &&& 1 = 1) : crcBit c = c >>> 1 ^^^ 0x8408 := by
  unfold crcBit; rw [h]; rfl

set_option maxHeartbeats 400000 in
theorem more_calls (c : UInt16) (A : Option Addr) (n cap : Nat) (l : List UInt8) (w : World) (hl : l.length = n) (hn : n ≤ 9223372036854775807) (hr : Rd w A (bts l)) :
    Calls Try.prog 54 #[vu16 c, .slice A n cap] w fun e w' => e = .returned (vu16 (crcMore c l)) ∧ w = w' := by
  subst hl
  have HR := Lib.hid hr
  clear hr
  go_enter Try.func54, Try.ntmps54
  go_wp2
  go_loop [0, 10] (fun v0 v10 => ∃ k : Nat, k ≤ l.length ∧ v10 = .int .i64 k ∧ v0 = vu16 (crcMore c (l.take k))) (fun _ v10 => l.length - (intOf v10).toNat)
  case atStart => exact ⟨0, by omega, rfl, by simp [crcMore]⟩
  case round =>
    obtain ⟨k, hk, rfl, rfl⟩ := hrel
    by_cases hlt : k < l.length
    · obtain ⟨ad, rfl, hc⟩ := Rd.bt HR.out k hlt
      have hb := crcMore_take c l k hlt
      generalize hd : l.getD k 0 = x at hc hb
      have HB := Lib.hid hb
      clear hb hd
      generalize hg : crcMore c (l.take k) = s at HB
      clear hg
      go_wp2
      go_loop [0, 18] (fun v0 v18 => ∃ j : Nat, j ≤ 8 ∧ v18 = .int .i64 j ∧ v0 = vu16 (bitN j (s ^^^ x.toUInt16))) (fun _ v10 => 8 - (intOf v10).toNat)
      case atStart => exact ⟨0, by omega, rfl, by rw [xor16_8]; rfl⟩
      case round =>
        obtain ⟨j, hj, rfl, rfl⟩ := hrel
        by_cases hj8 : j < 8
        · go_wp2
          go_round
          case rel => exact ⟨j + 1, by omega, by go_num, by rw [bit_one]; rfl⟩
          case measure => simp [intOf]; omega
        · go_wp2
          have : j = 8 := by omega
          subst this
          go_round
          case rel => exact ⟨k + 1, by omega, by go_num, by rw [HB.out]; rfl⟩
          case measure => simp [intOf]; omega
    · go_wp2
      go_ret
      have : k = l.length := by omega
      subst this
      simp

set_option maxHeartbeats 400000 in
theorem refMore_calls (c : UInt16) (A : Option Addr) (n cap : Nat) (l : List UInt8) (w : World) (hl : l.length = n) (hn : n ≤ 9223372036854775807) (hr : Rd w A (bts l)) :
    Calls Try.prog 53 #[vu16 c, .slice A n cap] w fun e w' => e = .returned (vu16 (crcMore c l)) ∧ w = w' := by
  subst hl
  have HR := Lib.hid hr
  clear hr
  go_enter Try.func53, Try.ntmps53
  go_wp2
  go_loop [0, 5, 6, 7] (fun v0 v5 _ _ => ∃ k : Nat, k ≤ l.length ∧ v5 = .int .i64 k ∧ v0 = vu16 (crcMore c (l.take k))) (fun _ v5 _ _ => l.length - (intOf v5).toNat)
  case atStart => exact ⟨0, by omega, rfl, by simp [crcMore]⟩
  case round =>
    obtain ⟨k, hk, rfl, rfl⟩ := hrel
    by_cases hlt : k < l.length
    · obtain ⟨ad, rfl, hc⟩ := Rd.bt HR.out k hlt
      have hb := crcMore_take c l k hlt
      generalize hd : l.getD k 0 = x at hc hb
      have HB := Lib.hid hb
      clear hb hd
      generalize hg : crcMore c (l.take k) = s at HB
      clear hg
      go_wp2
      go_loop [0, 6, 7] (fun v0 v6 _ => ∃ j : Nat, j ≤ 8 ∧ v6 = .int .i64 j ∧ v0 = vu16 (bitN j (s ^^^ x.toUInt16))) (fun _ v6 _ => 8 - (intOf v6).toNat)
      case atStart => exact ⟨0, by omega, rfl, by rw [xor16_8]; rfl⟩
      case round =>
        obtain ⟨j, hj, rfl, rfl⟩ := hrel
        by_cases hj8 : j < 8
        · rcases and_one_cases (bitN j (s ^^^ x.toUInt16)) with h1 | h1
          · have hb : (Go.bits .and .u16 (((bitN j (s ^^^ x.toUInt16)).toNat : Nat) : Int) 1 == 1) = false := by
              rw [bits_and16_1, h1]; rfl
            have HE := Lib.hid (bit_even h1)
            clear h1
            go_wp2
            go_round
            case rel => exact ⟨j + 1, by omega, by go_num, by rw [half16, bitN, HE.out]⟩
            case measure => simp [intOf]; omega
          · have hb : (Go.bits .and .u16 (((bitN j (s ^^^ x.toUInt16)).toNat : Nat) : Int) 1 == 1) = true := by
              rw [bits_and16_1, h1]; rfl
            have HE := Lib.hid (bit_odd h1)
            clear h1
            go_wp2
            go_round
            case rel => exact ⟨j + 1, by omega, by go_num, by rw [half16, bitN, HE.out, bits_xor_poly]⟩
            case measure => simp [intOf]; omega
        · go_wp2
          have : j = 8 := by omega
          subst this
          go_round
          case rel => exact ⟨k + 1, by omega, by go_num, by rw [HB.out]; rfl⟩
          case measure => simp [intOf]; omega
    · go_wp2
      go_ret
      have : k = l.length := by omega
      subst this
      simp

def ptl (ps : List Pt) : List UInt8 := ps.flatMap (·.l)
theorem ptl_take (ps : List Pt) (k : Nat) (h : k < ps.length) : ptl (ps.take (k + 1)) = ptl (ps.take k) ++ ps[k].l := by
  rw [ptl, ptl, List.take_succ_eq_append_getElem h, List.flatMap_append]; simp
theorem bits_not16 (c : UInt16) : Go.bits .xor .u16 IntKind.u16.max (c.toNat : Int) = ((~~~ c).toNat : Int) := by
  rw [not_eq_xor, UInt16.xor_comm]
  exact bits_xor16 0xffff c

set_option maxHeartbeats 400000 in
theorem check_calls (ps : List Pt) (A : Option Addr) (n cap : Nat) (w : World) (hn : ps.length = n) (hm : n ≤ 9223372036854775807) (hr : Rd w A (ps.map ptv)) (hp : Pts w ps) :
    Calls Try.prog 52 #[.slice A n cap] w fun e w' => e = .returned (vu16 (crcCheck (ptl ps))) ∧ w = w' := by
  subst hn
  have HR := Lib.hid hr
  have HP := Lib.hid hp
  clear hr hp
  have hsg : IntKind.u16.signed = false := rfl
  go_enter Try.func52, Try.ntmps52
  go_wp2
  go_loop [3, 8] (fun v3 v8 => ∃ k : Nat, k ≤ ps.length ∧ v8 = .int .i64 k ∧ v3 = vu16 (crcMore 0xffff (ptl (ps.take k)))) (fun _ v8 => ps.length - (intOf v8).toNat)
  case atStart => exact ⟨0, by omega, rfl, rfl⟩
  case round =>
    obtain ⟨k, hk, rfl, rfl⟩ := hrel
    by_cases hlt : k < ps.length
    · obtain ⟨ad, rfl, hc⟩ := HR.out.at_ k (by simpa using hlt)
      rw [List.getElem_map] at hc
      have hpk := HP.out _ (List.getElem_mem hlt)
      have hb := ptl_take ps k hlt
      generalize hd : ps[k] = p at hc hb hpk
      obtain ⟨pA, pc, l⟩ := p
      simp only [ptv] at hc
      have HB := Lib.hid hb
      have HK := Lib.hid hpk
      clear hb hd hpk
      generalize hg : ptl (ps.take k) = s at HB
      clear hg
      go_wp2_with (go_at_call 54; refine (more_calls _ _ _ _ l _ rfl (Nat.le_trans HK.out.2.1 HK.out.2.2) HK.out.1).mono ?_; rintro e w' ⟨rfl, rfl⟩)
      go_round
      case rel => exact ⟨k + 1, by omega, by go_num, by rw [HB.out, crcMore_append]⟩
      case measure => simp [intOf]; omega
    · go_wp2
      go_ret
      have : k = ps.length := by omega
      subst this
      rw [List.take_length, bits_not16]
      exact ⟨rfl, rfl⟩

set_option maxHeartbeats 400000 in
theorem refCheck_calls (ps : List Pt) (A : Option Addr) (n cap : Nat) (w : World) (hn : ps.length = n) (hm : n ≤ 9223372036854775807) (hr : Rd w A (ps.map ptv)) (hp : Pts w ps) :
    Calls Try.prog 51 #[.slice A n cap] w fun e w' => e = .returned (vu16 (crcCheck (ptl ps))) ∧ w = w' := by
  subst hn
  have HR := Lib.hid hr
  have HP := Lib.hid hp
  clear hr hp
  have hsg : IntKind.u16.signed = false := rfl
  go_enter Try.func51, Try.ntmps51
  go_wp2
  go_loop [3, 4] (fun v3 v8 => ∃ k : Nat, k ≤ ps.length ∧ v8 = .int .i64 k ∧ v3 = vu16 (crcMore 0xffff (ptl (ps.take k)))) (fun _ v8 => ps.length - (intOf v8).toNat)
  case atStart => exact ⟨0, by omega, rfl, rfl⟩
  case round =>
    obtain ⟨k, hk, rfl, rfl⟩ := hrel
    by_cases hlt : k < ps.length
    · obtain ⟨ad, rfl, hc⟩ := HR.out.at_ k (by simpa using hlt)
      rw [List.getElem_map] at hc
      have hpk := HP.out _ (List.getElem_mem hlt)
      have hb := ptl_take ps k hlt
      generalize hd : ps[k] = p at hc hb hpk
      obtain ⟨pA, pc, l⟩ := p
      simp only [ptv] at hc
      have HB := Lib.hid hb
      have HK := Lib.hid hpk
      clear hb hd hpk
      generalize hg : ptl (ps.take k) = s at HB
      clear hg
      go_wp2_with (go_at_call 53; refine (refMore_calls _ _ _ _ l _ rfl (Nat.le_trans HK.out.2.1 HK.out.2.2) HK.out.1).mono ?_; rintro e w' ⟨rfl, rfl⟩)
      go_round
      case rel => exact ⟨k + 1, by omega, by go_num, by rw [HB.out, crcMore_append]⟩
      case measure => simp [intOf]; omega
    · go_wp2
      go_ret
      have : k = ps.length := by omega
      subst this
      rw [List.take_length, bits_not16]
      exact ⟨rfl, rfl⟩
end Go.Proofs.Ytchcnkobgdbdkaa


/- The walk of the check's statements' own trial of the program. -/
namespace Go.Proofs.Ytchcnkobgdbdkaa
open Go.RowKit
set_option linter.unusedVariables false
set_option linter.unusedSimpArgs false

theorem check_one {w : World} {A : Option Addr} {g n c : Nat} {l : List UInt8} (hh : Rd w (some ⟨g, 0, none⟩) [.slice A n c]) (hn : l.length = n) (hc : n ≤ c) (hm : c ≤ 9223372036854775807) (hr : Rd w A (bts l)) :
    Calls Try.prog 52 #[.slice (some ⟨g, 0, none⟩) 1 1] w fun e w' => e = .returned (vu16 (crcCheck l)) ∧ w = w' := by
  subst hn
  have := check_calls [⟨A, c, l⟩] (some ⟨g, 0, none⟩) 1 1 w rfl (by decide) hh (by
    intro p hp
    obtain rfl : p = ⟨A, c, l⟩ := by simpa using hp
    exact ⟨hr, hc, hm⟩)
  simpa [ptl] using this
theorem check_two {w : World} {A B : Option Addr} {g n c m d : Nat} {l k : List UInt8} (hh : Rd w (some ⟨g, 0, none⟩) [.slice A n c, .slice B m d]) (hn : l.length = n) (hc : n ≤ c) (hm : c ≤ 9223372036854775807) (hr : Rd w A (bts l))
    (hn' : k.length = m) (hc' : m ≤ d) (hm' : d ≤ 9223372036854775807) (hr' : Rd w B (bts k)) :
    Calls Try.prog 52 #[.slice (some ⟨g, 0, none⟩) 2 2] w fun e w' => e = .returned (vu16 (crcCheck (l ++ k))) ∧ w = w' := by
  subst hn
  subst hn'
  have := check_calls [⟨A, c, l⟩, ⟨B, d, k⟩] (some ⟨g, 0, none⟩) 2 2 w rfl (by decide) hh (by
    intro p hp
    have : p = ⟨A, c, l⟩ ∨ p = ⟨B, d, k⟩ := by simpa using hp
    rcases this with rfl | rfl
    · exact ⟨hr, hc, hm⟩
    · exact ⟨hr', hc', hm'⟩)
  simpa [ptl] using this
theorem check_none {w : World} : Calls Try.prog 52 #[.slice none 0 0] w fun e w' => e = .returned (vu16 0) ∧ w = w' :=
  check_calls [] none 0 0 w rfl (by decide) (Rd.nil _ _) (by intro p hp; cases hp)
theorem conv_bytes {P : Program} (t e : TypeId) (ht : P.underlying t = some (.slice e)) (he : P.underlying e = some (.int .u8)) : ∀ (W : World) (C : Array Value) (n c g : Nat), g = W.heap.size →
    (convert t t (.slice (some ⟨g, 0, none⟩) n c)).run P (W.alloc (.cells C e)) = .ok (.slice (some ⟨g, 0, none⟩) n c) (W.alloc (.cells C e (C.size, C.size + 1))) := by
  intro W C n c g hg
  subst hg
  exact Lib.run_convert_bytes_const W t e C n c ht he
theorem check_w1 : crcCheck [49,50,51,52,53,54,55,56,57] = 0x906e := by decide +kernel
theorem empty_own' {W : World} {g : Nat} (e : TypeId) (size : Nat) (hg : g = W.heap.size) : (W.alloc (.cells #[] e)).ownsRow g e size (.slice (some ⟨g, 0, none⟩) 0 0) 0 [] := by
  subst hg
  exact ⟨by simp, .inr ⟨W.heap.size, 0, #[], rfl, Nat.le_refl _, hal_new rfl, Nat.le_refl _, by simp [maxLen], by simp, by simp⟩⟩
theorem empty_own (w : World) (e : TypeId) (size : Nat) : (w.alloc (.cells #[] e)).ownsRow w.heap.size e size (.slice (some ⟨w.heap.size, 0, none⟩) 0 0) 0 [] :=
  ⟨by simp, .inr ⟨w.heap.size, 0, #[], rfl, Nat.le_refl _, hal_new rfl, Nat.le_refl _, by simp [maxLen], by simp, by simp⟩⟩
end Go.Proofs.Ytchcnkobgdbdkaa


/- The walks of a sector with a check: what the program's functions compute. -/
namespace Go.Proofs.Ytchcnkobgdbdkaa
open Go.RowKit
set_option linter.unusedVariables false
set_option linter.unusedSimpArgs false

def zb (n : Nat) : List Value := List.replicate n (vu8 0)
theorem bts_cons (m : UInt8) (b : List UInt8) : bts (m :: b) = vu8 m :: bts b := rfl
/-- A sector of a mark and a body of 29 bytes; a body filled up. -/
def secOf (m : UInt8) (b : List UInt8) : List UInt8 := m :: b ++ [(crcCheck (m :: b)).toUInt8, (crcCheck (m :: b) >>> 8).toUInt8]
def padB (l : List UInt8) : List UInt8 := l ++ List.replicate (29 - l.length) 0
theorem padB_length {l : List UInt8} (h : l.length ≤ 29) : (padB l).length = 29 := by simp [padB]; omega
theorem secOf_length {m : UInt8} {b : List UInt8} (h : b.length = 29) : (secOf m b).length = 32 := by simp [secOf, h]
theorem one_w (vs : List Value) (c : UInt16) (h : ∀ u ∈ vs, u.oneCell' = true) : ∀ u ∈ vs ++ [vu16 c], u.oneCell' = true := by
  intro u hu
  rcases List.mem_append.1 hu with hu | hu
  · exact h u hu
  · obtain rfl : u = vu16 c := by simpa using hu
    rfl

set_option maxRecDepth 100000 in
set_option maxHeartbeats 1000000 in
theorem checkedOf_calls (m : UInt8) (b : List UInt8) (w : World) (hb : b.length = 29) :
    Calls Try.prog 46 #[.agg (bts (m :: b)).toArray] w fun e w' => e = .returned (.agg (bts (m :: b) ++ [vu16 (crcCheck (m :: b))]).toArray) ∧ Below w.heap.size w w' := by
  have h1 : ∀ u ∈ bts (m :: b), u.oneCell' = true := one_bts _
  have h2 : ((bts (m :: b)).drop 1).take 29 = bts b := by rw [bts_cons, List.drop_succ_cons, List.drop_zero, ← hb, ← bts_length, List.take_length]
  have h0 : (bts (m :: b))[0]? = some (vu8 m) := rfl
  generalize hvs : bts (m :: b) = vs at h1 h2 h0
  have hl : vs.length = 30 := by rw [← hvs]; simp [hb]
  have HV := Lib.hid hvs
  have HL := Lib.hid hl
  have HB1 := Lib.hid hb
  have H1 := Lib.hid h1
  have H2 := Lib.hid h2
  clear hvs hl hb h1 h2
  go_enter Try.func46, Try.ntmps46
  go_wp2_with fail
  refine code_at fun w0 hw0 => ?_
  have HB : Hid (Bk w0 w.heap.size vs) := by subst hw0; exact (Bk.new w vs _).alloc _
  have HZ : Hid (Bk w0 (w.heap.size + 1) (zb 30 ++ [vu16 0])) := by subst hw0; exact ⟨_, hal_new (by simp)⟩
  have HBel : Hid (Below w.heap.size w w0) := by subst hw0; exact ((Below.refl _ _).alloc (Nat.le_refl _) _).alloc (by simp) _
  have HC : Hid (w0.cell? ⟨w.heap.size, 0, none⟩ = some (vu8 m)) := HB.out.cell h0
  clear hw0 h0
  apply wp_region_rel 9 (Chg NoS) [(Veq _), (Veq _), (Veq _), (RowAt NoS 1 _), (Veq _), (Veq _), (RowsAt (.slice (some ⟨w.heap.size, 1, none⟩) 29 29) [vu8 m]), (Veq _), (Veq _)] [[], [], [1], [2], [], [4], [3, 5], [6], [0, 7]] [3, 4, 5, 6, 7, 8, 9, 10, 11] (by kernel_rfl) (by kernel_rfl) rfl rfl rfl Chg.refl (fun _ _ _ => Chg.trans) ⟨Veq.lasts, Veq.lasts, Veq.lasts, RowAt.lasts, Veq.lasts, Veq.lasts, RowsAt.lasts, Veq.lasts, Veq.lasts, trivial⟩ ?aops ?afin
  case aops =>
    refine ⟨?ao0, ?ao1, ?ao2, ?ao3, ?ao4, ?ao5, ?ao6, ?ao7, ?ao8, trivial⟩
    case ao0 =>
      intro a wx hE hin
      have i1 : a.eval (.tmp 1) = .pointer (some ⟨w.heap.size, 0, none⟩) := hin 1 rfl
      clear hin
      have hcst : ∀ v, a.eval (.const v) = v := fun _ => rfl
      have hfnc : ∀ f, a.eval (.func f) = .func (.func f) #[] #[] := fun _ => rfl
      refine want_none rfl ?_
      exact wp_ld 85 _ rfl w.heap.size 0 30 vs vs i1 ((HB.out.drew).chg hE id) (by kernel_rfl) (by kernel_rfl) (by rw [HL.out]; decide) (by rw [List.drop_zero, ← HL.out, List.take_length]) (rel_val (Chg.refl _))
    case ao1 =>
      intro a wx hE hin
      have i1 : a.eval (.tmp 1) = .pointer (some ⟨w.heap.size, 0, none⟩) := hin 1 rfl
      clear hin
      have hcst : ∀ v, a.eval (.const v) = v := fun _ => rfl
      have hfnc : ∀ f, a.eval (.func f) = .func (.func f) #[] #[] := fun _ => rfl
      refine want_none rfl ?_
      unfold Oper.wp
      generalize a.eval = ρ at *
      go_simp
      try go_bits
      first | exact rel_val (Chg.refl _) | (go_simp; exact rel_val (Chg.refl _))
    case ao2 =>
      rintro a wx hE hin (h1 : a.eval (.tmp 4) = _)
      clear hin
      have hcst : ∀ v, a.eval (.const v) = v := fun _ => rfl
      have hfnc : ∀ f, a.eval (.func f) = .func (.func f) #[] #[] := fun _ => rfl
      refine want_none rfl ?_
      unfold Oper.wp
      generalize a.eval = ρ at *
      have c := hE.cell (w := w0.drew) HC.out id
      go_simp
      try go_bits
      first | exact rel_val (Chg.refl _) | (go_simp; exact rel_val (Chg.refl _))
    case ao3 =>
      rintro a wx hE hin (h2 : a.eval (.tmp 5) = _)
      clear hin
      have hcst : ∀ v, a.eval (.const v) = v := fun _ => rfl
      have hfnc : ∀ f, a.eval (.func f) = .func (.func f) #[] #[] := fun _ => rfl
      refine want_none rfl ?_
      unfold Oper.wp
      generalize a.eval = ρ at *
      go_simp
      try go_bits
      exact rel_row (id)
    case ao4 =>
      intro a wx hE hin
      have i1 : a.eval (.tmp 1) = .pointer (some ⟨w.heap.size, 0, none⟩) := hin 1 rfl
      clear hin
      have hcst : ∀ v, a.eval (.const v) = v := fun _ => rfl
      have hfnc : ∀ f, a.eval (.func f) = .func (.func f) #[] #[] := fun _ => rfl
      refine want_none rfl ?_
      unfold Oper.wp
      generalize a.eval = ρ at *
      go_simp
      try go_bits
      first | exact rel_val (Chg.refl _) | (go_simp; exact rel_val (Chg.refl _))
    case ao5 =>
      rintro a wx hE hin (h4 : a.eval (.tmp 7) = _)
      clear hin
      have hcst : ∀ v, a.eval (.const v) = v := fun _ => rfl
      have hfnc : ∀ f, a.eval (.func f) = .func (.func f) #[] #[] := fun _ => rfl
      refine want_none rfl ?_
      unfold Oper.wp
      generalize a.eval = ρ at *
      go_simp
      try go_bits
      first | exact rel_val (Chg.refl _) | (go_simp; exact rel_val (Chg.refl _))
    case ao6 =>
      rintro a wx hE hin ⟨g3, h3, s3, t3, f3, c3⟩ (h5 : a.eval (.tmp 8) = _)
      clear hin
      have hcst : ∀ v, a.eval (.const v) = v := fun _ => rfl
      have hfnc : ∀ f, a.eval (.func f) = .func (.func f) #[] #[] := fun _ => rfl
      refine want_none rfl ?_
      unfold Oper.wp
      generalize a.eval = ρ at *
      go_simp
      exact ⟨_, rfl, ⟨wx.heap.size, g3, rfl, Rd.new _ _ _, (Rd.row (S := NoS) c3).alloc _⟩, (Chg.refl _).alloc _⟩
    case ao7 =>
      rintro a wx hE hin ⟨gg, gk, h6, b6, b6k⟩
      clear hin
      have hcst : ∀ v, a.eval (.const v) = v := fun _ => rfl
      have hfnc : ∀ f, a.eval (.func f) = .func (.func f) #[] #[] := fun _ => rfl
      refine want_none rfl ?_
      unfold Oper.wp
      generalize a.eval = ρ at *
      go_simp
      refine (check_two (A := some ⟨gk, 0, none⟩) (n := 1) (c := 1) (B := some ⟨w.heap.size, 1, none⟩) (m := 29) (d := 29) (l := [m]) (k := b) b6 rfl (by decide) (by decide) b6k HB1.out (by decide) (by decide) ?_).mono ?_
      · have := (HB.out.drew.chg hE id).rd_at 1 29
        rwa [H2.out] at this
      rintro e w' ⟨rfl, rfl⟩
      exact rel_val (Chg.refl _)
    case ao8 =>
      rintro a wx hE hin (h0 : a.eval (.tmp 3) = _) (h7 : a.eval (.tmp 10) = _)
      clear hin
      have hcst : ∀ v, a.eval (.const v) = v := fun _ => rfl
      have hfnc : ∀ f, a.eval (.func f) = .func (.func f) #[] #[] := fun _ => rfl
      refine want_none rfl ?_
      exact wp_bld2 106 0 1 _ _ rfl 31 (zb 30 ++ [vu16 0]) [(0, 30), (30, 1)] (by kernel_rfl) (by kernel_rfl) vs [vu16 (crcCheck (m :: b))] (by rw [h0]; rfl) (by rw [h7]; rfl) (by rw [HL.out]; rfl) (by rw [HL.out]; rfl) (by rw [HL.out]; rfl) (rel_val (Chg.refl _))
  case afin =>
    intro wx hE
    rintro _ rfl _ rfl _ rfl _ ⟨g3, rfl, s3, t3, f3, c3⟩ _ rfl _ rfl _ ⟨gg, gk, rfl, b6, b6k⟩ _ rfl _ rfl
    simp only [FinOk, List.take_succ_cons, List.take_zero, List.take_nil, List.drop_succ_cons, List.drop_zero, List.drop_nil, Act.put, List.setIfInBounds_toArray, List.set_cons_succ, List.set_cons_zero]
    refine wpList_st rfl 106 _ _ rfl (w.heap.size + 1) 0 31 (zb 30 ++ [vu16 0]) (vs ++ [vu16 (crcCheck (m :: b))]) rfl rfl (HZ.out.drew.chg hE id) (by kernel_rfl) (by rw [List.length_append, HL.out]; rfl) (by decide) (one_w _ _ H1.out) ?_
    intro w2 hb2 hc2
    rw [splice_whole _ _ (by rw [List.length_append, HL.out]; rfl)] at hb2
    have hbel : Below w.heap.size w w2 := HBel.out.trans ((hE.undrew.below (B := w.heap.size) HBel.out.size (fun _ _ => id)).trans (hc2.below (Nat.le_trans HBel.out.size hE.size) (fun k hk he => by omega)))
    have HK := Lib.hid hb2
    have HF := Lib.hid hbel
    clear hb2 hbel hc2 hE
    go_wp2_with fail
    try simp only [Exit.inBlock, Exit.then]
    refine bodyPost_ret (res_cell rfl _ _ (w.heap.size + 1) 31 (vs ++ [vu16 (crcCheck (m :: b))]) rfl HK.out (by kernel_rfl) (by kernel_rfl) (by rw [List.length_append, HL.out]; rfl)) rfl ?_
    exact ⟨rfl, HF.out⟩

end Go.Proofs.Ytchcnkobgdbdkaa


/- The walks of a sector with a check: what the program's functions compute. -/
namespace Go.Proofs.Ytchcnkobgdbdkaa
open Go.RowKit
set_option linter.unusedVariables false
set_option linter.unusedSimpArgs false

theorem block_cells (m : UInt8) (b : List UInt8) (c : UInt16) (hb : b.length = 29) : splice (splice (splice (vu8 m :: zb 31) 1 ((bts b).take 31)) 30 [vu8 c.toUInt8]) 31 [vu8 (c >>> 8).toUInt8] = bts (m :: b ++ [c.toUInt8, (c >>> 8).toUInt8]) := by
  have h1 : splice (vu8 m :: zb 31) 1 ((bts b).take 31) = bts (m :: b) ++ zb 2 := by
    rw [List.take_of_length_le (by simp [hb])]
    simp [splice, hb, zb, bts]
  rw [h1]
  have h2 : splice (bts (m :: b) ++ zb 2) 30 [vu8 c.toUInt8] = bts (m :: b) ++ [vu8 c.toUInt8, vu8 0] := by
    simp only [splice]
    rw [List.take_append_of_le_length (by simp [hb]), List.take_of_length_le (by simp [hb]), List.drop_append, List.drop_eq_nil_of_le (by simp [hb])]
    simp [hb, zb]
  rw [h2]
  simp only [splice]
  rw [List.take_append, List.take_of_length_le (by simp [hb]), List.drop_append, List.drop_eq_nil_of_le (by simp [hb])]
  simp [hb, bts]
set_option maxRecDepth 100000 in
set_option maxHeartbeats 1000000 in
theorem sealBlock_calls (m : UInt8) (b : List UInt8) (c : UInt16) (w : World) (hb : b.length = 29) :
    Calls Try.prog 47 #[.agg (bts (m :: b) ++ [vu16 c]).toArray] w fun e w' => e = .returned (.agg (bts (m :: b ++ [c.toUInt8, (c >>> 8).toUInt8])).toArray) ∧ Below w.heap.size w w' := by
  have h3 := block_cells m b c hb
  have h2 : ((bts (m :: b) ++ [vu16 c]).drop 1).take 29 = bts b := by
    rw [bts_cons, List.cons_append, List.drop_succ_cons, List.drop_zero, List.take_append_of_le_length (by simp [hb]), List.take_of_length_le (by simp [hb])]
  have h30 : (bts (m :: b) ++ [vu16 c])[30]? = some (vu16 c) := by rw [List.getElem?_append_right (by simp [hb])]; simp [hb]
  rw [bts_cons, List.cons_append] at h2 h30 ⊢
  generalize hrs : bts (m :: b ++ [c.toUInt8, (c >>> 8).toUInt8]) = rs at h3
  have hrl : rs.length = 32 := by rw [← hrs]; simp [hb]
  generalize hvs : bts b ++ [vu16 c] = vs at h2 h30
  have hl : vs.length = 30 := by rw [← hvs]; simp [hb]
  have hone : ∀ u ∈ rs, u.oneCell' = true := by rw [← hrs]; exact one_bts _
  have HO := Lib.hid hone
  have HV := Lib.hid hvs
  have HL := Lib.hid hl
  have HRL := Lib.hid hrl
  have HB1 := Lib.hid hb
  have H2 := Lib.hid h2
  have H3 := Lib.hid h3
  have HN : Hid (vs.length + 1 = 31) := by rw [hl]; rfl
  have H30 := Lib.hid h30
  clear hvs hl hb h2 h3 h30 hrs hrl hone
  go_enter Try.func47, Try.ntmps47
  go_wp2_with (refine wpList_al rfl 37 rfl (zb 32) (by kernel_rfl) ?_)
  intro g1 w1 hg1 hb1 hc1 hz1
  obtain rfl : g1 = w.heap.size + 1 := by simp [hg1]
  have HB1w := Lib.hid hb1
  have HBm : Hid (Bk w1 w.heap.size (vu8 m :: vs)) := (Bk.new w _ _).chg hc1 id
  have HBe : Hid (Below w.heap.size w w1) := ((Below.refl _ _).alloc (Nat.le_refl _) _).trans (hc1.below (by simp) (fun _ _ => id))
  have HS1 := Lib.hid hz1
  have hcm := HBm.out.cell (j := 0) rfl
  clear hb1 hc1 hz1 hg1
  go_wp2_with (first
    | (refine wpList_al rfl 37 rfl (zb 32) (by kernel_rfl) ?_)
    | (refine wpList_bld rfl 37 [(0, .tmp 6)] rfl (zb 32) [(0, [vu8 m])] (vu8 m :: zb 31) (by kernel_rfl) (by kernel_rfl) ?f1 rfl ?_))
  case f1 => exact ⟨rfl, ⟨1, rfl, by kernel_rfl, by decide⟩, trivial⟩
  intro g2 w2 hg2 hb2 hc2 hz2
  rw [HS1.out] at hg2
  subst hg2
  have HB2w := Lib.hid hb2
  have HB2m : Hid (Bk w2 w.heap.size (vu8 m :: vs)) := HBm.out.chg hc2 id
  have HB21 : Hid (Bk w2 (w.heap.size + 1) (zb 32)) := HB1w.out.chg hc2 id
  have HBe2 : Hid (Below w.heap.size w w2) := HBe.out.trans (hc2.below HBe.out.size (fun _ _ => id))
  clear hb2 hc2 hz2
  go_wp2_with (refine wpList_st rfl 37 _ _ rfl (w.heap.size + 1 + 1) 0 32 (zb 32) (vu8 m :: zb 31) rfl rfl HB2w.out (by kernel_rfl) rfl (by decide) (one_bts (m :: List.replicate 31 0)) ?_)
  intro w0 hd hc
  rw [splice_whole (zb 32) (vu8 m :: zb 31) rfl] at hd
  have HD := Lib.hid hd
  have HB : Hid (Bk w0 w.heap.size (vu8 m :: vs)) := HB2m.out.chg hc (by omega)
  have HZ : Hid (Bk w0 (w.heap.size + 1) (zb 32)) := HB21.out.chg hc (by omega)
  have HBel : Hid (Below w.heap.size w w0) := HBe2.out.trans (hc.below HBe2.out.size (fun k hk he => by omega))
  clear hd hc
  go_wp2_with fail
  apply wp_region_rel 4 (Chg NoS) [(Veq _), (Veq _), (Veq _), (Veq _)] [[], [], [1], [2]] [8, 9, 10, 11] (by kernel_rfl) (by kernel_rfl) rfl rfl rfl Chg.refl (fun _ _ _ => Chg.trans) ⟨Veq.lasts, Veq.lasts, Veq.lasts, Veq.lasts, trivial⟩ ?aops ?afin
  case aops =>
    refine ⟨?ao0, ?ao1, ?ao2, ?ao3, trivial⟩
    case ao0 =>
      intro a wx hE hin
      have i3 : a.eval (.tmp 3) = .pointer (some ⟨w.heap.size + 1 + 1, 0, none⟩) := hin 3 rfl
      clear hin
      have hcst : ∀ v, a.eval (.const v) = v := fun _ => rfl
      have hfnc : ∀ f, a.eval (.func f) = .func (.func f) #[] #[] := fun _ => rfl
      refine want_none rfl ?_
      unfold Oper.wp
      generalize a.eval = ρ at *
      go_simp
      try go_bits
      first | exact rel_val (Chg.refl _) | (go_simp; exact rel_val (Chg.refl _))
    case ao1 =>
      intro a wx hE hin
      have i1 : a.eval (.tmp 1) = .pointer (some ⟨w.heap.size, 0, none⟩) := hin 1 rfl
      clear hin
      have hcst : ∀ v, a.eval (.const v) = v := fun _ => rfl
      have hfnc : ∀ f, a.eval (.func f) = .func (.func f) #[] #[] := fun _ => rfl
      refine want_none rfl ?_
      unfold Oper.wp
      generalize a.eval = ρ at *
      go_simp
      try go_bits
      first | exact rel_val (Chg.refl _) | (go_simp; exact rel_val (Chg.refl _))
    case ao2 =>
      rintro a wx hE hin (h1 : a.eval (.tmp 9) = _)
      clear hin
      have hcst : ∀ v, a.eval (.const v) = v := fun _ => rfl
      have hfnc : ∀ f, a.eval (.func f) = .func (.func f) #[] #[] := fun _ => rfl
      refine want_none rfl ?_
      unfold Oper.wp
      generalize a.eval = ρ at *
      go_simp
      try go_bits
      first | exact rel_val (Chg.refl _) | (go_simp; exact rel_val (Chg.refl _))
    case ao3 =>
      rintro a wx hE hin (h2 : a.eval (.tmp 10) = _)
      clear hin
      have hcst : ∀ v, a.eval (.const v) = v := fun _ => rfl
      have hfnc : ∀ f, a.eval (.func f) = .func (.func f) #[] #[] := fun _ => rfl
      refine want_none rfl ?_
      unfold Oper.wp
      generalize a.eval = ρ at *
      go_simp
      try go_bits
      first | exact rel_val (Chg.refl _) | (go_simp; exact rel_val (Chg.refl _))
  case afin =>
    intro wx hE
    rintro _ rfl _ rfl _ rfl _ rfl
    simp only [FinOk, List.take_succ_cons, List.take_zero, List.take_nil, List.drop_succ_cons, List.drop_zero, List.drop_nil, Act.put, List.setIfInBounds_toArray, List.set_cons_succ, List.set_cons_zero]
    refine wpList_cp rfl _ _ 48 48 5 rfl Try.underlying48 (by kernel_rfl) (w.heap.size + 1 + 1) 1 31 31 (some ⟨w.heap.size, 1, none⟩) 29 29 (vu8 m :: zb 31) (bts b) rfl rfl (HD.out.drew.chg hE id) (by have := (HB.out.drew.chg hE id).rd_at 1 29; rwa [H2.out] at this) (by rw [bts_length, HB1.out]) (by simp [zb]) (one_bts _) ?_
    intro w2 hb2 hc2
    have hbel : Below w.heap.size w w2 := HBel.out.trans ((hE.undrew.below (B := w.heap.size) HBel.out.size (fun _ _ => id)).trans (hc2.below (Nat.le_trans HBel.out.size hE.size) (fun k hk he => by omega)))
    have HB2 : Hid (Bk w2 w.heap.size (vu8 m :: vs)) := (HB.out.drew.chg hE id).chg hc2 (by omega)
    have HZ2 : Hid (Bk w2 (w.heap.size + 1) (zb 32)) := (HZ.out.drew.chg hE id).chg hc2 (by omega)
    have hc : w2.cell? ⟨w.heap.size, 30, none⟩ = some (vu16 c) := HB2.out.cell H30.out
    have HK := Lib.hid hb2
    have HF := Lib.hid hbel
    clear hb2 hbel hc2 hE
    go_wp2_with (refine wpList_st rfl 5 _ _ rfl (w.heap.size + 1 + 1) 30 1 _ [vu8 c.toUInt8] rfl (congrArg (fun z => [Value.int .u8 z]) (mod8_u16 c)) HK.out (by kernel_rfl) rfl ?len (fun u hu => by obtain rfl := List.mem_singleton.1 hu; rfl) ?_)
    case len => rw [length_splice _ _ _ (by simp [HB1.out, zb])]; simp [zb]
    intro w3 hb3 hc3
    have HK3 := Lib.hid hb3
    have HC3 := Lib.hid hc3
    clear hb3 hc3
    go_wp2_with (refine wpList_st rfl 5 _ _ rfl (w.heap.size + 1 + 1) 31 1 _ [vu8 (c >>> 8).toUInt8] rfl (congrArg (fun z => [Value.int .u8 z]) (mod8_hi c)) HK3.out (by kernel_rfl) rfl ?len2 (fun u hu => by obtain rfl := List.mem_singleton.1 hu; rfl) ?_)
    case len2 => rw [length_splice _ _ _ (by rw [length_splice _ _ _ (by simp [HB1.out, zb])]; simp [zb]), length_splice _ _ _ (by simp [HB1.out, zb])]; simp [zb]
    intro w4 hb4 hc4
    rw [H3.out] at hb4
    have HK4 := Lib.hid hb4
    have HC4 := Lib.hid hc4
    clear hb4 hc4
    go_wp2_with (first | (refine wpList_ld rfl 37 _ rfl (w.heap.size + 1 + 1) 0 32 rs rs rfl HK4.out (by kernel_rfl) (by kernel_rfl) (by rw [HRL.out]; decide) (by rw [List.drop_zero, ← HRL.out, List.take_length]) ?_) | (refine wpList_st rfl 37 _ _ rfl (w.heap.size + 1) 0 32 (zb 32) rs rfl rfl ((HZ2.out.chg HC3.out (by omega)).chg HC4.out (by omega)) (by kernel_rfl) HRL.out (by decide) HO.out ?_))
    intro w5 hb5 hc5
    rw [splice_whole _ _ (by rw [HRL.out]; rfl)] at hb5
    have hbel : Below w.heap.size w w5 := HF.out.trans ((HC3.out.below (B := w.heap.size) HF.out.size (fun k hk he => by omega)).trans ((HC4.out.below (Nat.le_trans HF.out.size HC3.out.size) (fun k hk he => by omega)).trans (hc5.below (Nat.le_trans (Nat.le_trans HF.out.size HC3.out.size) HC4.out.size) (fun k hk he => by omega))))
    have HK5 := Lib.hid hb5
    have HF5 := Lib.hid hbel
    clear hb5 hbel hc5
    go_wp2_with fail
    try simp only [Exit.inBlock, Exit.then]
    refine bodyPost_ret (res_cell rfl _ _ (w.heap.size + 1) 32 rs rfl HK5.out (by kernel_rfl) (by kernel_rfl) HRL.out) rfl ?_
    exact ⟨rfl, HF5.out⟩

end Go.Proofs.Ytchcnkobgdbdkaa


/- The walks of a sector with a check: what the program's functions compute. -/
namespace Go.Proofs.Ytchcnkobgdbdkaa
open Go.RowKit
set_option linter.unusedVariables false
set_option linter.unusedSimpArgs false


theorem pad_cells (m : UInt8) (l : List UInt8) (h : l.length ≤ 29) : splice (vu8 m :: zb 29) 1 ((bts l).take 29) = bts (m :: padB l) := by
  rw [List.take_of_length_le (by simpa using h)]
  simp only [splice, zb, bts, padB]
  rw [show 1 + (l.map vu8).length = l.length + 1 by simp [Nat.add_comm], List.drop_succ_cons, List.drop_replicate]
  simp
/-- What Encode answers. -/
def encR (m : UInt8) (l : List UInt8) : List UInt8 × Int := if m = 0 ∨ 29 < l.length then (List.replicate 32 0, 1) else (secOf m (padB l), 0)
theorem encR_no {m : UInt8} {l : List UInt8} (h : m = 0 ∨ 29 < l.length) : encR m l = (List.replicate 32 0, 1) := by rw [encR, if_pos h]
theorem encR_yes {m : UInt8} {l : List UInt8} (h : ¬ (m = 0 ∨ 29 < l.length)) : encR m l = (secOf m (padB l), 0) := by rw [encR, if_neg h]
theorem zb_bts (n : Nat) : zb n = bts (List.replicate n 0) := by simp [zb, bts]
set_option maxRecDepth 100000 in
set_option maxHeartbeats 1000000 in
theorem sealEncode_no (m : UInt8) (A : Option Addr) (n cap : Nat) (l : List UInt8) (w : World) (hl : l.length = n) (hn : n ≤ cap) (hc : cap ≤ 9223372036854775807) (hr : Rd w A (bts l)) (h : m = 0 ∨ 29 < n) :
    Calls Try.prog 49 #[vu8 m, .slice A n cap] w fun e w' => e = .returned (.tuple #[.agg (bts (encR m l).1).toArray, .int .i64 (encR m l).2]) ∧ Below w.heap.size w w' := by
  have HR := Lib.hid hr
  have he := encR_no (m := m) (l := l) (by rw [hl]; exact h)
  rw [he]
  have HL := Lib.hid hl
  clear hr hl he
  simp only [← zb_bts]
  by_cases h0 : m = 0
  · subst h0
    go_enter Try.func49, Try.ntmps49
    go_wp2_with (refine wpList_al rfl 37 rfl (zb 32) (by kernel_rfl) ?_)
    intro g w1 hg hb hc1 hs
    subst hg
    go_wp2_with (first
      | (refine wpList_bld rfl 37 [] rfl (zb 32) [] (zb 32) (by kernel_rfl) (by kernel_rfl) trivial rfl ?_)
      | (refine wpList_st rfl 37 _ _ rfl w.heap.size 0 32 (zb 32) (zb 32) rfl rfl hb (by kernel_rfl) rfl (by decide) (by decide) ?_))
    intro w2 hb2 hc2
    rw [splice_whole (zb 32) (zb 32) rfl] at hb2
    go_wp2_with fail
    (try simp only [Exit.inBlock, Exit.then])
    refine bodyPost_ret (res_cell_tmp rfl _ _ w.heap.size 32 (zb 32) rfl hb2 (by kernel_rfl) (by kernel_rfl) rfl) rfl ?_
    exact ⟨rfl, (hc1.below (Nat.le_refl _) (fun _ _ => id)).trans (hc2.below (by omega) (fun k hk he => by omega))⟩
  · have h0i : ¬ ((m.toNat : Int) = 0) := by intro h; exact h0 (UInt8.toNat_inj.1 (by simpa using h))
    have h1 : 29 < n := h.resolve_left h0
    have h1i : (29 : Int) < (n : Int) := by omega
    go_enter Try.func49, Try.ntmps49
    go_wp2_with (refine wpList_al rfl 37 rfl (zb 32) (by kernel_rfl) ?_)
    intro g w1 hg hb hc1 hs
    subst hg
    go_wp2_with (first
      | (refine wpList_bld rfl 37 [] rfl (zb 32) [] (zb 32) (by kernel_rfl) (by kernel_rfl) trivial rfl ?_)
      | (refine wpList_st rfl 37 _ _ rfl w.heap.size 0 32 (zb 32) (zb 32) rfl rfl hb (by kernel_rfl) rfl (by decide) (by decide) ?_))
    intro w2 hb2 hc2
    rw [splice_whole (zb 32) (zb 32) rfl] at hb2
    go_wp2_with fail
    (try simp only [Exit.inBlock, Exit.then])
    refine bodyPost_ret (res_cell_tmp rfl _ _ w.heap.size 32 (zb 32) rfl hb2 (by kernel_rfl) (by kernel_rfl) rfl) rfl ?_
    exact ⟨rfl, (hc1.below (Nat.le_refl _) (fun _ _ => id)).trans (hc2.below (by omega) (fun k hk he => by omega))⟩
set_option maxRecDepth 100000 in
set_option maxHeartbeats 1000000 in
theorem sealEncode_yes (m : UInt8) (A : Option Addr) (n cap : Nat) (l : List UInt8) (w : World) (hl : l.length = n) (hn : n ≤ cap) (hc : cap ≤ 9223372036854775807) (hr : Rd w A (bts l)) (h0 : ¬ m = 0) (h1 : n ≤ 29) :
    Calls Try.prog 49 #[vu8 m, .slice A n cap] w fun e w' => e = .returned (.tuple #[.agg (bts (encR m l).1).toArray, .int .i64 (encR m l).2]) ∧ Below w.heap.size w w' := by
  have he := encR_yes (m := m) (l := l) (by rw [hl]; exact fun h => h.elim h0 (by omega))
  have hp := pad_cells m l (by omega)
  have hpl := padB_length (l := l) (by omega)
  rw [he]
  simp only
  have hsl := secOf_length (m := m) hpl
  have hss : secOf m (padB l) = m :: padB l ++ [(crcCheck (m :: padB l)).toUInt8, (crcCheck (m :: padB l) >>> 8).toUInt8] := rfl
  generalize secOf m (padB l) = rs at hsl hss ⊢
  have HRS := Lib.hid hss
  have HSL := Lib.hid hsl
  generalize padB l = b at hp hpl hss HRS
  have HR := Lib.hid hr
  have HP := Lib.hid hp
  have HPL := Lib.hid hpl
  have HL := Lib.hid hl
  have h0i : ¬ ((m.toNat : Int) = 0) := by intro h; exact h0 (UInt8.toNat_inj.1 (by simpa using h))
  have h1i : ¬ ((29 : Int) < (n : Int)) := by omega
  have h0b : ((m.toNat : Int) == 0) = false := by simpa using h0i
  clear hr hl he hp hpl hsl hss h0
  go_enter Try.func49, Try.ntmps49
  go_wp2_with (refine wpList_al rfl 37 rfl (zb 32) (by kernel_rfl) ?_)
  intro g w1 hg hb hc1 hs
  subst hg
  have HB1 := Lib.hid hb
  have HE1 : Hid (Below w.heap.size w w1) := hc1.below (Nat.le_refl _) (fun _ _ => id)
  have HR1 : Hid (Rd w1 A (bts l)) := HR.out.below HE1.out
  clear hb hc1
  go_wp2_with (first
    | (refine wpList_bld rfl 85 [(0, .tmp 15)] rfl (zb 30) [(0, [vu8 m])] (vu8 m :: zb 29) (by kernel_rfl) (by kernel_rfl) ?f1 rfl ?_)
    | (refine wpList_al rfl 85 rfl (zb 30) (by kernel_rfl) ?_))
  case f1 => exact ⟨rfl, ⟨1, rfl, by kernel_rfl, by decide⟩, trivial⟩
  intro g w2 hg hb hc2 hs2
  (try rw [hs] at hg)
  subst hg
  have HE2 : Hid (Below w.heap.size w w2) := HE1.out.trans (hc2.below HE1.out.size (fun _ _ => id))
  have HB2 : Hid (Bk w2 w.heap.size (zb 32)) := HB1.out.chg hc2 id
  have HD2 := Lib.hid hb
  have HR2 : Hid (Rd w2 A (bts l)) := HR1.out.chg hc2
  clear hb hc2
  go_wp2_with (refine wpList_st rfl 85 _ _ rfl (w.heap.size + 1) 0 30 (zb 30) (vu8 m :: zb 29) rfl rfl HD2.out (by kernel_rfl) rfl (by decide) (one_bts (m :: List.replicate 29 0)) ?_)
  intro w3 hb hc3
  rw [splice_whole (zb 30) (vu8 m :: zb 29) rfl] at hb
  have HE3 : Hid (Below w.heap.size w w3) := HE2.out.trans (hc3.below HE2.out.size (fun k hk he => by omega))
  have HB3 : Hid (Bk w3 w.heap.size (zb 32)) := HB2.out.chg hc3 (by omega)
  have HD3 := Lib.hid hb
  have HR3 : Hid (Rd w3 A (bts l)) := HR.out.below HE3.out
  have hs3 := hc3.size
  clear hb hc3
  go_wp2_with (refine wpList_cp rfl _ _ 48 48 5 rfl Try.underlying48 (by kernel_rfl) (w.heap.size + 1) 1 29 29 A n cap (vu8 m :: zb 29) (bts l) rfl rfl HD3.out HR3.out (by rw [bts_length, HL.out]) (by simp [zb]) (one_bts _) ?_)
  intro w4 hb hc4
  rw [HP.out] at hb
  have HE4 : Hid (Below w.heap.size w w4) := HE3.out.trans (hc4.below HE3.out.size (fun k hk he => by omega))
  have HB4 : Hid (Bk w4 w.heap.size (zb 32)) := HB3.out.chg hc4 (by omega)
  have HD4 := Lib.hid hb
  have hs4 := hc4.size
  clear hb hc4
  go_wp2_with (refine wpList_ld rfl 85 _ rfl (w.heap.size + 1) 0 30 (bts (m :: b)) (bts (m :: b)) rfl HD4.out (by kernel_rfl) (by kernel_rfl) (by simp [HPL.out]) (by rw [List.drop_zero, List.take_of_length_le (by simp [HPL.out])]) ?_)
  refine (checkedOf_calls m b w4 HPL.out).mono ?_
  rintro e w5 ⟨rfl, hb5⟩
  have HE5 : Hid (Below w.heap.size w w5) := HE4.out.trans (hb5.mono HE4.out.size)
  have HB5 : Hid (Bk w5 w.heap.size (zb 32)) := HB4.out.below hb5
  clear hb5
  go_wp2_with fail
  refine (sealBlock_calls m b (crcCheck (m :: b)) w5 HPL.out).mono ?_
  rintro e w6 ⟨rfl, hb6⟩
  have HE6 : Hid (Below w.heap.size w w6) := HE5.out.trans (hb6.mono HE5.out.size)
  have HB6 : Hid (Bk w6 w.heap.size (zb 32)) := HB5.out.below hb6
  clear hb6
  rw [← HRS.out]
  go_wp2_with (refine wpList_st rfl 37 _ _ rfl w.heap.size 0 32 (zb 32) (bts rs) rfl rfl HB6.out (by kernel_rfl) (by rw [bts_length, HSL.out]) (by decide) (one_bts _) ?_)
  intro w7 hb7 hc7
  rw [splice_whole (zb 32) (bts rs) (by rw [bts_length, HSL.out]; rfl)] at hb7
  have HE7 : Hid (Below w.heap.size w w7) := HE6.out.trans (hc7.below HE6.out.size (fun k hk he => by omega))
  have HB7 := Lib.hid hb7
  clear hb7 hc7
  go_wp2_with fail
  (try simp only [Exit.inBlock, Exit.then])
  refine bodyPost_ret (res_cell_tmp rfl _ _ w.heap.size 32 (bts rs) rfl HB7.out (by kernel_rfl) (by kernel_rfl) (by rw [bts_length, HSL.out])) rfl ?_
  exact ⟨rfl, HE7.out⟩
theorem sealEncode_calls (m : UInt8) (A : Option Addr) (n cap : Nat) (l : List UInt8) (w : World) (hl : l.length = n) (hn : n ≤ cap) (hc : cap ≤ 9223372036854775807) (hr : Rd w A (bts l)) :
    Calls Try.prog 49 #[vu8 m, .slice A n cap] w fun e w' => e = .returned (.tuple #[.agg (bts (encR m l).1).toArray, .int .i64 (encR m l).2]) ∧ Below w.heap.size w w' := by
  by_cases h : m = 0 ∨ 29 < n
  · exact sealEncode_no m A n cap l w hl hn hc hr h
  · exact sealEncode_yes m A n cap l w hl hn hc hr (fun h' => h (.inl h')) (by omega)
end Go.Proofs.Ytchcnkobgdbdkaa


/- The walks of a sector with a check: what the program's functions compute. -/
namespace Go.Proofs.Ytchcnkobgdbdkaa
open Go.RowKit
set_option linter.unusedVariables false
set_option linter.unusedSimpArgs false


def bodyOf (x : List UInt8) : List UInt8 := (x.drop 1).take 29
/-- What Decode answers. -/
def decR (x : List UInt8) : List UInt8 × Int := if x.getD 0 0 = 0 ∨ secOf (x.getD 0 0) (bodyOf x) ≠ x then (List.replicate 30 0, 11) else (x.getD 0 0 :: bodyOf x, 0)
set_option maxRecDepth 100000 in
set_option maxHeartbeats 2000000 in
theorem sealDecode_calls (x : List UInt8) (w : World) (hx : x.length = 32) :
    Calls Try.prog 31 #[.agg (bts x).toArray] w fun e w' => e = .returned (.tuple #[.agg (bts (decR x).1).toArray, .int .i64 (decR x).2]) ∧ Below w.heap.size w w' := by
  have hbl : (bodyOf x).length = 29 := by simp [bodyOf, hx]
  have hbd : ((bts x).drop 1).take 29 = bts (bodyOf x) := by rw [bts_drop, bts_take]; rfl
  have h0 : (bts x)[0]? = some (vu8 (x.getD 0 0)) := bts_get (by omega)
  have hd : decR x = if x.getD 0 0 = 0 ∨ secOf (x.getD 0 0) (bodyOf x) ≠ x then (List.replicate 30 0, 11) else (x.getD 0 0 :: bodyOf x, 0) := rfl
  rw [hd]
  clear hd
  generalize bodyOf x = b at hbl hbd ⊢
  generalize x.getD 0 0 = m at h0 ⊢
  have hso : secOf m b = m :: b ++ [(crcCheck (m :: b)).toUInt8, (crcCheck (m :: b) >>> 8).toUInt8] := rfl
  rw [hso]
  generalize hq : decide ((m :: b ++ [(crcCheck (m :: b)).toUInt8, (crcCheck (m :: b) >>> 8).toUInt8]) = x) = q
  have hr : (if m = 0 ∨ (m :: b ++ [(crcCheck (m :: b)).toUInt8, (crcCheck (m :: b) >>> 8).toUInt8]) ≠ x then (List.replicate 30 (0 : UInt8), (11 : Int)) else (m :: b, 0)) = if m = 0 ∨ q = false then (List.replicate 30 0, 11) else (m :: b, 0) := by
    rw [← hq]
    simp
  rw [hr]
  clear hr hso
  have HL := Lib.hid hx
  have HBL := Lib.hid hbl
  have HBD := Lib.hid hbd
  have HQ := Lib.hid hq
  clear hx hbl hbd hq
  generalize hres : (if m = 0 ∨ q = false then (List.replicate 30 (0 : UInt8), (11 : Int)) else (m :: b, 0)) = res
  have HRES := Lib.hid hres
  clear hres
  generalize hvs : bts x = vx at h0
  go_enter Try.func31, Try.ntmps31
  go_wp2_with (refine wpList_al rfl 85 rfl (zb 30) (by kernel_rfl) ?_)
  intro g w0 hg hb0 hc0 hs0
  obtain rfl : g = w.heap.size + 1 := by simp [hg]
  have HB : Hid (Bk w0 w.heap.size (bts x)) := by rw [hvs]; exact (Bk.new w vx _).chg hc0 id
  have HZ := Lib.hid hb0
  have HBel : Hid (Below w.heap.size w w0) := ((Below.refl _ _).alloc (Nat.le_refl _) _).trans (hc0.below (by simp) (fun _ _ => id))
  have HC : Hid (w0.cell? ⟨w.heap.size, 0, none⟩ = some (vu8 m)) := by rw [← hvs] at h0; exact HB.out.cell h0
  have HS0 : Hid (w0.heap.size = w.heap.size + 2) := hs0
  clear hg hb0 hc0 hs0 h0 hvs
  go_wp2_with fail
  apply wp_region_rel 7 (Chg NoS) [(Veq _), (Veq _), (Veq _), (Veq _), (Veq _), (Veq _), (PtrAt NoS w0.heap.size (zb 30))] [[], [0], [], [2], [3], [1, 4], []] [5, 6, 7, 8, 9, 10, 4] (by kernel_rfl) (by kernel_rfl) rfl rfl rfl Chg.refl (fun _ _ _ => Chg.trans) ⟨Veq.lasts, Veq.lasts, Veq.lasts, Veq.lasts, Veq.lasts, Veq.lasts, PtrAt.lasts, trivial⟩ ?aops ?afin
  case aops =>
    refine ⟨?ao0, ?ao1, ?ao2, ?ao3, ?ao4, ?ao5, ?ao6, trivial⟩
    case ao0 =>
      intro a wx hE hin
      have i1 : a.eval (.tmp 1) = .pointer (some ⟨w.heap.size, 0, none⟩) := hin 1 rfl
      clear hin
      have hcst : ∀ v, a.eval (.const v) = v := fun _ => rfl
      have hfnc : ∀ f, a.eval (.func f) = .func (.func f) #[] #[] := fun _ => rfl
      refine want_none rfl ?_
      unfold Oper.wp
      generalize a.eval = ρ at *
      go_simp
      try go_bits
      first | exact rel_val (Chg.refl _) | (go_simp; exact rel_val (Chg.refl _))
    case ao1 =>
      rintro a wx hE hin (h0 : a.eval (.tmp 5) = _)
      clear hin
      have hcst : ∀ v, a.eval (.const v) = v := fun _ => rfl
      have hfnc : ∀ f, a.eval (.func f) = .func (.func f) #[] #[] := fun _ => rfl
      refine want_none rfl ?_
      unfold Oper.wp
      generalize a.eval = ρ at *
      have c := hE.cell (w := w0.drew) HC.out id
      go_simp
      try go_bits
      first | exact rel_val (Chg.refl _) | (go_simp; exact rel_val (Chg.refl _))
    case ao2 =>
      intro a wx hE hin
      have i1 : a.eval (.tmp 1) = .pointer (some ⟨w.heap.size, 0, none⟩) := hin 1 rfl
      clear hin
      have hcst : ∀ v, a.eval (.const v) = v := fun _ => rfl
      have hfnc : ∀ f, a.eval (.func f) = .func (.func f) #[] #[] := fun _ => rfl
      refine want_none rfl ?_
      unfold Oper.wp
      generalize a.eval = ρ at *
      go_simp
      try go_bits
      first | exact rel_val (Chg.refl _) | (go_simp; exact rel_val (Chg.refl _))
    case ao3 =>
      rintro a wx hE hin (h2 : a.eval (.tmp 7) = _)
      clear hin
      have hcst : ∀ v, a.eval (.const v) = v := fun _ => rfl
      have hfnc : ∀ f, a.eval (.func f) = .func (.func f) #[] #[] := fun _ => rfl
      refine want_none rfl ?_
      unfold Oper.wp
      generalize a.eval = ρ at *
      go_simp
      try go_bits
      first | exact rel_val (Chg.refl _) | (go_simp; exact rel_val (Chg.refl _))
    case ao4 =>
      rintro a wx hE hin (h3 : a.eval (.tmp 8) = _)
      clear hin
      have hcst : ∀ v, a.eval (.const v) = v := fun _ => rfl
      have hfnc : ∀ f, a.eval (.func f) = .func (.func f) #[] #[] := fun _ => rfl
      refine want_none rfl ?_
      exact wp_ld 83 _ rfl w.heap.size 1 29 (bts x) (bts b) h3 ((HB.out.drew).chg hE id) (by kernel_rfl) (by kernel_rfl) (by rw [bts_length, HL.out]; decide) HBD.out (rel_val (Chg.refl _))
    case ao5 =>
      rintro a wx hE hin (h1 : a.eval (.tmp 6) = _) (h4 : a.eval (.tmp 9) = _)
      clear hin
      have hcst : ∀ v, a.eval (.const v) = v := fun _ => rfl
      have hfnc : ∀ f, a.eval (.func f) = .func (.func f) #[] #[] := fun _ => rfl
      refine want_none rfl ?_
      exact wp_bld2 85 0 1 _ _ rfl 30 (zb 30) [(0, 1), (1, 29)] (by kernel_rfl) (by kernel_rfl) [vu8 m] (bts b) (by rw [h1]; rfl) (by rw [h4]; rfl) rfl (by rw [bts_length, HBL.out]; rfl) (by rw [bts_length, HBL.out]; rfl) (rel_val (Chg.refl _))
    case ao6 =>
      intro a wx hE hin
      clear hin
      have hcst : ∀ v, a.eval (.const v) = v := fun _ => rfl
      have hfnc : ∀ f, a.eval (.func f) = .func (.func f) #[] #[] := fun _ => rfl
      refine want_none rfl ?_
      exact wp_al 85 rfl (zb 30) (by kernel_rfl) ⟨_, rfl, ⟨wx.heap.size, rfl, hE.size, id, Bk.new _ _ _⟩, (Chg.refl _).alloc _⟩
  case afin =>
    intro wx hE
    rintro _ rfl _ rfl _ rfl _ rfl _ rfl _ rfl _ ⟨gg, rfl, p6, n6, b6⟩
    simp only [FinOk, List.take_succ_cons, List.take_zero, List.take_nil, List.drop_succ_cons, List.drop_zero, List.drop_nil, Act.put, List.setIfInBounds_toArray, List.set_cons_succ, List.set_cons_zero]
    rw [HS0.out] at p6
    have hng : gg ≠ w.heap.size := by omega
    have hng1 : gg ≠ w.heap.size + 1 := by omega
    have hgg : w.heap.size ≤ gg := by omega
    refine wpList_st rfl 85 _ _ rfl gg 0 30 (zb 30) (bts (m :: b)) rfl rfl b6 (by kernel_rfl) (by simp [HBL.out]) (by decide) (one_bts _) ?_
    intro w3 hb3 hc3
    rw [splice_whole (zb 30) (bts (m :: b)) (by simp [HBL.out, zb])] at hb3
    have HE3 : Hid (Below w.heap.size w w3) := HBel.out.trans ((hE.undrew.below (B := w.heap.size) HBel.out.size (fun _ _ => id)).trans (hc3.below (Nat.le_trans HBel.out.size hE.size) (fun k hk he => by omega)))
    have HB3 : Hid (Bk w3 w.heap.size (bts x)) := (HB.out.drew.chg hE id).chg hc3 (Ne.symm hng)
    have HZ3 : Hid (Bk w3 (w.heap.size + 1) (zb 30)) := (HZ.out.drew.chg hE id).chg hc3 (Ne.symm hng1)
    have HC3 : Hid (w3.cell? ⟨gg, 0, none⟩ = some (vu8 m)) := hb3.cell rfl
    have HG3 := Lib.hid hb3
    clear hb3 hc3 hE b6 p6
    go_wp2_with fail
    by_cases hm : m = 0
    · have hmi : ((m.toNat : Int) == 0) = true := by subst hm; rfl
      apply wp_region_rel 10 (Chg NoS) [(Veq _), (Veq _), (Veq _), (Veq _), (Veq undef), (Veq undef), (Veq undef), (Veq undef), (Veq undef), (Veq _)] [[], [0], [1], [2], [3], [3], [3], [3], [3], [3, 8]] [11, 12, 13, 14, 15, 16, 17, 18, 19, 20] (by kernel_rfl) (by kernel_rfl) rfl rfl rfl Chg.refl (fun _ _ _ => Chg.trans) ⟨Veq.lasts, Veq.lasts, Veq.lasts, Veq.lasts, Veq.lasts, Veq.lasts, Veq.lasts, Veq.lasts, Veq.lasts, Veq.lasts, trivial⟩ ?bops ?bfin
      case bops =>
        refine ⟨?bo0, ?bo1, ?bo2, ?bo3, ?bo4, ?bo5, ?bo6, ?bo7, ?bo8, ?bo9, trivial⟩
        case bo0 =>
          intro a wx hE hin
          have i4 : a.eval (.tmp 4) = .pointer (some ⟨gg, 0, none⟩) := hin 4 rfl
          clear hin
          have hcst : ∀ v, a.eval (.const v) = v := fun _ => rfl
          have hfnc : ∀ f, a.eval (.func f) = .func (.func f) #[] #[] := fun _ => rfl
          refine want_none rfl ?_
          unfold Oper.wp
          generalize a.eval = ρ at *
          go_simp
          try go_bits
          first | exact rel_val (Chg.refl _) | (go_simp; exact rel_val (Chg.refl _))
        case bo1 =>
          rintro a wx hE hin (h0 : a.eval (.tmp 11) = _)
          clear hin
          have hcst : ∀ v, a.eval (.const v) = v := fun _ => rfl
          have hfnc : ∀ f, a.eval (.func f) = .func (.func f) #[] #[] := fun _ => rfl
          refine want_none rfl ?_
          unfold Oper.wp
          generalize a.eval = ρ at *
          have c := hE.cell (w := w3.drew) HC3.out id
          go_simp
          try go_bits
          first | exact rel_val (Chg.refl _) | (go_simp; exact rel_val (Chg.refl _))
        case bo2 =>
          rintro a wx hE hin (h1 : a.eval (.tmp 12) = _)
          clear hin
          have hcst : ∀ v, a.eval (.const v) = v := fun _ => rfl
          have hfnc : ∀ f, a.eval (.func f) = .func (.func f) #[] #[] := fun _ => rfl
          refine want_none rfl ?_
          unfold Oper.wp
          generalize a.eval = ρ at *
          go_simp
          try go_bits
          first | exact rel_val (Chg.refl _) | (go_simp; exact rel_val (Chg.refl _))
        case bo3 =>
          rintro a wx hE hin (h2 : a.eval (.tmp 13) = _)
          clear hin
          have hcst : ∀ v, a.eval (.const v) = v := fun _ => rfl
          have hfnc : ∀ f, a.eval (.func f) = .func (.func f) #[] #[] := fun _ => rfl
          refine want_none rfl ?_
          unfold Oper.wp
          generalize a.eval = ρ at *
          go_simp
          try go_bits
          first | exact rel_val (Chg.refl _) | (go_simp; exact rel_val (Chg.refl _))
        case bo4 =>
          rintro a wx hE hin (h3 : a.eval (.tmp 14) = _)
          clear hin
          exact want_not rfl rfl h3 rfl
        case bo5 =>
          rintro a wx hE hin (h3 : a.eval (.tmp 14) = _)
          clear hin
          exact want_not rfl rfl h3 rfl
        case bo6 =>
          rintro a wx hE hin (h3 : a.eval (.tmp 14) = _)
          clear hin
          exact want_not rfl rfl h3 rfl
        case bo7 =>
          rintro a wx hE hin (h3 : a.eval (.tmp 14) = _)
          clear hin
          exact want_not rfl rfl h3 rfl
        case bo8 =>
          rintro a wx hE hin (h3 : a.eval (.tmp 14) = _)
          clear hin
          exact want_not rfl rfl h3 rfl
        case bo9 =>
          rintro a wx hE hin (h3 : a.eval (.tmp 14) = _) (h8 : a.eval (.tmp 19) = _)
          clear hin
          have hcst : ∀ v, a.eval (.const v) = v := fun _ => rfl
          have hfnc : ∀ f, a.eval (.func f) = .func (.func f) #[] #[] := fun _ => rfl
          refine want_none rfl ?_
          unfold Oper.wp
          generalize a.eval = ρ at *
          go_simp
          try go_bits
          first | exact rel_val (Chg.refl _) | (go_simp; exact rel_val (Chg.refl _))
      case bfin =>
        intro wx hE
        rintro _ rfl _ rfl _ rfl _ rfl _ rfl _ rfl _ rfl _ rfl _ rfl _ rfl
        simp only [FinOk, List.take_succ_cons, List.take_zero, List.take_nil, List.drop_succ_cons, List.drop_zero, List.drop_nil, Act.put, List.setIfInBounds_toArray, List.set_cons_succ, List.set_cons_zero]
        have HE4 : Hid (Below w.heap.size w wx) := HE3.out.trans (hE.undrew.below (B := w.heap.size) HE3.out.size (fun _ _ => id))
        have HZ4 : Hid (Bk wx (w.heap.size + 1) (zb 30)) := HZ3.out.drew.chg hE id
        have HG4 : Hid (Bk wx gg (bts (m :: b))) := HG3.out.drew.chg hE id
        clear hE
        have hres := HRES.out
        rw [if_pos (.inl hm)] at hres
        subst hres
        go_wp2_with (first
          | (refine wpList_bld rfl 85 [] rfl (zb 30) [] (zb 30) (by kernel_rfl) (by kernel_rfl) trivial rfl ?_)
          | (refine wpList_st rfl 85 _ _ rfl (w.heap.size + 1) 0 30 (zb 30) (zb 30) rfl rfl HZ4.out (by kernel_rfl) rfl (by decide) (by decide) ?_))
        intro w5 hb5 hc5
        rw [splice_whole (zb 30) (zb 30) rfl] at hb5
        go_wp2_with fail
        (try simp only [Exit.inBlock, Exit.then])
        refine bodyPost_ret (res_cell_tmp rfl _ _ (w.heap.size + 1) 30 (zb 30) rfl hb5 (by kernel_rfl) (by kernel_rfl) rfl) rfl ?_
        exact ⟨rfl, HE4.out.trans (hc5.below HE4.out.size (fun k hk he => by omega))⟩
    · have hmi : ((m.toNat : Int) == 0) = false := by simpa using (fun h => hm (UInt8.toNat_inj.1 (by simpa using h)) : ¬ ((m.toNat : Int) = 0))
      apply wp_region_rel 10 (Chg NoS) [(Veq _), (Veq _), (Veq _), (Veq _), (Veq _), (Veq _), (Veq _), (Veq _), (Veq (.bool (!q))), (Veq _)] [[], [0], [1], [2], [3], [3, 4], [3, 5], [3], [3, 6, 7], [3, 8]] [11, 12, 13, 14, 15, 16, 17, 18, 19, 20] (by kernel_rfl) (by kernel_rfl) rfl rfl rfl Chg.refl (fun _ _ _ => Chg.trans) ⟨Veq.lasts, Veq.lasts, Veq.lasts, Veq.lasts, Veq.lasts, Veq.lasts, Veq.lasts, Veq.lasts, Veq.lasts, Veq.lasts, trivial⟩ ?bops ?bfin
      case bops =>
        refine ⟨?bo0, ?bo1, ?bo2, ?bo3, ?bo4, ?bo5, ?bo6, ?bo7, ?bo8, ?bo9, trivial⟩
        case bo0 =>
          intro a wx hE hin
          have i4 : a.eval (.tmp 4) = .pointer (some ⟨gg, 0, none⟩) := hin 4 rfl
          clear hin
          have hcst : ∀ v, a.eval (.const v) = v := fun _ => rfl
          have hfnc : ∀ f, a.eval (.func f) = .func (.func f) #[] #[] := fun _ => rfl
          refine want_none rfl ?_
          unfold Oper.wp
          generalize a.eval = ρ at *
          go_simp
          try go_bits
          first | exact rel_val (Chg.refl _) | (go_simp; exact rel_val (Chg.refl _))
        case bo1 =>
          rintro a wx hE hin (h0 : a.eval (.tmp 11) = _)
          clear hin
          have hcst : ∀ v, a.eval (.const v) = v := fun _ => rfl
          have hfnc : ∀ f, a.eval (.func f) = .func (.func f) #[] #[] := fun _ => rfl
          refine want_none rfl ?_
          unfold Oper.wp
          generalize a.eval = ρ at *
          have c := hE.cell (w := w3.drew) HC3.out id
          go_simp
          try go_bits
          first | exact rel_val (Chg.refl _) | (go_simp; exact rel_val (Chg.refl _))
        case bo2 =>
          rintro a wx hE hin (h1 : a.eval (.tmp 12) = _)
          clear hin
          have hcst : ∀ v, a.eval (.const v) = v := fun _ => rfl
          have hfnc : ∀ f, a.eval (.func f) = .func (.func f) #[] #[] := fun _ => rfl
          refine want_none rfl ?_
          unfold Oper.wp
          generalize a.eval = ρ at *
          go_simp
          try go_bits
          first | exact rel_val (Chg.refl _) | (go_simp; exact rel_val (Chg.refl _))
        case bo3 =>
          rintro a wx hE hin (h2 : a.eval (.tmp 13) = _)
          clear hin
          have hcst : ∀ v, a.eval (.const v) = v := fun _ => rfl
          have hfnc : ∀ f, a.eval (.func f) = .func (.func f) #[] #[] := fun _ => rfl
          refine want_none rfl ?_
          unfold Oper.wp
          generalize a.eval = ρ at *
          go_simp
          try go_bits
          first | exact rel_val (Chg.refl _) | (go_simp; exact rel_val (Chg.refl _))
        case bo4 =>
          rintro a wx hE hin (h3 : a.eval (.tmp 14) = _)
          have i4 : a.eval (.tmp 4) = .pointer (some ⟨gg, 0, none⟩) := hin 4 rfl
          clear hin
          have hcst : ∀ v, a.eval (.const v) = v := fun _ => rfl
          have hfnc : ∀ f, a.eval (.func f) = .func (.func f) #[] #[] := fun _ => rfl
          refine want_yes rfl rfl h3 ?_
          exact wp_ld 85 _ rfl gg 0 30 (bts (m :: b)) (bts (m :: b)) i4 ((HG3.out.drew).chg hE id) (by kernel_rfl) (by kernel_rfl) (by simp [HBL.out]) (by rw [List.drop_zero, List.take_of_length_le (by simp [HBL.out])]) (rel_val (Chg.refl _))
        case bo5 =>
          rintro a wx hE hin (h3 : a.eval (.tmp 14) = _) (h4 : a.eval (.tmp 15) = _)
          clear hin
          have hcst : ∀ v, a.eval (.const v) = v := fun _ => rfl
          have hfnc : ∀ f, a.eval (.func f) = .func (.func f) #[] #[] := fun _ => rfl
          refine want_yes rfl rfl h3 ?_
          unfold Oper.wp
          generalize a.eval = ρ at *
          go_simp
          refine (checkedOf_calls m b wx HBL.out).mono ?_
          rintro e w' ⟨rfl, hb⟩
          exact rel_val (.of_below hb)
        case bo6 =>
          rintro a wx hE hin (h3 : a.eval (.tmp 14) = _) (h5 : a.eval (.tmp 16) = _)
          clear hin
          have hcst : ∀ v, a.eval (.const v) = v := fun _ => rfl
          have hfnc : ∀ f, a.eval (.func f) = .func (.func f) #[] #[] := fun _ => rfl
          refine want_yes rfl rfl h3 ?_
          unfold Oper.wp
          generalize a.eval = ρ at *
          go_simp
          refine (sealBlock_calls m b (crcCheck (m :: b)) wx HBL.out).mono ?_
          rintro e w' ⟨rfl, hb⟩
          exact rel_val (.of_below hb)
        case bo7 =>
          rintro a wx hE hin (h3 : a.eval (.tmp 14) = _)
          have i1 : a.eval (.tmp 1) = .pointer (some ⟨w.heap.size, 0, none⟩) := hin 1 rfl
          clear hin
          have hcst : ∀ v, a.eval (.const v) = v := fun _ => rfl
          have hfnc : ∀ f, a.eval (.func f) = .func (.func f) #[] #[] := fun _ => rfl
          refine want_yes rfl rfl h3 ?_
          exact wp_ld 37 _ rfl w.heap.size 0 32 (bts x) (bts x) i1 ((HB3.out.drew).chg hE id) (by kernel_rfl) (by kernel_rfl) (by rw [bts_length, HL.out]; decide) (by rw [List.drop_zero, List.take_of_length_le (by simp [HL.out])]) (rel_val (Chg.refl _))
        case bo8 =>
          rintro a wx hE hin (h3 : a.eval (.tmp 14) = _) (h6 : a.eval (.tmp 17) = _) (h7 : a.eval (.tmp 18) = _)
          clear hin
          have hcst : ∀ v, a.eval (.const v) = v := fun _ => rfl
          have hfnc : ∀ f, a.eval (.func f) = .func (.func f) #[] #[] := fun _ => rfl
          refine want_yes rfl rfl h3 ?_
          refine wp_eq_bytes true 37 _ _ _ rfl 5 32 (by kernel_rfl) Try.underlying5 (by kernel_rfl) (by kernel_rfl) (m :: b ++ [(crcCheck (m :: b)).toUInt8, (crcCheck (m :: b) >>> 8).toUInt8]) x h6 h7 (by simp [HBL.out]) HL.out ?_
          rw [HQ.out]
          cases q <;> exact rel_val (Chg.refl _)
        case bo9 =>
          rintro a wx hE hin (h3 : a.eval (.tmp 14) = _) (h8 : a.eval (.tmp 19) = _)
          clear hin
          have hcst : ∀ v, a.eval (.const v) = v := fun _ => rfl
          have hfnc : ∀ f, a.eval (.func f) = .func (.func f) #[] #[] := fun _ => rfl
          refine want_none rfl ?_
          unfold Oper.wp
          generalize a.eval = ρ at *
          go_simp
          try go_bits
          first | exact rel_val (Chg.refl _) | (go_simp; exact rel_val (Chg.refl _))
      case bfin =>
        intro wx hE
        rintro _ rfl _ rfl _ rfl _ rfl _ rfl _ rfl _ rfl _ rfl _ rfl _ rfl
        simp only [FinOk, List.take_succ_cons, List.take_zero, List.take_nil, List.drop_succ_cons, List.drop_zero, List.drop_nil, Act.put, List.setIfInBounds_toArray, List.set_cons_succ, List.set_cons_zero]
        have HE4 : Hid (Below w.heap.size w wx) := HE3.out.trans (hE.undrew.below (B := w.heap.size) HE3.out.size (fun _ _ => id))
        have HZ4 : Hid (Bk wx (w.heap.size + 1) (zb 30)) := HZ3.out.drew.chg hE id
        have HG4 : Hid (Bk wx gg (bts (m :: b))) := HG3.out.drew.chg hE id
        clear hE
        cases q
        · have hres := HRES.out
          rw [if_pos (.inr rfl)] at hres
          subst hres
          go_wp2_with (first
            | (refine wpList_bld rfl 85 [] rfl (zb 30) [] (zb 30) (by kernel_rfl) (by kernel_rfl) trivial rfl ?_)
            | (refine wpList_st rfl 85 _ _ rfl (w.heap.size + 1) 0 30 (zb 30) (zb 30) rfl rfl HZ4.out (by kernel_rfl) rfl (by decide) (by decide) ?_))
          intro w5 hb5 hc5
          rw [splice_whole (zb 30) (zb 30) rfl] at hb5
          go_wp2_with fail
          (try simp only [Exit.inBlock, Exit.then])
          refine bodyPost_ret (res_cell_tmp rfl _ _ (w.heap.size + 1) 30 (zb 30) rfl hb5 (by kernel_rfl) (by kernel_rfl) rfl) rfl ?_
          exact ⟨rfl, HE4.out.trans (hc5.below HE4.out.size (fun k hk he => by omega))⟩
        · have hres := HRES.out
          rw [if_neg (fun h => h.elim hm (by decide))] at hres
          subst hres
          go_wp2_with (first
            | (refine wpList_ld rfl 85 _ rfl gg 0 30 (bts (m :: b)) (bts (m :: b)) rfl HG4.out (by kernel_rfl) (by kernel_rfl) (by simp [HBL.out]) (by rw [List.drop_zero, List.take_of_length_le (by simp [HBL.out])]) ?_)
            | (refine wpList_st rfl 85 _ _ rfl (w.heap.size + 1) 0 30 (zb 30) (bts (m :: b)) rfl rfl HZ4.out (by kernel_rfl) (by simp [HBL.out]) (by decide) (one_bts _) ?_))
          intro w5 hb5 hc5
          rw [splice_whole (zb 30) (bts (m :: b)) (by simp [HBL.out, zb])] at hb5
          go_wp2_with fail
          (try simp only [Exit.inBlock, Exit.then])
          refine bodyPost_ret (res_cell_tmp rfl _ _ (w.heap.size + 1) 30 (bts (m :: b)) rfl hb5 (by kernel_rfl) (by kernel_rfl) (by simp [HBL.out])) rfl ?_
          exact ⟨rfl, HE4.out.trans (hc5.below HE4.out.size (fun k hk he => by omega))⟩
end Go.Proofs.Ytchcnkobgdbdkaa


/- The walks of the reference's sealing. -/
namespace Go.Proofs.Ytchcnkobgdbdkaa
open Go.RowKit
set_option linter.unusedVariables false
set_option linter.unusedSimpArgs false


theorem infoU8 : (Try.prog.info? 5).map (fun i => (i.zero, i.size, i.bytes)) = some (some (.int .u8 0), 1, 1) := by kernel_rfl
theorem refCheck_one {w : World} {A : Option Addr} {g n c : Nat} {l : List UInt8} (hh : Rd w (some ⟨g, 0, none⟩) [.slice A n c]) (hn : l.length = n) (hc : n ≤ c) (hm : c ≤ 9223372036854775807) (hr : Rd w A (bts l)) :
    Calls Try.prog 51 #[.slice (some ⟨g, 0, none⟩) 1 1] w fun e w' => e = .returned (vu16 (crcCheck l)) ∧ w = w' := by
  subst hn
  have := refCheck_calls [⟨A, c, l⟩] (some ⟨g, 0, none⟩) 1 1 w rfl (by decide) hh (by
    intro p hp
    obtain rfl : p = ⟨A, c, l⟩ := by simpa using hp
    exact ⟨hr, hc, hm⟩)
  simpa [ptl] using this
/-- A slice of n elements, and what it holds. -/
def SlAt (n : Nat) (vs : List Value) : Fact := fun W v => ∃ A c, v = .slice A n c ∧ Rd W A vs
theorem SlAt.lasts {n : Nat} {vs : List Value} : ∀ w w' v, Chg NoS w w' → SlAt n vs w v → SlAt n vs w' v := fun _ _ _ h ⟨A, c, e, hr⟩ => ⟨A, c, e, hr.chg h⟩
def SealedPost (w : World) (l : List UInt8) (n : Nat) (e : Ending) (w' : World) : Prop :=
  ∃ A c, e = .returned (.slice A n c) ∧ Rd w' A (bts (l ++ [(crcCheck l).toUInt8, (crcCheck l >>> 8).toUInt8])) ∧ Below w.heap.size w w'
set_option maxRecDepth 100000 in
set_option maxHeartbeats 1000000 in
theorem sealed_calls (A : Option Addr) (n cap : Nat) (l : List UInt8) (w : World) (hl : l.length = n) (hn : n ≤ cap) (hc : cap ≤ 9223372036854775807) (hr : Rd w A (bts l)) (hs : n ≤ 1000) :
    Calls Try.prog 40 #[.slice A n cap] w (SealedPost w l (n + 2)) := by
  have HR := Lib.hid hr
  have HL := Lib.hid hl
  clear hr hl
  go_enter Try.func40, Try.ntmps40
  go_wp2_with fail
  refine (refCheck_one (A := A) (n := n) (c := cap) (l := l) (Rd.of_block (hal_new rfl)) HL.out hn hc (HR.out.alloc _)).mono ?_
  rintro e w' ⟨rfl, rfl⟩
  generalize hcc : crcCheck l = c
  have HC := Lib.hid hcc
  clear hcc
  go_wp2_with (at_builtin; refine wpList_append_rd rfl _ _ 48 rfl (w.heap.size + 1) 5 (.int .u8 0) 1 1 Try.underlying48 infoU8 rfl (by decide) (by decide) (.slice (some ⟨w.heap.size + 1, 0, none⟩) 0 0) 0 [] rfl ?own A n cap (bts l) rfl ?len ?rd (one_bts _) ?bytes ?base ?_)
  case own => exact empty_own' _ _ (by simp)
  case len => rw [bts_length, HL.out, Nat.mul_one]
  case rd => exact (HR.out.alloc _).alloc _
  case bytes => omega
  case base => simp
  intro v1 w1 hown hg hat
  have hb1 : Below w.heap.size w w1 := (((Below.refl _ _).alloc (Nat.le_refl _) _).alloc (by simp) _).trans (below_grown hg (by simp; omega) (by intro k hk; simp [Value.ownBlock] at hk; omega))
  obtain ⟨A1, c1, rfl, hr1, hc1, hm1⟩ := own_rd hown
  have hlt1 : w.heap.size + 1 ≤ w1.heap.size := by have := hg.size; simp at this; omega
  have HO := Lib.hid hown
  have HB := Lib.hid hb1
  clear hown hg hat hb1 hr1
  go_wp2_with (at_builtin; refine wpList_append_rd rfl _ _ 48 rfl (w.heap.size + 1) 5 (.int .u8 0) 1 1 Try.underlying48 infoU8 rfl (by decide) (by decide) (.slice A1 n c1) n (bts l) rfl ?own2 (some ⟨w1.heap.size, 0, none⟩) 2 2 [.int .u8 ((c.toNat : Int) % 256), .int .u8 ((c.toNat : Int) / 256 % 256)] rfl rfl ?rd2 ?one2 ?bytes2 ?base2 ?_)
  case own2 => exact own_chg HO.out ((Chg.refl (S := NoS) w1).alloc _) (fun _ _ => id)
  case rd2 => exact Rd.of_block (hal_new rfl)
  case one2 => intro u hu; simp at hu; rcases hu with rfl | rfl <;> rfl
  case bytes2 => omega
  case base2 => simp; omega
  intro v2 w2 hown hg hat
  have hb2 : Below w.heap.size w w2 := (HB.out.alloc HB.out.size _).trans (below_grown hg (by have := HB.out.size; simp; omega) (fun k hk => by have := (HO.out.lt k hk).1; omega))
  rw [show [Value.int .u8 ((c.toNat : Int) % 256), .int .u8 ((c.toNat : Int) / 256 % 256)] = bts [c.toUInt8, (c >>> 8).toUInt8] by rw [mod8_u16, mod8_hi]; rfl, ← bts_append] at hown
  obtain ⟨A2, c2, rfl, hr2, hc2, hm2⟩ := own_rd hown
  have HR2 := Lib.hid hr2
  have HB2 := Lib.hid hb2
  clear hown hg hat hb2 hr2
  go_wp2_with fail
  go_ret
  exact ⟨A2, c2, rfl, by rw [HC.out]; exact HR2.out, HB2.out⟩
theorem row_own {W : World} {g n : Nat} (l : List UInt8) (hl : l.length = n) (hg : g = W.heap.size) (hn : n ≤ 1000) : (W.alloc (.cells (bts l).toArray 5)).ownsRow g 5 1 (.slice (some ⟨g, 0, none⟩) n n) n (bts l) := by
  subst hg
  exact ⟨by simp [hl], .inr ⟨W.heap.size, n, (bts l).toArray, rfl, Nat.le_refl _, hal_new rfl, Nat.le_refl _, by simp [maxLen]; omega, by simp [hl], by simp only [Nat.mul_one]; exact List.take_of_length_le (by simp [hl])⟩⟩
end Go.Proofs.Ytchcnkobgdbdkaa


/- The walks of the reference's Encode. -/
namespace Go.Proofs.Ytchcnkobgdbdkaa
open Go.RowKit
set_option linter.unusedVariables false
set_option linter.unusedSimpArgs false


set_option maxRecDepth 100000 in
set_option maxHeartbeats 1000000 in
theorem refEncode_no (m : UInt8) (A : Option Addr) (n cap : Nat) (l : List UInt8) (w : World) (hl : l.length = n) (hn : n ≤ cap) (hc : cap ≤ 9223372036854775807) (hr : Rd w A (bts l)) (h : m = 0 ∨ 29 < n) :
    Calls Try.prog 21 #[vu8 m, .slice A n cap] w fun e w' => e = .returned (.tuple #[.agg (bts (encR m l).1).toArray, .int .i64 (encR m l).2]) ∧ Below w.heap.size w w' := by
  have HR := Lib.hid hr
  have he := encR_no (m := m) (l := l) (by rw [hl]; exact h)
  rw [he]
  have HL := Lib.hid hl
  clear hr hl he
  simp only [← zb_bts]
  by_cases h0 : m = 0
  · subst h0
    go_enter Try.func21, Try.ntmps21
    go_wp2_with (refine wpList_al rfl 37 rfl (zb 32) (by kernel_rfl) ?_)
    intro g w1 hg hb hc1 hs
    subst hg
    go_wp2_with (first
      | (refine wpList_bld rfl 37 [] rfl (zb 32) [] (zb 32) (by kernel_rfl) (by kernel_rfl) trivial rfl ?_)
      | (refine wpList_st rfl 37 _ _ rfl w.heap.size 0 32 (zb 32) (zb 32) rfl rfl hb (by kernel_rfl) rfl (by decide) (by decide) ?_))
    intro w2 hb2 hc2
    rw [splice_whole (zb 32) (zb 32) rfl] at hb2
    go_wp2_with fail
    (try simp only [Exit.inBlock, Exit.then])
    refine bodyPost_ret (res_cell_tmp rfl _ _ w.heap.size 32 (zb 32) rfl hb2 (by kernel_rfl) (by kernel_rfl) rfl) rfl ?_
    exact ⟨rfl, (hc1.below (Nat.le_refl _) (fun _ _ => id)).trans (hc2.below (by omega) (fun k hk he => by omega))⟩
  · have h0i : ¬ ((m.toNat : Int) = 0) := by intro h; exact h0 (UInt8.toNat_inj.1 (by simpa using h))
    have h1 : 29 < n := h.resolve_left h0
    have h1i : (29 : Int) < (n : Int) := by omega
    go_enter Try.func21, Try.ntmps21
    go_wp2_with (refine wpList_al rfl 37 rfl (zb 32) (by kernel_rfl) ?_)
    intro g w1 hg hb hc1 hs
    subst hg
    go_wp2_with (first
      | (refine wpList_bld rfl 37 [] rfl (zb 32) [] (zb 32) (by kernel_rfl) (by kernel_rfl) trivial rfl ?_)
      | (refine wpList_st rfl 37 _ _ rfl w.heap.size 0 32 (zb 32) (zb 32) rfl rfl hb (by kernel_rfl) rfl (by decide) (by decide) ?_))
    intro w2 hb2 hc2
    rw [splice_whole (zb 32) (zb 32) rfl] at hb2
    go_wp2_with fail
    (try simp only [Exit.inBlock, Exit.then])
    refine bodyPost_ret (res_cell_tmp rfl _ _ w.heap.size 32 (zb 32) rfl hb2 (by kernel_rfl) (by kernel_rfl) rfl) rfl ?_
    exact ⟨rfl, (hc1.below (Nat.le_refl _) (fun _ _ => id)).trans (hc2.below (by omega) (fun k hk he => by omega))⟩

set_option maxRecDepth 100000 in
set_option maxHeartbeats 2000000 in
theorem refEncode_yes (m : UInt8) (A : Option Addr) (n cap : Nat) (l : List UInt8) (w : World) (hl : l.length = n) (hn : n ≤ cap) (hc : cap ≤ 9223372036854775807) (hr : Rd w A (bts l)) (h0 : ¬ m = 0) (h1 : n ≤ 29) :
    Calls Try.prog 21 #[vu8 m, .slice A n cap] w fun e w' => e = .returned (.tuple #[.agg (bts (encR m l).1).toArray, .int .i64 (encR m l).2]) ∧ Below w.heap.size w w' := by
  have he := encR_yes (m := m) (l := l) (by rw [hl]; exact fun h => h.elim h0 (by omega))
  have hpl := padB_length (l := l) (by omega)
  have hpb : padB l = l ++ List.replicate (29 - n) 0 := by rw [← hl]; rfl
  rw [he]
  simp only
  have hsl := secOf_length (m := m) hpl
  have hss : secOf m (padB l) = m :: padB l ++ [(crcCheck (m :: padB l)).toUInt8, (crcCheck (m :: padB l) >>> 8).toUInt8] := rfl
  generalize secOf m (padB l) = rs at hsl hss ⊢
  have HRS := Lib.hid hss
  have HSL := Lib.hid hsl
  generalize padB l = b at hpl hss HRS hpb
  have RBa := Lib.hid hr
  have HPL := Lib.hid hpl
  have HPB := Lib.hid hpb
  have HL := Lib.hid hl
  have h0i : ¬ ((m.toNat : Int) = 0) := by intro h; exact h0 (UInt8.toNat_inj.1 (by simpa using h))
  have h1i : ¬ ((29 : Int) < (n : Int)) := by omega
  have h0b : ((m.toNat : Int) == 0) = false := by simpa using h0i
  clear hr hl he hpl hsl hss h0 hpb
  go_enter Try.func21, Try.ntmps21
  go_wp2_with (first | (refine wpList_al rfl 37 rfl (zb 32) (by kernel_rfl) ?_))
  intro gq w1 hg hbk hcg hsz
  have hle_gq : w.heap.size ≤ gq := by rw [hg]; exact (Below.refl w.heap.size w).size
  have E1 : Hid (Below w.heap.size w w1) := (Below.refl w.heap.size w).trans (hcg.below (Below.refl w.heap.size w).size (fun _ _ => id))
  have Ra1 : Hid (Rd w1 A (bts l)) := RBa.out.below E1.out
  have Kq1 := Lib.hid hbk
  clear hg hbk hcg hsz
  go_wp2_with (at_builtin; refine wpList_append_rd rfl _ _ 48 rfl w1.heap.size 5 (.int .u8 0) 1 1 Try.underlying48 infoU8 rfl (by decide) (by decide) (.slice (some ⟨w1.heap.size, 0, none⟩) 1 1) 1 [vu8 m] rfl ?own A n cap (bts l) rfl ?len ?rd (one_bts _) ?bytes ?base ?_)
  case own => exact row_own [m] rfl rfl (by decide)
  case len => rw [bts_length, HL.out, Nat.mul_one]
  case rd => exact Ra1.out.alloc _
  case bytes => omega
  case base => simp
  intro v2 w2 hown hg hat
  have E2 : Hid (Below w.heap.size w w2) := (E1.out.alloc E1.out.size _).trans (below_grown hg (by have := E1.out.size; simp; omega) (by intro k hk; have := E1.out.size; simp [Value.ownBlock] at hk; omega))
  have Kq2 : Hid (Bk w2 gq (zb 32)) := ((Kq1.out.alloc _).chg (S := (· = w1.heap.size)) ⟨hg.os, hg.tape, hg.output, hg.size, fun k hk hne => hg.block k hk (fun he => hne (by simp [Value.ownBlock] at he; omega))⟩ (by have := Kq1.out.lt; omega))
  obtain ⟨A2, c2, rfl, _, _, _⟩ := own_rd hown
  have hle2 : w1.heap.size ≤ w2.heap.size := by have := hg.size; simp at this; omega
  have HO := Lib.hid hown
  clear hown hg hat
  go_wp2_with (at_builtin; refine wpList_append_zr rfl _ _ 48 3 rfl w1.heap.size 5 (.int .u8 0) 1 1 Try.underlying48 Try.underlying3 infoU8 rfl (by decide) (by decide) (.slice A2 (1 + n) c2) (1 + n) ([vu8 m] ++ bts l) rfl HO.out .i64 (29 - n) ?hx (bts (List.replicate (29 - n) 0)) (zeroCells_u8 _) (one_bts _) ?bytes2 hle2 ?_)
  case hx => exact congrArg (Value.int .i64) (by omega)
  case bytes2 => omega
  intro v3 w3 hown hg hat
  have E3 : Hid (Below w.heap.size w w3) := E2.out.trans (below_grown hg E2.out.size (fun k hk => by have := (HO.out.lt k hk).1; have := E1.out.size; omega))
  have Kq3 : Hid (Bk w3 gq (zb 32)) := Kq2.out.chg (S := fun k => w1.heap.size ≤ k) ⟨hg.os, hg.tape, hg.output, hg.size, fun k hk hne => hg.block k hk (fun he => hne ((HO.out.lt k he.symm).1))⟩ (by have := Kq1.out.lt; omega)
  rw [show vu8 m :: (bts l ++ bts (List.replicate (29 - n) 0)) = bts (m :: b) by rw [HPB.out]; simp [bts], show 1 + n + (29 - n) = 30 by omega] at hown
  obtain ⟨A3, c3, rfl, hr3, hc3, hm3⟩ := own_rd hown
  have RD3 := Lib.hid hr3
  clear hown hg hat hr3 HO E1 E2 Kq1 Kq2 Ra1
  go_wp2_with (refine wpList_al rfl 37 rfl (zb 32) (by kernel_rfl) ?_)
  intro go w4 hg hbk hcg hsz
  have hlt_q_o : gq < go := by rw [hg]; exact Kq3.out.lt
  have hle_go : w.heap.size ≤ go := by rw [hg]; exact E3.out.size
  have E4 : Hid (Below w.heap.size w w4) := E3.out.trans (hcg.below E3.out.size (fun _ _ => id))
  have Kq4 : Hid (Bk w4 gq (zb 32)) := Kq3.out.chg hcg id
  have Ko4 := Lib.hid hbk
  have RD4 : Hid (Rd w4 A3 (bts (m :: b))) := RD3.out.chg hcg
  clear hg hbk hcg hsz E3 Kq3 RD3
  go_wp2_with fail
  apply wp_region_rel 3 (Chg NoS) [(Veq _), (Veq _), (SlAt 32 (bts rs))] [[], [], [1]] [25, 26, 27] (by kernel_rfl) (by kernel_rfl) rfl rfl rfl Chg.refl (fun _ _ _ => Chg.trans) ⟨Veq.lasts, Veq.lasts, SlAt.lasts, trivial⟩ ?aops ?afin
  case aops =>
    refine ⟨?ao0, ?ao1, ?ao2, trivial⟩
    case ao0 =>
      intro a wx hE hin
      have i7 : a.eval (.tmp 7) = .pointer (some ⟨go, 0, none⟩) := hin 7 rfl
      clear hin
      have hcst : ∀ v, a.eval (.const v) = v := fun _ => rfl
      have hfnc : ∀ f, a.eval (.func f) = .func (.func f) #[] #[] := fun _ => rfl
      refine want_none rfl ?_
      unfold Oper.wp
      generalize a.eval = ρ at *
      go_simp
      try go_bits
      first | exact rel_val (Chg.refl _) | (go_simp; exact rel_val (Chg.refl _))
    case ao1 =>
      intro a wx hE hin
      have i6 : a.eval (.tmp 6) = .slice A3 30 c3 := hin 6 rfl
      clear hin
      have hcst : ∀ v, a.eval (.const v) = v := fun _ => rfl
      have hfnc : ∀ f, a.eval (.func f) = .func (.func f) #[] #[] := fun _ => rfl
      refine want_none rfl ?_
      unfold Oper.wp
      generalize a.eval = ρ at *
      go_simp
      try go_bits
      first | exact rel_val (Chg.refl _) | (go_simp; exact rel_val (Chg.refl _))
    case ao2 =>
      rintro a wx hE hin (h1 : a.eval (.tmp 26) = _)
      clear hin
      have hcst : ∀ v, a.eval (.const v) = v := fun _ => rfl
      have hfnc : ∀ f, a.eval (.func f) = .func (.func f) #[] #[] := fun _ => rfl
      refine want_none rfl ?_
      unfold Oper.wp
      generalize a.eval = ρ at *
      go_simp
      refine (sealed_calls A3 30 c3 (m :: b) wx (by simp [HPL.out]) hc3 hm3 (RD4.out.drew.chg hE) (by decide)).mono ?_
      rintro e w' ⟨Ac, cc, rfl, hrc, hb⟩
      rw [← HRS.out] at hrc
      exact ⟨_, rfl, ⟨Ac, cc, rfl, hrc⟩, .of_below hb⟩
  case afin =>
    intro wx hE
    rintro _ rfl _ rfl _ ⟨Ac, cc, rfl, rc⟩
    simp only [FinOk, List.take_succ_cons, List.take_zero, List.take_nil, List.drop_succ_cons, List.drop_zero, List.drop_nil, Act.put, List.setIfInBounds_toArray, List.set_cons_succ, List.set_cons_zero]
    refine wpList_cp rfl _ _ 48 48 5 rfl Try.underlying48 (by kernel_rfl) go 0 32 32 Ac 32 cc (zb 32) (bts rs) rfl rfl (Ko4.out.drew.chg hE id) rc (by rw [bts_length, HSL.out]) (by decide) (one_bts _) ?_
    intro w5 hbk hcg
    rw [List.take_of_length_le (by rw [bts_length, HSL.out]; decide), splice_whole (zb 32) (bts rs) (by rw [bts_length, HSL.out]; rfl)] at hbk
    have E5 : Hid (Below w.heap.size w w5) := E4.out.trans ((hE.undrew.below (B := w.heap.size) E4.out.size (fun _ _ => id)).trans (hcg.below (Nat.le_trans E4.out.size hE.size) (fun k hk he => by omega)))
    have Kq5 : Hid (Bk w5 gq (zb 32)) := (Kq4.out.drew.chg hE id).chg hcg (by omega)
    have Ko5 := Lib.hid hbk
    clear hbk hcg hE rc
    go_wp2_with (first
      | (refine wpList_ld rfl 37 _ rfl go 0 32 (bts rs) (bts rs) rfl Ko5.out (by kernel_rfl) (by kernel_rfl) (by rw [bts_length, HSL.out]; decide) (by rw [List.drop_zero, List.take_of_length_le (by rw [bts_length, HSL.out]; decide)]) ?_)
      | (refine wpList_st rfl 37 _ _ rfl gq 0 32 (zb 32) (bts rs) rfl rfl Kq5.out (by kernel_rfl) (by rw [bts_length, HSL.out]) (by decide) (one_bts _) ?_))
    intro w6 hbk hcg
    rw [splice_whole (zb 32) (bts rs) (by rw [bts_length, HSL.out]; rfl)] at hbk
    have E6 : Hid (Below w.heap.size w w6) := E5.out.trans (hcg.below E5.out.size (fun k hk he => by omega))
    have Kq6 := Lib.hid hbk
    clear hbk hcg
    go_wp2_with fail
    (try simp only [Exit.inBlock, Exit.then])
    refine bodyPost_ret (res_cell_tmp rfl _ _ gq 32 (bts rs) rfl Kq6.out (by kernel_rfl) (by kernel_rfl) (by rw [bts_length, HSL.out])) rfl ?_
    exact ⟨rfl, E6.out⟩
theorem refEncode_calls (m : UInt8) (A : Option Addr) (n cap : Nat) (l : List UInt8) (w : World) (hl : l.length = n) (hn : n ≤ cap) (hc : cap ≤ 9223372036854775807) (hr : Rd w A (bts l)) :
    Calls Try.prog 21 #[vu8 m, .slice A n cap] w fun e w' => e = .returned (.tuple #[.agg (bts (encR m l).1).toArray, .int .i64 (encR m l).2]) ∧ Below w.heap.size w w' := by
  by_cases h : m = 0 ∨ 29 < n
  · exact refEncode_no m A n cap l w hl hn hc hr h
  · exact refEncode_yes m A n cap l w hl hn hc hr (fun h' => h (.inl h')) (by omega)
end Go.Proofs.Ytchcnkobgdbdkaa


/- The walk of the reference's Decode. -/
namespace Go.Proofs.Ytchcnkobgdbdkaa
open Go.RowKit
set_option linter.unusedVariables false
set_option linter.unusedSimpArgs false


theorem padB_full {b : List UInt8} (h : b.length = 29) : padB b = b := by simp [padB, h]
theorem one_got (l : List UInt8) (z : Int) : ∀ u ∈ bts l ++ [Value.int .i64 z], u.oneCell' = true := by
  intro u hu
  rcases List.mem_append.1 hu with hu | hu
  · exact one_bts l u hu
  · obtain rfl := List.mem_singleton.1 hu; rfl
theorem one_got0 (m : UInt8) : ∀ u ∈ vu8 m :: (zb 29 ++ [Value.int .i64 0]), u.oneCell' = true := one_got (m :: List.replicate 29 0) 0
theorem got_cells (m : UInt8) (b : List UInt8) (h : b.length = 29) : splice (vu8 m :: (zb 29 ++ [Value.int .i64 0])) 1 ((bts b).take 29) = bts (m :: b) ++ [Value.int .i64 0] := by
  rw [List.take_of_length_le (by simp [h])]
  simp only [splice, bts_length, h]
  simp [zb, bts]
set_option maxRecDepth 100000 in
set_option maxHeartbeats 1000000 in
theorem refDecode_calls (x : List UInt8) (w : World) (hx : x.length = 32) :
    Calls Try.prog 38 #[.agg (bts x).toArray] w fun e w' => e = .returned (.agg (bts (decR x).1 ++ [Value.int .i64 (decR x).2]).toArray) ∧ Below w.heap.size w w' := by
  have hbl : (bodyOf x).length = 29 := by simp [bodyOf, hx]
  have hbd : ((bts x).drop 1).take 29 = bts (bodyOf x) := by rw [bts_drop, bts_take]; rfl
  have h0 : (bts x)[0]? = some (vu8 (x.getD 0 0)) := bts_get (by omega)
  have hd : decR x = if x.getD 0 0 = 0 ∨ secOf (x.getD 0 0) (bodyOf x) ≠ x then (List.replicate 30 0, 11) else (x.getD 0 0 :: bodyOf x, 0) := rfl
  rw [hd]
  clear hd
  generalize bodyOf x = b at hbl hbd ⊢
  generalize x.getD 0 0 = m at h0 ⊢
  generalize hq : decide (secOf m b = x) = q
  have hr : (if m = 0 ∨ secOf m b ≠ x then (List.replicate 30 (0 : UInt8), (11 : Int)) else (m :: b, 0)) = if m = 0 ∨ q = false then (List.replicate 30 0, 11) else (m :: b, 0) := by
    rw [← hq]
    simp
  rw [hr]
  clear hr
  obtain ⟨rs, hrs⟩ : ∃ rs, rs = if m = 0 then List.replicate 32 0 else secOf m b := ⟨_, rfl⟩
  obtain ⟨en, hen⟩ : ∃ en : Int, en = if m = 0 then 1 else 0 := ⟨_, rfl⟩
  have henr : encR m b = (rs, en) := by
    by_cases hm : m = 0
    · rw [encR_no (.inl hm), hrs, hen, if_pos hm, if_pos hm]
    · rw [encR_yes (fun h => h.elim hm (by omega)), hrs, hen, if_neg hm, if_neg hm, padB_full hbl]
  have hsl : rs.length = 32 := by
    rw [hrs]
    split
    · simp
    · exact secOf_length hbl
  have HSP := Lib.hid (got_cells m b hbl)
  have HEN := Lib.hid henr
  have HENV := Lib.hid hen
  have HRS := Lib.hid hrs
  have HSL := Lib.hid hsl
  have HL := Lib.hid hx
  have HBL := Lib.hid hbl
  have HBD := Lib.hid hbd
  have HQ := Lib.hid hq
  have H00 := Lib.hid h0
  clear hx hbl hbd hq hrs hen hsl henr
  generalize hres : (if m = 0 ∨ q = false then (List.replicate 30 (0 : UInt8), (11 : Int)) else (m :: b, 0)) = res
  have HRES := Lib.hid hres
  clear hres
  generalize hvs : bts x = vx at h0
  go_enter Try.func38, Try.ntmps38
  go_wp2_with (refine wpList_al rfl 96 rfl (zb 30 ++ [Value.int .i64 0]) (by kernel_rfl) ?_)
  intro g w0 hg hb0 hc0 hs0
  obtain rfl : g = w.heap.size + 1 := by simp [hg]
  have HB : Hid (Bk w0 w.heap.size (bts x)) := by rw [hvs]; exact (Bk.new w vx _).chg hc0 id
  have HZ := Lib.hid hb0
  have HBel : Hid (Below w.heap.size w w0) := ((Below.refl _ _).alloc (Nat.le_refl _) _).trans (hc0.below (by simp) (fun _ _ => id))
  have HC : Hid (w0.cell? ⟨w.heap.size, 0, none⟩ = some (vu8 m)) := by rw [← hvs] at h0; exact HB.out.cell h0
  have HS0 : Hid (w0.heap.size = w.heap.size + 2) := hs0
  clear hg hb0 hc0 hs0 h0 hvs
  go_wp2_with fail
  apply wp_region_rels 10 8 3 (PtrAt NoS w0.heap.size (bts rs)) (Chg (fun k => w0.heap.size ≤ k)) (Chg NoS) (ChgNew w0.heap.size) [(Veq _), (Veq _), (Veq _), (Veq _), (Veq _), (Veq _), (Veq _), (PtrLen w0.heap.size 32), (fun _ _ => True), (Veq _)] [[], [0], [], [1, 2], [3], [4], [4], [], [5, 7], [6]] [7, 8, 9, 10, 6, 11, 12, 3, 4] (by kernel_rfl) (by kernel_rfl) rfl rfl (by kernel_rfl) (by kernel_rfl) Chg.refl (fun _ _ _ => Chg.trans) (fun _ _ h => h.mono (fun _ hk => hk.elim)) (fun _ _ h => h.1) ⟨Veq.lasts, Veq.lasts, Veq.lasts, Veq.lasts, Veq.lasts, Veq.lasts, Veq.lasts, PtrLen.lasts, (fun _ _ _ _ _ => trivial), Veq.lasts, trivial⟩ ⟨Veq.lasts, Veq.lasts, Veq.lasts, Veq.lasts, Veq.lasts, Veq.lasts, Veq.lasts, PtrLen.lastsS, (fun _ _ _ _ _ => trivial), Veq.lasts, trivial⟩ PtrAt.lasts (fun F h w => by cases h; trivial) ?aops ?afin
  case aops =>
    refine ⟨?ao0, ?ao1, ?ao2, ?ao3, ?ao4, ?ao5, ?ao6, ?ao7, ?ao8, ?ao9, trivial⟩
    case ao0 =>
      rw [if_neg (by decide)]
      intro a wx hE hin
      have i1 : a.eval (.tmp 1) = .pointer (some ⟨w.heap.size, 0, none⟩) := hin 1 rfl
      clear hin
      have hcst : ∀ v, a.eval (.const v) = v := fun _ => rfl
      have hfnc : ∀ f, a.eval (.func f) = .func (.func f) #[] #[] := fun _ => rfl
      refine want_none rfl ?_
      unfold Oper.wp
      generalize a.eval = ρ at *
      go_simp
      try go_bits
      first | exact rel_val (Chg.refl _) | (go_simp; exact rel_val (Chg.refl _))
    case ao1 =>
      rw [if_neg (by decide)]
      rintro a wx hE hin (h0 : a.eval (.tmp 7) = _)
      clear hin
      have hcst : ∀ v, a.eval (.const v) = v := fun _ => rfl
      have hfnc : ∀ f, a.eval (.func f) = .func (.func f) #[] #[] := fun _ => rfl
      refine want_none rfl ?_
      unfold Oper.wp
      generalize a.eval = ρ at *
      have c := hE.cell (w := w0.drew) HC.out (show ¬ (w0.heap.size ≤ w.heap.size) by have := HS0.out; omega)
      go_simp
      try go_bits
      first | exact rel_val (Chg.refl _) | (go_simp; exact rel_val (Chg.refl _))
    case ao2 =>
      rw [if_neg (by decide)]
      intro a wx hE hin
      have i1 : a.eval (.tmp 1) = .pointer (some ⟨w.heap.size, 0, none⟩) := hin 1 rfl
      clear hin
      have hcst : ∀ v, a.eval (.const v) = v := fun _ => rfl
      have hfnc : ∀ f, a.eval (.func f) = .func (.func f) #[] #[] := fun _ => rfl
      refine want_none rfl ?_
      unfold Oper.wp
      generalize a.eval = ρ at *
      go_simp
      try go_bits
      first | exact rel_val (Chg.refl _) | (go_simp; exact rel_val (Chg.refl _))
    case ao3 =>
      rw [if_neg (by decide)]
      rintro a wx hE hin (h1 : a.eval (.tmp 8) = _) (h2 : a.eval (.tmp 9) = _)
      clear hin
      have hcst : ∀ v, a.eval (.const v) = v := fun _ => rfl
      have hfnc : ∀ f, a.eval (.func f) = .func (.func f) #[] #[] := fun _ => rfl
      refine want_none rfl ?_
      unfold Oper.wp
      generalize a.eval = ρ at *
      go_simp
      refine (refEncode_calls m (some ⟨w.heap.size, 1, none⟩) 29 31 b wx HBL.out (by decide) (by decide) ?_).mono ?_
      · have := (HB.out.drew.chg hE (show ¬ (w0.heap.size ≤ w.heap.size) by have := HS0.out; omega)).rd_at 1 29
        rwa [HBD.out] at this
      rintro e w' ⟨rfl, hb⟩
      rw [HEN.out]
      exact rel_val (.of_below hb)
    case ao4 =>
      rw [if_neg (by decide)]
      rintro a wx hE hin (h3 : a.eval (.tmp 10) = _)
      clear hin
      have hcst : ∀ v, a.eval (.const v) = v := fun _ => rfl
      have hfnc : ∀ f, a.eval (.func f) = .func (.func f) #[] #[] := fun _ => rfl
      refine want_none rfl ?_
      unfold Oper.wp
      generalize a.eval = ρ at *
      go_simp
      try go_bits
      first | exact rel_val (Chg.refl _) | (go_simp; exact rel_val (Chg.refl _))
    case ao5 =>
      rw [if_neg (by decide)]
      rintro a wx hE hin (h4 : a.eval (.tmp 6) = _)
      clear hin
      have hcst : ∀ v, a.eval (.const v) = v := fun _ => rfl
      have hfnc : ∀ f, a.eval (.func f) = .func (.func f) #[] #[] := fun _ => rfl
      refine want_none rfl ?_
      unfold Oper.wp
      generalize a.eval = ρ at *
      go_simp
      try go_bits
      first | exact rel_val (Chg.refl _) | (go_simp; exact rel_val (Chg.refl _))
    case ao6 =>
      rw [if_neg (by decide)]
      rintro a wx hE hin (h4 : a.eval (.tmp 6) = _)
      clear hin
      have hcst : ∀ v, a.eval (.const v) = v := fun _ => rfl
      have hfnc : ∀ f, a.eval (.func f) = .func (.func f) #[] #[] := fun _ => rfl
      refine want_none rfl ?_
      unfold Oper.wp
      generalize a.eval = ρ at *
      go_simp
      try go_bits
      first | exact rel_val (Chg.refl _) | (go_simp; exact rel_val (Chg.refl _))
    case ao7 =>
      rw [if_neg (by decide)]
      intro a wx hE hin
      clear hin
      have hcst : ∀ v, a.eval (.const v) = v := fun _ => rfl
      have hfnc : ∀ f, a.eval (.func f) = .func (.func f) #[] #[] := fun _ => rfl
      refine want_none rfl ?_
      exact wp_al 37 rfl (zb 32) (by kernel_rfl) ⟨_, rfl, ⟨wx.heap.size, rfl, hE.size, zb 32, rfl, Bk.new _ _ _⟩, (Chg.refl _).alloc _⟩
    case ao8 =>
      rw [if_pos (by decide)]
      rintro a wx hE hin (h5 : a.eval (.tmp 11) = _) ⟨gg, g7, p7, vs7, l7, b7⟩
      clear hin
      have hcst : ∀ v, a.eval (.const v) = v := fun _ => rfl
      have hfnc : ∀ f, a.eval (.func f) = .func (.func f) #[] #[] := fun _ => rfl
      refine wp_st 37 _ _ rfl gg 0 vs7 (bts rs) g7 (by rw [h5]; rfl) b7 (by rw [bts_length, HSL.out]; kernel_rfl) (by rw [bts_length, HSL.out, l7]; decide) (one_bts _) ?_
      intro w2 hb2 hc2
      rw [splice_whole vs7 (bts rs) (by rw [bts_length, HSL.out, l7])] at hb2
      exact ⟨rfl, ⟨gg, g7, p7, id, hb2⟩, ChgNew.st b7 hb2 (by rw [bts_length, HSL.out, l7]) p7 hc2⟩
    case ao9 =>
      rw [if_neg (by decide)]
      rintro a wx hE hin (h6 : a.eval (.tmp 12) = _)
      clear hin
      have hcst : ∀ v, a.eval (.const v) = v := fun _ => rfl
      have hfnc : ∀ f, a.eval (.func f) = .func (.func f) #[] #[] := fun _ => rfl
      refine want_none rfl ?_
      unfold Oper.wp
      generalize a.eval = ρ at *
      go_simp
      try go_bits
      first | exact rel_val (Chg.refl _) | (go_simp; exact rel_val (Chg.refl _))
  case afin =>
    intro wx hE
    rintro _ rfl _ rfl _ rfl _ rfl _ rfl _ rfl _ rfl _ ⟨gg, rfl, p7, vs7, l7, b7⟩ _ _ rfl hsp
    simp only [FinOk, List.take_succ_cons, List.take_zero, List.take_nil, List.drop_succ_cons, List.drop_zero, List.drop_nil, Act.put, List.setIfInBounds_toArray, List.set_cons_succ, List.set_cons_zero]
    obtain ⟨gq, hgq, p8, n8, b8⟩ := hsp
    simp only [Act.put, List.setIfInBounds_toArray, List.set_cons_succ, List.set_cons_zero] at hgq
    have hgq' : Value.pointer (some ⟨gg, 0, none⟩) = .pointer (some ⟨gq, 0, none⟩) := hgq
    injection hgq' with hgq1
    injection hgq1 with hgq2
    injection hgq2 with hgq3
    subst hgq3
    clear b7 l7 hgq
    rw [HS0.out] at p7
    have hng : gg ≠ w.heap.size := by omega
    have hng1 : gg ≠ w.heap.size + 1 := by omega
    have hgg : w.heap.size ≤ gg := by omega
    have HE3 : Hid (Below w.heap.size w wx) := HBel.out.trans (hE.undrew.below (B := w.heap.size) HBel.out.size (fun k hk he => by have := HS0.out; omega))
    have HB3 : Hid (Bk wx w.heap.size (bts x)) := HB.out.drew.chg hE (by have := HS0.out; omega)
    have HZ3 : Hid (Bk wx (w.heap.size + 1) (zb 30 ++ [Value.int .i64 0])) := HZ.out.drew.chg hE (by have := HS0.out; omega)
    have HC3 : Hid (wx.cell? ⟨w.heap.size, 0, none⟩ = some (vu8 m)) := HB3.out.cell H00.out
    have HG3 := Lib.hid b8
    clear b8 hE p7 p8
    by_cases hm : m = 0
    · have hen : en = 1 := by rw [HENV.out, if_pos hm]
      subst hen
      have hres := HRES.out
      rw [if_pos (.inl hm)] at hres
      subst hres
      go_wp2_with (first
        | (refine wpList_ld rfl 37 _ rfl gg 0 32 (bts rs) (bts rs) rfl HG3.out (by kernel_rfl) (by kernel_rfl) (by rw [bts_length, HSL.out]; decide) (by rw [List.drop_zero, List.take_of_length_le (by rw [bts_length, HSL.out]; decide)]) ?_)
        | (refine wpList_ld rfl 37 _ rfl w.heap.size 0 32 (bts x) (bts x) rfl HB3.out (by kernel_rfl) (by kernel_rfl) (by rw [bts_length, HL.out]; decide) (by rw [List.drop_zero, List.take_of_length_le (by rw [bts_length, HL.out]; decide)]) ?_)
        | (refine wpList_eq_bytes rfl true 37 _ _ _ rfl 5 32 (by kernel_rfl) Try.underlying5 (by kernel_rfl) (by kernel_rfl) rs x rfl rfl HSL.out HL.out true (by rw [HQ.out]; rfl) ?_)
        | (refine wpList_bld rfl 96 [(2, .const (.int .i64 11))] rfl (zb 30 ++ [Value.int .i64 0]) [(30, [Value.int .i64 11])] (zb 30 ++ [Value.int .i64 11]) (by kernel_rfl) (by kernel_rfl) ?f1 rfl ?_)
        | (refine wpList_st rfl 96 _ _ rfl (w.heap.size + 1) 0 31 (zb 30 ++ [Value.int .i64 0]) (zb 30 ++ [Value.int .i64 11]) rfl rfl HZ3.out (by kernel_rfl) rfl (by decide) (by decide) ?_))
      case f1 => exact ⟨rfl, ⟨1, rfl, by kernel_rfl, by decide⟩, trivial⟩
      intro w5 hb5 hc5
      rw [splice_whole (zb 30 ++ [Value.int .i64 0]) (zb 30 ++ [Value.int .i64 11]) rfl] at hb5
      go_wp2_with fail
      (try simp only [Exit.inBlock, Exit.then])
      refine bodyPost_ret (res_cell rfl _ _ (w.heap.size + 1) 31 (zb 30 ++ [Value.int .i64 11]) rfl hb5 (by kernel_rfl) (by kernel_rfl) rfl) rfl ?_
      exact ⟨rfl, HE3.out.trans (hc5.below HE3.out.size (fun k hk he => by omega))⟩
    · have hen : en = 0 := by rw [HENV.out, if_neg hm]
      subst hen
      have hrs : rs = secOf m b := by rw [HRS.out, if_neg hm]
      cases q
      · have hres := HRES.out
        rw [if_pos (.inr rfl)] at hres
        subst hres
        have HQ : Hid (decide (rs = x) = false) := by rw [hrs]; exact HQ.out
        go_wp2_with (first
          | (refine wpList_ld rfl 37 _ rfl gg 0 32 (bts rs) (bts rs) rfl HG3.out (by kernel_rfl) (by kernel_rfl) (by rw [bts_length, HSL.out]; decide) (by rw [List.drop_zero, List.take_of_length_le (by rw [bts_length, HSL.out]; decide)]) ?_)
          | (refine wpList_ld rfl 37 _ rfl w.heap.size 0 32 (bts x) (bts x) rfl HB3.out (by kernel_rfl) (by kernel_rfl) (by rw [bts_length, HL.out]; decide) (by rw [List.drop_zero, List.take_of_length_le (by rw [bts_length, HL.out]; decide)]) ?_)
          | (refine wpList_eq_bytes rfl true 37 _ _ _ rfl 5 32 (by kernel_rfl) Try.underlying5 (by kernel_rfl) (by kernel_rfl) rs x rfl rfl HSL.out HL.out true (by rw [HQ.out]; rfl) ?_)
          | (refine wpList_bld rfl 96 [(2, .const (.int .i64 11))] rfl (zb 30 ++ [Value.int .i64 0]) [(30, [Value.int .i64 11])] (zb 30 ++ [Value.int .i64 11]) (by kernel_rfl) (by kernel_rfl) ?f1 rfl ?_)
          | (refine wpList_st rfl 96 _ _ rfl (w.heap.size + 1) 0 31 (zb 30 ++ [Value.int .i64 0]) (zb 30 ++ [Value.int .i64 11]) rfl rfl HZ3.out (by kernel_rfl) rfl (by decide) (by decide) ?_))
        case f1 => exact ⟨rfl, ⟨1, rfl, by kernel_rfl, by decide⟩, trivial⟩
        intro w5 hb5 hc5
        rw [splice_whole (zb 30 ++ [Value.int .i64 0]) (zb 30 ++ [Value.int .i64 11]) rfl] at hb5
        go_wp2_with fail
        (try simp only [Exit.inBlock, Exit.then])
        refine bodyPost_ret (res_cell rfl _ _ (w.heap.size + 1) 31 (zb 30 ++ [Value.int .i64 11]) rfl hb5 (by kernel_rfl) (by kernel_rfl) rfl) rfl ?_
        exact ⟨rfl, HE3.out.trans (hc5.below HE3.out.size (fun k hk he => by omega))⟩
      · have hres := HRES.out
        rw [if_neg (fun h => h.elim hm (by decide))] at hres
        subst hres
        have HQ : Hid (decide (rs = x) = true) := by rw [hrs]; exact HQ.out
        have hc0 := HC3.out
        go_wp2_with (first
          | (refine wpList_ld rfl 37 _ rfl gg 0 32 (bts rs) (bts rs) rfl HG3.out (by kernel_rfl) (by kernel_rfl) (by rw [bts_length, HSL.out]; decide) (by rw [List.drop_zero, List.take_of_length_le (by rw [bts_length, HSL.out]; decide)]) ?_)
          | (refine wpList_ld rfl 37 _ rfl w.heap.size 0 32 (bts x) (bts x) rfl HB3.out (by kernel_rfl) (by kernel_rfl) (by rw [bts_length, HL.out]; decide) (by rw [List.drop_zero, List.take_of_length_le (by rw [bts_length, HL.out]; decide)]) ?_)
          | (refine wpList_eq_bytes rfl true 37 _ _ _ rfl 5 32 (by kernel_rfl) Try.underlying5 (by kernel_rfl) (by kernel_rfl) rs x rfl rfl HSL.out HL.out false (by rw [HQ.out]; rfl) ?_)
          | (refine wpList_bld rfl 96 [(0, .tmp 22)] rfl (zb 30 ++ [Value.int .i64 0]) [(0, [vu8 m])] (vu8 m :: (zb 29 ++ [Value.int .i64 0])) (by kernel_rfl) (by kernel_rfl) ?f2 rfl ?_)
          | (refine wpList_al rfl 96 rfl (zb 30 ++ [Value.int .i64 0]) (by kernel_rfl) ?_))
        case f2 => exact ⟨rfl, ⟨1, rfl, by kernel_rfl, by decide⟩, trivial⟩
        intro gh w4 hg hbk hcg hsz
        have hlt1 : w.heap.size + 1 < gh := by rw [hg]; exact HZ3.out.lt
        have hlt0 : w.heap.size < gh := by rw [hg]; exact HB3.out.lt
        have HE4 : Hid (Below w.heap.size w w4) := HE3.out.trans (hcg.below HE3.out.size (fun _ _ => id))
        have HB4 : Hid (Bk w4 w.heap.size (bts x)) := HB3.out.chg hcg id
        have HZ4 : Hid (Bk w4 (w.heap.size + 1) (zb 30 ++ [Value.int .i64 0])) := HZ3.out.chg hcg id
        have HH4 := Lib.hid hbk
        clear hg hbk hcg hsz hc0
        go_wp2_with (refine wpList_st rfl 96 _ _ rfl gh 0 31 (zb 30 ++ [Value.int .i64 0]) (vu8 m :: (zb 29 ++ [Value.int .i64 0])) rfl rfl HH4.out (by kernel_rfl) rfl (by decide) (one_got0 m) ?_)
        intro w5 hbk hcg
        rw [splice_whole (zb 30 ++ [Value.int .i64 0]) (vu8 m :: (zb 29 ++ [Value.int .i64 0])) rfl] at hbk
        have HE5 : Hid (Below w.heap.size w w5) := HE4.out.trans (hcg.below HE4.out.size (fun k hk he => by omega))
        have HB5 : Hid (Bk w5 w.heap.size (bts x)) := HB4.out.chg hcg (by omega)
        have HZ5 : Hid (Bk w5 (w.heap.size + 1) (zb 30 ++ [Value.int .i64 0])) := HZ4.out.chg hcg (by omega)
        have HH5 := Lib.hid hbk
        clear hbk hcg
        go_wp2_with fail
        apply wp_region_rel 3 (Chg NoS) [(Veq _), (Veq _), (Veq _)] [[], [0], []] [24, 25, 26] (by kernel_rfl) (by kernel_rfl) rfl rfl rfl Chg.refl (fun _ _ _ => Chg.trans) ⟨Veq.lasts, Veq.lasts, Veq.lasts, trivial⟩ ?cops ?cfin
        case cops =>
          refine ⟨?co0, ?co1, ?co2, trivial⟩
          case co0 =>
            intro a wx hE hin
            have i5 : a.eval (.tmp 5) = .pointer (some ⟨gh, 0, none⟩) := hin 5 rfl
            clear hin
            have hcst : ∀ v, a.eval (.const v) = v := fun _ => rfl
            have hfnc : ∀ f, a.eval (.func f) = .func (.func f) #[] #[] := fun _ => rfl
            refine want_none rfl ?_
            unfold Oper.wp
            generalize a.eval = ρ at *
            go_simp
            try go_bits
            first | exact rel_val (Chg.refl _) | (go_simp; exact rel_val (Chg.refl _))
          case co1 =>
            rintro a wx hE hin (h0 : a.eval (.tmp 24) = _)
            clear hin
            have hcst : ∀ v, a.eval (.const v) = v := fun _ => rfl
            have hfnc : ∀ f, a.eval (.func f) = .func (.func f) #[] #[] := fun _ => rfl
            refine want_none rfl ?_
            unfold Oper.wp
            generalize a.eval = ρ at *
            go_simp
            try go_bits
            first | exact rel_val (Chg.refl _) | (go_simp; exact rel_val (Chg.refl _))
          case co2 =>
            intro a wx hE hin
            have i1 : a.eval (.tmp 1) = .pointer (some ⟨w.heap.size, 0, none⟩) := hin 1 rfl
            clear hin
            have hcst : ∀ v, a.eval (.const v) = v := fun _ => rfl
            have hfnc : ∀ f, a.eval (.func f) = .func (.func f) #[] #[] := fun _ => rfl
            refine want_none rfl ?_
            unfold Oper.wp
            generalize a.eval = ρ at *
            go_simp
            try go_bits
            first | exact rel_val (Chg.refl _) | (go_simp; exact rel_val (Chg.refl _))
        case cfin =>
          intro wx hE
          rintro _ rfl _ rfl _ rfl
          simp only [FinOk, List.take_succ_cons, List.take_zero, List.take_nil, List.drop_succ_cons, List.drop_zero, List.drop_nil, Act.put, List.setIfInBounds_toArray, List.set_cons_succ, List.set_cons_zero]
          refine wpList_cp rfl _ _ 48 48 5 rfl Try.underlying48 (by kernel_rfl) gh 1 29 29 (some ⟨w.heap.size, 1, none⟩) 29 31 (vu8 m :: (zb 29 ++ [Value.int .i64 0])) (bts b) rfl rfl (HH5.out.drew.chg hE id) (by have := (HB5.out.drew.chg hE id).rd_at 1 29; rwa [HBD.out] at this) (by rw [bts_length, HBL.out]) (by simp [zb]) (one_bts _) ?_
          intro w6 hbk hcg
          rw [HSP.out] at hbk
          have HE6 : Hid (Below w.heap.size w w6) := HE5.out.trans ((hE.undrew.below (B := w.heap.size) HE5.out.size (fun _ _ => id)).trans (hcg.below (Nat.le_trans HE5.out.size hE.size) (fun k hk he => by omega)))
          have HZ6 : Hid (Bk w6 (w.heap.size + 1) (zb 30 ++ [Value.int .i64 0])) := (HZ5.out.drew.chg hE id).chg hcg (by omega)
          have HH6 := Lib.hid hbk
          clear hbk hcg hE
          go_wp2_with (first
            | (refine wpList_ld rfl 96 _ rfl gh 0 31 (bts (m :: b) ++ [Value.int .i64 0]) (bts (m :: b) ++ [Value.int .i64 0]) rfl HH6.out (by kernel_rfl) (by kernel_rfl) (by simp [HBL.out]) (by rw [List.drop_zero, List.take_of_length_le (by simp [HBL.out])]) ?_)
            | (refine wpList_st rfl 96 _ _ rfl (w.heap.size + 1) 0 31 (zb 30 ++ [Value.int .i64 0]) (bts (m :: b) ++ [Value.int .i64 0]) rfl rfl HZ6.out (by kernel_rfl) (by simp [HBL.out]) (by decide) (one_got _ _) ?_))
          intro w7 hb7 hc7
          rw [splice_whole (zb 30 ++ [Value.int .i64 0]) (bts (m :: b) ++ [Value.int .i64 0]) (by simp [HBL.out, zb])] at hb7
          go_wp2_with fail
          (try simp only [Exit.inBlock, Exit.then])
          refine bodyPost_ret (res_cell rfl _ _ (w.heap.size + 1) 31 (bts (m :: b) ++ [Value.int .i64 0]) rfl hb7 (by kernel_rfl) (by kernel_rfl) (by simp [HBL.out])) rfl ?_
          exact ⟨rfl, HE6.out.trans (hc7.below HE6.out.size (fun k hk he => by omega))⟩
end Go.Proofs.Ytchcnkobgdbdkaa


/- Numbers as bytes, the lowest one first. -/
namespace Go.Proofs.Ytchcnkobgdbdkaa
open Go.RowKit
set_option linter.unusedVariables false
set_option linter.unusedSimpArgs false

def le (n : Nat) : Nat → List UInt8
  | 0 => []
  | k + 1 => UInt8.ofNat n :: le (n / 256) k
theorem le_length : ∀ (k n : Nat), (le n k).length = k
  | 0, _ => rfl
  | k + 1, n => by rw [le, List.length_cons, le_length k]
theorem le_snoc : ∀ (k n : Nat), le n (k + 1) = le n k ++ [UInt8.ofNat (n / 256 ^ k)]
  | 0, n => by simp [le]
  | k + 1, n => by
    rw [le, le_snoc k (n / 256), le, List.cons_append, Nat.div_div_eq_div_mul, Nat.pow_succ, Nat.mul_comm 256]
def num : List UInt8 → Nat
  | [] => 0
  | b :: l => b.toNat + 256 * num l
theorem num_lt : ∀ (l : List UInt8), num l < 256 ^ l.length
  | [] => by simp [num]
  | b :: l => by
    have h1 := num_lt l
    have h2 := b.toNat_lt
    rw [num, List.length_cons, Nat.pow_succ]
    omega
theorem num_snoc : ∀ (l : List UInt8) (b : UInt8), num (l ++ [b]) = num l + b.toNat * 256 ^ l.length
  | [], b => by simp [num]
  | a :: l, b => by
    rw [List.cons_append, num, num_snoc l b, num, List.length_cons, Nat.pow_succ, Nat.mul_add, Nat.add_assoc]
    congr 2
    rw [Nat.mul_comm (256 ^ l.length) 256, Nat.mul_left_comm]
theorem num_le : ∀ (k n : Nat), n < 256 ^ k → num (le n k) = n
  | 0, n, h => by have : n = 0 := by simpa using h
                  subst this; rfl
  | k + 1, n, h => by
    rw [le, num, num_le k (n / 256) (by rw [Nat.pow_succ] at h; omega)]
    show (UInt8.ofNat n).toNat + 256 * (n / 256) = n
    rw [UInt8.toNat_ofNat']
    show n % 256 + 256 * (n / 256) = n
    omega
end Go.Proofs.Ytchcnkobgdbdkaa


/- The walks of the reference's Put and Num: numbers as bytes, the lowest one first. -/
namespace Go.Proofs.Ytchcnkobgdbdkaa
open Go.RowKit
set_option linter.unusedVariables false
set_option linter.unusedSimpArgs false

theorem info_u8l : (Try.prog.info? 5).map (fun i => (i.zero, i.size, i.bytes)) = some (some (.int .u8 0), 1, 1) := by kernel_rfl
/-- A row of bytes, answered. -/
def RowPost (w : World) (l : List UInt8) (e : Ending) (w' : World) : Prop := ∃ A c, e = .returned (.slice A l.length c) ∧ w'.ownsRow w.heap.size 5 1 (.slice A l.length c) l.length (bts l) ∧ Below w.heap.size w w'
theorem bits_u32 (a b : Nat) (ha : a < 4294967296) (hb : b < 4294967296) : Go.bits .or .u32 (a : Int) (b : Int) = ((a ||| b : Nat) : Int) := by
  have ha' : a % 2 ^ IntKind.u32.bits = a := Nat.mod_eq_of_lt ha
  have hb' : b % 2 ^ IntKind.u32.bits = b := Nat.mod_eq_of_lt hb
  have h3 : a ||| b < 2 ^ 32 := Nat.or_lt_two_pow ha hb
  simp only [Go.bits, BitVec.ofInt_natCast, BitVec.toNat_or, BitVec.toNat_ofNat, ha', hb']
  exact IntWalk.u32_in _ (by omega)
theorem num_or (m k : Nat) (b : UInt8) (hk : k < 4) (hm : m < 256 ^ k) : Go.bits .or .u32 (m : Int) ((b.toNat : Int) % 4294967296 * 2 ^ (8 * k) % 4294967296) = ((m + b.toNat * 256 ^ k : Nat) : Int) := by
  have hb := b.toNat_lt
  have e : 256 ^ k = 2 ^ (8 * k) := by rw [Nat.pow_mul]
  have h24 : 2 ^ (8 * k) ≤ 16777216 := by
    rw [show 16777216 = 2 ^ 24 from rfl]
    exact Nat.pow_le_pow_right (by decide) (by omega)
  have h1 : b.toNat * 2 ^ (8 * k) < 4294967296 := by
    have := Nat.mul_le_mul (show b.toNat ≤ 255 by omega) h24
    omega
  rw [e] at hm ⊢
  have h2 : ((b.toNat : Int) % 4294967296 * 2 ^ (8 * k) % 4294967296) = ((b.toNat * 2 ^ (8 * k) : Nat) : Int) := by
    rw [Int.emod_eq_of_lt (show (0 : Int) ≤ b.toNat by omega) (by omega)]
    have : ((b.toNat : Int) * 2 ^ (8 * k)) = ((b.toNat * 2 ^ (8 * k) : Nat) : Int) := by push_cast; rfl
    rw [this, Int.emod_eq_of_lt (by omega) (by omega)]
  rw [h2, bits_u32 m _ (by omega) h1]
  congr 1
  rw [Nat.or_comm, Nat.mul_comm, ← Nat.two_pow_add_eq_or_of_lt hm, Nat.add_comm]
def PutRel (w : World) (x : UInt32) (size : Nat) (v5 v6 : Value) (wr : World) : Prop := ∃ k : Nat, k ≤ size ∧ v6 = .int .i64 k ∧ wr.ownsRow w.heap.size 5 1 v5 k (bts (le x.toNat k)) ∧ Below w.heap.size w wr
set_option maxRecDepth 100000 in
set_option maxHeartbeats 1000000 in
theorem put_calls (x : UInt32) (size : Nat) (w : World) (hs : size ≤ 4) :
    Calls Try.prog 35 #[vu32 x, .int .i64 size] w (RowPost w (le x.toNat size)) := by
  have hx : x.toNat < 4294967296 := x.toNat_lt
  have H0 : Hid (PutRel w x size (.slice none 0 0) (.int .i64 0) w) := ⟨0, Nat.zero_le _, rfl, World.ownsRow_nil w _ _ _, Below.refl _ _⟩
  obtain ⟨X, hX⟩ : ∃ X, x.toNat = X := ⟨_, rfl⟩
  have HX := Lib.hid hX
  rw [show vu32 x = .int .u32 (X : Nat) by rw [← hX]]
  rw [hX] at hx
  clear hX
  go_enter Try.func35, Try.ntmps35
  go_wp2_with fail
  go_loopw [5, 6] (fun v5 v6 wr => PutRel w x size v5 v6 wr) (fun _ v6 _ => size - (intOf v6).toNat)
  case atStart => exact H0.out
  case round =>
    obtain ⟨k, hk, rfl, hown, hb⟩ := hrel
    rw [HX.out] at hown
    have HO := Lib.hid hown
    have HB := Lib.hid hb
    obtain ⟨A, c, rfl, _, _, _⟩ := own_rd hown
    clear hown hb H0
    by_cases hlt : k < size
    · have hki : (k : Int) < (size : Int) := by omega
      have hvb : (Value.int .u8 ((X : Int) / 2 ^ (8 * k) % 256)) = vu8 (UInt8.ofNat (X / 256 ^ k)) := by
        show _ = Value.int .u8 ((UInt8.ofNat (X / 256 ^ k)).toNat : Int)
        rw [UInt8.toNat_ofNat', show 256 ^ k = 2 ^ (8 * k) by rw [Nat.pow_mul]]
        congr 1
        all_goals first | rfl | (push_cast; rfl) | push_cast
      have HVB := Lib.hid hvb
      clear hvb
      go_wp2_with (at_builtin; refine wpList_append_rd rfl (.tmp 12) (.tmp 19) 48 rfl w.heap.size 5 (.int .u8 0) 1 1 Try.underlying48 info_u8l rfl (by decide) (by decide) (.slice A k c) k (bts (le X k)) rfl ?own (some ⟨wr.heap.size, 0, none⟩) 1 1 (bts [UInt8.ofNat (X / 256 ^ k)]) rfl ?len ?rd (one_bts _) ?bytes ?base ?_)
      case own => exact own_chg HO.out ((Chg.refl (S := NoS) wr).alloc _) (fun _ _ => id)
      case len => rfl
      case rd => rw [HVB.out]; exact Rd.new _ _ _
      case bytes => omega
      case base => have := HB.out.size; simp; omega
      intro v1 w1 hown1 hg1 hat1
      rw [← bts_append, ← le_snoc] at hown1
      have HO1 := Lib.hid hown1
      have HB1 : Hid (Below w.heap.size w w1) := (HB.out.alloc HB.out.size _).trans (below_grown hg1 (by have := HB.out.size; simp; omega) (fun q hq => by have := (HO.out.lt _ hq).1; exact this))
      clear hown1 hg1 hat1
      go_wp2_with fail
      go_roundw
      case rel => exact ⟨k + 1, by omega, by go_num, by rw [HX.out]; exact HO1.out, HB1.out⟩
      case measure => simp [intOf]; omega
    · have hke : k = size := by omega
      have hki : ¬ ((k : Int) < (size : Int)) := by omega
      subst hke
      go_wp2
      go_ret
      have hl := le_length k x.toNat
      rw [HX.out] at hl ⊢
      exact ⟨A, c, by rw [hl]; rfl, by rw [hl]; exact HO.out, HB.out⟩
def NumRel2 (l : List UInt8) (v3 v4 : Value) : Prop := ∃ k : Nat, k ≤ l.length ∧ v4 = .int .i64 ((k : Int) - 1) ∧ v3 = .int .u32 (num (l.drop k) : Nat)
set_option maxRecDepth 100000 in
set_option maxHeartbeats 1000000 in
theorem refNum_calls (l : List UInt8) (A : Option Addr) (n c : Nat) (w : World) (hl : l.length = n) (hs : n ≤ 4) (hr : Rd w A (bts l)) :
    Calls Try.prog 39 #[.slice A n c] w fun e w' => e = .returned (.int .u32 (num l : Nat)) ∧ w = w' := by
  subst hl
  have HR := Lib.hid hr
  have H0 : Hid (NumRel2 l (.int .u32 0) (.int .i64 ((l.length : Int) - 1))) := ⟨l.length, Nat.le_refl _, rfl, by rw [List.drop_length]; rfl⟩
  clear hr
  go_enter Try.func39, Try.ntmps39
  go_wp2_with fail
  go_loop [3, 4] (fun v3 v4 => NumRel2 l v3 v4) (fun _ v4 => (intOf v4 + 1).toNat)
  case atStart => exact H0.out
  case round =>
    obtain ⟨k, hk, rfl, hv3⟩ := hrel
    obtain ⟨m, hm⟩ : ∃ m, num (l.drop k) = m := ⟨_, rfl⟩
    rw [hm] at hv3
    subst hv3
    have HM := Lib.hid hm
    clear hm H0
    cases k with
    | zero =>
      have hneg : ¬ ((0 : Int) ≤ ((0 : Nat) : Int) - 1) := by omega
      have HF : Hid (num l = m) := by show _ = _; rw [← HM.out, List.drop_zero]
      go_wp2
      go_ret
      exact ⟨by rw [HF.out]; rfl, rfl⟩
    | succ k =>
      rw [show (((k + 1 : Nat) : Int) - 1) = (k : Int) by omega]
      have hki : (k : Int) < (l.length : Int) := by omega
      obtain ⟨ad, hA, hc⟩ := HR.out.bt k hk
      subst hA
      obtain ⟨b, hb⟩ : ∃ b, l.getD k 0 = b := ⟨_, rfl⟩
      rw [hb] at hc
      have HBB := Lib.hid hb
      have hnx : num (l.drop k) = b.toNat + 256 * m := by
        rw [List.drop_eq_getElem_cons hk, num, HM.out, ← hb, List.getD_eq_getElem?_getD, List.getElem?_eq_getElem hk]
        rfl
      have hlt : num (l.drop k) < 4294967296 := by
        have := num_lt (l.drop k)
        have h2 : 256 ^ (l.drop k).length ≤ 256 ^ 4 := Nat.pow_le_pow_right (by decide) (by rw [List.length_drop]; omega)
        omega
      rw [hnx] at hlt
      have HNX := Lib.hid hnx
      clear hb hnx
      go_wp2_with fail
      go_round
      case rel => exact ⟨k, by omega, rfl, by rw [HNX.out] <;> (congr 1 <;> omega)⟩
      case measure => simp [intOf] <;> omega
end Go.Proofs.Ytchcnkobgdbdkaa
