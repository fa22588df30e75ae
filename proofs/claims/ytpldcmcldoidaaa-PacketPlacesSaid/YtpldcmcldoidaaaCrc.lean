
/- The check of bytes as a plain function of lists, and its laws: it goes on from a check, it is linear, no two neighboring bytes turn unseen. -/
import Derived.Test.YtpldcmcldoidaaaBase
namespace Go.Proofs.Ytpldcmcldoidaaa
set_option linter.unusedVariables false
set_option linter.unusedSimpArgs false

def crcBit (c : UInt16) : UInt16 := (c >>> 1) ^^^ (0x8408 * (c &&& 1))
def bitN : Nat → UInt16 → UInt16
  | 0, c => c
  | k+1, c => crcBit (bitN k c)
def crcByte (c : UInt16) (x : UInt8) : UInt16 := bitN 8 (c ^^^ x.toUInt16)
def crcMore (c : UInt16) (l : List UInt8) : UInt16 := l.foldl crcByte c
def crcCheck (l : List UInt8) : UInt16 := ~~~ (crcMore 0xffff l)

theorem crcMore_append (c : UInt16) (a b : List UInt8) : crcMore c (a ++ b) = crcMore (crcMore c a) b := by simp [crcMore]
theorem crcMore_cons (c : UInt16) (x : UInt8) (b : List UInt8) : crcMore c (x :: b) = crcMore (crcByte c x) b := by simp [crcMore]
theorem crcMore_nil (c : UInt16) : crcMore c [] = c := rfl
theorem crcMore_take (c : UInt16) (l : List UInt8) (k : Nat) (h : k < l.length) : crcMore c (l.take (k+1)) = crcByte (crcMore c (l.take k)) (l.getD k 0) := by
  rw [crcMore, List.take_succ_eq_append_getElem h, List.foldl_append]; simp [crcMore, List.getElem?_eq_getElem h]

theorem and_one_cases (a : UInt16) : a &&& 1 = 0 ∨ a &&& 1 = 1 := by
  have h : (a &&& 1).toNat = a.toNat % 2 := by rw [UInt16.toNat_and]; simp
  rcases Nat.mod_two_eq_zero_or_one a.toNat with h0 | h0
  · left; apply UInt16.toNat_inj.1; rw [h, h0]; rfl
  · right; apply UInt16.toNat_inj.1; rw [h, h0]; rfl
theorem shr_xor (a b : UInt16) : (a ^^^ b) >>> 1 = (a >>> 1) ^^^ (b >>> 1) := by
  apply UInt16.toNat_inj.1
  rw [UInt16.toNat_xor, UInt16.toNat_shiftRight, UInt16.toNat_shiftRight, UInt16.toNat_shiftRight, UInt16.toNat_xor, Nat.shiftRight_xor_distrib]
theorem and_xor (a b : UInt16) : (a ^^^ b) &&& 1 = (a &&& 1) ^^^ (b &&& 1) := by
  apply UInt16.toNat_inj.1
  simp only [UInt16.toNat_xor, UInt16.toNat_and, Nat.and_xor_distrib_right]
theorem mul_xor (a b : UInt16) : 0x8408 * ((a ^^^ b) &&& 1) = (0x8408 * (a &&& 1)) ^^^ (0x8408 * (b &&& 1)) := by
  rw [and_xor]
  rcases and_one_cases a with ha | ha <;> rcases and_one_cases b with hb | hb <;> rw [ha, hb] <;> decide
theorem crcBit_xor (a b : UInt16) : crcBit (a ^^^ b) = crcBit a ^^^ crcBit b := by
  unfold crcBit
  rw [shr_xor, mul_xor]
  ac_rfl
theorem bitN_xor (k : Nat) (a b : UInt16) : bitN k (a ^^^ b) = bitN k a ^^^ bitN k b := by
  induction k with
  | zero => rfl
  | succ k ih => simp only [bitN, ih, crcBit_xor]
theorem u8to16_xor (a b : UInt8) : (a ^^^ b).toUInt16 = a.toUInt16 ^^^ b.toUInt16 := by
  apply UInt16.toNat_inj.1
  simp
theorem xor_self0 (a : UInt16) : a ^^^ a = 0 := by simp
theorem xor_eq_zero {a b : UInt16} (h : a ^^^ b = 0) : a = b := by
  have : (a ^^^ b) ^^^ b = 0 ^^^ b := by rw [h]
  rwa [UInt16.xor_assoc, xor_self0, UInt16.xor_zero, UInt16.zero_xor] at this

/-- The turn of one bit has no kernel. -/
theorem crcBit_zero {a : UInt16} (h : crcBit a = 0) : a = 0 := by
  unfold crcBit at h
  have h1 := xor_eq_zero h
  have h2 : (a >>> 1).toNat = (0x8408 * (a &&& 1)).toNat := by rw [h1]
  rw [UInt16.toNat_shiftRight] at h2
  have hlt := a.toNat_lt
  have hm : (a &&& 1).toNat = a.toNat % 2 := by rw [UInt16.toNat_and]; simp
  rcases and_one_cases a with h0 | h0
  · rw [h0] at h2 hm
    apply UInt16.toNat_inj.1
    simp [Nat.shiftRight_eq_div_pow] at h2 hm ⊢
    omega
  · rw [h0] at h2
    simp [Nat.shiftRight_eq_div_pow] at h2
    omega
theorem bitN_zero (k : Nat) {a : UInt16} (h : bitN k a = 0) : a = 0 := by
  induction k with
  | zero => exact h
  | succ k ih => exact ih (crcBit_zero h)
theorem bitN_inj (k : Nat) {a b : UInt16} (h : bitN k a = bitN k b) : a = b := by
  apply xor_eq_zero
  apply bitN_zero k
  rw [bitN_xor, h, xor_self0]
theorem bitN_0 (k : Nat) : bitN k 0 = 0 := by
  induction k with
  | zero => rfl
  | succ k ih => rw [bitN, ih]; rfl
theorem crcByte_inj {a b : UInt16} {x : UInt8} (h : crcByte a x = crcByte b x) : a = b := by
  have := bitN_inj 8 h
  have h2 : (a ^^^ x.toUInt16) ^^^ x.toUInt16 = (b ^^^ x.toUInt16) ^^^ x.toUInt16 := by rw [this]
  rwa [UInt16.xor_assoc, UInt16.xor_assoc, xor_self0, UInt16.xor_zero, UInt16.xor_zero] at h2
theorem crcMore_inj {l : List UInt8} : ∀ {a b : UInt16}, crcMore a l = crcMore b l → a = b := by
  induction l with
  | nil => intro a b h; exact h
  | cons x l ih => intro a b h; exact crcByte_inj (ih (by rwa [crcMore_cons, crcMore_cons] at h))

/-- A byte stands eight bits up till the eight turns are over. -/
theorem bitN_high (y : UInt8) : bitN 8 (y.toUInt16 <<< 8) = y.toUInt16 := by
  have key : ∀ n, n < 256 → bitN 8 ((UInt8.ofNat n).toUInt16 <<< 8) = (UInt8.ofNat n).toUInt16 := by decide +kernel
  have := key y.toNat y.toNat_lt
  rwa [UInt8.ofNat_toNat] at this
theorem crcMore_two (c : UInt16) (x y : UInt8) : crcMore c [x, y] = bitN 8 (bitN 8 (c ^^^ x.toUInt16 ^^^ (y.toUInt16 <<< 8))) := by
  show bitN 8 (bitN 8 (c ^^^ x.toUInt16) ^^^ y.toUInt16) = _
  rw [bitN_xor 8 (c ^^^ x.toUInt16), bitN_high]
theorem two_zero {u v : UInt8} (h : u.toUInt16 ^^^ (v.toUInt16 <<< 8) = 0) : u = 0 ∧ v = 0 := by
  have h1 := congrArg UInt16.toNat (xor_eq_zero h)
  rw [UInt16.toNat_shiftLeft] at h1
  have hu := u.toNat_lt
  have hv := v.toNat_lt
  simp [Nat.shiftLeft_eq] at h1
  constructor
  · apply UInt8.toNat_inj.1; simp; omega
  · apply UInt8.toNat_inj.1; simp; omega
theorem xor8_eq_zero {a b : UInt8} (h : a ^^^ b = 0) : a = b := by
  have : (a ^^^ b) ^^^ b = 0 ^^^ b := by rw [h]
  rwa [UInt8.xor_assoc, UInt8.xor_self, UInt8.xor_zero, UInt8.zero_xor] at this
theorem crcMore_two_inj {c : UInt16} {x y x' y' : UInt8} (h : crcMore c [x, y] = crcMore c [x', y']) : x = x' ∧ y = y' := by
  rw [crcMore_two, crcMore_two] at h
  have h1 := bitN_inj 8 (bitN_inj 8 h)
  have h2 : (x ^^^ x').toUInt16 ^^^ ((y ^^^ y').toUInt16 <<< 8) = 0 := by
    have h3 : (c ^^^ x.toUInt16 ^^^ (y.toUInt16 <<< 8)) ^^^ (c ^^^ x'.toUInt16 ^^^ (y'.toUInt16 <<< 8)) = 0 := by rw [h1, xor_self0]
    have h4 : ((y ^^^ y').toUInt16 <<< 8) = (y.toUInt16 <<< 8) ^^^ (y'.toUInt16 <<< 8) := by
      apply UInt16.toNat_inj.1
      rw [u8to16_xor, UInt16.toNat_xor, UInt16.toNat_shiftLeft, UInt16.toNat_shiftLeft, UInt16.toNat_shiftLeft, UInt16.toNat_xor]
      simp only [UInt16.reduceToNat, Nat.reduceMod, Nat.shiftLeft_xor_distrib, Nat.xor_mod_two_pow]
    rw [u8to16_xor, h4, ← h3]
    have h5 : c ^^^ x.toUInt16 ^^^ (y.toUInt16 <<< 8) ^^^ (c ^^^ x'.toUInt16 ^^^ (y'.toUInt16 <<< 8)) = (c ^^^ c) ^^^ (x.toUInt16 ^^^ x'.toUInt16 ^^^ ((y.toUInt16 <<< 8) ^^^ (y'.toUInt16 <<< 8))) := by ac_rfl
    rw [h5, xor_self0, UInt16.zero_xor]
  obtain ⟨h6, h7⟩ := two_zero h2
  exact ⟨xor8_eq_zero h6, xor8_eq_zero h7⟩
/-- Two rows that part in two neighboring bytes at most have one check just if they are one. -/
theorem crcMore_turn (c : UInt16) (a b : List UInt8) (x y x' y' : UInt8) :
    crcMore c (a ++ x :: y :: b) = crcMore c (a ++ x' :: y' :: b) ↔ x = x' ∧ y = y' := by
  constructor
  · intro h
    rw [show a ++ x :: y :: b = (a ++ [x, y]) ++ b by simp, show a ++ x' :: y' :: b = (a ++ [x', y']) ++ b by simp, crcMore_append, crcMore_append _ (a ++ [x', y'])] at h
    have := crcMore_inj h
    rw [crcMore_append, crcMore_append] at this
    exact crcMore_two_inj this
  · rintro ⟨rfl, rfl⟩; rfl
theorem not_eq_xor (x : UInt16) : ~~~ x = x ^^^ 0xffff := by
  apply UInt16.toBitVec_inj.1
  rw [UInt16.toBitVec_not, UInt16.toBitVec_xor]
  exact (BitVec.xor_allOnes (x := x.toBitVec)).symm
theorem not_inj {a b : UInt16} (h : ~~~ a = ~~~ b) : a = b := by
  have := congrArg (~~~ ·) h
  simpa using this
theorem crcCheck_turn (a b : List UInt8) (x y x' y' : UInt8) :
    crcCheck (a ++ x :: y :: b) = crcCheck (a ++ x' :: y' :: b) ↔ x = x' ∧ y = y' := by
  rw [← crcMore_turn 0xffff a b]
  exact ⟨not_inj, fun h => by rw [crcCheck, crcCheck, h]⟩
theorem split_two (l : List UInt8) (k : Nat) (hk : k + 1 < l.length) : l = l.take k ++ l.getD k 0 :: l.getD (k+1) 0 :: l.drop (k+2) := by
  conv => lhs; rw [← List.take_append_drop k l]
  rw [List.drop_eq_getElem_cons (by omega), List.drop_eq_getElem_cons (by omega)]
  simp [List.getElem?_eq_getElem hk, List.getElem?_eq_getElem (show k < l.length by omega)]
theorem set_two (l : List UInt8) (k : Nat) (hk : k + 1 < l.length) (u v : UInt8) : (l.set k u).set (k+1) v = l.take k ++ u :: v :: l.drop (k+2) := by
  apply List.ext_getElem?
  intro i
  by_cases h1 : i < k
  · rw [List.getElem?_set_ne (by omega), List.getElem?_set_ne (by omega), List.getElem?_append_left (by rw [List.length_take]; omega), List.getElem?_take, if_pos h1]
  · by_cases h2 : i = k
    · subst h2
      rw [List.getElem?_set_ne (by omega), List.getElem?_set_self (by omega), List.getElem?_append_right (by rw [List.length_take]; omega)]
      simp [List.length_take, Nat.min_eq_left (show i ≤ l.length by omega)]
    · by_cases h3 : i = k + 1
      · subst h3
        rw [List.getElem?_set_self (by rw [List.length_set]; omega), List.getElem?_append_right (by rw [List.length_take]; omega)]
        simp [List.length_take, Nat.min_eq_left (show k ≤ l.length by omega)]
      · rw [List.getElem?_set_ne (by omega), List.getElem?_set_ne (by omega), List.getElem?_append_right (by rw [List.length_take]; omega), List.length_take, Nat.min_eq_left (by omega)]
        obtain ⟨j, rfl⟩ : ∃ j, i = k + 2 + j := ⟨i - (k + 2), by omega⟩
        rw [show k + 2 + j - k = j + 1 + 1 by omega, List.getElem?_cons_succ, List.getElem?_cons_succ, List.getElem?_drop]
theorem xor_zero_iff (a b : UInt8) : a ^^^ b = a ↔ b = 0 := by
  constructor
  · intro h
    have h2 : a ^^^ (a ^^^ b) = a ^^^ a := by rw [h]
    rwa [← UInt8.xor_assoc, UInt8.xor_self, UInt8.zero_xor] at h2
  · rintro rfl; exact UInt8.xor_zero
/-- Two neighboring bytes that are turned. -/
theorem crcCheck_turned (l : List UInt8) (k : Nat) (hk : k + 1 < l.length) (x y : UInt8) :
    crcCheck ((l.set k (l.getD k 0 ^^^ x)).set (k+1) (l.getD (k+1) 0 ^^^ y)) = crcCheck l ↔ x = 0 ∧ y = 0 := by
  rw [set_two l k hk]
  conv => lhs; rhs; rw [split_two l k hk]
  rw [crcCheck_turn, xor_zero_iff, xor_zero_iff]
/-- What is left behind bytes and their check. -/
theorem crcMore_rest (s : UInt16) : crcMore s [(~~~ s).toUInt8, ((~~~ s) >>> 8).toUInt8] = 0xf0b8 := by
  rw [crcMore_two]
  have h : s ^^^ (~~~ s).toUInt8.toUInt16 ^^^ (((~~~ s) >>> 8).toUInt8.toUInt16 <<< 8) = 0xffff := by
    have h1 : (~~~ s).toUInt8.toUInt16 ^^^ (((~~~ s) >>> 8).toUInt8.toUInt16 <<< 8) = ~~~ s := by
      generalize ~~~ s = t
      apply UInt16.toNat_inj.1
      have hl : (t.toUInt8.toUInt16).toNat = t.toNat % 256 := by simp
      have hh : ((t >>> 8).toUInt8.toUInt16 <<< 8).toNat = (t.toNat / 256) * 256 := by
        rw [UInt16.toNat_shiftLeft]
        have := t.toNat_lt
        simp [Nat.shiftRight_eq_div_pow, Nat.shiftLeft_eq]
        omega
      rw [UInt16.toNat_xor, hl, hh]
      have hx := Nat.two_pow_add_eq_or_of_lt (i := 8) (b := t.toNat % 256) (Nat.mod_lt _ (by decide)) (t.toNat / 256)
      have hd : (t.toNat % 256) ^^^ (t.toNat / 256 * 256) = 256 * (t.toNat / 256) + t.toNat % 256 := by
        rw [Nat.mul_comm (t.toNat / 256), show (256 : Nat) = 2 ^ 8 from rfl, hx]
        apply Nat.eq_of_testBit_eq
        intro i
        rw [Nat.testBit_xor, Nat.testBit_or]
        by_cases hi : i < 8
        · have : (2 ^ 8 * (t.toNat / 2 ^ 8)).testBit i = false := by
            rw [Nat.testBit_two_pow_mul]; simp; omega
          simp [this]
        · have : (t.toNat % 2 ^ 8).testBit i = false := by
            rw [Nat.testBit_mod_two_pow]; simp; omega
          simp [this]
      rw [hd]
      omega
    rw [UInt16.xor_assoc, h1, not_eq_xor, ← UInt16.xor_assoc, xor_self0, UInt16.zero_xor]
  rw [h]
  decide +kernel
theorem crcMore_rest_inj {s : UInt16} {x y : UInt8} (h : crcMore s [x, y] = 0xf0b8) : x = (~~~ s).toUInt8 ∧ y = ((~~~ s) >>> 8).toUInt8 :=
  crcMore_two_inj (h.trans (crcMore_rest s).symm)

/-- Three rows turned by each other. -/
def xor3 : List UInt8 → List UInt8 → List UInt8 → List UInt8
  | a :: us, b :: bs, c :: cs => (a ^^^ b ^^^ c) :: xor3 us bs cs
  | _, _, _ => []
theorem crcMore_xor3 : ∀ (a b c : List UInt8) (s t u : UInt16), a.length = b.length → a.length = c.length →
    crcMore s a ^^^ crcMore t b ^^^ crcMore u c = crcMore (s ^^^ t ^^^ u) (xor3 a b c)
  | [], [], [], _, _, _, _, _ => rfl
  | x :: a, y :: b, z :: c, s, t, u, h1, h2 => by
    rw [crcMore_cons, crcMore_cons, crcMore_cons, crcMore_xor3 a b c _ _ _ (by simpa using h1) (by simpa using h2), xor3, crcMore_cons]
    congr 1
    unfold crcByte
    rw [← bitN_xor, ← bitN_xor, u8to16_xor, u8to16_xor]
    congr 1
    ac_rfl
theorem crcCheck_xor3 (a b c : List UInt8) (h1 : a.length = b.length) (h2 : a.length = c.length) :
    crcCheck a ^^^ crcCheck b ^^^ crcCheck c = crcCheck (xor3 a b c) := by
  unfold crcCheck
  have h := crcMore_xor3 a b c 0xffff 0xffff 0xffff h1 h2
  rw [show (0xffff : UInt16) ^^^ 0xffff ^^^ 0xffff = 0xffff by decide] at h
  rw [← h]
  simp only [not_eq_xor]
  generalize crcMore 65535 a = p, crcMore 65535 b = q, crcMore 65535 c = r
  have : p ^^^ 65535 ^^^ (q ^^^ 65535) ^^^ (r ^^^ 65535) = (p ^^^ q ^^^ r) ^^^ (65535 ^^^ 65535 ^^^ 65535) := by ac_rfl
  rw [this]
  rfl
end Go.Proofs.Ytpldcmcldoidaaa
