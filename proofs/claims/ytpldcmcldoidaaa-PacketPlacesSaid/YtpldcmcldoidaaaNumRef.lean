
/- The walks of the reference's Put and Num: numbers as bytes, the lowest one first. -/
import Derived.Test.YtpldcmcldoidaaaLe
import Derived.Test.YtpldcmcldoidaaaBlk
namespace Go.Proofs.Ytpldcmcldoidaaa
open Go.RowKit
set_option linter.unusedVariables false
set_option linter.unusedSimpArgs false

theorem info_u8l : (Try.prog.info? 5).map (fun i => (i.zero, i.size, i.bytes)) = some (some (.int .u8 0), 1, 1) := by kernel_rfl
/-- A row of bytes, answered. -/
def RowPost (w : World) (l : List UInt8) (e : Ending) (w' : World) : Prop := ∃ A c, e = .returned (.slice A l.length c) ∧ w'.ownsRow w.heap.size 5 1 (.slice A l.length c) l.length (bts l) ∧ Below w.heap.size w w'
theorem bits_u32 (a b : Nat) (ha : a < 4294967296) (hb : b < 4294967296) : Go.bits .or .u32 (a : Int) (b : Int) = ((a ||| b : Nat) : Int) := by
  have ha' : a % 2 ^ IntKind.u32.bits = a := Nat.mod_eq_of_lt ha
  have hb' : b % 2 ^ IntKind.u32.bits = b := Nat.mod_eq_of_lt hb
  have h3 : a ||| b < 2 ^ 32 := Nat.or_lt_two_pow ha hb
  simp only [Go.bits, BitVec.ofInt_natCast, BitVec.toNat_or, BitVec.toNat_ofNat, ha', hb']
  exact IntWalk.u32_in _ (by omega)
theorem num_or (m k : Nat) (b : UInt8) (hk : k < 4) (hm : m < 256 ^ k) : Go.bits .or .u32 (m : Int) ((b.toNat : Int) % 4294967296 * 2 ^ (8 * k) % 4294967296) = ((m + b.toNat * 256 ^ k : Nat) : Int) := by
  have hb := b.toNat_lt
  have e : 256 ^ k = 2 ^ (8 * k) := by rw [Nat.pow_mul]
  have h24 : 2 ^ (8 * k) ≤ 16777216 := by
    rw [show 16777216 = 2 ^ 24 from rfl]
    exact Nat.pow_le_pow_right (by decide) (by omega)
  have h1 : b.toNat * 2 ^ (8 * k) < 4294967296 := by
    have := Nat.mul_le_mul (show b.toNat ≤ 255 by omega) h24
    omega
  rw [e] at hm ⊢
  have h2 : ((b.toNat : Int) % 4294967296 * 2 ^ (8 * k) % 4294967296) = ((b.toNat * 2 ^ (8 * k) : Nat) : Int) := by
    rw [Int.emod_eq_of_lt (show (0 : Int) ≤ b.toNat by omega) (by omega)]
    have : ((b.toNat : Int) * 2 ^ (8 * k)) = ((b.toNat * 2 ^ (8 * k) : Nat) : Int) := by push_cast; rfl
    rw [this, Int.emod_eq_of_lt (by omega) (by omega)]
  rw [h2, bits_u32 m _ (by omega) h1]
  congr 1
  rw [Nat.or_comm, Nat.mul_comm, ← Nat.two_pow_add_eq_or_of_lt hm, Nat.add_comm]
def PutRel (w : World) (x : UInt32) (size : Nat) (v5 v6 : Value) (wr : World) : Prop := ∃ k : Nat, k ≤ size ∧ v6 = .int .i64 k ∧ wr.ownsRow w.heap.size 5 1 v5 k (bts (le x.toNat k)) ∧ Below w.heap.size w wr
set_option maxRecDepth 100000 in
set_option maxHeartbeats 1000000 in
theorem put_calls (x : UInt32) (size : Nat) (w : World) (hs : size ≤ 4) :
    Calls Try.prog 22 #[vu32 x, .int .i64 size] w (RowPost w (le x.toNat size)) := by
  have hx : x.toNat < 4294967296 := x.toNat_lt
  have H0 : Hid (PutRel w x size (.slice none 0 0) (.int .i64 0) w) := ⟨0, Nat.zero_le _, rfl, World.ownsRow_nil w _ _ _, Below.refl _ _⟩
  obtain ⟨X, hX⟩ : ∃ X, x.toNat = X := ⟨_, rfl⟩
  have HX := Lib.hid hX
  rw [show vu32 x = .int .u32 (X : Nat) by rw [← hX]]
  rw [hX] at hx
  clear hX
  go_enter Try.func22, Try.ntmps22
  go_wp2_with fail
  go_loopw [5, 6] (fun v5 v6 wr => PutRel w x size v5 v6 wr) (fun _ v6 _ => size - (intOf v6).toNat)
  case atStart => exact H0.out
  case round =>
    obtain ⟨k, hk, rfl, hown, hb⟩ := hrel
    rw [HX.out] at hown
    have HO := Lib.hid hown
    have HB := Lib.hid hb
    obtain ⟨A, c, rfl, _, _, _⟩ := own_rd hown
    clear hown hb H0
    by_cases hlt : k < size
    · have hki : (k : Int) < (size : Int) := by omega
      have hvb : (Value.int .u8 ((X : Int) / 2 ^ (8 * k) % 256)) = vu8 (UInt8.ofNat (X / 256 ^ k)) := by
        show _ = Value.int .u8 ((UInt8.ofNat (X / 256 ^ k)).toNat : Int)
        rw [UInt8.toNat_ofNat', show 256 ^ k = 2 ^ (8 * k) by rw [Nat.pow_mul]]
        congr 1
        all_goals first | rfl | (push_cast; rfl) | push_cast
      have HVB := Lib.hid hvb
      clear hvb
      go_wp2_with (at_builtin; refine wpList_append_rd rfl (.tmp 12) (.tmp 19) 26 rfl w.heap.size 5 (.int .u8 0) 1 1 Try.underlying26 info_u8l rfl (by decide) (by decide) (.slice A k c) k (bts (le X k)) rfl ?own (some ⟨wr.heap.size, 0, none⟩) 1 1 (bts [UInt8.ofNat (X / 256 ^ k)]) rfl ?len ?rd (one_bts _) ?bytes ?base ?_)
      case own => exact own_chg HO.out ((Chg.refl (S := NoS) wr).alloc _) (fun _ _ => id)
      case len => rfl
      case rd => rw [HVB.out]; exact Rd.new _ _ _
      case bytes => omega
      case base => have := HB.out.size; simp; omega
      intro v1 w1 hown1 hg1 hat1
      rw [← bts_append, ← le_snoc] at hown1
      have HO1 := Lib.hid hown1
      have HB1 : Hid (Below w.heap.size w w1) := (HB.out.alloc HB.out.size _).trans (below_grown hg1 (by have := HB.out.size; simp; omega) (fun q hq => by have := (HO.out.lt _ hq).1; exact this))
      clear hown1 hg1 hat1
      go_wp2_with fail
      go_roundw
      case rel => exact ⟨k + 1, by omega, by go_num, by rw [HX.out]; exact HO1.out, HB1.out⟩
      case measure => simp [intOf]; omega
    · have hke : k = size := by omega
      have hki : ¬ ((k : Int) < (size : Int)) := by omega
      subst hke
      go_wp2
      go_ret
      have hl := le_length k x.toNat
      rw [HX.out] at hl ⊢
      exact ⟨A, c, by rw [hl]; rfl, by rw [hl]; exact HO.out, HB.out⟩
def NumRel2 (l : List UInt8) (v3 v4 : Value) : Prop := ∃ k : Nat, k ≤ l.length ∧ v4 = .int .i64 ((k : Int) - 1) ∧ v3 = .int .u32 (num (l.drop k) : Nat)
set_option maxRecDepth 100000 in
set_option maxHeartbeats 1000000 in
theorem refNum_calls (l : List UInt8) (A : Option Addr) (n c : Nat) (w : World) (hl : l.length = n) (hs : n ≤ 4) (hr : Rd w A (bts l)) :
    Calls Try.prog 27 #[.slice A n c] w fun e w' => e = .returned (.int .u32 (num l : Nat)) ∧ w = w' := by
  subst hl
  have HR := Lib.hid hr
  have H0 : Hid (NumRel2 l (.int .u32 0) (.int .i64 ((l.length : Int) - 1))) := ⟨l.length, Nat.le_refl _, rfl, by rw [List.drop_length]; rfl⟩
  clear hr
  go_enter Try.func27, Try.ntmps27
  go_wp2_with fail
  go_loop [3, 4] (fun v3 v4 => NumRel2 l v3 v4) (fun _ v4 => (intOf v4 + 1).toNat)
  case atStart => exact H0.out
  case round =>
    obtain ⟨k, hk, rfl, hv3⟩ := hrel
    obtain ⟨m, hm⟩ : ∃ m, num (l.drop k) = m := ⟨_, rfl⟩
    rw [hm] at hv3
    subst hv3
    have HM := Lib.hid hm
    clear hm H0
    cases k with
    | zero =>
      have hneg : ¬ ((0 : Int) ≤ ((0 : Nat) : Int) - 1) := by omega
      have HF : Hid (num l = m) := by show _ = _; rw [← HM.out, List.drop_zero]
      go_wp2
      go_ret
      exact ⟨by rw [HF.out]; rfl, rfl⟩
    | succ k =>
      rw [show (((k + 1 : Nat) : Int) - 1) = (k : Int) by omega]
      have hki : (k : Int) < (l.length : Int) := by omega
      obtain ⟨ad, hA, hc⟩ := HR.out.bt k hk
      subst hA
      obtain ⟨b, hb⟩ : ∃ b, l.getD k 0 = b := ⟨_, rfl⟩
      rw [hb] at hc
      have HBB := Lib.hid hb
      have hnx : num (l.drop k) = b.toNat + 256 * m := by
        rw [List.drop_eq_getElem_cons hk, num, HM.out, ← hb, List.getD_eq_getElem?_getD, List.getElem?_eq_getElem hk]
        rfl
      have hlt : num (l.drop k) < 4294967296 := by
        have := num_lt (l.drop k)
        have h2 : 256 ^ (l.drop k).length ≤ 256 ^ 4 := Nat.pow_le_pow_right (by decide) (by rw [List.length_drop]; omega)
        omega
      rw [hnx] at hlt
      have HNX := Lib.hid hnx
      clear hb hnx
      go_wp2_with fail
      go_round
      case rel => exact ⟨k, by omega, rfl, by rw [HNX.out] <;> (congr 1 <;> omega)⟩
      case measure => simp [intOf] <;> omega
end Go.Proofs.Ytpldcmcldoidaaa
