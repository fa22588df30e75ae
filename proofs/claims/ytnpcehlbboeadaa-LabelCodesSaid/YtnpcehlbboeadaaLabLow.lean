/- The walks of label.low and number. -/
import Derived.Test.YtnpcehlbboeadaaLabPure
namespace Go.Proofs.Ytnpcehlbboeadaa
open Go.RowKit
set_option linter.unusedVariables false
set_option linter.unusedSimpArgs false

theorem info_u8l : (Try.prog.info? 5).map (fun i => (i.zero, i.size, i.bytes)) = some (some (.int .u8 0), 1, 1) := by kernel_rfl
/-- A row of bytes, answered. -/
def RowPost (w : World) (l : List UInt8) (e : Ending) (w' : World) : Prop := ∃ A c, e = .returned (.slice A l.length c) ∧ w'.ownsRow w.heap.size 5 1 (.slice A l.length c) l.length (bts l) ∧ Below w.heap.size w w'
def LowRel (w : World) (x : UInt32) (size : Nat) (v0 v5 v7 : Value) (wr : World) : Prop := ∃ k : Nat, k ≤ size ∧ v7 = .int .i64 k ∧ v0 = .int .u32 (x.toNat / 256 ^ k : Nat) ∧ wr.ownsRow w.heap.size 5 1 v5 k (bts (le x.toNat k)) ∧ Below w.heap.size w wr
set_option maxRecDepth 100000 in
set_option maxHeartbeats 1000000 in
theorem low_calls (x : UInt32) (size : Nat) (w : World) (hs : size ≤ 4) :
    Calls Try.prog 55 #[vu32 x, .int .i64 size] w (RowPost w (le x.toNat size)) := by
  have hx : x.toNat < 4294967296 := x.toNat_lt
  have H0 : Hid (LowRel w x size (vu32 x) (.slice none 0 0) (.int .i64 0) w) := ⟨0, Nat.zero_le _, rfl, by simp [vu32], World.ownsRow_nil w _ _ _, Below.refl _ _⟩
  generalize hv : vu32 x = vx at H0
  go_enter Try.func55, Try.ntmps55
  go_wp2_with fail
  go_loopw [0, 5, 7] (fun v0 v5 v7 wr => LowRel w x size v0 v5 v7 wr) (fun _ _ v7 _ => size - (intOf v7).toNat)
  case atStart => exact H0.out
  case round =>
    obtain ⟨k, hk, rfl, hv0, hown, hb⟩ := hrel
    obtain ⟨m, hm⟩ : ∃ m, x.toNat / 256 ^ k = m := ⟨_, rfl⟩
    rw [hm] at hv0
    subst hv0
    have HM := Lib.hid hm
    have hm32 : m < 4294967296 := by rw [← hm]; exact Nat.lt_of_le_of_lt (Nat.div_le_self _ _) hx
    clear hm
    have HO := Lib.hid hown
    have HB := Lib.hid hb
    obtain ⟨A, c, rfl, _, _, _⟩ := own_rd hown
    clear hown hb H0
    by_cases hlt : k < size
    · have hki : (k : Int) < (size : Int) := by omega
      have hvb : (Value.int .u8 ((m : Int) % 256)) = vu8 (UInt8.ofNat m) := by
        show _ = Value.int .u8 ((UInt8.ofNat m).toNat : Int)
        rw [UInt8.toNat_ofNat']
        rfl
      have HVB := Lib.hid hvb
      clear hvb
      go_wp2_with (at_builtin; refine wpList_append_rd rfl (.tmp 9) (.tmp 12) 32 rfl w.heap.size 5 (.int .u8 0) 1 1 Try.underlying32 info_u8l rfl (by decide) (by decide) (.slice A k c) k (bts (le x.toNat k)) rfl ?own (some ⟨wr.heap.size, 0, none⟩) 1 1 (bts [UInt8.ofNat m]) rfl ?len ?rd (one_bts _) ?bytes ?base ?_)
      case own => exact own_chg HO.out ((Chg.refl (S := NoS) wr).alloc _) (fun _ _ => id)
      case len => rfl
      case rd => rw [HVB.out]; exact Rd.new _ _ _
      case bytes => omega
      case base => have := HB.out.size; simp; omega
      intro v1 w1 hown1 hg1 hat1
      rw [← bts_append, ← HM.out, ← le_snoc] at hown1
      have HO1 := Lib.hid hown1
      have HB1 : Hid (Below w.heap.size w w1) := (HB.out.alloc HB.out.size _).trans (below_grown hg1 (by have := HB.out.size; simp; omega) (fun q hq => by have := (HO.out.lt _ hq).1; exact this))
      clear hown1 hg1 hat1
      have hdiv : m / 256 = x.toNat / 256 ^ (k + 1) := by rw [← HM.out, Nat.div_div_eq_div_mul, Nat.pow_succ]
      go_wp2_with fail
      go_roundw
      case rel => exact ⟨k + 1, by omega, by go_num, by rw [← hdiv]; rfl, HO1.out, HB1.out⟩
      case measure => simp [intOf]; omega
    · have hke : k = size := by omega
      have hki : ¬ ((k : Int) < (size : Int)) := by omega
      subst hke
      go_wp2
      go_ret
      have hl := le_length k x.toNat
      exact ⟨A, c, by rw [hl]; rfl, by rw [hl]; exact HO.out, HB.out⟩

theorem bits_u32 (a b : Nat) (ha : a < 4294967296) (hb : b < 4294967296) : Go.bits .or .u32 (a : Int) (b : Int) = ((a ||| b : Nat) : Int) := by
  have ha' : a % 2 ^ IntKind.u32.bits = a := Nat.mod_eq_of_lt ha
  have hb' : b % 2 ^ IntKind.u32.bits = b := Nat.mod_eq_of_lt hb
  have h3 : a ||| b < 2 ^ 32 := Nat.or_lt_two_pow ha hb
  simp only [Go.bits, BitVec.ofInt_natCast, BitVec.toNat_or, BitVec.toNat_ofNat, ha', hb']
  exact IntWalk.u32_in _ (by omega)
theorem num_or (m k : Nat) (b : UInt8) (hk : k < 4) (hm : m < 256 ^ k) : Go.bits .or .u32 (m : Int) ((b.toNat : Int) % 4294967296 * 2 ^ (8 * k) % 4294967296) = ((m + b.toNat * 256 ^ k : Nat) : Int) := by
  have hb := b.toNat_lt
  have e : 256 ^ k = 2 ^ (8 * k) := by rw [Nat.pow_mul]
  have h24 : 2 ^ (8 * k) ≤ 16777216 := by
    rw [show 16777216 = 2 ^ 24 from rfl]
    exact Nat.pow_le_pow_right (by decide) (by omega)
  have h1 : b.toNat * 2 ^ (8 * k) < 4294967296 := by
    have := Nat.mul_le_mul (show b.toNat ≤ 255 by omega) h24
    omega
  rw [e] at hm ⊢
  have h2 : ((b.toNat : Int) % 4294967296 * 2 ^ (8 * k) % 4294967296) = ((b.toNat * 2 ^ (8 * k) : Nat) : Int) := by
    rw [Int.emod_eq_of_lt (show (0 : Int) ≤ b.toNat by omega) (by omega)]
    have : ((b.toNat : Int) * 2 ^ (8 * k)) = ((b.toNat * 2 ^ (8 * k) : Nat) : Int) := by push_cast; rfl
    rw [this, Int.emod_eq_of_lt (by omega) (by omega)]
  rw [h2, bits_u32 m _ (by omega) h1]
  congr 1
  rw [Nat.or_comm, Nat.mul_comm, ← Nat.two_pow_add_eq_or_of_lt hm, Nat.add_comm]
def NumRel (l : List UInt8) (v3 v8 : Value) : Prop := ∃ k : Nat, k ≤ l.length ∧ v8 = .int .i64 k ∧ v3 = .int .u32 (num (l.take k) : Nat)
set_option maxRecDepth 100000 in
set_option maxHeartbeats 1000000 in
theorem number_calls (l : List UInt8) (A : Option Addr) (n c : Nat) (w : World) (hl : l.length = n) (hs : n ≤ 4) (hr : Rd w A (bts l)) :
    Calls Try.prog 46 #[.slice A n c] w fun e w' => e = .returned (.int .u32 (num l : Nat)) ∧ w = w' := by
  subst hl
  have HR := Lib.hid hr
  have H0 : Hid (NumRel l (.int .u32 0) (.int .i64 0)) := ⟨0, Nat.zero_le _, rfl, rfl⟩
  clear hr
  go_enter Try.func46, Try.ntmps46
  go_wp2_with fail
  go_loop [3, 8] (fun v3 v8 => NumRel l v3 v8) (fun _ v8 => l.length - (intOf v8).toNat)
  case atStart => exact H0.out
  case round =>
    obtain ⟨k, hk, rfl, hv3⟩ := hrel
    obtain ⟨m, hm⟩ : ∃ m, num (l.take k) = m := ⟨_, rfl⟩
    rw [hm] at hv3
    subst hv3
    have HM := Lib.hid hm
    clear hm H0
    by_cases hlt : k < l.length
    · have hki : (k : Int) < (l.length : Int) := by omega
      obtain ⟨ad, hA, hc⟩ := HR.out.bt k hlt
      subst hA
      obtain ⟨b, hb⟩ : ∃ b, l.getD k 0 = b := ⟨_, rfl⟩
      rw [hb] at hc
      have HB := Lib.hid hb
      have hor := num_or m k b (by omega) (by rw [← HM.out]; have := num_lt (l.take k); rwa [List.length_take, Nat.min_eq_left hk] at this)
      have hnx : num (l.take (k + 1)) = m + b.toNat * 256 ^ k := by
        rw [List.take_succ_eq_append_getElem hlt, num_snoc, HM.out, List.length_take, Nat.min_eq_left hk, ← hb, List.getD_eq_getElem?_getD, List.getElem?_eq_getElem hlt]
        rfl
      have HNX := Lib.hid hnx
      clear hb hnx
      go_wp2_with fail
      go_round
      case rel => exact ⟨k + 1, by omega, by go_num, by rw [HNX.out]; first | rfl | (push_cast; rfl) | (simp; rfl)⟩
      case measure => simp [intOf]; omega
    · have hke : k = l.length := by omega
      have hki : ¬ ((k : Int) < (l.length : Int)) := by omega
      have HF : Hid (num l = m) := by show _ = _; rw [← HM.out, hke, List.take_length]
      go_wp2
      go_ret
      exact ⟨by rw [HF.out]; rfl, rfl⟩
end Go.Proofs.Ytnpcehlbboeadaa
