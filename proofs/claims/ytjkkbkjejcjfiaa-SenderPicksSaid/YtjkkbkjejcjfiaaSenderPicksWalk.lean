
/- The walk of SenderPicks. -/
import Derived.Test.YtjkkbkjejcjfiaaWakes24
namespace Go.Proofs.Ytjkkbkjejcjfiaa
open Go.RowKit
set_option linter.unusedVariables false
set_option linter.unusedSimpArgs false

def bt (L j : Nat) : Prop := L / 2 ^ j % 2 = 1
theorem bt_iff (L j : Nat) : L / 2 ^ j % 2 = 1 ↔ L.testBit j = true := by rw [Nat.testBit_eq_decide_div_mod_eq, decide_eq_true_iff]
theorem few_all : (List.range 4096).all (fun L => !(List.range 11).all (fun j => !decide (L / 2 ^ (j + 1) % 2 = 1)) || decide (L < 2)) = true := by decide +kernel
theorem few {L : Nat} (h : L < 4096) (hb : ∀ j, 1 ≤ j → j ≤ 11 → ¬ L / 2 ^ j % 2 = 1) : L < 2 := by
  have h1 := List.all_eq_true.1 few_all L (List.mem_range.2 h)
  have h2 : (List.range 11).all (fun j => !decide (L / 2 ^ (j + 1) % 2 = 1)) = true := by
    rw [List.all_eq_true]
    intro j hj
    have := hb (j + 1) (by omega) (by have := List.mem_range.1 hj; omega)
    rw [decide_eq_false this]
    rfl
  rw [h2] at h1
  simpa using h1
theorem xor_lt {L k : Nat} (h : L < 4096) (hk : k < 12) : L ^^^ 2 ^ k < 4096 := by
  have h2 : 2 ^ k < 2 ^ 12 := Nat.pow_lt_pow_right (by decide) hk
  exact Nat.xor_lt_two_pow (n := 12) h h2
theorem xor_bit {L k j : Nat} : (L ^^^ 2 ^ k) / 2 ^ j % 2 = 1 ↔ ((L / 2 ^ j % 2 = 1) ↔ ¬ k = j) := by
  rw [bt_iff, bt_iff, Nat.testBit_xor, Nat.testBit_two_pow]
  cases L.testBit j <;> by_cases h : k = j <;> simp [h]
theorem bits_xorw (m q : Nat) (hm : m < 4096) (hq : q < 12) : Go.bits .xor .u16 (m : Int) (IntKind.u16.wrap ((2 : Int) ^ q)) = ((m ^^^ 2 ^ q : Nat) : Int) := by
  have h2 : ((2 : Int) ^ q) = ((2 ^ q : Nat) : Int) := by push_cast; rfl
  have h3 : 2 ^ q ≤ 2 ^ 11 := Nat.pow_le_pow_right (by decide) (by omega)
  rw [h2]
  generalize 2 ^ q = z at h3
  rw [IntWalk.u16_in _ (by omega)]
  exact (bits_u16 m z (by omega) (by omega)).1
def SpRel (w : World) (v3 v4 v5 : Value) (wr : World) : Prop := ∃ i r L : Nat, v5 = .int .i64 i ∧ v4 = .int .i64 r ∧ v3 = .int .u16 L ∧ wr = w ∧ ((L < 4096 ∧ i ≤ r ∧ r ≤ 11 ∧ ∀ j, 1 ≤ j → j ≤ r → ¬ L / 2 ^ j % 2 = 1) ∨ (L = 0 ∧ r = 0 ∧ i ≤ 12))
set_option maxRecDepth 100000 in
set_option maxHeartbeats 8000000 in
theorem senderPicks_calls (D : Nat) (hD : D < 65536) (w : World) : Calls Try.prog 8 #[.int .u16 D] w fun e w' => e = .returned (.bool true) ∧ Below w.heap.size w w' := by
  obtain ⟨L0, hL0⟩ : ∃ L0, D % 4096 = L0 := ⟨_, rfl⟩
  have hL4 : L0 < 4096 := by omega
  have hmod : (D : Int) % 4096 = (L0 : Int) := by omega
  go_enter Try.func8, Try.ntmps8
  go_wp2_with fail
  go_loopw [3, 4, 5] (fun v3 v4 v5 wr => SpRel w v3 v4 v5 wr) (fun _ _ v5 _ => 13 - (intOf v5).toNat)
  case atStart => exact ⟨0, 0, L0, rfl, rfl, by rw [hmod], rfl, .inl ⟨hL4, Nat.le_refl _, by decide, fun j h1 h2 => by omega⟩⟩
  case round =>
    obtain ⟨i, r, L, rfl, rfl, rfl, rfl, hst⟩ := hrel
    have hi12 : i ≤ 12 := by rcases hst with h | h <;> omega
    have hL40 : L < 4096 := by rcases hst with h | h <;> omega
    have hii : (i : Int) < 13 := by omega
    have HST := Lib.hid hst
    clear hst hmod hL4 hL0 hD
    go_wp2_with fail
    refine (pick_calls L (by omega) wr).mono ?_
    rintro en w' ⟨⟨k, b, rfl, hpr⟩, rfl⟩
    have HPR := Lib.hid hpr
    clear hpr
    rcases HPR.out with ⟨k1, k11, kb, kf, rfl⟩ | ⟨rfl, kf, hb⟩
    · rcases HST.out with ⟨_, hir, hr11, hcl⟩ | ⟨rfl, _, _⟩
      · have hkr : r < k := Nat.lt_of_not_le fun h => hcl k k1 h kb
        have n1 : ¬ ((k : Int) < 0) := by omega
        have n2 : ¬ ((12 : Int) ≤ (k : Int)) := by omega
        have n3 : ((k : Int) == 0) = false := by rw [beq_eq_false_iff_ne]; omega
        have n3' : ((k : Int) != 0) = true := by rw [bne_iff_ne]; omega
        have n4 : ¬ ((k : Int) ≤ (r : Int)) := by omega
        have n5 : (0 : Int) ≤ (k : Int) := by omega
        have hbit := bit16 L k (by omega)
        rw [kb] at hbit
        have hxor := bits_xorw L k hL40 (by omega)
        have HXL := Lib.hid (xor_lt hL40 (show k < 12 by omega))
        have HXB : Hid (∀ j, 1 ≤ j → j ≤ k → ¬ (L ^^^ 2 ^ k) / 2 ^ j % 2 = 1) := fun j h1 h2 hx => by
          rw [xor_bit] at hx
          by_cases hjk : k = j
          · subst hjk
            exact hx.1 kb rfl
          · exact kf j h1 (by omega) (hx.2 hjk)
        obtain ⟨L2, hL2⟩ : ∃ L2, L ^^^ 2 ^ k = L2 := ⟨_, rfl⟩
        rw [hL2] at hxor HXL HXB
        clear hL2 kb kf hcl
        go_wp2_with fail
        go_roundw
        case rel => exact ⟨i + 1, k, L2, by go_num, rfl, rfl, rfl, .inl ⟨HXL.out, by omega, k11, HXB.out⟩⟩
        case measure => simp [intOf]; omega
      · rw [Nat.zero_div] at kb
        cases kb
    · have hL2 := few hL40 kf
      have h01 : L = 0 ∨ L = 1 := by omega
      rcases h01 with rfl | rfl
      · obtain rfl : b = false := by rw [hb]; rfl
        clear hb kf
        go_wp2_with fail
        refine (wakes24_calls wr).mono ?_
        rintro en wz ⟨rfl, hb⟩
        have EZ : Hid (Below wr.heap.size wr wz) := hb
        clear hb
        go_wp2_with fail
        (try simp only [Exit.inBlock, Exit.then])
        go_ret
        exact ⟨rfl, EZ.out⟩
      · obtain rfl : b = true := by rw [hb]; rfl
        have hi11 : i ≤ 11 := by rcases HST.out with h | h <;> omega
        have hb1 : Go.bits .and .u16 1 1 = 1 := by decide +kernel
        have hb2 : Go.bits .xor .u16 1 1 = 0 := by decide +kernel
        clear hb kf
        go_wp2_with fail
        go_roundw
        case rel => exact ⟨i + 1, 0, 0, by go_num, rfl, rfl, rfl, .inr ⟨rfl, rfl, by omega⟩⟩
        case measure => simp [intOf]; omega
end Go.Proofs.Ytjkkbkjejcjfiaa
