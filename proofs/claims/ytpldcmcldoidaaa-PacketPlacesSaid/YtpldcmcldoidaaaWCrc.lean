
/- The walks of the check: what the program's and the reference's functions compute. -/
import Derived.Test.YtpldcmcldoidaaaProg
import Derived.Test.YtpldcmcldoidaaaCrc
namespace Go.Proofs.Ytpldcmcldoidaaa
open Go.RowKit
set_option linter.unusedVariables false
set_option linter.unusedSimpArgs false

theorem xor16_8 (s : UInt16) (x : UInt8) : Go.bits .xor .u16 (s.toNat : Int) (IntKind.u16.wrap (x.toNat : Int)) = ((s ^^^ x.toUInt16).toNat : Int) := by
  rw [wrap16_u8, bits_xor16]
theorem bit_one (c : UInt16) : Go.bits .xor .u16 ((c.toNat : Int) / (2 : Int)) (IntKind.u16.wrap ((33800 : Int) * Go.bits .and .u16 (c.toNat : Int) 1)) = ((crcBit c).toNat : Int) := by
  have h1 : ((c.toNat : Int) / (2 : Int)) = ((c >>> 1).toNat : Int) := by
    rw [UInt16.toNat_shiftRight]; simp [Nat.shiftRight_eq_div_pow]
  have h2 : IntKind.u16.wrap ((33800 : Int) * ((c &&& 1).toNat : Int)) = ((0x8408 * (c &&& 1)).toNat : Int) := by
    rw [UInt16.toNat_mul, UInt16.toNat_and]
    simp [IntKind.wrap, IntKind.bits, IntKind.signed]
  rw [bits_and16_1, h1, h2, bits_xor16, crcBit]
theorem half16 (c : UInt16) : ((c.toNat : Int) / (2 : Int)) = ((c >>> 1).toNat : Int) := by
  rw [UInt16.toNat_shiftRight]; simp [Nat.shiftRight_eq_div_pow]
theorem bits_xor_poly (c : UInt16) : Go.bits .xor .u16 (c.toNat : Int) 33800 = ((c ^^^ 0x8408).toNat : Int) := bits_xor16 c 0x8408
theorem bit_even {c : UInt16} (h : c &&& 1 = 0) : crcBit c = c >>> 1 := by
  unfold crcBit; rw [h]; simp
theorem bit_odd {c : UInt16} (h : c &&& 1 = 1) : crcBit c = c >>> 1 ^^^ 0x8408 := by
  unfold crcBit; rw [h]; rfl

set_option maxHeartbeats 400000 in
theorem more_calls (c : UInt16) (A : Option Addr) (n cap : Nat) (l : List UInt8) (w : World) (hl : l.length = n) (hn : n ≤ 9223372036854775807) (hr : Rd w A (bts l)) :
    Calls Try.prog 30 #[vu16 c, .slice A n cap] w fun e w' => e = .returned (vu16 (crcMore c l)) ∧ w = w' := by
  subst hl
  have HR := Lib.hid hr
  clear hr
  go_enter Try.func30, Try.ntmps30
  go_wp2
  go_loop [0, 10] (fun v0 v10 => ∃ k : Nat, k ≤ l.length ∧ v10 = .int .i64 k ∧ v0 = vu16 (crcMore c (l.take k))) (fun _ v10 => l.length - (intOf v10).toNat)
  case atStart => exact ⟨0, by omega, rfl, by simp [crcMore]⟩
  case round =>
    obtain ⟨k, hk, rfl, rfl⟩ := hrel
    by_cases hlt : k < l.length
    · obtain ⟨ad, rfl, hc⟩ := Rd.bt HR.out k hlt
      have hb := crcMore_take c l k hlt
      generalize hd : l.getD k 0 = x at hc hb
      have HB := Lib.hid hb
      clear hb hd
      generalize hg : crcMore c (l.take k) = s at HB
      clear hg
      go_wp2
      go_loop [0, 18] (fun v0 v18 => ∃ j : Nat, j ≤ 8 ∧ v18 = .int .i64 j ∧ v0 = vu16 (bitN j (s ^^^ x.toUInt16))) (fun _ v10 => 8 - (intOf v10).toNat)
      case atStart => exact ⟨0, by omega, rfl, by rw [xor16_8]; rfl⟩
      case round =>
        obtain ⟨j, hj, rfl, rfl⟩ := hrel
        by_cases hj8 : j < 8
        · go_wp2
          go_round
          case rel => exact ⟨j + 1, by omega, by go_num, by rw [bit_one]; rfl⟩
          case measure => simp [intOf]; omega
        · go_wp2
          have : j = 8 := by omega
          subst this
          go_round
          case rel => exact ⟨k + 1, by omega, by go_num, by rw [HB.out]; rfl⟩
          case measure => simp [intOf]; omega
    · go_wp2
      go_ret
      have : k = l.length := by omega
      subst this
      simp

set_option maxHeartbeats 400000 in
theorem refMore_calls (c : UInt16) (A : Option Addr) (n cap : Nat) (l : List UInt8) (w : World) (hl : l.length = n) (hn : n ≤ 9223372036854775807) (hr : Rd w A (bts l)) :
    Calls Try.prog 36 #[vu16 c, .slice A n cap] w fun e w' => e = .returned (vu16 (crcMore c l)) ∧ w = w' := by
  subst hl
  have HR := Lib.hid hr
  clear hr
  go_enter Try.func36, Try.ntmps36
  go_wp2
  go_loop [0, 5, 6, 7] (fun v0 v5 _ _ => ∃ k : Nat, k ≤ l.length ∧ v5 = .int .i64 k ∧ v0 = vu16 (crcMore c (l.take k))) (fun _ v5 _ _ => l.length - (intOf v5).toNat)
  case atStart => exact ⟨0, by omega, rfl, by simp [crcMore]⟩
  case round =>
    obtain ⟨k, hk, rfl, rfl⟩ := hrel
    by_cases hlt : k < l.length
    · obtain ⟨ad, rfl, hc⟩ := Rd.bt HR.out k hlt
      have hb := crcMore_take c l k hlt
      generalize hd : l.getD k 0 = x at hc hb
      have HB := Lib.hid hb
      clear hb hd
      generalize hg : crcMore c (l.take k) = s at HB
      clear hg
      go_wp2
      go_loop [0, 6, 7] (fun v0 v6 _ => ∃ j : Nat, j ≤ 8 ∧ v6 = .int .i64 j ∧ v0 = vu16 (bitN j (s ^^^ x.toUInt16))) (fun _ v6 _ => 8 - (intOf v6).toNat)
      case atStart => exact ⟨0, by omega, rfl, by rw [xor16_8]; rfl⟩
      case round =>
        obtain ⟨j, hj, rfl, rfl⟩ := hrel
        by_cases hj8 : j < 8
        · rcases and_one_cases (bitN j (s ^^^ x.toUInt16)) with h1 | h1
          · have hb : (Go.bits .and .u16 (((bitN j (s ^^^ x.toUInt16)).toNat : Nat) : Int) 1 == 1) = false := by
              rw [bits_and16_1, h1]; rfl
            have HE := Lib.hid (bit_even h1)
            clear h1
            go_wp2
            go_round
            case rel => exact ⟨j + 1, by omega, by go_num, by rw [half16, bitN, HE.out]⟩
            case measure => simp [intOf]; omega
          · have hb : (Go.bits .and .u16 (((bitN j (s ^^^ x.toUInt16)).toNat : Nat) : Int) 1 == 1) = true := by
              rw [bits_and16_1, h1]; rfl
            have HE := Lib.hid (bit_odd h1)
            clear h1
            go_wp2
            go_round
            case rel => exact ⟨j + 1, by omega, by go_num, by rw [half16, bitN, HE.out, bits_xor_poly]⟩
            case measure => simp [intOf]; omega
        · go_wp2
          have : j = 8 := by omega
          subst this
          go_round
          case rel => exact ⟨k + 1, by omega, by go_num, by rw [HB.out]; rfl⟩
          case measure => simp [intOf]; omega
    · go_wp2
      go_ret
      have : k = l.length := by omega
      subst this
      simp

def ptl (ps : List Pt) : List UInt8 := ps.flatMap (·.l)
theorem ptl_take (ps : List Pt) (k : Nat) (h : k < ps.length) : ptl (ps.take (k + 1)) = ptl (ps.take k) ++ ps[k].l := by
  rw [ptl, ptl, List.take_succ_eq_append_getElem h, List.flatMap_append]; simp
theorem bits_not16 (c : UInt16) : Go.bits .xor .u16 IntKind.u16.max (c.toNat : Int) = ((~~~ c).toNat : Int) := by
  rw [not_eq_xor, UInt16.xor_comm]
  exact bits_xor16 0xffff c

set_option maxHeartbeats 400000 in
theorem check_calls (ps : List Pt) (A : Option Addr) (n cap : Nat) (w : World) (hn : ps.length = n) (hm : n ≤ 9223372036854775807) (hr : Rd w A (ps.map ptv)) (hp : Pts w ps) :
    Calls Try.prog 16 #[.slice A n cap] w fun e w' => e = .returned (vu16 (crcCheck (ptl ps))) ∧ w = w' := by
  subst hn
  have HR := Lib.hid hr
  have HP := Lib.hid hp
  clear hr hp
  have hsg : IntKind.u16.signed = false := rfl
  go_enter Try.func16, Try.ntmps16
  go_wp2
  go_loop [3, 8] (fun v3 v8 => ∃ k : Nat, k ≤ ps.length ∧ v8 = .int .i64 k ∧ v3 = vu16 (crcMore 0xffff (ptl (ps.take k)))) (fun _ v8 => ps.length - (intOf v8).toNat)
  case atStart => exact ⟨0, by omega, rfl, rfl⟩
  case round =>
    obtain ⟨k, hk, rfl, rfl⟩ := hrel
    by_cases hlt : k < ps.length
    · obtain ⟨ad, rfl, hc⟩ := HR.out.at_ k (by simpa using hlt)
      rw [List.getElem_map] at hc
      have hpk := HP.out _ (List.getElem_mem hlt)
      have hb := ptl_take ps k hlt
      generalize hd : ps[k] = p at hc hb hpk
      obtain ⟨pA, pc, l⟩ := p
      simp only [ptv] at hc
      have HB := Lib.hid hb
      have HK := Lib.hid hpk
      clear hb hd hpk
      generalize hg : ptl (ps.take k) = s at HB
      clear hg
      go_wp2_with (go_at_call 30; refine (more_calls _ _ _ _ l _ rfl (Nat.le_trans HK.out.2.1 HK.out.2.2) HK.out.1).mono ?_; rintro e w' ⟨rfl, rfl⟩)
      go_round
      case rel => exact ⟨k + 1, by omega, by go_num, by rw [HB.out, crcMore_append]⟩
      case measure => simp [intOf]; omega
    · go_wp2
      go_ret
      have : k = ps.length := by omega
      subst this
      rw [List.take_length, bits_not16]
      exact ⟨rfl, rfl⟩

set_option maxHeartbeats 400000 in
theorem refCheck_calls (ps : List Pt) (A : Option Addr) (n cap : Nat) (w : World) (hn : ps.length = n) (hm : n ≤ 9223372036854775807) (hr : Rd w A (ps.map ptv)) (hp : Pts w ps) :
    Calls Try.prog 34 #[.slice A n cap] w fun e w' => e = .returned (vu16 (crcCheck (ptl ps))) ∧ w = w' := by
  subst hn
  have HR := Lib.hid hr
  have HP := Lib.hid hp
  clear hr hp
  have hsg : IntKind.u16.signed = false := rfl
  go_enter Try.func34, Try.ntmps34
  go_wp2
  go_loop [3, 4] (fun v3 v8 => ∃ k : Nat, k ≤ ps.length ∧ v8 = .int .i64 k ∧ v3 = vu16 (crcMore 0xffff (ptl (ps.take k)))) (fun _ v8 => ps.length - (intOf v8).toNat)
  case atStart => exact ⟨0, by omega, rfl, rfl⟩
  case round =>
    obtain ⟨k, hk, rfl, rfl⟩ := hrel
    by_cases hlt : k < ps.length
    · obtain ⟨ad, rfl, hc⟩ := HR.out.at_ k (by simpa using hlt)
      rw [List.getElem_map] at hc
      have hpk := HP.out _ (List.getElem_mem hlt)
      have hb := ptl_take ps k hlt
      generalize hd : ps[k] = p at hc hb hpk
      obtain ⟨pA, pc, l⟩ := p
      simp only [ptv] at hc
      have HB := Lib.hid hb
      have HK := Lib.hid hpk
      clear hb hd hpk
      generalize hg : ptl (ps.take k) = s at HB
      clear hg
      go_wp2_with (go_at_call 36; refine (refMore_calls _ _ _ _ l _ rfl (Nat.le_trans HK.out.2.1 HK.out.2.2) HK.out.1).mono ?_; rintro e w' ⟨rfl, rfl⟩)
      go_round
      case rel => exact ⟨k + 1, by omega, by go_num, by rw [HB.out, crcMore_append]⟩
      case measure => simp [intOf]; omega
    · go_wp2
      go_ret
      have : k = ps.length := by omega
      subst this
      rw [List.take_length, bits_not16]
      exact ⟨rfl, rfl⟩
end Go.Proofs.Ytpldcmcldoidaaa
