
/- The walk of label.Bits (no label in sight). -/
import Derived.Test.YtjkkbkjejcjfiaaPuts
import Derived.Test.YtjkkbkjejcjfiaaDiskPure
namespace Go.Proofs.Ytjkkbkjejcjfiaa
open Go.RowKit
set_option linter.unusedVariables false
set_option linter.unusedSimpArgs false

def bitOf (p : PutV) : Nat := if 0 ≤ p.at_ ∧ p.at_ < 12 then 2 ^ p.at_.toNat else 0
def bitsN (ps : List PutV) : Nat := ps.foldl (fun v p => v ||| bitOf p) 0
theorem bitOf_lt (p : PutV) : bitOf p < 4096 := by
  unfold bitOf
  split
  · rename_i h
    have : p.at_.toNat ≤ 11 := by omega
    have := Nat.pow_le_pow_right (show 0 < 2 by decide) this
    omega
  · decide
theorem bitsN_take (ps : List PutV) (k : Nat) (h : k < ps.length) : bitsN (ps.take (k + 1)) = bitsN (ps.take k) ||| bitOf ps[k] := by
  rw [bitsN, bitsN, List.take_succ_eq_append_getElem h, List.foldl_append]
  rfl
theorem bitsN_snoc (ps : List PutV) (p : PutV) : bitsN (ps ++ [p]) = bitsN ps ||| bitOf p := by
  rw [bitsN, bitsN, List.foldl_append]
  rfl
theorem bitsN_append (ps qs : List PutV) : bitsN (ps ++ qs) = bitsN ps ||| bitsN qs := by
  have : ∀ (l : List PutV) (v : Nat), l.foldl (fun v p => v ||| bitOf p) v = v ||| l.foldl (fun v p => v ||| bitOf p) 0 := by
    intro l
    induction l with
    | nil => intro v; simp
    | cons p l ih =>
      intro v
      rw [List.foldl_cons, List.foldl_cons, ih, ih (0 ||| bitOf p), Nat.zero_or, Nat.or_assoc]
  rw [bitsN, List.foldl_append, this]
  rfl
theorem bitsN_lt (ps : List PutV) : bitsN ps < 4096 := by
  unfold bitsN
  suffices h : ∀ (l : List PutV) (v : Nat), v < 4096 → l.foldl (fun v p => v ||| bitOf p) v < 4096 from h ps 0 (by decide)
  intro l
  induction l with
  | nil => intro v h; exact h
  | cons p l ih => intro v h; exact ih _ (Nat.or_lt_two_pow (n := 12) h (bitOf_lt p))
theorem bits_or16 (m q : Nat) (hm : m < 4096) (hq : q < 12) : Go.bits .or .u16 (m : Int) (IntKind.u16.wrap ((2 : Int) ^ q)) = ((m ||| 2 ^ q : Nat) : Int) := by
  have h2 : ((2 : Int) ^ q) = ((2 ^ q : Nat) : Int) := by push_cast; rfl
  have h3 : 2 ^ q ≤ 2 ^ 11 := Nat.pow_le_pow_right (by decide) (by omega)
  rw [h2]
  generalize 2 ^ q = z at h3
  rw [IntWalk.u16_in _ (by omega)]
  exact (bits_u16 m z (by omega) (by omega)).2.2
def BitsRel (w : World) (ps : List PutV) (v3 v8 : Value) (wr : World) : Prop := ∃ k : Nat, k ≤ ps.length ∧ v8 = .int .i64 k ∧ v3 = .int .u16 (bitsN (ps.take k) : Nat) ∧ Below w.heap.size w wr
set_option maxRecDepth 100000 in
set_option maxHeartbeats 2000000 in
theorem bits_calls (ps : List PutV) (A : Option Addr) (n c : Nat) (w : World) (hl : ps.length = n) (hm : n ≤ 9223372036854775807) (hr : Rd w A (ps.flatMap putC)) (ho : PutsOk ps) :
    Calls Try.prog 55 #[.slice A n c] w fun e w' => e = .returned (.int .u16 (bitsN ps : Nat)) ∧ Below w.heap.size w w' := by
  subst hl
  have HR := Lib.hid hr
  have HO := Lib.hid ho
  have H0 : Hid (BitsRel w ps (.int .u16 0) (.int .i64 0) w) := ⟨0, Nat.zero_le _, rfl, rfl, Below.refl _ _⟩
  clear hr ho
  go_enter Try.func55, Try.ntmps55
  go_wp2_with fail
  go_loopw [3, 8] (fun v3 v8 wr => BitsRel w ps v3 v8 wr) (fun _ v8 _ => ps.length - (intOf v8).toNat)
  case atStart => exact H0.out
  case round =>
    obtain ⟨k, hk, rfl, hv3, hb⟩ := hrel
    obtain ⟨m, hmm⟩ : ∃ m, bitsN (ps.take k) = m := ⟨_, rfl⟩
    rw [hmm] at hv3
    subst hv3
    have HM := Lib.hid hmm
    have HB := Lib.hid hb
    clear hmm hb H0
    by_cases hlt : k < ps.length
    · have hki : (k : Int) < (ps.length : Int) := by omega
      have hrr := HR.out.below HB.out
      obtain ⟨ad, hA⟩ := puts_some hrr hlt
      subst hA
      have hpr := put_rd hrr HO.out hlt
      have hpo := HO.out _ (List.getElem_mem hlt)
      have hnx := bitsN_take ps k hlt
      obtain ⟨p, hp⟩ : ∃ p, ps[k] = p := ⟨_, rfl⟩
      rw [hp] at hpr hpo hnx
      rw [HM.out] at hnx
      have HPR := Lib.hid hpr
      have HPL := Lib.hid (putC_len hpo.1)
      have HNX := Lib.hid hnx
      have hml : m < 4096 := by rw [← HM.out]; exact bitsN_lt _
      clear hp hpr hpo hnx hrr
      go_wp2_with (first
        | (refine wpList_ldr2 rfl 48 (.tmp 10) rfl (ad.add (k * 33)) 33 (putC p) rfl HPR.out (by kernel_rfl) (by kernel_rfl) HPL.out ?_)
        | (refine wpList_al rfl 48 rfl (.int .i64 0 :: bts (List.replicate 32 0)) (by kernel_rfl) ?_))
      intro g5 w2 hg hb hc hs
      have HB2 : Hid (Below w.heap.size w w2) := HB.out.trans (hc.below HB.out.size (fun _ _ => id))
      have HG5 : Hid (w.heap.size ≤ g5) := by show _ ≤ _; rw [hg]; exact HB.out.size
      have K2 := Lib.hid hb
      clear hb hc hs hg
      go_wp2_with (refine wpList_st rfl 48 (.tmp 5) (.tmp 11) rfl g5 0 33 (.int .i64 0 :: bts (List.replicate 32 0)) (putC p) rfl rfl K2.out (by kernel_rfl) HPL.out (by decide) (one_put p) ?_)
      intro w3 hb hc
      rw [splice_whole _ _ (by rw [HPL.out]; rfl)] at hb
      have hg5 := HG5.out
      have HB3 : Hid (Below w.heap.size w w3) := HB2.out.trans (hc.below HB2.out.size (fun _ _ => by omega))
      have c0 := hb.cell (j := 0) rfl
      clear hb hc hg5 K2 HPR HPL
      by_cases h0 : 0 ≤ p.at_
      · by_cases h12 : p.at_ < 12
        · obtain ⟨q, hq⟩ := Int.eq_ofNat_of_zero_le h0
          rw [hq] at c0 h12
          have hq12 : q < 12 := by omega
          have hbo : bitOf p = 2 ^ q := by rw [bitOf, if_pos ⟨h0, by rw [hq]; exact h12⟩, hq]; rfl
          rw [hbo] at HNX
          clear hbo h0 hq
          have hor := bits_or16 m q hml hq12
          go_wp2_with fail
          go_roundw
          case rel => exact ⟨k + 1, by omega, by go_num, by rw [HNX.out], HB3.out⟩
          case measure => simp [intOf]; omega
        · have hbo : bitOf p = 0 := by rw [bitOf, if_neg (fun hh => h12 hh.2)]
          have HBO := Lib.hid hbo
          clear hbo
          go_wp2_with fail
          go_roundw
          case rel => exact ⟨k + 1, by omega, by go_num, by rw [HNX.out, HBO.out, Nat.or_zero], HB3.out⟩
          case measure => simp [intOf]; omega
      · have hbo : bitOf p = 0 := by rw [bitOf, if_neg (fun hh => h0 hh.1)]
        have HBO := Lib.hid hbo
        have h0n : p.at_ < 0 := by omega
        clear hbo
        go_wp2_with fail
        go_roundw
        case rel => exact ⟨k + 1, by omega, by go_num, by rw [HNX.out, HBO.out, Nat.or_zero], HB3.out⟩
        case measure => simp [intOf]; omega
    · have hke : k = ps.length := by omega
      have hki : ¬ ((k : Int) < (ps.length : Int)) := by omega
      have HF : Hid (bitsN ps = m) := by show _ = _; rw [← HM.out, hke, List.take_length]
      go_wp2
      go_ret
      exact ⟨by rw [HF.out]; rfl, HB.out⟩
end Go.Proofs.Ytjkkbkjejcjfiaa
