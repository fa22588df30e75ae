/- The walk of CrcRests. -/
import Derived.Test.YtnjaldafejbdgaaWakes4
namespace Go.Proofs.Ytnjaldafejbdgaa
open Go.RowKit
set_option linter.unusedVariables false
set_option linter.unusedSimpArgs false

set_option maxHeartbeats 1000000 in
theorem CrcRests_walk (A : Option Addr) (n cap : Nat) (l : List UInt8) (w : World) (hl : l.length = n) (hc : n ≤ cap) (hm : cap ≤ 9223372036854775807) (hr : Rd w A (bts l)) :
    Calls Try.prog 6 #[.slice A n cap] w fun e w' => e = .returned (.bool true) ∧ Below w.heap.size w w' := by
  have HR := Lib.hid hr
  have HL := Lib.hid hl
  clear hr hl
  by_cases hs : 3000 < n
  · go_enter Try.func6, Try.ntmps6
    go_wp2_with (go_at_call 12; refine (wakes4_calls _).mono ?_; rintro e w' ⟨rfl, hb⟩)
    go_ret
    exact ⟨rfl, hb⟩
  · go_enter Try.func6, Try.ntmps6
    go_wp2_with fail
    refine (check_one (A := A) (n := n) (c := cap) (l := l) ?_ HL.out hc hm ?_).mono ?_
    · exact Rd.of_block (hal_new rfl)
    · exact HR.out.alloc _
    rintro e w' ⟨rfl, rfl⟩
    generalize hcc : crcCheck l = c
    have HC := Lib.hid hcc
    clear hcc
    go_wp2_with fail
    refine (more_calls 0xffff A n cap l _ HL.out (Nat.le_trans hc hm) ?_).mono ?_
    · exact HR.out.alloc _
    rintro e w' ⟨rfl, rfl⟩
    generalize hs2 : crcMore 0xffff l = s
    have HS := Lib.hid hs2
    clear hs2
    go_wp2_with fail
    refine (more_calls s (some ⟨w.heap.size + 1, 0, none⟩) 2 2 [c.toUInt8, (c >>> 8).toUInt8] _ rfl (by decide) ?_).mono ?_
    · rw [mod8_u16, mod8_hi]
      exact Rd.of_block (hal_new (by simp))
    rintro e w' ⟨rfl, rfl⟩
    have hfin : crcMore s [c.toUInt8, (c >>> 8).toUInt8] = 0xf0b8 := by
      have := crcMore_rest s
      rw [← HS.out] at this ⊢
      rw [← HC.out]
      exact this
    rw [hfin]
    go_wp2_with (go_at_call 12; refine (wakes4_calls _).mono ?_; rintro e w' ⟨rfl, hb⟩)
    go_ret
    exact ⟨rfl, (((Below.refl _ _).alloc (Nat.le_refl _) _).alloc (by simp) _).trans (hb.mono (by simp; omega))⟩
end Go.Proofs.Ytnjaldafejbdgaa
