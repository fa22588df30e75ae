
import Derived.Test.YtcmfkdfegfablaaG3
import Derived.Test.YtcmfkdfegfablaaZeros
import Derived.Test.YtcmfkdfegfablaaPkEnc

/- The walk of the reference's Sealed. -/
namespace Go.Proofs.Ytcmfkdfegfablaa
open Go.RowKit
set_option linter.unusedVariables false
set_option linter.unusedSimpArgs false

theorem pk_infoU8 : (Try.prog.info? 5).map (fun i => (i.zero, i.size, i.bytes)) = some (some (.int .u8 0), 1, 1) := by kernel_rfl
theorem pk_refCheck_one {w : World} {A : Option Addr} {g n c : Nat} {l : List UInt8} (hh : Rd w (some ⟨g, 0, none⟩) [.slice A n c]) (hn : l.length = n) (hc : n ≤ c) (hm : c ≤ 9223372036854775807) (hr : Rd w A (bts l)) :
    Calls Try.prog 69 #[.slice (some ⟨g, 0, none⟩) 1 1] w fun e w' => e = .returned (vu16 (crcCheck l)) ∧ w = w' := by
  subst hn
  have := refCheck_calls [⟨A, c, l⟩] (some ⟨g, 0, none⟩) 1 1 w rfl (by decide) hh (by
    intro p hp
    obtain rfl : p = ⟨A, c, l⟩ := by simpa using hp
    exact ⟨hr, hc, hm⟩)
  simpa [ptl] using this
def pk_SealedPost (w : World) (l : List UInt8) (n : Nat) (e : Ending) (w' : World) : Prop :=
  ∃ A c, e = .returned (.slice A n c) ∧ Rd w' A (bts (l ++ [(crcCheck l).toUInt8, (crcCheck l >>> 8).toUInt8])) ∧ n ≤ c ∧ c ≤ 9223372036854775807 ∧ Below w.heap.size w w'
set_option maxRecDepth 100000 in
set_option maxHeartbeats 1000000 in
theorem pk_sealed_calls (A : Option Addr) (n cap : Nat) (l : List UInt8) (w : World) (hl : l.length = n) (hn : n ≤ cap) (hc : cap ≤ 9223372036854775807) (hr : Rd w A (bts l)) (hs : n ≤ 1000000) :
    Calls Try.prog 59 #[.slice A n cap] w (pk_SealedPost w l (n + 2)) := by
  have HR := Lib.hid hr
  have HL := Lib.hid hl
  clear hr hl
  go_enter Try.func59, Try.ntmps59
  go_wp2_with fail
  refine (pk_refCheck_one (A := A) (n := n) (c := cap) (l := l) (Rd.of_block (hal_new rfl)) HL.out hn hc (HR.out.alloc _)).mono ?_
  rintro e w' ⟨rfl, rfl⟩
  generalize hcc : crcCheck l = c
  have HC := Lib.hid hcc
  clear hcc
  go_wp2_with (at_builtin; refine wpList_append_rd rfl _ _ 56 rfl (w.heap.size + 1) 5 (.int .u8 0) 1 1 Try.underlying56 pk_infoU8 rfl (by decide) (by decide) (.slice (some ⟨w.heap.size + 1, 0, none⟩) 0 0) 0 [] rfl ?own A n cap (bts l) rfl ?len ?rd (one_bts _) ?bytes ?base ?_)
  case own => exact empty_own' _ _ (by simp)
  case len => rw [bts_length, HL.out, Nat.mul_one]
  case rd => exact (HR.out.alloc _).alloc _
  case bytes => omega
  case base => simp
  intro v1 w1 hown hg hat
  have hb1 : Below w.heap.size w w1 := (((Below.refl _ _).alloc (Nat.le_refl _) _).alloc (by simp) _).trans (below_grown hg (by simp; omega) (by intro k hk; simp [Value.ownBlock] at hk; omega))
  obtain ⟨A1, c1, rfl, hr1, hc1, hm1⟩ := own_rd hown
  have hlt1 : w.heap.size + 1 ≤ w1.heap.size := by have := hg.size; simp at this; omega
  have HO := Lib.hid hown
  have HB := Lib.hid hb1
  clear hown hg hat hb1 hr1
  go_wp2_with (at_builtin; refine wpList_append_rd rfl _ _ 56 rfl (w.heap.size + 1) 5 (.int .u8 0) 1 1 Try.underlying56 pk_infoU8 rfl (by decide) (by decide) (.slice A1 n c1) n (bts l) rfl ?own2 (some ⟨w1.heap.size, 0, none⟩) 2 2 [.int .u8 ((c.toNat : Int) % 256), .int .u8 ((c.toNat : Int) / 256 % 256)] rfl rfl ?rd2 ?one2 ?bytes2 ?base2 ?_)
  case own2 => exact own_chg HO.out ((Chg.refl (S := NoS) w1).alloc _) (fun _ _ => id)
  case rd2 => exact Rd.of_block (hal_new rfl)
  case one2 => intro u hu; simp at hu; rcases hu with rfl | rfl <;> rfl
  case bytes2 => omega
  case base2 => simp; omega
  intro v2 w2 hown hg hat
  have hb2 : Below w.heap.size w w2 := (HB.out.alloc HB.out.size _).trans (below_grown hg (by have := HB.out.size; simp; omega) (fun k hk => by have := (HO.out.lt k hk).1; omega))
  rw [show [Value.int .u8 ((c.toNat : Int) % 256), .int .u8 ((c.toNat : Int) / 256 % 256)] = bts [c.toUInt8, (c >>> 8).toUInt8] by rw [mod8_u16, mod8_hi]; rfl, ← bts_append] at hown
  obtain ⟨A2, c2, rfl, hr2, hc2, hm2⟩ := own_rd hown
  have HR2 := Lib.hid hr2
  have HC2 := Lib.hid hc2
  have HM2 := Lib.hid hm2
  have HB2 := Lib.hid hb2
  clear hown hg hat hb2 hr2 hc2 hm2
  go_wp2_with fail
  go_ret
  exact ⟨A2, c2, rfl, by rw [HC.out]; exact HR2.out, HC2.out, HM2.out, HB2.out⟩
end Go.Proofs.Ytcmfkdfegfablaa
