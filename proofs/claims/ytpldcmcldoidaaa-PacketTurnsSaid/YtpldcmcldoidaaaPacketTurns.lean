
/- For every packet, every place and every two bytes the Go function tollhouselaw18.PacketTurns returns true: the packet of a packet's bytes is it; with one byte turned, or two neighboring ones, one fewer or one more, they are none's; the arguments read behind the call as before it. Conditions: none. -/
import Derived.Test.YtpldcmcldoidaaaRows
import Derived.Test.YtpldcmcldoidaaaPacketTurnsWalk
import Derived.Test.YtpldcmcldoidaaaOpen
import Derived.ShutString
import Derived.Below
namespace Go.Proofs.Ytpldcmcldoidaaa.lawPacketTurns
open Go.ChangeShapes Go.WideShapes Go.ChangeAt Go.RowKit
open Go.ChangeMaps (open_string shut_string)
set_option linter.unusedVariables false
set_option linter.unusedSimpArgs false

theorem own : ownKnob Try.prog.godebug = none := by kernel_rfl
theorem laidOut : laidOutB Try.prog = true := by kernel_rfl

set_option maxRecDepth 100000 in
theorem lifted (os : Os) (started : os.Started) (H : Type) (enc : TypeId × Value → H) :
    ReturnsInHanded {} Try.checked os 4 .any (Rows.packetTurnsSpec.pre6 enc Try.prog Try.f4 Rows.packetTurnsRow.domain false) (Rows.packetTurnsSpec.post enc Try.prog Try.f4 false true false false) := by
  refine returnsInHanded_of_change (C := Try.checked) own started (by kernel_rfl) Try.func4
    (ChangeSpec.witness6 (enc := enc) (C := Try.checked) false ⟨#[], #[.agg #[.int .i64 0, .int .u32 0, .int .u32 0, .slice none 0 0], .int .i64 0, .agg #[.int .u8 0, .int .u8 0]], []⟩ 8 (by kernel_rfl) (by kernel_rfl) (by kernel_rfl) (by kernel_rfl)) ?_
  intro W base args ds gs before hval0 hW hcnd _
  have hval : ∀ (j : Nat) t v, Try.f4.params[j]? = some t → args[j]? = some v → Value.okWide Try.prog W .any base t v := hval0
  have hW' := hW
  obtain ⟨p, q, hA0, hV, rfl, hfz, hnd⟩ := hW
  have hA : DataW.TrodAll enc Try.prog W 0 (fun _ => true) true Try.f4.params.toList args.toList ds p := hA0
  rw [Try.params4] at hA hval
  obtain ⟨v0, vs0, d0, ds0, p0, q0, hargs, rfl, rfl, h0, r0⟩ := trodAll_cons hA
  obtain ⟨v1, vs1, d1, ds1, p1, q1, rfl, rfl, rfl, h1, r1⟩ := trodAll_cons r0
  obtain ⟨v2, vs2, d2, ds2, p2, q2, rfl, rfl, rfl, h2, r2⟩ := trodAll_cons r1
  obtain ⟨rfl, rfl, rfl⟩ := trodAll_nil r2
  obtain rfl : args = #[v0, v1, v2] := by cases args; simp_all
  obtain ⟨rfl, rfl⟩ := trodVars_none hV
  have k0 := h0
  have lt0 : ∀ x ∈ p0, x.block < W.heap.size := by obtain ⟨m, hm⟩ := k0; exact DataW.trod_lt m _ _ _ hm
  have k1 := h1
  have lt1 : ∀ x ∈ p1, x.block < W.heap.size := by obtain ⟨m, hm⟩ := k1; exact DataW.trod_lt m _ _ _ hm
  have k2 := h2
  have lt2 : ∀ x ∈ p2, x.block < W.heap.size := by obtain ⟨m, hm⟩ := k2; exact DataW.trod_lt m _ _ _ hm
  obtain ⟨cs0, rfl⟩ := okWide_agg (by kernel_rfl) (hval 0 _ _ rfl rfl)
  obtain ⟨s0, A0, n0, c0, hs0, ok0⟩ := (TC.of h0).pkt
  obtain rfl : cs0 = (pktC s0.k s0.e s0.q A0 n0 c0).toArray := by rw [← hs0]; rfl
  obtain ⟨n1, hc1, wf1⟩ := (TC.of h1).int Try.underlying3
  obtain rfl := cells_one (okWide_cell (by kernel_rfl) (hval 1 _ _ rfl rfl)) hc1
  have b1 := Go.bounds_i64 wf1
  obtain ⟨cs2, rfl⟩ := okWide_agg (by kernel_rfl) (hval 2 _ _ rfl rfl)
  obtain ⟨l2, hl2, hc2⟩ := (TC.of h2).arr_bytes Try.underlying41 Try.underlying5 (by kernel_rfl) (by kernel_rfl)
  obtain rfl : cs2 = (bts l2).toArray := by rw [← hc2]; rfl
  obtain ⟨y0, y1, rfl⟩ := two_of hl2
  clear hA0 hval0
  refine (packetTurns_calls _ s0 A0 n0 c0 n1 y0 y1 ok0 b1.1 b1.2).mono fun e W' ⟨he, bel⟩ => ?_
  subst he
  exact ⟨_, rfl, _, _, _, [], _, [], hW', trodAll_mk1 (shut_bool Try.underlying4 _), (trodAll_cons_mk (Below.trod laidOut (by kernel_rfl) (of_decide_eq_true (by kernel_rfl)) k0 bel lt0) (trodAll_cons_mk (Below.trod laidOut (by kernel_rfl) (of_decide_eq_true (by kernel_rfl)) k1 bel lt1) (trodAll_cons_mk (Below.trod laidOut (by kernel_rfl) (of_decide_eq_true (by kernel_rfl)) k2 bel lt2) trodAll_mk0))), rfl, bel.frame _, fun h => by cases h⟩

theorem over : Rows.packetTurnsRow.holds Try.pinned (OpenSpec.ofChange Rows.packetTurnsSpec) :=
  OpenClaim.holds_of_wide 4 Try.f4 rfl rfl rfl rfl rfl rfl rfl ⟨rfl, rfl, rfl, rfl, rfl⟩ rfl rfl rfl rfl rfl (by kernel_rfl) Try.func4 (by kernel_rfl)
    (of_decide_eq_true (by kernel_rfl)) (by unfold Func.isWrapper; first | (rw [if_pos (by decide +kernel)]; kernel_rfl) | (rw [if_neg (by decide +kernel)]; exact ⟨rfl, rfl⟩))
    (fun os started H enc _ => lifted os started H enc)

theorem proved : Rows.PacketTurnsSaid := over
#print axioms proved
end Go.Proofs.Ytpldcmcldoidaaa.lawPacketTurns
