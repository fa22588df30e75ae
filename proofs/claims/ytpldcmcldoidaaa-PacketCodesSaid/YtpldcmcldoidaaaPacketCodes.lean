import Derived.Test.YtpldcmcldoidaaaRows
import Derived.Test.YtpldcmcldoidaaaPacketCodesWalk
import Derived.Test.YtpldcmcldoidaaaOpen
import Derived.ShutString
import Derived.Below

/- For every two packets and all bytes the Go function tollhouselaw18.PacketCodes returns true: the bytes of any packet, the packet of any bytes, or that there are none, whether any two are alike, are as the reference tells; the arguments read behind the call as before it. Conditions: none. -/
namespace Go.Proofs.Ytpldcmcldoidaaa.lawPacketCodes
open Go.ChangeShapes Go.WideShapes Go.ChangeAt Go.RowKit
open Go.ChangeMaps (open_string shut_string)
set_option linter.unusedVariables false
set_option linter.unusedSimpArgs false

theorem own : ownKnob Try.prog.godebug = none := by kernel_rfl
theorem laidOut : laidOutB Try.prog = true := by kernel_rfl

set_option maxRecDepth 100000 in
theorem lifted (os : Os) (started : os.Started) (H : Type) (enc : TypeId × Value → H) :
    ReturnsInHanded {} Try.checked os 3 .any (Rows.packetCodesSpec.pre6 enc Try.prog Try.f3 Rows.packetCodesRow.domain false) (Rows.packetCodesSpec.post enc Try.prog Try.f3 false true false false) := by
  refine returnsInHanded_of_change (C := Try.checked) own started (by kernel_rfl) Try.func3
    (ChangeSpec.witness6 (enc := enc) (C := Try.checked) false ⟨#[], #[.agg #[.int .i64 0, .int .u32 0, .int .u32 0, .slice none 0 0], .agg #[.int .i64 0, .int .u32 0, .int .u32 0, .slice none 0 0], .slice none 0 0], []⟩ 8 (by kernel_rfl) (by kernel_rfl) (by kernel_rfl) (by kernel_rfl)) ?_
  intro W base args ds gs before hval0 hW hcnd _
  have hval : ∀ (j : Nat) t v, Try.f3.params[j]? = some t → args[j]? = some v → Value.okWide Try.prog W .any base t v := hval0
  have hW' := hW
  obtain ⟨p, q, hA0, hV, rfl, hfz, hnd⟩ := hW
  have hA : DataW.TrodAll enc Try.prog W 0 (fun _ => true) true Try.f3.params.toList args.toList ds p := hA0
  rw [Try.params3] at hA hval
  obtain ⟨v0, vs0, d0, ds0, p0, q0, hargs, rfl, rfl, h0, r0⟩ := trodAll_cons hA
  obtain ⟨v1, vs1, d1, ds1, p1, q1, rfl, rfl, rfl, h1, r1⟩ := trodAll_cons r0
  obtain ⟨v2, vs2, d2, ds2, p2, q2, rfl, rfl, rfl, h2, r2⟩ := trodAll_cons r1
  obtain ⟨rfl, rfl, rfl⟩ := trodAll_nil r2
  obtain rfl : args = #[v0, v1, v2] := by cases args; simp_all
  obtain ⟨rfl, rfl⟩ := trodVars_none hV
  have k0 := h0
  have lt0 : ∀ x ∈ p0, x.block < W.heap.size := by obtain ⟨m, hm⟩ := k0; exact DataW.trod_lt m _ _ _ hm
  have k1 := h1
  have lt1 : ∀ x ∈ p1, x.block < W.heap.size := by obtain ⟨m, hm⟩ := k1; exact DataW.trod_lt m _ _ _ hm
  have k2 := h2
  have lt2 : ∀ x ∈ p2, x.block < W.heap.size := by obtain ⟨m, hm⟩ := k2; exact DataW.trod_lt m _ _ _ hm
  obtain ⟨cs0, rfl⟩ := okWide_agg (by kernel_rfl) (hval 0 _ _ rfl rfl)
  obtain ⟨s0, A0, n0, c0, hs0, ok0⟩ := (TC.of h0).pkt
  obtain rfl : cs0 = (pktC s0.k s0.e s0.q A0 n0 c0).toArray := by rw [← hs0]; rfl
  obtain ⟨cs1, rfl⟩ := okWide_agg (by kernel_rfl) (hval 1 _ _ rfl rfl)
  obtain ⟨s1, A1, n1, c1, hs1, ok1⟩ := (TC.of h1).pkt
  obtain rfl : cs1 = (pktC s1.k s1.e s1.q A1 n1 c1).toArray := by rw [← hs1]; rfl
  obtain ⟨A2, n2, c2, l2, hc2, hl2, hcap2, hm2, hr2⟩ := (TC.of h2).bytes Try.underlying26 Try.underlying5 (by kernel_rfl)
  obtain rfl := cells_one (okWide_cell (by kernel_rfl) (hval 2 _ _ rfl rfl)) hc2
  clear hA0 hval0
  refine (packetCodes_calls _ s0 s1 A0 A1 A2 n0 c0 n1 c1 n2 c2 l2 ok0 ok1 hl2 hcap2 hm2 hr2).mono fun e W' ⟨he, bel⟩ => ?_
  subst he
  exact ⟨_, rfl, _, _, _, [], _, [], hW', trodAll_mk1 (shut_bool Try.underlying4 _), (trodAll_cons_mk (Below.trod laidOut (by kernel_rfl) (of_decide_eq_true (by kernel_rfl)) k0 bel lt0) (trodAll_cons_mk (Below.trod laidOut (by kernel_rfl) (of_decide_eq_true (by kernel_rfl)) k1 bel lt1) (trodAll_cons_mk (Below.trod laidOut (by kernel_rfl) (of_decide_eq_true (by kernel_rfl)) k2 bel lt2) trodAll_mk0))), rfl, bel.frame _, fun h => by cases h⟩

theorem over : Rows.packetCodesRow.holds Try.pinned (OpenSpec.ofChange Rows.packetCodesSpec) :=
  OpenClaim.holds_of_wide 3 Try.f3 rfl rfl rfl rfl rfl rfl rfl ⟨rfl, rfl, rfl, rfl, rfl⟩ rfl rfl rfl rfl rfl (by kernel_rfl) Try.func3 (by kernel_rfl)
    (of_decide_eq_true (by kernel_rfl)) (by unfold Func.isWrapper; first | (rw [if_pos (by decide +kernel)]; kernel_rfl) | (rw [if_neg (by decide +kernel)]; exact ⟨rfl, rfl⟩))
    (fun os started H enc _ => lifted os started H enc)

theorem proved : Rows.PacketCodesSaid := over
#print axioms proved
end Go.Proofs.Ytpldcmcldoidaaa.lawPacketCodes
