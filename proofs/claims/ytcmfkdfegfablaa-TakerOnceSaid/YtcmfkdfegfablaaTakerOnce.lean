
import Derived.Test.YtcmfkdfegfablaaRows
import Derived.Test.YtcmfkdfegfablaaTakerOnceWalk
import Derived.Test.YtcmfkdfegfablaaG3
import Derived.ShutString
import Derived.Below

/- For every row of packets and every row of bytes the Go function tollhouselaw22.TakerOnce returns true: each block is what the packet of the greatest number that wrote it had, of those that came ahead of no greater one, and an ack says that it, or a later one, was done; the arguments read behind the call as before it. Conditions: none. -/
namespace Go.Proofs.Ytcmfkdfegfablaa.lawTakerOnce
open Go.ChangeShapes Go.WideShapes Go.ChangeAt Go.RowKit
open Go.ChangeMaps (open_string shut_string)
set_option linter.unusedVariables false
set_option linter.unusedSimpArgs false

theorem own : ownKnob Try.prog.godebug = none := by kernel_rfl
theorem laidOut : laidOutB Try.prog = true := by kernel_rfl

set_option maxRecDepth 100000 in
theorem lifted (os : Os) (started : os.Started) (H : Type) (enc : TypeId × Value → H) :
    ReturnsInHanded {} Try.checked os 8 .any (Rows.takerOnceSpec.pre6 enc Try.prog Try.f8 Rows.takerOnceRow.domain false) (Rows.takerOnceSpec.post enc Try.prog Try.f8 false true false false) := by
  refine returnsInHanded_of_change (C := Try.checked) own started (by kernel_rfl) Try.func8
    (ChangeSpec.witness6 (enc := enc) (C := Try.checked) false ⟨#[], #[.slice none 0 0, .slice none 0 0], []⟩ 8 (by kernel_rfl) (by kernel_rfl) (by kernel_rfl) (by kernel_rfl)) ?_
  intro W base args ds gs before hval0 hW hcnd _
  have hval : ∀ (j : Nat) t v, Try.f8.params[j]? = some t → args[j]? = some v → Value.okWide Try.prog W .any base t v := hval0
  have hW' := hW
  obtain ⟨p, q, hA0, hV, rfl, hfz, hnd⟩ := hW
  have hA : DataW.TrodAll enc Try.prog W 0 (fun _ => true) true Try.f8.params.toList args.toList ds p := hA0
  rw [Try.params8] at hA hval
  obtain ⟨v0, vs0, d0, ds0, p0, q0, hargs, rfl, rfl, h0, r0⟩ := trodAll_cons hA
  obtain ⟨v1, vs1, d1, ds1, p1, q1, rfl, rfl, rfl, h1, r1⟩ := trodAll_cons r0
  obtain ⟨rfl, rfl, rfl⟩ := trodAll_nil r1
  obtain rfl : args = #[v0, v1] := by cases args; simp_all
  obtain ⟨rfl, rfl⟩ := trodVars_none hV
  have k0 := h0
  have lt0 : ∀ x ∈ p0, x.block < W.heap.size := by obtain ⟨m, hm⟩ := k0; exact DataW.trod_lt m _ _ _ hm
  have k1 := h1
  have lt1 : ∀ x ∈ p1, x.block < W.heap.size := by obtain ⟨m, hm⟩ := k1; exact DataW.trod_lt m _ _ _ hm
  obtain ⟨A0, n0, c0, l0, hc0, hl0, hcap0, hm0, hr0, ok0⟩ := (TC.of h0).pkts
  obtain rfl := cells_one (okWide_cell (by kernel_rfl) (hval 0 _ _ rfl rfl)) hc0
  obtain ⟨A1, n1, c1, l1, hc1, hl1, hcap1, hm1, hr1⟩ := (TC.of h1).bytes Try.underlying56 Try.underlying5 (by kernel_rfl)
  obtain rfl := cells_one (okWide_cell (by kernel_rfl) (hval 1 _ _ rfl rfl)) hc1
  clear hA0 hval0
  refine (takerOnce_calls _ A0 n0 c0 l0 A1 n1 c1 l1 hl0 hcap0 hm0 hr0 ok0 hl1 hcap1 hm1 hr1).mono fun e W' ⟨he, bel⟩ => ?_
  subst he
  exact ⟨_, rfl, _, _, _, [], _, [], hW', trodAll_mk1 (shut_bool Try.underlying4 _), (trodAll_cons_mk (Below.trod laidOut (by kernel_rfl) (of_decide_eq_true (by kernel_rfl)) k0 bel lt0) (trodAll_cons_mk (Below.trod laidOut (by kernel_rfl) (of_decide_eq_true (by kernel_rfl)) k1 bel lt1) trodAll_mk0)), rfl, bel.frame _, fun h => by cases h⟩

theorem over : Rows.takerOnceRow.holds Try.pinned (OpenSpec.ofChange Rows.takerOnceSpec) :=
  OpenClaim.holds_of_wide 8 Try.f8 rfl rfl rfl rfl rfl rfl rfl ⟨rfl, rfl, rfl, rfl, rfl⟩ rfl rfl rfl rfl rfl (by kernel_rfl) Try.func8 (by kernel_rfl)
    (of_decide_eq_true (by kernel_rfl)) (by unfold Func.isWrapper; first | (rw [if_pos (by decide +kernel)]; kernel_rfl) | (rw [if_neg (by decide +kernel)]; exact ⟨rfl, rfl⟩))
    (fun os started H enc _ => lifted os started H enc)

theorem proved : Rows.TakerOnceSaid := over
#print axioms proved
end Go.Proofs.Ytcmfkdfegfablaa.lawTakerOnce
