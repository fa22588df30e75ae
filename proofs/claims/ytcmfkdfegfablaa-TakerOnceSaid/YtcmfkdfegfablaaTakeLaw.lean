
import Derived.Test.YtcmfkdfegfablaaTake
import Derived.Test.YtcmfkdfegfablaaPkRefEnc

/- law22's Pkt. -/
namespace Go.Proofs.Ytcmfkdfegfablaa
open Go.RowKit
set_option linter.unusedVariables false
set_option linter.unusedSimpArgs false

theorem run_fld {P : Program} (w : World) (ty i ft off : Nat) (k : IntKind) (vs : List Value) (v : Value) (hf : (match P.underlying ty with | some (.struct fs) => (fs[i]?).map (fun f => (f.type, f.offset)) | _ => none) = some (ft, off)) (hp : P.underlying ft = some (.int k)) (hv : vs[off]? = some v) :
    (Instr.field ty (.agg vs.toArray) i).run P w = .ok v w := by
  unfold Instr.field
  cases hu : P.underlying ty with
  | none => simp [hu] at hf
  | some d =>
    cases d with
    | struct fs =>
      simp only [hu] at hf
      obtain ⟨f, hfi, he⟩ := Option.map_eq_some_iff.1 hf
      injection he with h1 h2
      subst h1
      subst h2
      have hag : (isAgg f.type).run P w = .ok false w := by
        unfold isAgg
        rw [Sem.run_bind, run_underlying hp w]
        rfl
      simp [Sem.run_bind, run_underlying hu w, hfi, asAgg, part, hag, hv]
    | _ => simp [hu] at hf
theorem wpList_fld {P : Program} {o : Oper} {a : Act} {w : World} {Q : Exit → Act → World → Prop} {ops : Array Oper} {rest : List Oper} (hw : Region.wanted o (yielded ops a.tmps) = true) (ty : TypeId) (x : Operand) (i : Nat) (ho : o.op = .field ty x i) (ft off : Nat) (k : IntKind) (vs : List Value) (v : Value) (hx : a.eval x = .agg vs.toArray) (hf : (match P.underlying ty with | some (.struct fs) => (fs[i]?).map (fun f => (f.type, f.offset)) | _ => none) = some (ft, off)) (hp : P.underlying ft = some (.int k)) (hv : vs[off]? = some v)
    (h : wpList P ops Q rest (a.put o.dst v) w) : wpList P ops Q (o :: rest) a w :=
  wpl hw fun K hK => by
    unfold Oper.wp execOp
    simp only [ho, hx, Sem.run_bind, run_fld w ty i ft off k vs v hf hp hv, Result.andThen_ok, Sem.run_pure]
    exact hK _ _ h
theorem encP_len33 {K : Nat} {k : Int} {e q : UInt32} {ps : List PutV} (ho : PutsOk ps) (hg : goodP k ps = true) : (encP K e q ps).length ≤ 33000 := by
  rw [encP_len ho]
  unfold goodP at hg
  split at hg
  · have := (goodB_at hg).2.1; omega
  · split at hg
    · have := of_decide_eq_true hg; omega
    · exact absurd hg (by decide)
def PktPost (w : World) (k : Int) (e q : UInt32) (ps : List PutV) (en : Ending) (w' : World) : Prop :=
  ∃ el A c, en = .returned (.slice A el.length c) ∧ Rd w' A (bts el) ∧ el.length ≤ c ∧ c ≤ 9223372036854775807 ∧ el.length ≤ 33000 ∧ decP el = ((k, e, q, ps), 0) ∧ Below w.heap.size w w'
set_option maxRecDepth 100000 in
set_option maxHeartbeats 4000000 in
theorem pkt_yes (k : Int) (e q : UInt32) (ps : List PutV) (A : Option Addr) (n c : Nat) (w : World) (hl : ps.length = n) (hm : n ≤ 9223372036854775807) (hr : Rd w A (ps.flatMap putC)) (ho : PutsOk ps) (hg : goodP k ps = true) :
    Calls Try.prog 27 #[.agg (pktC k e q A n c).toArray] w (PktPost w k e q ps) := by
  have HL := Lib.hid hl
  have HR := Lib.hid hr
  have HO := Lib.hid ho
  have HG := Lib.hid hg
  clear hl hr ho hg
  obtain ⟨bx, hbx⟩ : ∃ bx, pktC k e q A n c = bx := ⟨_, rfl⟩
  have HBX := Lib.hid hbx
  have HBL : Hid (bx.length = 4) := by show _ = _; rw [← hbx]; rfl
  rw [hbx]
  clear hbx
  go_enter Try.func27, Try.ntmps27
  go_wp2_with (refine wpList_ld rfl 67 (.tmp 1) rfl w.heap.size 0 4 bx bx rfl (Bk.new w bx _) (by kernel_rfl) (by kernel_rfl) (by rw [HBL.out]; decide) (by rw [List.drop_zero, List.take_of_length_le (by rw [HBL.out]; exact Nat.le_refl _)]) ?_)
  refine calls_at fun w0 hw0 => ?_
  have E0 : Hid (Below w.heap.size w w0) := by rw [← hw0]; exact (Below.refl _ _).alloc (Nat.le_refl _) _
  clear hw0
  rw [← HBX.out]
  refine (refPackEncode_calls k e q ps A n c w0 HL.out hm (HR.out.below E0.out) HO.out).mono ?_
  intro en w1 hp
  unfold RefEncPost at hp
  rw [if_pos HG.out] at hp
  obtain ⟨A1, c1, rfl, hr1, hnc, hcm, hb⟩ := hp
  have E1 : Hid (Below w.heap.size w w1) := E0.out.trans (hb.mono E0.out.size)
  have hle := encP_len33 (K := k.toNat) (e := e) (q := q) HO.out HG.out
  have hde := dec_enc (e := e) (q := q) HG.out HO.out
  obtain ⟨el, hel⟩ : ∃ el, encP k.toNat e q ps = el := ⟨_, rfl⟩
  rw [hel] at hr1 hnc hle hde ⊢
  have H := Lib.hid (And.intro hr1 (And.intro hnc (And.intro hcm (And.intro hle hde))))
  clear hr1 hnc hcm hle hde hb hel E0 HBX HBL
  go_wp2_with fail
  (try simp only [Exit.inBlock, Exit.then])
  go_ret
  exact ⟨el, A1, c1, rfl, H.out.1, H.out.2.1, H.out.2.2.1, H.out.2.2.2.1, H.out.2.2.2.2, E1.out⟩
end Go.Proofs.Ytcmfkdfegfablaa
