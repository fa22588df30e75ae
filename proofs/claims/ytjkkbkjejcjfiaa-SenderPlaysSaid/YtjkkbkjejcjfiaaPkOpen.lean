
/- Packets among the arguments: how they are read. -/
import Derived.Test.YtjkkbkjejcjfiaaPuts
import Derived.Test.YtjkkbkjejcjfiaaSndOwn
import Derived.Test.YtjkkbkjejcjfiaaOpen
namespace Go.Proofs.Ytjkkbkjejcjfiaa
open Go.ChangeShapes Go.WideShapes Go.RowKit Go.Deep
set_option linter.unusedVariables false
set_option linter.unusedSimpArgs false

theorem wp_append_full {P : Program} {o : Oper} {a : Act} {w : World} {K : Act → World → Prop} {Q : Exit → Act → World → Prop} (s x : Operand) (t : TypeId) (ho : o.op = .call { callee := .builtin .append, args := #[s, x], argTypes := #[t, t] }) (e : TypeId) (z : Value) (size bytes : Nat) (ht : P.underlying t = some (.slice e)) (hinfo : (P.info? e).map (fun i => (i.zero, i.size, i.bytes)) = some (some z, size, bytes))
    (hzs : z.cells.size = size) (hsz : 0 < size) (b : Addr) (n cap : Nat) (olds : List Value) (hs : a.eval s = .slice (some b) n cap) (hlo : olds.length = n * size) (hR : Rd w (some b) olds) (A : Option Addr) (m c : Nat) (ys : List Value) (hx : a.eval x = .slice A m c) (hl : ys.length = m * size) (HR : Rd w A ys)
    (hm : 0 < m) (hfull : cap < n + m) (hbytes : (n + m) * bytes ≤ 140737488355328 ∧ n + m ≤ maxLen) (h1 : ∀ u ∈ ys, u.oneCell' = true)
    (h : ∀ A1 c1 w', w'.ownsRow w.heap.size e size (.slice A1 (n + m) c1) (n + m) (olds ++ ys) → Chg NoS w w' → K (a.put o.dst (.slice A1 (n + m) c1)) w') : o.wp P a w K Q := by
  obtain ⟨i0, hi, hzz⟩ := Option.map_eq_some_iff.1 hinfo
  simp only [Prod.mk.injEq] at hzz
  obtain ⟨hz0, hz1, hz2⟩ := hzz
  obtain ⟨ad, rfl, _⟩ := HR.at_ 0 (by rw [hl]; exact Nat.mul_pos hm hsz)
  obtain ⟨v', w', hr, ho', hg⟩ := run_append_arg_grows (P := P) w t o.type e i0 z size bytes ht hi hz0 hz1 hz2 hzs hsz b n cap olds hlo (fun j u hu => by obtain ⟨ad', e', hc⟩ := hR j u hu; injection e' with e'; subst e'; exact hc) ad m c ys hl
    (fun j u hu => by obtain ⟨ad', e', hc⟩ := HR j u hu; injection e' with e'; subst e'; exact hc) hfull hbytes.2 hbytes.1
  obtain ⟨A1, c1, rfl, _, _, _⟩ := own_rd ho'
  unfold Oper.wp execOp
  simp only [ho, resolve, invoke, builtin, Sem.run_bind, Sem.run_pure, Result.andThen_ok, List.map_toArray, List.map_cons, List.map_nil, hs, hx, hr]
  exact h A1 c1 w' ho' ⟨hg.os, hg.tape, hg.output, hg.size, fun k hk _ => hg.block k hk (fun h => by cases h)⟩
theorem wp_append_new {P : Program} {o : Oper} {a : Act} {w : World} {K : Act → World → Prop} {Q : Exit → Act → World → Prop} (s x : Operand) (t : TypeId) (ho : o.op = .call { callee := .builtin .append, args := #[s, x], argTypes := #[t, t] }) (e : TypeId) (z : Value) (size bytes : Nat) (ht : P.underlying t = some (.slice e)) (hinfo : (P.info? e).map (fun i => (i.zero, i.size, i.bytes)) = some (some z, size, bytes))
    (hzs : z.cells.size = size) (hsz : 0 < size) (hby : 0 < bytes) (b : Addr) (hs : a.eval s = .slice (some b) 0 0) (A : Option Addr) (m c : Nat) (ys : List Value) (hx : a.eval x = .slice A m c) (hl : ys.length = m * size) (HR : Rd w A ys) (hbytes : m * bytes ≤ 140737488355328) (h1 : ∀ u ∈ ys, u.oneCell' = true)
    (h : ∀ A1 c1 w', RdN w.heap.size w' A1 ys → Chg NoS w w' → K (a.put o.dst (.slice A1 m c1)) w') : o.wp P a w K Q := by
  rcases Nat.eq_zero_or_pos m with h0 | h0
  · subst h0
    have hy : ys = [] := List.eq_nil_of_length_eq_zero (by omega)
    subst hy
    exact wp_append_empty s x t ho e z size bytes ht hinfo hzs hsz hby b hs A 0 c [] hx hl HR hbytes (fun A1 c1 w' _ hc => h A1 c1 w' .nil hc)
  · have hm : m ≤ 140737488355328 := Nat.le_trans (Nat.le_mul_of_pos_right _ hby) hbytes
    exact wp_append_full s x t ho e z size bytes ht hinfo hzs hsz b 0 0 [] hs (by simp) (Rd.nil _ _) A m c ys hx hl HR h0 (by omega) ⟨by rw [Nat.zero_add]; exact hbytes, by simp only [maxLen]; omega⟩ h1 (fun A1 c1 w' ho hc => by
      rw [Nat.zero_add] at ho ⊢
      rw [List.nil_append] at ho
      exact h A1 c1 w' (RdN.own (v := .bool true) ho) hc)

theorem wpList_append_new {P : Program} {ops : Array Oper} {rest : List Oper} {o : Oper} {a : Act} {w : World} {Q : Exit → Act → World → Prop} (hw : Region.wanted o (yielded ops a.tmps) = true) (s x : Operand) (t : TypeId) (ho : o.op = .call { callee := .builtin .append, args := #[s, x], argTypes := #[t, t] }) (e : TypeId) (z : Value) (size bytes : Nat) (ht : P.underlying t = some (.slice e)) (hinfo : (P.info? e).map (fun i => (i.zero, i.size, i.bytes)) = some (some z, size, bytes))
    (hzs : z.cells.size = size) (hsz : 0 < size) (hby : 0 < bytes) (b : Addr) (hs : a.eval s = .slice (some b) 0 0) (A : Option Addr) (m c : Nat) (ys : List Value) (hx : a.eval x = .slice A m c) (hl : ys.length = m * size) (HR : Rd w A ys) (hbytes : m * bytes ≤ 140737488355328) (h1 : ∀ u ∈ ys, u.oneCell' = true)
    (h : ∀ A1 c1 w', RdN w.heap.size w' A1 ys → Chg NoS w w' → wpList P ops Q rest (a.put o.dst (.slice A1 m c1)) w') : wpList P ops Q (o :: rest) a w :=
  wpl hw fun K hK => wp_append_new s x t ho e z size bytes ht hinfo hzs hsz hby b hs A m c ys hx hl HR hbytes h1 (fun A1 c1 w' hr hc => hK _ _ (h A1 c1 w' hr hc))
structure PkOk (W : World) (p : PkV) (A : Option Addr) (n c : Nat) : Prop where
  len : p.ps.length = n
  cap : n ≤ c
  max : c ≤ 9223372036854775807
  rd : Rd W A (p.ps.flatMap putC)
  ok : PutsOk p.ps
  k1 : -9223372036854775808 ≤ p.k
  k2 : p.k ≤ 9223372036854775807
theorem PkOk.below {w w' : World} {p : PkV} {A : Option Addr} {n c : Nat} (h : PkOk w p A n c) (hb : Below w.heap.size w w') : PkOk w' p A n c := ⟨h.len, h.cap, h.max, h.rd.below hb, h.ok, h.k1, h.k2⟩
section
variable {H : Type} {enc : TypeId × Value → H} {W : World} {P : Program}
theorem TC.u32p {t : TypeId} {cs : List Value} (h : TC enc P W t cs) (ht : P.underlying t = some (.int .u32)) : ∃ x : UInt32, cs = [vu32 x] := by
  obtain ⟨n, rfl, hw⟩ := h.int ht
  have hb : 0 ≤ n ∧ n ≤ 4294967295 := by
    simp [Lit.wf, IntKind.min, IntKind.max, IntKind.signed, IntKind.bits] at hw
    omega
  refine ⟨UInt32.ofNat n.toNat, ?_⟩
  rw [vu32, UInt32.toNat_ofNat_of_lt' (by show n.toNat < 4294967296; omega)]
  congr 2
  omega
theorem pktCells : Try.prog.cellsOf 25 = 4 := by kernel_rfl
set_option maxRecDepth 100000 in
theorem TC.pkt {cs : List Value} (h : TC enc Try.prog W 25 cs) : ∃ p A n c, cs = pktC p.k p.e p.q A n c ∧ PkOk W p A n c := by
  obtain ⟨hl, hf⟩ := h.struct Try.underlying25
  rw [pktCells] at hl
  match cs, hl with
  | [a, b, c, d], _ =>
    have f0 : TC enc Try.prog W 3 (([a, b, c, d].drop 0).take (Try.prog.cellsOf 3)) := hf 0 _ rfl
    have f1 : TC enc Try.prog W 22 (([a, b, c, d].drop 1).take (Try.prog.cellsOf 22)) := hf 1 _ rfl
    have f2 : TC enc Try.prog W 22 (([a, b, c, d].drop 2).take (Try.prog.cellsOf 22)) := hf 2 _ rfl
    have f3 : TC enc Try.prog W 23 (([a, b, c, d].drop 3).take (Try.prog.cellsOf 23)) := hf 3 _ rfl
    rw [show Try.prog.cellsOf 3 = 1 by kernel_rfl] at f0
    rw [show Try.prog.cellsOf 22 = 1 by kernel_rfl] at f1 f2
    rw [show Try.prog.cellsOf 23 = 1 by kernel_rfl] at f3
    obtain ⟨x0, hx0, b0⟩ := f0.int Try.underlying3
    obtain ⟨x1, hx1⟩ := f1.u32p Try.underlying22
    obtain ⟨x2, hx2⟩ := f2.u32p Try.underlying22
    obtain ⟨A, n, c3, ps, hx3, hl3, hc3, hm3, hr3, ho3⟩ := f3.puts
    simp at hx0 hx1 hx2 hx3
    have B0 := Go.bounds_i64 b0
    exact ⟨⟨x0, x1, x2, ps⟩, A, n, c3, by simp [pktC, hx0, hx1, hx2, hx3], ⟨hl3, hc3, hm3, hr3, ho3, B0.1, B0.2⟩⟩
end
theorem infoPk : (Try.prog.info? 25).map (fun i => (i.zero, i.size)) = some (some (.agg zPk.toArray), 4) := by kernel_rfl
end Go.Proofs.Ytjkkbkjejcjfiaa
