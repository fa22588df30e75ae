/- Texts of this seat, merged: Open, Puts, WalGood, Crc, WCrc, Check, SealWa, SealWb, SealWc, SealWd, LabPure, NumRef, WalSmall, WalNum, WalHead, WalPure, WalGetP, Live, WalLive, LabLow, LabBody, LabEnc, LabDec, LabLater, Bits. -/
import Derived.Test.YtcmfkdfegfablaaG1
import Derived.ProofKit
import Derived.OpenShut
import Derived.ChangeOld
import Derived.Deep.Slices
import Derived.Test.YtcmfkdfegfablaaProg
import Derived.ArgAppend
import Derived.Maps.OwnSet
import Derived.Maps.OwnOps
import Derived.Lib.SlBytesConst
import Derived.Deep.AppendLies
import Derived.Laws.OwnMore
import Derived.Test.YtcmfkdfegfablaaG2

/- How the arguments of a statement are read: from data to the cells that the walks speak of. -/
namespace Go.Proofs.Ytcmfkdfegfablaa
open Go.ChangeShapes Go.WideShapes Go.RowKit Go.Deep
set_option linter.unusedVariables false
set_option linter.unusedSimpArgs false

section
variable {H : Type} {enc : TypeId × Value → H} {P : Program} {W : World}
/-- The cells cs read as data of type t. -/
def TC (enc : TypeId × Value → H) (P : Program) (W : World) (t : TypeId) (cs : List Value) : Prop := ∃ fuel x, DataW.trod enc P W 0 (fun _ => true) true fuel t cs = some x
theorem TC.of {t : TypeId} {v : Value} {d : DataW H} {p : List MemPlace} (h : DataW.Trod enc P W 0 (fun _ => true) true t v d p) : TC enc P W t v.cells.toList := by
  obtain ⟨fuel, hf⟩ := h
  exact ⟨fuel, _, hf⟩
theorem TC.int {t : TypeId} {cs : List Value} {k : IntKind} (h : TC enc P W t cs) (ht : P.underlying t = some (.int k)) : ∃ n, cs = [.int k n] ∧ (Lit.int k n).wf = true := by
  obtain ⟨fuel, x, hf⟩ := h
  obtain ⟨n, h1, _, h2⟩ := DataW.trod_int ht hf
  exact ⟨n, h1, h2⟩
theorem TC.u8 {t : TypeId} {cs : List Value} (h : TC enc P W t cs) (ht : P.underlying t = some (.int .u8)) : ∃ x : UInt8, cs = [vu8 x] := by
  obtain ⟨n, rfl, hw⟩ := h.int ht
  have hb := Go.bounds_u8 hw
  refine ⟨UInt8.ofNat n.toNat, ?_⟩
  rw [vu8, UInt8.toNat_ofNat_of_lt' (by show n.toNat < 256; omega)]
  congr 2
  omega
theorem TC.u16 {t : TypeId} {cs : List Value} (h : TC enc P W t cs) (ht : P.underlying t = some (.int .u16)) : ∃ x : UInt16, cs = [vu16 x] := by
  obtain ⟨n, rfl, hw⟩ := h.int ht
  have hb : 0 ≤ n ∧ n ≤ 65535 := by
    simp [Lit.wf, IntKind.min, IntKind.max, IntKind.signed, IntKind.bits] at hw
    omega
  refine ⟨UInt16.ofNat n.toNat, ?_⟩
  rw [vu16, UInt16.toNat_ofNat_of_lt' (by show n.toNat < 65536; omega)]
  congr 2
  omega
theorem TC.bool {t : TypeId} {cs : List Value} (h : TC enc P W t cs) (ht : P.underlying t = some .bool) : ∃ b, cs = [.bool b] := by
  obtain ⟨fuel, x, hf⟩ := h
  cases fuel with
  | zero => simp [DataW.trod] at hf
  | succ m =>
    unfold DataW.trod at hf
    rw [ht] at hf
    split at hf <;> simp_all
/-- One cell after the other of equal pieces. -/
theorem rows_flat {a : Addr} {C : Nat} {T : List Value → Prop} : ∀ (n : Nat), (∀ i, i < n → ∃ cs : List Value, cs.length = C ∧ (∀ j v, cs[j]? = some v → W.cell? (a.add (i * C + j)) = some v) ∧ T cs) →
    ∃ vs : List Value, vs.length = n * C ∧ Rd W (some a) vs ∧ ∀ i, i < n → T ((vs.drop (i * C)).take C)
  | 0, _ => ⟨[], by simp, Rd.nil _ _, fun i h => absurd h (by omega)⟩
  | n + 1, h => by
    obtain ⟨vs, hl, hr, ht⟩ := rows_flat n (fun i hi => h i (by omega))
    obtain ⟨cs, hc, hcell, hT⟩ := h n (by omega)
    refine ⟨vs ++ cs, by rw [List.length_append, hl, hc, Nat.succ_mul], fun j v hj => ?_, fun i hi => ?_⟩
    · by_cases hjl : j < vs.length
      · rw [List.getElem?_append_left hjl] at hj
        exact hr j v hj
      · rw [List.getElem?_append_right (by omega)] at hj
        refine ⟨a, rfl, ?_⟩
        have := hcell _ v hj
        rwa [hl, show n * C + (j - n * C) = j by omega] at this
    · by_cases hin : i = n
      · subst hin
        rw [← hl, List.drop_left, ← hc, List.take_length]
        exact hT
      · have h1 : i * C + C ≤ vs.length := by rw [hl, ← Nat.succ_mul]; exact Nat.mul_le_mul_right _ (by omega)
        rw [List.drop_append_of_le_length (by omega), List.take_append_of_le_length (by rw [List.length_drop]; omega)]
        exact ht i (by omega)
theorem TC.slice {t e : TypeId} {cs : List Value} (h : TC enc P W t cs) (ht : P.underlying t = some (.slice e)) :
    ∃ (A : Option Addr) (n cap : Nat) (vs : List Value), cs = [.slice A n cap] ∧ n ≤ cap ∧ cap ≤ 9223372036854775807 ∧ vs.length = n * P.cellsOf e ∧ Rd W A vs ∧ ∀ i, i < n → TC enc P W e ((vs.drop (i * P.cellsOf e)).take (P.cellsOf e)) := by
  obtain ⟨fuel, x, hf⟩ := h
  rcases open_slice ht hf with ⟨h0, _⟩ | ⟨a, len, cap, m, n, D, Pl, hcs, hb, hl, hm, hmm, hx, hi⟩
  · exact ⟨none, 0, 0, [], h0, by omega, by omega, by simp, Rd.nil _ _, fun i hi => absurd hi (by omega)⟩
  · have hmc : m = cap := by simpa using hmm
    obtain ⟨vs, h1, h2, h3⟩ := rows_flat (W := W) (a := a) (C := P.cellsOf e) (T := TC enc P W e) len (fun i hil => by
      obtain ⟨cs', hc, htr⟩ := hi i (by omega)
      obtain ⟨_, hcl, hat⟩ := World.cells?_some hc
      refine ⟨cs', hcl, fun j v hj => ?_, ⟨_, _, htr⟩⟩
      have hjl : j < P.cellsOf e := by have := (List.getElem?_eq_some_iff.1 hj).1; omega
      have := hat j hjl
      rw [add_add] at this
      rw [this, hj])
    exact ⟨some a, len, cap, vs, hcs, hl, by simpa [maxLen] using hm, h1, h2, h3⟩
theorem TC.arr {t e : TypeId} {n : Nat} {cs : List Value} (h : TC enc P W t cs) (ht : P.underlying t = some (.array n e)) :
    cs.length = P.cellsOf t ∧ ∀ i, i < n → TC enc P W e ((cs.drop (i * P.cellsOf e)).take (P.cellsOf e)) := by
  obtain ⟨fuel, x, hf⟩ := h
  obtain ⟨xs, m, _, _, hl, hn, hi⟩ := DataW.trod_array ht hf
  refine ⟨hl, fun i hin => ⟨m, xs[i]'(by omega), ?_⟩⟩
  rw [hi i hin, List.getElem?_eq_getElem]
theorem TC.struct {t : TypeId} {fs : Array Field} {cs : List Value} (h : TC enc P W t cs) (ht : P.underlying t = some (.struct fs)) :
    cs.length = P.cellsOf t ∧ ∀ (i : Nat) (f : Field), fs[i]? = some f → TC enc P W f.type ((cs.drop f.offset).take (P.cellsOf f.type)) := by
  obtain ⟨fuel, x, hf⟩ := h
  obtain ⟨xs, m, _, _, hl, hn, hi⟩ := DataW.trod_struct ht hf
  refine ⟨hl, fun i f hfi => ⟨m, xs[i]'(by have := (Array.getElem?_eq_some_iff.1 hfi).1; omega), ?_⟩⟩
  rw [hi i f hfi, List.getElem?_eq_getElem]
/-- A row of bytes. -/
theorem bytes_of {e : TypeId} (he : P.underlying e = some (.int .u8)) : ∀ (n : Nat) (vs : List Value), vs.length = n → (∀ i, i < n → TC enc P W e ((vs.drop i).take 1)) → ∃ l : List UInt8, l.length = n ∧ vs = bts l
  | 0, vs, hl, _ => ⟨[], rfl, by simpa [bts] using hl⟩
  | n + 1, [], hl, _ => by simp at hl
  | n + 1, v :: vs, hl, h => by
    obtain ⟨x, hx⟩ := (h 0 (by omega)).u8 he
    obtain ⟨l, h1, h2⟩ := bytes_of he n vs (by simpa using hl) (fun i hi => by have := h (i + 1) (by omega); simpa using this)
    refine ⟨x :: l, by simpa using h1, ?_⟩
    rw [h2]
    simp at hx
    rw [hx]
    rfl
theorem TC.bytes {t e : TypeId} {cs : List Value} (h : TC enc P W t cs) (ht : P.underlying t = some (.slice e)) (he : P.underlying e = some (.int .u8)) (hc : P.cellsOf e = 1) :
    ∃ (A : Option Addr) (n cap : Nat) (l : List UInt8), cs = [.slice A n cap] ∧ l.length = n ∧ n ≤ cap ∧ cap ≤ 9223372036854775807 ∧ Rd W A (bts l) := by
  obtain ⟨A, n, cap, vs, h0, h1, h2, h3, h4, h5⟩ := h.slice ht
  rw [hc] at h3 h5
  obtain ⟨l, hl, rfl⟩ := bytes_of he n vs (by omega) (fun i hi => by have := h5 i hi; rwa [Nat.mul_one] at this)
  exact ⟨A, n, cap, l, h0, hl, h1, h2, h4⟩
theorem TC.arr_bytes {t e : TypeId} {n : Nat} {cs : List Value} (h : TC enc P W t cs) (ht : P.underlying t = some (.array n e)) (he : P.underlying e = some (.int .u8)) (hc : P.cellsOf e = 1) (hn : P.cellsOf t = n) :
    ∃ l : List UInt8, l.length = n ∧ cs = bts l := by
  obtain ⟨h1, h2⟩ := h.arr ht
  rw [hc] at h2
  exact bytes_of he n cs (by omega) (fun i hi => by have := h2 i hi; rwa [Nat.mul_one] at this)
theorem TC.arr2_u16 {t e : TypeId} {cs : List Value} (h : TC enc P W t cs) (ht : P.underlying t = some (.array 2 e)) (he : P.underlying e = some (.int .u16)) (hc : P.cellsOf e = 1) (hn : P.cellsOf t = 2) :
    ∃ x y : UInt16, cs = [vu16 x, vu16 y] := by
  obtain ⟨h1, h2⟩ := h.arr ht
  rw [hc] at h2
  rw [hn] at h1
  match cs, h1 with
  | [a, b], _ =>
    obtain ⟨x, hx⟩ := (h2 0 (by omega)).u16 he
    obtain ⟨y, hy⟩ := (h2 1 (by omega)).u16 he
    simp at hx hy
    exact ⟨x, y, by rw [hx, hy]⟩
theorem two_of {α : Type} {l : List α} (h : l.length = 2) : ∃ x y, l = [x, y] := by
  match l, h with
  | [x, y], _ => exact ⟨x, y, rfl⟩
theorem three_of {α : Type} {l : List α} (h : l.length = 3) : ∃ x y z, l = [x, y, z] := by
  match l, h with
  | [x, y, z], _ => exact ⟨x, y, z, rfl⟩
/-- The argument's own shape. -/
theorem cells_one {v u : Value} (hv : ∀ cs, v ≠ .agg cs) (h : v.cells.toList = [u]) : v = u := by
  cases v <;> first | (simp [Value.cells] at h; exact h) | exact absurd rfl (hv _)
theorem okWide_agg {r : Reach} {b0 : Nat} {t : TypeId} {v : Value} (ht : (match P.underlying t with | some (.struct _) | some (.array _ _) => true | _ => false) = true) (hv : Value.okWide P W r b0 t v) : ∃ cs, v = .agg cs := by
  unfold Value.okWide at hv
  split at hv
  · obtain ⟨cs, h, _⟩ := hv; exact ⟨cs, h⟩
  · obtain ⟨cs, h, _⟩ := hv; exact ⟨cs, h⟩
  · split at ht <;> simp_all
theorem okWide_cell {r : Reach} {b0 : Nat} {t : TypeId} {v : Value} (ht : (match P.underlying t with | some (.struct _) | some (.array _ _) => false | _ => true) = true) (hv : Value.okWide P W r b0 t v) : ∀ cs, v ≠ .agg cs := by
  intro cs he
  subst he
  unfold Value.okWide at hv
  split at hv
  · simp_all
  · simp_all
  · unfold Cell.okWide at hv
    split at hv <;> simp_all [Cell.ok]
end
end Go.Proofs.Ytcmfkdfegfablaa


/- Puts: a row of structs of a number and a block; how it is read; append([]T{}, x...) of it. -/
namespace Go.Proofs.Ytcmfkdfegfablaa
open Go.ChangeShapes Go.WideShapes Go.RowKit Go.Deep
set_option linter.unusedVariables false
set_option linter.unusedSimpArgs false

section
variable {P : Program} {o : Oper} {a : Act} {w : World} {Q : Exit → Act → World → Prop} {ops : Array Oper} {rest : List Oper}
theorem run_loadVar_rd2 (w : World) (ty : TypeId) (ad : Addr) (vs : List Value) (hr : Rd w (some ad) vs) (hagg : (match P.underlying ty with | some (.struct _) | some (.array _ _) => true | _ => false) = true) (hsz : (P.info? ty).map (·.size) = some vs.length) :
    (loadVar ty ad).run P w = .ok (.agg vs.toArray) w := by
  obtain ⟨i0, hi, hs⟩ := Option.map_eq_some_iff.1 hsz
  have hl : (loadCells ad vs.length).run P w = .ok vs.toArray w :=
    run_loadCells_list (P := P) w ad vs (fun j v hv => by
      obtain ⟨ad', e, hc⟩ := hr j v hv
      injection e with e
      subst e
      exact hc)
  have hag : (isAgg ty).run P w = .ok true w := by
    unfold isAgg
    cases hu : P.underlying ty with
    | none => simp [hu] at hagg
    | some d =>
      rw [Sem.run_bind, run_underlying hu w]
      cases d <;> simp_all
  simp [loadVar, Sem.run_bind, hag, sizeOf, typeInfo, hi, hs, hl]
/-- A struct is read where it may be read. -/
theorem wpList_ldr2 (hw : Region.wanted o (yielded ops a.tmps) = true) (ty : TypeId) (x : Operand) (ho : o.op = .load ty x) (ad : Addr) (n : Nat) (vs : List Value) (hx : a.eval x = .pointer (some ad)) (hr : Rd w (some ad) vs)
    (hagg : (match P.underlying ty with | some (.struct _) | some (.array _ _) => true | _ => false) = true) (hsz : (P.info? ty).map (·.size) = some n) (hn : vs.length = n)
    (h : wpList P ops Q rest (a.put o.dst (.agg vs.toArray)) w) : wpList P ops Q (o :: rest) a w := by
  subst hn
  refine wpl hw fun K hK => ?_
  unfold Oper.wp execOp
  simp only [ho, hx, Instr.loadAt, Instr.sureAddr, Sem.run_bind, Sem.run_pure, Result.andThen_ok, run_loadVar_rd2 w ty ad vs hr hagg hsz]
  exact hK _ _ h
end
/-- A put: its block's number and 32 bytes. -/
structure PutV where
  at_ : Int
  data : List UInt8
def putC (p : PutV) : List Value := .int .i64 p.at_ :: bts p.data
theorem putC_len {p : PutV} (h : p.data.length = 32) : (putC p).length = 33 := by simp [putC, h]
def PutsOk (ps : List PutV) : Prop := ∀ p ∈ ps, p.data.length = 32 ∧ -9223372036854775808 ≤ p.at_ ∧ p.at_ ≤ 9223372036854775807
theorem put_rd {w : World} {ad : Addr} {ps : List PutV} (hr : Rd w (some ad) (ps.flatMap putC)) (ho : PutsOk ps) {k : Nat} (hk : k < ps.length) : Rd w (some (ad.add (k * 33))) (putC ps[k]) := by
  have h := (hr.drop (k * 33)).take 33
  rwa [flat_piece putC 33 ps k ps[k] (fun p hp => putC_len (ho p hp).1) (List.getElem?_eq_getElem hk)] at h
theorem one_put (p : PutV) : ∀ u ∈ putC p, u.oneCell' = true := by
  intro u hu
  rcases List.mem_cons.1 hu with rfl | hu
  · rfl
  · exact one_bts _ u hu
theorem puts_some {w : World} {A : Option Addr} {ps : List PutV} (hr : Rd w A (ps.flatMap putC)) {k : Nat} (hk : k < ps.length) : ∃ ad, A = some ad := by
  obtain ⟨ad, h, _⟩ := hr.at_ 0 (by
    cases ps with
    | nil => exact absurd hk (Nat.not_lt_zero _)
    | cons p ps => simp [putC])
  exact ⟨ad, h⟩
theorem put_at {w : World} {ad : Addr} {ps : List PutV} (hr : Rd w (some ad) (ps.flatMap putC)) (ho : PutsOk ps) {k : Nat} (hk : k < ps.length) : w.cell? (ad.add (k * 33)) = some (.int .i64 ps[k].at_) := by
  obtain ⟨ad', e, hc⟩ := put_rd hr ho hk 0 _ rfl
  injection e with e
  subst e
  simpa [Addr.add] using hc
/-- append onto an empty slice without capacity. -/
theorem run_append_empty {P : Program} (w : World) (t ty e : TypeId) (z : Value) (size bytes : Nat) (ht : P.underlying t = some (.slice e)) (hinfo : (P.info? e).map (fun i => (i.zero, i.size, i.bytes)) = some (some z, size, bytes))
    (hzs : z.cells.size = size) (hsz : 0 < size) (hby : 0 < bytes) (b : Addr) (A : Option Addr) (m c : Nat) (ys : List Value) (hl : ys.length = m * size) (HR : Rd w A ys) (hbytes : m * bytes ≤ 140737488355328) :
    ∃ A1 c1 w', (Builtin.append_ #[t, t] ty #[.slice (some b) 0 0, .slice A m c]).run P w = .ok (.slice A1 m c1) w' ∧ Rd w' A1 ys ∧ Chg NoS w w' := by
  obtain ⟨i0, hi, hzz⟩ := Option.map_eq_some_iff.1 hinfo
  simp only [Prod.mk.injEq] at hzz
  obtain ⟨hz0, hz1, hz2⟩ := hzz
  rcases Nat.eq_zero_or_pos m with h0 | h0
  · subst h0
    have hy : ys = [] := List.eq_nil_of_length_eq_zero (by omega)
    subst hy
    refine ⟨some b, 0, w, ?_, Rd.nil _ _, Chg.refl w⟩
    cases A with
    | none => simp [Builtin.append_, run_underlying ht, sizeOf, typeInfo, hi, Builtin.lenOf, Builtin.firstCells, storeCells]
    | some ad =>
      have hl0 := run_loadCells_list (P := P) w ad [] (fun j v h => by simp at h)
      simp only [List.length_nil] at hl0
      simp [Builtin.append_, run_underlying ht, sizeOf, typeInfo, hi, Builtin.lenOf, Builtin.firstCells, storeCells, hl0]
  · obtain ⟨ad, rfl, _⟩ := HR.at_ 0 (by rw [hl]; exact Nat.mul_pos h0 hsz)
    have hm : m ≤ 140737488355328 := Nat.le_trans (Nat.le_mul_of_pos_right _ hby) hbytes
    obtain ⟨v', w', hr, ho, hg⟩ := run_append_arg_grows (P := P) w t ty e i0 z size bytes ht hi hz0 hz1 hz2 hzs hsz b 0 0 [] (by simp) (fun j u h => by simp at h) ad m c ys hl
      (fun j u hu => by obtain ⟨ad', e', hc⟩ := HR j u hu; injection e' with e'; subst e'; exact hc) (by omega) (by simp only [maxLen]; omega) (by simpa using hbytes)
    rw [Nat.zero_add, List.nil_append] at ho
    obtain ⟨A1, c1, rfl, hrd, _, _⟩ := own_rd ho
    exact ⟨A1, c1, w', hr, hrd, ⟨hg.os, hg.tape, hg.output, hg.size, fun k hk _ => hg.block k hk (fun h => by cases h)⟩⟩
theorem wp_append_empty {P : Program} {o : Oper} {a : Act} {w : World} {K : Act → World → Prop} {Q : Exit → Act → World → Prop} (s x : Operand) (t : TypeId) (ho : o.op = .call { callee := .builtin .append, args := #[s, x], argTypes := #[t, t] }) (e : TypeId) (z : Value) (size bytes : Nat) (ht : P.underlying t = some (.slice e)) (hinfo : (P.info? e).map (fun i => (i.zero, i.size, i.bytes)) = some (some z, size, bytes))
    (hzs : z.cells.size = size) (hsz : 0 < size) (hby : 0 < bytes) (b : Addr) (hs : a.eval s = .slice (some b) 0 0) (A : Option Addr) (m c : Nat) (ys : List Value) (hx : a.eval x = .slice A m c) (hl : ys.length = m * size) (HR : Rd w A ys) (hbytes : m * bytes ≤ 140737488355328)
    (h : ∀ A1 c1 w', Rd w' A1 ys → Chg NoS w w' → K (a.put o.dst (.slice A1 m c1)) w') : o.wp P a w K Q := by
  obtain ⟨A1, c1, w', hr, h1, h2⟩ := run_append_empty (P := P) w t o.type e z size bytes ht hinfo hzs hsz hby b A m c ys hl HR hbytes
  unfold Oper.wp execOp
  simp only [ho, resolve, invoke, builtin, Sem.run_bind, Sem.run_pure, Result.andThen_ok, List.map_toArray, List.map_cons, List.map_nil, hs, hx, hr]
  exact h A1 c1 w' h1 h2
section
variable {H : Type} {enc : TypeId × Value → H} {W : World}
theorem cInt : Try.prog.cellsOf 3 = 1 := by kernel_rfl
theorem cU8 : Try.prog.cellsOf 5 = 1 := by kernel_rfl
theorem cBlk : Try.prog.cellsOf 35 = 32 := by kernel_rfl
theorem cPut : Try.prog.cellsOf 54 = 33 := by kernel_rfl
set_option maxRecDepth 100000 in
theorem TC.put {cs : List Value} (h : TC enc Try.prog W 54 cs) : ∃ p, cs = putC p ∧ p.data.length = 32 ∧ -9223372036854775808 ≤ p.at_ ∧ p.at_ ≤ 9223372036854775807 := by
  obtain ⟨hl, hf⟩ := h.struct Try.underlying54
  rw [cPut] at hl
  match cs, hl with
  | a :: cs, hl =>
    have f0 : TC enc Try.prog W 3 (((a :: cs).drop 0).take (Try.prog.cellsOf 3)) := hf 0 _ rfl
    have f1 : TC enc Try.prog W 35 (((a :: cs).drop 1).take (Try.prog.cellsOf 35)) := hf 1 _ rfl
    rw [cInt] at f0
    rw [cBlk, List.drop_succ_cons, List.drop_zero, List.take_of_length_le (by simp at hl; omega)] at f1
    obtain ⟨x0, h0, b0⟩ := f0.int Try.underlying3
    obtain ⟨l1, hl1, h1⟩ := f1.arr_bytes Try.underlying35 Try.underlying5 cU8 cBlk
    have B0 := Go.bounds_i64 b0
    simp at h0
    exact ⟨⟨x0, l1⟩, by rw [putC, h0, h1], hl1, B0.1, B0.2⟩
theorem puts_of : ∀ (n : Nat) (vs : List Value), vs.length = n * 33 → (∀ i, i < n → TC enc Try.prog W 54 ((vs.drop (i * 33)).take 33)) → ∃ ps : List PutV, ps.length = n ∧ vs = ps.flatMap putC ∧ PutsOk ps
  | 0, vs, hl, _ => ⟨[], rfl, List.eq_nil_of_length_eq_zero (by omega), fun s hs => by cases hs⟩
  | n + 1, vs, hl, h => by
    obtain ⟨p, hp, hok⟩ := (h 0 (by omega)).put
    obtain ⟨ps, h1, h2, h3⟩ := puts_of n (vs.drop 33) (by rw [List.length_drop]; omega) (fun i hi => by
      have := h (i + 1) (by omega)
      rwa [show (i + 1) * 33 = 33 + i * 33 by omega, ← List.drop_drop] at this)
    refine ⟨p :: ps, by simp [h1], ?_, ?_⟩
    · rw [List.flatMap_cons, ← h2, ← hp, Nat.zero_mul, List.drop_zero, List.take_append_drop]
    · intro x hx
      rcases List.mem_cons.1 hx with rfl | hx
      · exact hok
      · exact h3 x hx
theorem TC.puts {cs : List Value} (h : TC enc Try.prog W 23 cs) :
    ∃ (A : Option Addr) (n cap : Nat) (ps : List PutV), cs = [.slice A n cap] ∧ ps.length = n ∧ n ≤ cap ∧ cap ≤ 9223372036854775807 ∧ Rd W A (ps.flatMap putC) ∧ PutsOk ps := by
  obtain ⟨A, n, cap, vs, h0, h1, h2, h3, h4, h5⟩ := h.slice Try.underlying23
  rw [cPut] at h3 h5
  obtain ⟨ps, hl, rfl, hk⟩ := puts_of n vs h3 h5
  exact ⟨A, n, cap, ps, h0, hl, h1, h2, h4, hk⟩
end
def zPut : Value := .agg (.int .i64 0 :: bts (List.replicate 32 0)).toArray
theorem infoPut : (Try.prog.info? 54).map (fun i => (i.zero, i.size)) = some (some zPut, 33) := by kernel_rfl
end Go.Proofs.Ytcmfkdfegfablaa


/- The walk of wal.Good. -/
namespace Go.Proofs.Ytcmfkdfegfablaa
open Go.RowKit
set_option linter.unusedVariables false
set_option linter.unusedSimpArgs false

def goodB (ps : List PutV) : Bool := decide (1 ≤ ps.length ∧ ps.length ≤ 5 ∧ (∀ p ∈ ps, 0 ≤ p.at_ ∧ p.at_ < 12) ∧ (ps.map (·.at_)).Nodup)
theorem goodB_no {ps : List PutV} (h : ¬ (1 ≤ ps.length ∧ ps.length ≤ 5 ∧ (∀ p ∈ ps, 0 ≤ p.at_ ∧ p.at_ < 12) ∧ (ps.map (·.at_)).Nodup)) : goodB ps = false := decide_eq_false h
theorem goodB_len {ps : List PutV} (h : ¬ (1 ≤ ps.length ∧ ps.length ≤ 5)) : goodB ps = false := goodB_no fun hh => h ⟨hh.1, hh.2.1⟩
theorem goodB_range {ps : List PutV} {k : Nat} (hk : k < ps.length) (h : ¬ (0 ≤ ps[k].at_ ∧ ps[k].at_ < 12)) : goodB ps = false := goodB_no fun hh => h (hh.2.2.1 _ (List.getElem_mem hk))
theorem goodB_dup {ps : List PutV} {k : Nat} (hk : k < ps.length) (h : ps[k].at_ ∈ (ps.take k).map (·.at_)) : goodB ps = false := goodB_no fun hh => by
  have hn := hh.2.2.2
  rw [← List.take_append_drop k ps, List.map_append, List.nodup_append] at hn
  refine hn.2.2 _ h ps[k].at_ ?_ rfl
  rw [List.drop_eq_getElem_cons hk]
  exact List.mem_map.2 ⟨ps[k], List.mem_cons_self, rfl⟩
theorem goodB_yes {ps : List PutV} (h1 : 1 ≤ ps.length) (h2 : ps.length ≤ 5) (h3 : ∀ p ∈ ps, 0 ≤ p.at_ ∧ p.at_ < 12) (h4 : (ps.map (·.at_)).Nodup) : goodB ps = true := decide_eq_true ⟨h1, h2, h3, h4⟩
/-- What the loop keeps: the first k are right, the map knows just them. -/
structure GoodAt (w : World) (g : Nat) (ps : List PutV) (k : Nat) (D : DataW Unit) (wr : World) : Prop where
  rg : ∀ p ∈ ps.take k, 0 ≤ p.at_ ∧ p.at_ < 12
  nd : ((ps.take k).map (·.at_)).Nodup
  own : wr.ownsMap Try.prog 3 (plainElem Try.prog 3) g k D
  has : ∀ z : Int, Maps.has D (.int .i64 z) = decide (z ∈ (ps.take k).map (·.at_))
  bel : Below w.heap.size w wr
  gp : w.heap.size ≤ g
theorem lawInt : Maps.Keyed Try.prog 3 := Maps.int_keyed Try.underlying3
theorem zeroInt (w : World) : (zeroValue 3).run Try.prog w = .ok (.int .i64 0) w := by kernel_rfl
theorem wf64 {z : Int} (h1 : -9223372036854775808 ≤ z) (h2 : z ≤ 9223372036854775807) : (Lit.int .i64 z).wf = true := by
  simp only [Lit.wf, IntKind.min, IntKind.max, IntKind.signed, IntKind.bits, Bool.and_eq_true, decide_eq_true_eq, if_true]
  omega
theorem GoodAt.more {w wr w2 : World} {g : Nat} {ps : List PutV} {k : Nat} {D : DataW Unit} (h : GoodAt w g ps k D wr) (hk : k < ps.length) (hr : 0 ≤ ps[k].at_ ∧ ps[k].at_ < 12) (hn : ¬ ps[k].at_ ∈ (ps.take k).map (·.at_)) (d : DataW Unit)
    (ho : w2.ownsMap Try.prog 3 (plainElem Try.prog 3) g (k + 1) (D.put (.int .i64 ps[k].at_) d)) (hb : Below w.heap.size w w2) : GoodAt w g ps (k + 1) (D.put (.int .i64 ps[k].at_) d) w2 := by
  refine ⟨fun p hp => ?_, ?_, ho, fun z => ?_, hb, h.gp⟩
  · rw [List.take_succ_eq_append_getElem hk] at hp
    rcases List.mem_append.1 hp with hp | hp
    · exact h.rg p hp
    · obtain rfl := List.mem_singleton.1 hp
      exact hr
  · rw [List.take_succ_eq_append_getElem hk, List.map_append, List.nodup_append]
    refine ⟨h.nd, by simp, fun a ha b hb2 => ?_⟩
    simp at hb2
    subst hb2
    exact fun he => hn (by rw [← he]; exact ha)
  · by_cases hz : z = ps[k].at_
    · subst hz
      rw [Maps.has_put_same h.own.isMap (by exact trivial), List.take_succ_eq_append_getElem hk, List.map_append]
      exact (decide_eq_true (List.mem_append.2 (.inr (List.mem_singleton.2 rfl)))).symm
    · rw [Maps.has_put_other (fun he => hz (by injection he)), h.has, List.take_succ_eq_append_getElem hk, decide_eq_decide, List.map_append, List.mem_append]
      simp only [List.map_cons, List.map_nil, List.mem_singleton, hz, or_false]
theorem ownsMap_chg {P : Program} {k : TypeId} {R : Value → Option (DataW Unit × List MemPlace)} {b n : Nat} {D : DataW Unit} {S : Nat → Prop} {w w' : World} (h : w.ownsMap P k R b n D) (hc : Chg S w w') (hS : ¬ S b) : w'.ownsMap P k R b n D := by
  obtain ⟨es, clock, hb, r⟩ := h
  exact ⟨es, clock, hc.get hb hS, r⟩
def GoodRel (w : World) (ps : List PutV) (v : Value) (wr : World) : Prop := ∃ (k : Nat) (D : DataW Unit), k ≤ ps.length ∧ v = .int .i64 k ∧ GoodAt w w.heap.size ps k D wr
set_option maxRecDepth 100000 in
set_option maxHeartbeats 4000000 in
theorem good_calls (ps : List PutV) (A : Option Addr) (n c : Nat) (w : World) (hl : ps.length = n) (hr : Rd w A (ps.flatMap putC)) (ho : PutsOk ps) :
    Calls Try.prog 38 #[.slice A n c] w fun e w' => e = .returned (.bool (goodB ps)) ∧ Below w.heap.size w w' := by
  subst hl
  have HR := Lib.hid hr
  have HO := Lib.hid ho
  clear hr ho
  by_cases h1 : ps.length < 1
  · have h1i : (ps.length : Int) < 1 := by omega
    have HG : Hid (goodB ps = false) := goodB_len (by omega)
    go_enter Try.func38, Try.ntmps38
    go_wp2
    go_ret
    exact ⟨by rw [HG.out]; rfl, Below.refl _ _⟩
  by_cases h5 : 5 < ps.length
  · have h1i : ¬ ((ps.length : Int) < 1) := by omega
    have h5i : (5 : Int) < (ps.length : Int) := by omega
    have HG : Hid (goodB ps = false) := goodB_len (by omega)
    go_enter Try.func38, Try.ntmps38
    go_wp2
    go_ret
    exact ⟨by rw [HG.out]; rfl, Below.refl _ _⟩
  have h1i : ¬ ((ps.length : Int) < 1) := by omega
  have h5i : ¬ ((5 : Int) < (ps.length : Int)) := by omega
  have H0 : Hid (GoodRel w ps (.int .i64 0) (w.alloc (.map #[] 0))) := ⟨0, .map [], Nat.zero_le _, rfl, ⟨fun p hp => by simp at hp, by simp, World.ownsMap_made _ _ _ _, fun z => by rw [Maps.has_eq]; simp, (Below.refl _ _).alloc (Nat.le_refl _) _, Nat.le_refl _⟩⟩
  have hmm := @run_makeMap Try.prog
  go_enter Try.func38, Try.ntmps38
  go_wp2_with fail
  clear hmm
  go_loopw [19] (fun v wr => GoodRel w ps v wr) (fun v _ => ps.length - (intOf v).toNat)
  case atStart => exact H0.out
  case round =>
    obtain ⟨k, D, hk, rfl, hg⟩ := hrel
    have HG := Lib.hid hg
    clear hg H0
    by_cases hlt : k < ps.length
    · have hki : (k : Int) < (ps.length : Int) := by omega
      have hrr := HR.out.below HG.out.bel
      obtain ⟨ad, hA⟩ := puts_some hrr hlt
      subst hA
      have hpr := put_rd hrr HO.out hlt
      have hpo := HO.out _ (List.getElem_mem hlt)
      have hrg := @goodB_range ps k hlt
      have hdp := @goodB_dup ps k hlt
      have hhas := HG.out.has ps[k].at_
      obtain ⟨p, hp⟩ : ∃ p, ps[k] = p := ⟨_, rfl⟩
      have HMORE : Hid (∀ (w2 : World) (d : DataW Unit), (0 ≤ p.at_ ∧ p.at_ < 12) → ¬ p.at_ ∈ (ps.take k).map (·.at_) → w2.ownsMap Try.prog 3 (plainElem Try.prog 3) w.heap.size (k + 1) (D.put (.int .i64 p.at_) d) → Below w.heap.size w w2 → GoodAt w w.heap.size ps (k + 1) (D.put (.int .i64 p.at_) d) w2) := by
        intro w2 d a1 a2 a3 a4
        have := HG.out.more (w2 := w2) hlt (by rw [hp]; exact a1) (by rw [hp]; exact a2) d (by rw [hp]; exact a3) a4
        rw [hp] at this
        exact this
      rw [hp] at hpr hpo hrg hdp hhas
      have HPR := Lib.hid hpr
      have HPL := Lib.hid (putC_len hpo.1)
      have HRG := Lib.hid hrg
      have HDP := Lib.hid hdp
      have hwf := wf64 hpo.2.1 hpo.2.2
      have hkey : keyOf Try.prog 3 (.int .i64 p.at_) = some (.int .i64 p.at_) := Maps.keyOf_int_mk Try.underlying3 hwf
      have HKEY := Lib.hid hkey
      have HHAS := Lib.hid hhas
      have hkm : k < 6 := by omega
      clear hp hpr hpo hrg hdp hrr hwf hkey hhas
      go_wp2_with (first
        | (refine wpList_ldr2 rfl 54 (.tmp 22) rfl (ad.add (k * 33)) 33 (putC p) rfl HPR.out (by kernel_rfl) (by kernel_rfl) HPL.out ?_)
        | (refine wpList_al rfl 54 rfl (.int .i64 0 :: bts (List.replicate 32 0)) (by kernel_rfl) ?_))
      intro g5 w2 hg hb hc hs
      have HB2 : Hid (Below w.heap.size w w2) := HG.out.bel.trans (hc.below HG.out.bel.size (fun _ _ => id))
      have HM2 := Lib.hid (ownsMap_chg HG.out.own hc id)
      have HG5 : Hid (w.heap.size < g5) := by
        show _ < _
        rw [hg]
        obtain ⟨es, clock, hb, _⟩ := HG.out.own
        exact (Array.getElem?_eq_some_iff.1 hb).1
      have K2 := Lib.hid hb
      clear hb hc hs hg
      go_wp2_with (refine wpList_st rfl 54 (.tmp 5) (.tmp 23) rfl g5 0 33 (.int .i64 0 :: bts (List.replicate 32 0)) (putC p) rfl rfl K2.out (by kernel_rfl) HPL.out (by decide) (one_put p) ?_)
      intro w3 hb hc
      rw [splice_whole _ _ (by rw [HPL.out]; rfl)] at hb
      have hg5 := HG5.out
      have HB3 : Hid (Below w.heap.size w w3) := HB2.out.trans (hc.below HB2.out.size (fun _ _ => by omega))
      have HM3 := Lib.hid (ownsMap_chg HM2.out hc (by omega))
      have c0 := hb.cell (j := 0) rfl
      clear hb hc hg5 K2 HPR HPL HM2 HB2
      by_cases h0 : p.at_ < 0
      · have HN : Hid (goodB ps = false) := HRG.out (fun hh => by omega)
        go_wp2
        go_ret
        exact ⟨by rw [HN.out]; rfl, HB3.out⟩
      · by_cases h12 : p.at_ < 12
        · have h12n : ¬ ((12 : Int) ≤ p.at_) := by omega
          by_cases hd : p.at_ ∈ (ps.take k).map (·.at_)
          · have hh : Maps.has D (Lit.int IntKind.i64 p.at_) = true := by rw [HHAS.out]; exact decide_eq_true hd
            have HN : Hid (goodB ps = false) := HDP.out hd
            clear hd
            go_wp2_with (first
              | (at_lookup; refine wpList_lookup_own_ok_int _ rfl (.tmp 33) (.tmp 35) 108 rfl 3 3 .i64 lawInt Try.underlying108 Try.underlying3 (zeroInt _) w.heap.size k D rfl HM3.out _ _ rfl HKEY.out ?_))
            intro c2 hat hwc
            clear hat hwc
            go_wp2
            go_ret
            exact ⟨by rw [HN.out]; rfl, HB3.out⟩
          · have hh : Maps.has D (Lit.int IntKind.i64 p.at_) = false := by rw [HHAS.out]; exact decide_eq_false hd
            have HD := Lib.hid hd
            clear hd
            go_wp2_with (first
              | (at_lookup; refine wpList_lookup_own_ok_int _ rfl (.tmp 33) (.tmp 35) 108 rfl 3 3 .i64 lawInt Try.underlying108 Try.underlying3 (zeroInt _) w.heap.size k D rfl HM3.out _ _ rfl HKEY.out ?_))
            intro c2 hat hwc
            clear hat hwc
            have HWK : Hid ((Lit.int .i64 (k : Int)).wf = true) := wf64 (by omega) (by omega)
            go_wp2_with (first
              | (at_mapUpdate; refine wpList_mapUpdate_own _ rfl (.tmp 40) (.tmp 42) (.tmp 43) 108 rfl 3 3 lawInt Try.underlying108 (plainElem Try.prog 3) w.heap.size k D rfl HM3.out (by unfold maxLen; omega) _ _ (.int .i64 p.at_) rfl rfl HKEY.out (.lit (.int .i64 (k : Int))) [] (plainElem_int Try.underlying3 HWK.out) ?_))
            intro w4 hown4 hgrow4
            have HB4 : Hid (Below w.heap.size w w4) := HB3.out.trans (below_grown hgrow4 HB3.out.size (fun q hq => by injection hq with hq; omega))
            have HG4 := Lib.hid (HMORE.out w4 _ ⟨by omega, h12⟩ HD.out hown4 HB4.out)
            clear hown4 hgrow4
            go_wp2_with fail
            go_roundw
            case rel => exact ⟨k + 1, _, by omega, by go_num, HG4.out⟩
            case measure => simp [intOf]; omega
        · have h12n : (12 : Int) ≤ p.at_ := by omega
          have HN : Hid (goodB ps = false) := HRG.out (fun hh => by omega)
          go_wp2
          go_ret
          exact ⟨by rw [HN.out]; rfl, HB3.out⟩
    · have hke : k = ps.length := by omega
      have hki : ¬ ((k : Int) < (ps.length : Int)) := by omega
      have HN : Hid (goodB ps = true) := by
        have h1' := HG.out.rg
        have h2' := HG.out.nd
        rw [hke, List.take_length] at h1' h2'
        exact goodB_yes (by omega) (by omega) h1' h2'
      go_wp2
      go_ret
      exact ⟨by rw [HN.out]; rfl, HG.out.bel⟩
end Go.Proofs.Ytcmfkdfegfablaa


/- The check of bytes as a plain function of lists, and its laws: it goes on from a check, it is linear, no two neighboring bytes turn unseen. -/
namespace Go.Proofs.Ytcmfkdfegfablaa
set_option linter.unusedVariables false
set_option linter.unusedSimpArgs false

def crcBit (c : UInt16) : UInt16 := (c >>> 1) ^^^ (0x8408 * (c &&& 1))
def bitN : Nat → UInt16 → UInt16
  | 0, c => c
  | k+1, c => crcBit (bitN k c)
def crcByte (c : UInt16) (x : UInt8) : UInt16 := bitN 8 (c ^^^ x.toUInt16)
def crcMore (c : UInt16) (l : List UInt8) : UInt16 := l.foldl crcByte c
def crcCheck (l : List UInt8) : UInt16 := ~~~ (crcMore 0xffff l)

theorem crcMore_append (c : UInt16) (a b : List UInt8) : crcMore c (a ++ b) = crcMore (crcMore c a) b := by simp [crcMore]
theorem crcMore_cons (c : UInt16) (x : UInt8) (b : List UInt8) : crcMore c (x :: b) = crcMore (crcByte c x) b := by simp [crcMore]
theorem crcMore_nil (c : UInt16) : crcMore c [] = c := rfl
theorem crcMore_take (c : UInt16) (l : List UInt8) (k : Nat) (h : k < l.length) : crcMore c (l.take (k+1)) = crcByte (crcMore c (l.take k)) (l.getD k 0) := by
  rw [crcMore, List.take_succ_eq_append_getElem h, List.foldl_append]; simp [crcMore, List.getElem?_eq_getElem h]

theorem and_one_cases (a : UInt16) : a &&& 1 = 0 ∨ a &&& 1 = 1 := by
  have h : (a &&& 1).toNat = a.toNat % 2 := by rw [UInt16.toNat_and]; simp
  rcases Nat.mod_two_eq_zero_or_one a.toNat with h0 | h0
  · left; apply UInt16.toNat_inj.1; rw [h, h0]; rfl
  · right; apply UInt16.toNat_inj.1; rw [h, h0]; rfl
theorem shr_xor (a b : UInt16) : (a ^^^ b) >>> 1 = (a >>> 1) ^^^ (b >>> 1) := by
  apply UInt16.toNat_inj.1
  rw [UInt16.toNat_xor, UInt16.toNat_shiftRight, UInt16.toNat_shiftRight, UInt16.toNat_shiftRight, UInt16.toNat_xor, Nat.shiftRight_xor_distrib]
theorem and_xor (a b : UInt16) : (a ^^^ b) &&& 1 = (a &&& 1) ^^^ (b &&& 1) := by
  apply UInt16.toNat_inj.1
  simp only [UInt16.toNat_xor, UInt16.toNat_and, Nat.and_xor_distrib_right]
theorem mul_xor (a b : UInt16) : 0x8408 * ((a ^^^ b) &&& 1) = (0x8408 * (a &&& 1)) ^^^ (0x8408 * (b &&& 1)) := by
  rw [and_xor]
  rcases and_one_cases a with ha | ha <;> rcases and_one_cases b with hb | hb <;> rw [ha, hb] <;> decide
theorem crcBit_xor (a b : UInt16) : crcBit (a ^^^ b) = crcBit a ^^^ crcBit b := by
  unfold crcBit
  rw [shr_xor, mul_xor]
  ac_rfl
theorem bitN_xor (k : Nat) (a b : UInt16) : bitN k (a ^^^ b) = bitN k a ^^^ bitN k b := by
  induction k with
  | zero => rfl
  | succ k ih => simp only [bitN, ih, crcBit_xor]
theorem u8to16_xor (a b : UInt8) : (a ^^^ b).toUInt16 = a.toUInt16 ^^^ b.toUInt16 := by
  apply UInt16.toNat_inj.1
  simp
theorem xor_self0 (a : UInt16) : a ^^^ a = 0 := by simp
theorem xor_eq_zero {a b : UInt16} (h : a ^^^ b = 0) : a = b := by
  have : (a ^^^ b) ^^^ b = 0 ^^^ b := by rw [h]
  rwa [UInt16.xor_assoc, xor_self0, UInt16.xor_zero, UInt16.zero_xor] at this

/-- The turn of one bit has no kernel. -/
theorem crcBit_zero {a : UInt16} (h : crcBit a = 0) : a = 0 := by
  unfold crcBit at h
  have h1 := xor_eq_zero h
  have h2 : (a >>> 1).toNat = (0x8408 * (a &&& 1)).toNat := by rw [h1]
  rw [UInt16.toNat_shiftRight] at h2
  have hlt := a.toNat_lt
  have hm : (a &&& 1).toNat = a.toNat % 2 := by rw [UInt16.toNat_and]; simp
  rcases and_one_cases a with h0 | h0
  · rw [h0] at h2 hm
    apply UInt16.toNat_inj.1
    simp [Nat.shiftRight_eq_div_pow] at h2 hm ⊢
    omega
  · rw [h0] at h2
    simp [Nat.shiftRight_eq_div_pow] at h2
    omega
theorem bitN_zero (k : Nat) {a : UInt16} (h : bitN k a = 0) : a = 0 := by
  induction k with
  | zero => exact h
  | succ k ih => exact ih (crcBit_zero h)
theorem bitN_inj (k : Nat) {a b : UInt16} (h : bitN k a = bitN k b) : a = b := by
  apply xor_eq_zero
  apply bitN_zero k
  rw [bitN_xor, h, xor_self0]
theorem bitN_0 (k : Nat) : bitN k 0 = 0 := by
  induction k with
  | zero => rfl
  | succ k ih => rw [bitN, ih]; rfl
theorem crcByte_inj {a b : UInt16} {x : UInt8} (h : crcByte a x = crcByte b x) : a = b := by
  have := bitN_inj 8 h
  have h2 : (a ^^^ x.toUInt16) ^^^ x.toUInt16 = (b ^^^ x.toUInt16) ^^^ x.toUInt16 := by rw [this]
  rwa [UInt16.xor_assoc, UInt16.xor_assoc, xor_self0, UInt16.xor_zero, UInt16.xor_zero] at h2
theorem crcMore_inj {l : List UInt8} : ∀ {a b : UInt16}, crcMore a l = crcMore b l → a = b := by
  induction l with
  | nil => intro a b h; exact h
  | cons x l ih => intro a b h; exact crcByte_inj (ih (by rwa [crcMore_cons, crcMore_cons] at h))

/-- A byte stands eight bits up till the eight turns are over. -/
theorem bitN_high (y : UInt8) : bitN 8 (y.toUInt16 <<< 8) = y.toUInt16 := by
  have key : ∀ n, n < 256 → bitN 8 ((UInt8.ofNat n).toUInt16 <<< 8) = (UInt8.ofNat n).toUInt16 := by decide +kernel
  have := key y.toNat y.toNat_lt
  rwa [UInt8.ofNat_toNat] at this
theorem crcMore_two (c : UInt16) (x y : UInt8) : crcMore c [x, y] = bitN 8 (bitN 8 (c ^^^ x.toUInt16 ^^^ (y.toUInt16 <<< 8))) := by
  show bitN 8 (bitN 8 (c ^^^ x.toUInt16) ^^^ y.toUInt16) = _
  rw [bitN_xor 8 (c ^^^ x.toUInt16), bitN_high]
theorem two_zero {u v : UInt8} (h : u.toUInt16 ^^^ (v.toUInt16 <<< 8) = 0) : u = 0 ∧ v = 0 := by
  have h1 := congrArg UInt16.toNat (xor_eq_zero h)
  rw [UInt16.toNat_shiftLeft] at h1
  have hu := u.toNat_lt
  have hv := v.toNat_lt
  simp [Nat.shiftLeft_eq] at h1
  constructor
  · apply UInt8.toNat_inj.1; simp; omega
  · apply UInt8.toNat_inj.1; simp; omega
theorem xor8_eq_zero {a b : UInt8} (h : a ^^^ b = 0) : a = b := by
  have : (a ^^^ b) ^^^ b = 0 ^^^ b := by rw [h]
  rwa [UInt8.xor_assoc, UInt8.xor_self, UInt8.xor_zero, UInt8.zero_xor] at this
theorem crcMore_two_inj {c : UInt16} {x y x' y' : UInt8} (h : crcMore c [x, y] = crcMore c [x', y']) : x = x' ∧ y = y' := by
  rw [crcMore_two, crcMore_two] at h
  have h1 := bitN_inj 8 (bitN_inj 8 h)
  have h2 : (x ^^^ x').toUInt16 ^^^ ((y ^^^ y').toUInt16 <<< 8) = 0 := by
    have h3 : (c ^^^ x.toUInt16 ^^^ (y.toUInt16 <<< 8)) ^^^ (c ^^^ x'.toUInt16 ^^^ (y'.toUInt16 <<< 8)) = 0 := by rw [h1, xor_self0]
    have h4 : ((y ^^^ y').toUInt16 <<< 8) = (y.toUInt16 <<< 8) ^^^ (y'.toUInt16 <<< 8) := by
      apply UInt16.toNat_inj.1
      rw [u8to16_xor, UInt16.toNat_xor, UInt16.toNat_shiftLeft, UInt16.toNat_shiftLeft, UInt16.toNat_shiftLeft, UInt16.toNat_xor]
      simp only [UInt16.reduceToNat, Nat.reduceMod, Nat.shiftLeft_xor_distrib, Nat.xor_mod_two_pow]
    rw [u8to16_xor, h4, ← h3]
    have h5 : c ^^^ x.toUInt16 ^^^ (y.toUInt16 <<< 8) ^^^ (c ^^^ x'.toUInt16 ^^^ (y'.toUInt16 <<< 8)) = (c ^^^ c) ^^^ (x.toUInt16 ^^^ x'.toUInt16 ^^^ ((y.toUInt16 <<< 8) ^^^ (y'.toUInt16 <<< 8))) := by ac_rfl
    rw [h5, xor_self0, UInt16.zero_xor]
  obtain ⟨h6, h7⟩ := two_zero h2
  exact ⟨xor8_eq_zero h6, xor8_eq_zero h7⟩
/-- Two rows that part in two neighboring bytes at most have one check just if they are one. -/
theorem crcMore_turn (c : UInt16) (a b : List UInt8) (x y x' y' : UInt8) :
    crcMore c (a ++ x :: y :: b) = crcMore c (a ++ x' :: y' :: b) ↔ x = x' ∧ y = y' := by
  constructor
  · intro h
    rw [show a ++ x :: y :: b = (a ++ [x, y]) ++ b by simp, show a ++ x' :: y' :: b = (a ++ [x', y']) ++ b by simp, crcMore_append, crcMore_append _ (a ++ [x', y'])] at h
    have := crcMore_inj h
    rw [crcMore_append, crcMore_append] at this
    exact crcMore_two_inj this
  · rintro ⟨rfl, rfl⟩; rfl
theorem not_eq_xor (x : UInt16) : ~~~ x = x ^^^ 0xffff := by
  apply UInt16.toBitVec_inj.1
  rw [UInt16.toBitVec_not, UInt16.toBitVec_xor]
  exact (BitVec.xor_allOnes (x := x.toBitVec)).symm
theorem not_inj {a b : UInt16} (h : ~~~ a = ~~~ b) : a = b := by
  have := congrArg (~~~ ·) h
  simpa using this
theorem crcCheck_turn (a b : List UInt8) (x y x' y' : UInt8) :
    crcCheck (a ++ x :: y :: b) = crcCheck (a ++ x' :: y' :: b) ↔ x = x' ∧ y = y' := by
  rw [← crcMore_turn 0xffff a b]
  exact ⟨not_inj, fun h => by rw [crcCheck, crcCheck, h]⟩
theorem split_two (l : List UInt8) (k : Nat) (hk : k + 1 < l.length) : l = l.take k ++ l.getD k 0 :: l.getD (k+1) 0 :: l.drop (k+2) := by
  conv => lhs; rw [← List.take_append_drop k l]
  rw [List.drop_eq_getElem_cons (by omega), List.drop_eq_getElem_cons (by omega)]
  simp [List.getElem?_eq_getElem hk, List.getElem?_eq_getElem (show k < l.length by omega)]
theorem set_two (l : List UInt8) (k : Nat) (hk : k + 1 < l.length) (u v : UInt8) : (l.set k u).set (k+1) v = l.take k ++ u :: v :: l.drop (k+2) := by
  apply List.ext_getElem?
  intro i
  by_cases h1 : i < k
  · rw [List.getElem?_set_ne (by omega), List.getElem?_set_ne (by omega), List.getElem?_append_left (by rw [List.length_take]; omega), List.getElem?_take, if_pos h1]
  · by_cases h2 : i = k
    · subst h2
      rw [List.getElem?_set_ne (by omega), List.getElem?_set_self (by omega), List.getElem?_append_right (by rw [List.length_take]; omega)]
      simp [List.length_take, Nat.min_eq_left (show i ≤ l.length by omega)]
    · by_cases h3 : i = k + 1
      · subst h3
        rw [List.getElem?_set_self (by rw [List.length_set]; omega), List.getElem?_append_right (by rw [List.length_take]; omega)]
        simp [List.length_take, Nat.min_eq_left (show k ≤ l.length by omega)]
      · rw [List.getElem?_set_ne (by omega), List.getElem?_set_ne (by omega), List.getElem?_append_right (by rw [List.length_take]; omega), List.length_take, Nat.min_eq_left (by omega)]
        obtain ⟨j, rfl⟩ : ∃ j, i = k + 2 + j := ⟨i - (k + 2), by omega⟩
        rw [show k + 2 + j - k = j + 1 + 1 by omega, List.getElem?_cons_succ, List.getElem?_cons_succ, List.getElem?_drop]
theorem xor_zero_iff (a b : UInt8) : a ^^^ b = a ↔ b = 0 := by
  constructor
  · intro h
    have h2 : a ^^^ (a ^^^ b) = a ^^^ a := by rw [h]
    rwa [← UInt8.xor_assoc, UInt8.xor_self, UInt8.zero_xor] at h2
  · rintro rfl; exact UInt8.xor_zero
/-- Two neighboring bytes that are turned. -/
theorem crcCheck_turned (l : List UInt8) (k : Nat) (hk : k + 1 < l.length) (x y : UInt8) :
    crcCheck ((l.set k (l.getD k 0 ^^^ x)).set (k+1) (l.getD (k+1) 0 ^^^ y)) = crcCheck l ↔ x = 0 ∧ y = 0 := by
  rw [set_two l k hk]
  conv => lhs; rhs; rw [split_two l k hk]
  rw [crcCheck_turn, xor_zero_iff, xor_zero_iff]
/-- What is left behind bytes and their check. -/
theorem crcMore_rest (s : UInt16) : crcMore s [(~~~ s).toUInt8, ((~~~ s) >>> 8).toUInt8] = 0xf0b8 := by
  rw [crcMore_two]
  have h : s ^^^ (~~~ s).toUInt8.toUInt16 ^^^ (((~~~ s) >>> 8).toUInt8.toUInt16 <<< 8) = 0xffff := by
    have h1 : (~~~ s).toUInt8.toUInt16 ^^^ (((~~~ s) >>> 8).toUInt8.toUInt16 <<< 8) = ~~~ s := by
      generalize ~~~ s = t
      apply UInt16.toNat_inj.1
      have hl : (t.toUInt8.toUInt16).toNat = t.toNat % 256 := by simp
      have hh : ((t >>> 8).toUInt8.toUInt16 <<< 8).toNat = (t.toNat / 256) * 256 := by
        rw [UInt16.toNat_shiftLeft]
        have := t.toNat_lt
        simp [Nat.shiftRight_eq_div_pow, Nat.shiftLeft_eq]
        omega
      rw [UInt16.toNat_xor, hl, hh]
      have hx := Nat.two_pow_add_eq_or_of_lt (i := 8) (b := t.toNat % 256) (Nat.mod_lt _ (by decide)) (t.toNat / 256)
      have hd : (t.toNat % 256) ^^^ (t.toNat / 256 * 256) = 256 * (t.toNat / 256) + t.toNat % 256 := by
        rw [Nat.mul_comm (t.toNat / 256), show (256 : Nat) = 2 ^ 8 from rfl, hx]
        apply Nat.eq_of_testBit_eq
        intro i
        rw [Nat.testBit_xor, Nat.testBit_or]
        by_cases hi : i < 8
        · have : (2 ^ 8 * (t.toNat / 2 ^ 8)).testBit i = false := by
            rw [Nat.testBit_two_pow_mul]; simp; omega
          simp [this]
        · have : (t.toNat % 2 ^ 8).testBit i = false := by
            rw [Nat.testBit_mod_two_pow]; simp; omega
          simp [this]
      rw [hd]
      omega
    rw [UInt16.xor_assoc, h1, not_eq_xor, ← UInt16.xor_assoc, xor_self0, UInt16.zero_xor]
  rw [h]
  decide +kernel
theorem crcMore_rest_inj {s : UInt16} {x y : UInt8} (h : crcMore s [x, y] = 0xf0b8) : x = (~~~ s).toUInt8 ∧ y = ((~~~ s) >>> 8).toUInt8 :=
  crcMore_two_inj (h.trans (crcMore_rest s).symm)

/-- Three rows turned by each other. -/
def xor3 : List UInt8 → List UInt8 → List UInt8 → List UInt8
  | a :: us, b :: bs, c :: cs => (a ^^^ b ^^^ c) :: xor3 us bs cs
  | _, _, _ => []
theorem crcMore_xor3 : ∀ (a b c : List UInt8) (s t u : UInt16), a.length = b.length → a.length = c.length →
    crcMore s a ^^^ crcMore t b ^^^ crcMore u c = crcMore (s ^^^ t ^^^ u) (xor3 a b c)
  | [], [], [], _, _, _, _, _ => rfl
  | x :: a, y :: b, z :: c, s, t, u, h1, h2 => by
    rw [crcMore_cons, crcMore_cons, crcMore_cons, crcMore_xor3 a b c _ _ _ (by simpa using h1) (by simpa using h2), xor3, crcMore_cons]
    congr 1
    unfold crcByte
    rw [← bitN_xor, ← bitN_xor, u8to16_xor, u8to16_xor]
    congr 1
    ac_rfl
theorem crcCheck_xor3 (a b c : List UInt8) (h1 : a.length = b.length) (h2 : a.length = c.length) :
    crcCheck a ^^^ crcCheck b ^^^ crcCheck c = crcCheck (xor3 a b c) := by
  unfold crcCheck
  have h := crcMore_xor3 a b c 0xffff 0xffff 0xffff h1 h2
  rw [show (0xffff : UInt16) ^^^ 0xffff ^^^ 0xffff = 0xffff by decide] at h
  rw [← h]
  simp only [not_eq_xor]
  generalize crcMore 65535 a = p, crcMore 65535 b = q, crcMore 65535 c = r
  have : p ^^^ 65535 ^^^ (q ^^^ 65535) ^^^ (r ^^^ 65535) = (p ^^^ q ^^^ r) ^^^ (65535 ^^^ 65535 ^^^ 65535) := by ac_rfl
  rw [this]
  rfl
end Go.Proofs.Ytcmfkdfegfablaa


/- The walks of the check: what the program's and the reference's functions compute. -/
namespace Go.Proofs.Ytcmfkdfegfablaa
open Go.RowKit
set_option linter.unusedVariables false
set_option linter.unusedSimpArgs false

theorem xor16_8 (s : UInt16) (x : UInt8) : Go.bits .xor .u16 (s.toNat : Int) (IntKind.u16.wrap (x.toNat : Int)) = ((s ^^^ x.toUInt16).toNat : Int) := by
  rw [wrap16_u8, bits_xor16]
theorem bit_one (c : UInt16) : Go.bits .xor .u16 ((c.toNat : Int) / (2 : Int)) (IntKind.u16.wrap ((33800 : Int) * Go.bits .and .u16 (c.toNat : Int) 1)) = ((crcBit c).toNat : Int) := by
  have h1 : ((c.toNat : Int) / (2 : Int)) = ((c >>> 1).toNat : Int) := by
    rw [UInt16.toNat_shiftRight]; simp [Nat.shiftRight_eq_div_pow]
  have h2 : IntKind.u16.wrap ((33800 : Int) * ((c &&& 1).toNat : Int)) = ((0x8408 * (c &&& 1)).toNat : Int) := by
    rw [UInt16.toNat_mul, UInt16.toNat_and]
    simp [IntKind.wrap, IntKind.bits, IntKind.signed]
  rw [bits_and16_1, h1, h2, bits_xor16, crcBit]
theorem half16 (c : UInt16) : ((c.toNat : Int) / (2 : Int)) = ((c >>> 1).toNat : Int) := by
  rw [UInt16.toNat_shiftRight]; simp [Nat.shiftRight_eq_div_pow]
theorem bits_xor_poly (c : UInt16) : Go.bits .xor .u16 (c.toNat : Int) 33800 = ((c ^^^ 0x8408).toNat : Int) := bits_xor16 c 0x8408
theorem bit_even {c : UInt16} (h : c &&& 1 = 0) : crcBit c = c >>> 1 := by
  unfold crcBit; rw [h]; simp
theorem bit_odd {c : UInt16} (h : c &&& 1 = 1) : crcBit c = c >>> 1 ^^^ 0x8408 := by
  unfold crcBit; rw [h]; rfl

set_option maxHeartbeats 400000 in
theorem more_calls (c : UInt16) (A : Option Addr) (n cap : Nat) (l : List UInt8) (w : World) (hl : l.length = n) (hn : n ≤ 9223372036854775807) (hr : Rd w A (bts l)) :
    Calls Try.prog 72 #[vu16 c, .slice A n cap] w fun e w' => e = .returned (vu16 (crcMore c l)) ∧ w = w' := by
  subst hl
  have HR := Lib.hid hr
  clear hr
  go_enter Try.func72, Try.ntmps72
  go_wp2
  go_loop [0, 10] (fun v0 v10 => ∃ k : Nat, k ≤ l.length ∧ v10 = .int .i64 k ∧ v0 = vu16 (crcMore c (l.take k))) (fun _ v10 => l.length - (intOf v10).toNat)
  case atStart => exact ⟨0, by omega, rfl, by simp [crcMore]⟩
  case round =>
    obtain ⟨k, hk, rfl, rfl⟩ := hrel
    by_cases hlt : k < l.length
    · obtain ⟨ad, rfl, hc⟩ := Rd.bt HR.out k hlt
      have hb := crcMore_take c l k hlt
      generalize hd : l.getD k 0 = x at hc hb
      have HB := Lib.hid hb
      clear hb hd
      generalize hg : crcMore c (l.take k) = s at HB
      clear hg
      go_wp2
      go_loop [0, 18] (fun v0 v18 => ∃ j : Nat, j ≤ 8 ∧ v18 = .int .i64 j ∧ v0 = vu16 (bitN j (s ^^^ x.toUInt16))) (fun _ v10 => 8 - (intOf v10).toNat)
      case atStart => exact ⟨0, by omega, rfl, by rw [xor16_8]; rfl⟩
      case round =>
        obtain ⟨j, hj, rfl, rfl⟩ := hrel
        by_cases hj8 : j < 8
        · go_wp2
          go_round
          case rel => exact ⟨j + 1, by omega, by go_num, by rw [bit_one]; rfl⟩
          case measure => simp [intOf]; omega
        · go_wp2
          have : j = 8 := by omega
          subst this
          go_round
          case rel => exact ⟨k + 1, by omega, by go_num, by rw [HB.out]; rfl⟩
          case measure => simp [intOf]; omega
    · go_wp2
      go_ret
      have : k = l.length := by omega
      subst this
      simp

set_option maxHeartbeats 400000 in
theorem refMore_calls (c : UInt16) (A : Option Addr) (n cap : Nat) (l : List UInt8) (w : World) (hl : l.length = n) (hn : n ≤ 9223372036854775807) (hr : Rd w A (bts l)) :
    Calls Try.prog 73 #[vu16 c, .slice A n cap] w fun e w' => e = .returned (vu16 (crcMore c l)) ∧ w = w' := by
  subst hl
  have HR := Lib.hid hr
  clear hr
  go_enter Try.func73, Try.ntmps73
  go_wp2
  go_loop [0, 5, 6, 7] (fun v0 v5 _ _ => ∃ k : Nat, k ≤ l.length ∧ v5 = .int .i64 k ∧ v0 = vu16 (crcMore c (l.take k))) (fun _ v5 _ _ => l.length - (intOf v5).toNat)
  case atStart => exact ⟨0, by omega, rfl, by simp [crcMore]⟩
  case round =>
    obtain ⟨k, hk, rfl, rfl⟩ := hrel
    by_cases hlt : k < l.length
    · obtain ⟨ad, rfl, hc⟩ := Rd.bt HR.out k hlt
      have hb := crcMore_take c l k hlt
      generalize hd : l.getD k 0 = x at hc hb
      have HB := Lib.hid hb
      clear hb hd
      generalize hg : crcMore c (l.take k) = s at HB
      clear hg
      go_wp2
      go_loop [0, 6, 7] (fun v0 v6 _ => ∃ j : Nat, j ≤ 8 ∧ v6 = .int .i64 j ∧ v0 = vu16 (bitN j (s ^^^ x.toUInt16))) (fun _ v6 _ => 8 - (intOf v6).toNat)
      case atStart => exact ⟨0, by omega, rfl, by rw [xor16_8]; rfl⟩
      case round =>
        obtain ⟨j, hj, rfl, rfl⟩ := hrel
        by_cases hj8 : j < 8
        · rcases and_one_cases (bitN j (s ^^^ x.toUInt16)) with h1 | h1
          · have hb : (Go.bits .and .u16 (((bitN j (s ^^^ x.toUInt16)).toNat : Nat) : Int) 1 == 1) = false := by
              rw [bits_and16_1, h1]; rfl
            have HE := Lib.hid (bit_even h1)
            clear h1
            go_wp2
            go_round
            case rel => exact ⟨j + 1, by omega, by go_num, by rw [half16, bitN, HE.out]⟩
            case measure => simp [intOf]; omega
          · have hb : (Go.bits .and .u16 (((bitN j (s ^^^ x.toUInt16)).toNat : Nat) : Int) 1 == 1) = true := by
              rw [bits_and16_1, h1]; rfl
            have HE := Lib.hid (bit_odd h1)
            clear h1
            go_wp2
            go_round
            case rel => exact ⟨j + 1, by omega, by go_num, by rw [half16, bitN, HE.out, bits_xor_poly]⟩
            case measure => simp [intOf]; omega
        · go_wp2
          have : j = 8 := by omega
          subst this
          go_round
          case rel => exact ⟨k + 1, by omega, by go_num, by rw [HB.out]; rfl⟩
          case measure => simp [intOf]; omega
    · go_wp2
      go_ret
      have : k = l.length := by omega
      subst this
      simp

def ptl (ps : List Pt) : List UInt8 := ps.flatMap (·.l)
theorem ptl_take (ps : List Pt) (k : Nat) (h : k < ps.length) : ptl (ps.take (k + 1)) = ptl (ps.take k) ++ ps[k].l := by
  rw [ptl, ptl, List.take_succ_eq_append_getElem h, List.flatMap_append]; simp
theorem bits_not16 (c : UInt16) : Go.bits .xor .u16 IntKind.u16.max (c.toNat : Int) = ((~~~ c).toNat : Int) := by
  rw [not_eq_xor, UInt16.xor_comm]
  exact bits_xor16 0xffff c

set_option maxHeartbeats 400000 in
theorem check_calls (ps : List Pt) (A : Option Addr) (n cap : Nat) (w : World) (hn : ps.length = n) (hm : n ≤ 9223372036854775807) (hr : Rd w A (ps.map ptv)) (hp : Pts w ps) :
    Calls Try.prog 68 #[.slice A n cap] w fun e w' => e = .returned (vu16 (crcCheck (ptl ps))) ∧ w = w' := by
  subst hn
  have HR := Lib.hid hr
  have HP := Lib.hid hp
  clear hr hp
  have hsg : IntKind.u16.signed = false := rfl
  go_enter Try.func68, Try.ntmps68
  go_wp2
  go_loop [3, 8] (fun v3 v8 => ∃ k : Nat, k ≤ ps.length ∧ v8 = .int .i64 k ∧ v3 = vu16 (crcMore 0xffff (ptl (ps.take k)))) (fun _ v8 => ps.length - (intOf v8).toNat)
  case atStart => exact ⟨0, by omega, rfl, rfl⟩
  case round =>
    obtain ⟨k, hk, rfl, rfl⟩ := hrel
    by_cases hlt : k < ps.length
    · obtain ⟨ad, rfl, hc⟩ := HR.out.at_ k (by simpa using hlt)
      rw [List.getElem_map] at hc
      have hpk := HP.out _ (List.getElem_mem hlt)
      have hb := ptl_take ps k hlt
      generalize hd : ps[k] = p at hc hb hpk
      obtain ⟨pA, pc, l⟩ := p
      simp only [ptv] at hc
      have HB := Lib.hid hb
      have HK := Lib.hid hpk
      clear hb hd hpk
      generalize hg : ptl (ps.take k) = s at HB
      clear hg
      go_wp2_with (go_at_call 72; refine (more_calls _ _ _ _ l _ rfl (Nat.le_trans HK.out.2.1 HK.out.2.2) HK.out.1).mono ?_; rintro e w' ⟨rfl, rfl⟩)
      go_round
      case rel => exact ⟨k + 1, by omega, by go_num, by rw [HB.out, crcMore_append]⟩
      case measure => simp [intOf]; omega
    · go_wp2
      go_ret
      have : k = ps.length := by omega
      subst this
      rw [List.take_length, bits_not16]
      exact ⟨rfl, rfl⟩

set_option maxHeartbeats 400000 in
theorem refCheck_calls (ps : List Pt) (A : Option Addr) (n cap : Nat) (w : World) (hn : ps.length = n) (hm : n ≤ 9223372036854775807) (hr : Rd w A (ps.map ptv)) (hp : Pts w ps) :
    Calls Try.prog 69 #[.slice A n cap] w fun e w' => e = .returned (vu16 (crcCheck (ptl ps))) ∧ w = w' := by
  subst hn
  have HR := Lib.hid hr
  have HP := Lib.hid hp
  clear hr hp
  have hsg : IntKind.u16.signed = false := rfl
  go_enter Try.func69, Try.ntmps69
  go_wp2
  go_loop [3, 4] (fun v3 v8 => ∃ k : Nat, k ≤ ps.length ∧ v8 = .int .i64 k ∧ v3 = vu16 (crcMore 0xffff (ptl (ps.take k)))) (fun _ v8 => ps.length - (intOf v8).toNat)
  case atStart => exact ⟨0, by omega, rfl, rfl⟩
  case round =>
    obtain ⟨k, hk, rfl, rfl⟩ := hrel
    by_cases hlt : k < ps.length
    · obtain ⟨ad, rfl, hc⟩ := HR.out.at_ k (by simpa using hlt)
      rw [List.getElem_map] at hc
      have hpk := HP.out _ (List.getElem_mem hlt)
      have hb := ptl_take ps k hlt
      generalize hd : ps[k] = p at hc hb hpk
      obtain ⟨pA, pc, l⟩ := p
      simp only [ptv] at hc
      have HB := Lib.hid hb
      have HK := Lib.hid hpk
      clear hb hd hpk
      generalize hg : ptl (ps.take k) = s at HB
      clear hg
      go_wp2_with (go_at_call 73; refine (refMore_calls _ _ _ _ l _ rfl (Nat.le_trans HK.out.2.1 HK.out.2.2) HK.out.1).mono ?_; rintro e w' ⟨rfl, rfl⟩)
      go_round
      case rel => exact ⟨k + 1, by omega, by go_num, by rw [HB.out, crcMore_append]⟩
      case measure => simp [intOf]; omega
    · go_wp2
      go_ret
      have : k = ps.length := by omega
      subst this
      rw [List.take_length, bits_not16]
      exact ⟨rfl, rfl⟩
end Go.Proofs.Ytcmfkdfegfablaa


/- The walk of the check's statements' own trial of the program. -/
namespace Go.Proofs.Ytcmfkdfegfablaa
open Go.RowKit
set_option linter.unusedVariables false
set_option linter.unusedSimpArgs false

theorem check_one {w : World} {A : Option Addr} {g n c : Nat} {l : List UInt8} (hh : Rd w (some ⟨g, 0, none⟩) [.slice A n c]) (hn : l.length = n) (hc : n ≤ c) (hm : c ≤ 9223372036854775807) (hr : Rd w A (bts l)) :
    Calls Try.prog 68 #[.slice (some ⟨g, 0, none⟩) 1 1] w fun e w' => e = .returned (vu16 (crcCheck l)) ∧ w = w' := by
  subst hn
  have := check_calls [⟨A, c, l⟩] (some ⟨g, 0, none⟩) 1 1 w rfl (by decide) hh (by
    intro p hp
    obtain rfl : p = ⟨A, c, l⟩ := by simpa using hp
    exact ⟨hr, hc, hm⟩)
  simpa [ptl] using this
theorem check_two {w : World} {A B : Option Addr} {g n c m d : Nat} {l k : List UInt8} (hh : Rd w (some ⟨g, 0, none⟩) [.slice A n c, .slice B m d]) (hn : l.length = n) (hc : n ≤ c) (hm : c ≤ 9223372036854775807) (hr : Rd w A (bts l))
    (hn' : k.length = m) (hc' : m ≤ d) (hm' : d ≤ 9223372036854775807) (hr' : Rd w B (bts k)) :
    Calls Try.prog 68 #[.slice (some ⟨g, 0, none⟩) 2 2] w fun e w' => e = .returned (vu16 (crcCheck (l ++ k))) ∧ w = w' := by
  subst hn
  subst hn'
  have := check_calls [⟨A, c, l⟩, ⟨B, d, k⟩] (some ⟨g, 0, none⟩) 2 2 w rfl (by decide) hh (by
    intro p hp
    have : p = ⟨A, c, l⟩ ∨ p = ⟨B, d, k⟩ := by simpa using hp
    rcases this with rfl | rfl
    · exact ⟨hr, hc, hm⟩
    · exact ⟨hr', hc', hm'⟩)
  simpa [ptl] using this
theorem check_none {w : World} : Calls Try.prog 68 #[.slice none 0 0] w fun e w' => e = .returned (vu16 0) ∧ w = w' :=
  check_calls [] none 0 0 w rfl (by decide) (Rd.nil _ _) (by intro p hp; cases hp)
theorem conv_bytes {P : Program} (t e : TypeId) (ht : P.underlying t = some (.slice e)) (he : P.underlying e = some (.int .u8)) : ∀ (W : World) (C : Array Value) (n c g : Nat), g = W.heap.size →
    (convert t t (.slice (some ⟨g, 0, none⟩) n c)).run P (W.alloc (.cells C e)) = .ok (.slice (some ⟨g, 0, none⟩) n c) (W.alloc (.cells C e (C.size, C.size + 1))) := by
  intro W C n c g hg
  subst hg
  exact Lib.run_convert_bytes_const W t e C n c ht he
theorem check_w1 : crcCheck [49,50,51,52,53,54,55,56,57] = 0x906e := by decide +kernel
theorem empty_own' {W : World} {g : Nat} (e : TypeId) (size : Nat) (hg : g = W.heap.size) : (W.alloc (.cells #[] e)).ownsRow g e size (.slice (some ⟨g, 0, none⟩) 0 0) 0 [] := by
  subst hg
  exact ⟨by simp, .inr ⟨W.heap.size, 0, #[], rfl, Nat.le_refl _, hal_new rfl, Nat.le_refl _, by simp [maxLen], by simp, by simp⟩⟩
theorem empty_own (w : World) (e : TypeId) (size : Nat) : (w.alloc (.cells #[] e)).ownsRow w.heap.size e size (.slice (some ⟨w.heap.size, 0, none⟩) 0 0) 0 [] :=
  ⟨by simp, .inr ⟨w.heap.size, 0, #[], rfl, Nat.le_refl _, hal_new rfl, Nat.le_refl _, by simp [maxLen], by simp, by simp⟩⟩
end Go.Proofs.Ytcmfkdfegfablaa


/- The walks of a sector with a check: what the program's functions compute. -/
namespace Go.Proofs.Ytcmfkdfegfablaa
open Go.RowKit
set_option linter.unusedVariables false
set_option linter.unusedSimpArgs false

def zb (n : Nat) : List Value := List.replicate n (vu8 0)
theorem bts_cons (m : UInt8) (b : List UInt8) : bts (m :: b) = vu8 m :: bts b := rfl
/-- A sector of a mark and a body of 29 bytes; a body filled up. -/
def secOf (m : UInt8) (b : List UInt8) : List UInt8 := m :: b ++ [(crcCheck (m :: b)).toUInt8, (crcCheck (m :: b) >>> 8).toUInt8]
def padB (l : List UInt8) : List UInt8 := l ++ List.replicate (29 - l.length) 0
theorem padB_length {l : List UInt8} (h : l.length ≤ 29) : (padB l).length = 29 := by simp [padB]; omega
theorem secOf_length {m : UInt8} {b : List UInt8} (h : b.length = 29) : (secOf m b).length = 32 := by simp [secOf, h]
theorem one_w (vs : List Value) (c : UInt16) (h : ∀ u ∈ vs, u.oneCell' = true) : ∀ u ∈ vs ++ [vu16 c], u.oneCell' = true := by
  intro u hu
  rcases List.mem_append.1 hu with hu | hu
  · exact h u hu
  · obtain rfl : u = vu16 c := by simpa using hu
    rfl

set_option maxRecDepth 100000 in
set_option maxHeartbeats 1000000 in
theorem checkedOf_calls (m : UInt8) (b : List UInt8) (w : World) (hb : b.length = 29) :
    Calls Try.prog 60 #[.agg (bts (m :: b)).toArray] w fun e w' => e = .returned (.agg (bts (m :: b) ++ [vu16 (crcCheck (m :: b))]).toArray) ∧ Below w.heap.size w w' := by
  have h1 : ∀ u ∈ bts (m :: b), u.oneCell' = true := one_bts _
  have h2 : ((bts (m :: b)).drop 1).take 29 = bts b := by rw [bts_cons, List.drop_succ_cons, List.drop_zero, ← hb, ← bts_length, List.take_length]
  have h0 : (bts (m :: b))[0]? = some (vu8 m) := rfl
  generalize hvs : bts (m :: b) = vs at h1 h2 h0
  have hl : vs.length = 30 := by rw [← hvs]; simp [hb]
  have HV := Lib.hid hvs
  have HL := Lib.hid hl
  have HB1 := Lib.hid hb
  have H1 := Lib.hid h1
  have H2 := Lib.hid h2
  clear hvs hl hb h1 h2
  go_enter Try.func60, Try.ntmps60
  go_wp2_with fail
  refine code_at fun w0 hw0 => ?_
  have HB : Hid (Bk w0 w.heap.size vs) := by subst hw0; exact (Bk.new w vs _).alloc _
  have HZ : Hid (Bk w0 (w.heap.size + 1) (zb 30 ++ [vu16 0])) := by subst hw0; exact ⟨_, hal_new (by simp)⟩
  have HBel : Hid (Below w.heap.size w w0) := by subst hw0; exact ((Below.refl _ _).alloc (Nat.le_refl _) _).alloc (by simp) _
  have HC : Hid (w0.cell? ⟨w.heap.size, 0, none⟩ = some (vu8 m)) := HB.out.cell h0
  clear hw0 h0
  apply wp_region_rel 9 (Chg NoS) [(Veq _), (Veq _), (Veq _), (RowAt NoS 1 _), (Veq _), (Veq _), (RowsAt (.slice (some ⟨w.heap.size, 1, none⟩) 29 29) [vu8 m]), (Veq _), (Veq _)] [[], [], [1], [2], [], [4], [3, 5], [6], [0, 7]] [3, 4, 5, 6, 7, 8, 9, 10, 11] (by kernel_rfl) (by kernel_rfl) rfl rfl rfl Chg.refl (fun _ _ _ => Chg.trans) ⟨Veq.lasts, Veq.lasts, Veq.lasts, RowAt.lasts, Veq.lasts, Veq.lasts, RowsAt.lasts, Veq.lasts, Veq.lasts, trivial⟩ ?aops ?afin
  case aops =>
    refine ⟨?ao0, ?ao1, ?ao2, ?ao3, ?ao4, ?ao5, ?ao6, ?ao7, ?ao8, trivial⟩
    case ao0 =>
      intro a wx hE hin
      have i1 : a.eval (.tmp 1) = .pointer (some ⟨w.heap.size, 0, none⟩) := hin 1 rfl
      clear hin
      have hcst : ∀ v, a.eval (.const v) = v := fun _ => rfl
      have hfnc : ∀ f, a.eval (.func f) = .func (.func f) #[] #[] := fun _ => rfl
      refine want_none rfl ?_
      exact wp_ld 99 _ rfl w.heap.size 0 30 vs vs i1 ((HB.out.drew).chg hE id) (by kernel_rfl) (by kernel_rfl) (by rw [HL.out]; decide) (by rw [List.drop_zero, ← HL.out, List.take_length]) (rel_val (Chg.refl _))
    case ao1 =>
      intro a wx hE hin
      have i1 : a.eval (.tmp 1) = .pointer (some ⟨w.heap.size, 0, none⟩) := hin 1 rfl
      clear hin
      have hcst : ∀ v, a.eval (.const v) = v := fun _ => rfl
      have hfnc : ∀ f, a.eval (.func f) = .func (.func f) #[] #[] := fun _ => rfl
      refine want_none rfl ?_
      unfold Oper.wp
      generalize a.eval = ρ at *
      go_simp
      try go_bits
      first | exact rel_val (Chg.refl _) | (go_simp; exact rel_val (Chg.refl _))
    case ao2 =>
      rintro a wx hE hin (h1 : a.eval (.tmp 4) = _)
      clear hin
      have hcst : ∀ v, a.eval (.const v) = v := fun _ => rfl
      have hfnc : ∀ f, a.eval (.func f) = .func (.func f) #[] #[] := fun _ => rfl
      refine want_none rfl ?_
      unfold Oper.wp
      generalize a.eval = ρ at *
      have c := hE.cell (w := w0.drew) HC.out id
      go_simp
      try go_bits
      first | exact rel_val (Chg.refl _) | (go_simp; exact rel_val (Chg.refl _))
    case ao3 =>
      rintro a wx hE hin (h2 : a.eval (.tmp 5) = _)
      clear hin
      have hcst : ∀ v, a.eval (.const v) = v := fun _ => rfl
      have hfnc : ∀ f, a.eval (.func f) = .func (.func f) #[] #[] := fun _ => rfl
      refine want_none rfl ?_
      unfold Oper.wp
      generalize a.eval = ρ at *
      go_simp
      try go_bits
      exact rel_row (id)
    case ao4 =>
      intro a wx hE hin
      have i1 : a.eval (.tmp 1) = .pointer (some ⟨w.heap.size, 0, none⟩) := hin 1 rfl
      clear hin
      have hcst : ∀ v, a.eval (.const v) = v := fun _ => rfl
      have hfnc : ∀ f, a.eval (.func f) = .func (.func f) #[] #[] := fun _ => rfl
      refine want_none rfl ?_
      unfold Oper.wp
      generalize a.eval = ρ at *
      go_simp
      try go_bits
      first | exact rel_val (Chg.refl _) | (go_simp; exact rel_val (Chg.refl _))
    case ao5 =>
      rintro a wx hE hin (h4 : a.eval (.tmp 7) = _)
      clear hin
      have hcst : ∀ v, a.eval (.const v) = v := fun _ => rfl
      have hfnc : ∀ f, a.eval (.func f) = .func (.func f) #[] #[] := fun _ => rfl
      refine want_none rfl ?_
      unfold Oper.wp
      generalize a.eval = ρ at *
      go_simp
      try go_bits
      first | exact rel_val (Chg.refl _) | (go_simp; exact rel_val (Chg.refl _))
    case ao6 =>
      rintro a wx hE hin ⟨g3, h3, s3, t3, f3, c3⟩ (h5 : a.eval (.tmp 8) = _)
      clear hin
      have hcst : ∀ v, a.eval (.const v) = v := fun _ => rfl
      have hfnc : ∀ f, a.eval (.func f) = .func (.func f) #[] #[] := fun _ => rfl
      refine want_none rfl ?_
      unfold Oper.wp
      generalize a.eval = ρ at *
      go_simp
      exact ⟨_, rfl, ⟨wx.heap.size, g3, rfl, Rd.new _ _ _, (Rd.row (S := NoS) c3).alloc _⟩, (Chg.refl _).alloc _⟩
    case ao7 =>
      rintro a wx hE hin ⟨gg, gk, h6, b6, b6k⟩
      clear hin
      have hcst : ∀ v, a.eval (.const v) = v := fun _ => rfl
      have hfnc : ∀ f, a.eval (.func f) = .func (.func f) #[] #[] := fun _ => rfl
      refine want_none rfl ?_
      unfold Oper.wp
      generalize a.eval = ρ at *
      go_simp
      refine (check_two (A := some ⟨gk, 0, none⟩) (n := 1) (c := 1) (B := some ⟨w.heap.size, 1, none⟩) (m := 29) (d := 29) (l := [m]) (k := b) b6 rfl (by decide) (by decide) b6k HB1.out (by decide) (by decide) ?_).mono ?_
      · have := (HB.out.drew.chg hE id).rd_at 1 29
        rwa [H2.out] at this
      rintro e w' ⟨rfl, rfl⟩
      exact rel_val (Chg.refl _)
    case ao8 =>
      rintro a wx hE hin (h0 : a.eval (.tmp 3) = _) (h7 : a.eval (.tmp 10) = _)
      clear hin
      have hcst : ∀ v, a.eval (.const v) = v := fun _ => rfl
      have hfnc : ∀ f, a.eval (.func f) = .func (.func f) #[] #[] := fun _ => rfl
      refine want_none rfl ?_
      exact wp_bld2 119 0 1 _ _ rfl 31 (zb 30 ++ [vu16 0]) [(0, 30), (30, 1)] (by kernel_rfl) (by kernel_rfl) vs [vu16 (crcCheck (m :: b))] (by rw [h0]; rfl) (by rw [h7]; rfl) (by rw [HL.out]; rfl) (by rw [HL.out]; rfl) (by rw [HL.out]; rfl) (rel_val (Chg.refl _))
  case afin =>
    intro wx hE
    rintro _ rfl _ rfl _ rfl _ ⟨g3, rfl, s3, t3, f3, c3⟩ _ rfl _ rfl _ ⟨gg, gk, rfl, b6, b6k⟩ _ rfl _ rfl
    simp only [FinOk, List.take_succ_cons, List.take_zero, List.take_nil, List.drop_succ_cons, List.drop_zero, List.drop_nil, Act.put, List.setIfInBounds_toArray, List.set_cons_succ, List.set_cons_zero]
    refine wpList_st rfl 119 _ _ rfl (w.heap.size + 1) 0 31 (zb 30 ++ [vu16 0]) (vs ++ [vu16 (crcCheck (m :: b))]) rfl rfl (HZ.out.drew.chg hE id) (by kernel_rfl) (by rw [List.length_append, HL.out]; rfl) (by decide) (one_w _ _ H1.out) ?_
    intro w2 hb2 hc2
    rw [splice_whole _ _ (by rw [List.length_append, HL.out]; rfl)] at hb2
    have hbel : Below w.heap.size w w2 := HBel.out.trans ((hE.undrew.below (B := w.heap.size) HBel.out.size (fun _ _ => id)).trans (hc2.below (Nat.le_trans HBel.out.size hE.size) (fun k hk he => by omega)))
    have HK := Lib.hid hb2
    have HF := Lib.hid hbel
    clear hb2 hbel hc2 hE
    go_wp2_with fail
    try simp only [Exit.inBlock, Exit.then]
    refine bodyPost_ret (res_cell rfl _ _ (w.heap.size + 1) 31 (vs ++ [vu16 (crcCheck (m :: b))]) rfl HK.out (by kernel_rfl) (by kernel_rfl) (by rw [List.length_append, HL.out]; rfl)) rfl ?_
    exact ⟨rfl, HF.out⟩

end Go.Proofs.Ytcmfkdfegfablaa


/- The walks of a sector with a check: what the program's functions compute. -/
namespace Go.Proofs.Ytcmfkdfegfablaa
open Go.RowKit
set_option linter.unusedVariables false
set_option linter.unusedSimpArgs false

theorem block_cells (m : UInt8) (b : List UInt8) (c : UInt16) (hb : b.length = 29) : splice (splice (splice (vu8 m :: zb 31) 1 ((bts b).take 31)) 30 [vu8 c.toUInt8]) 31 [vu8 (c >>> 8).toUInt8] = bts (m :: b ++ [c.toUInt8, (c >>> 8).toUInt8]) := by
  have h1 : splice (vu8 m :: zb 31) 1 ((bts b).take 31) = bts (m :: b) ++ zb 2 := by
    rw [List.take_of_length_le (by simp [hb])]
    simp [splice, hb, zb, bts]
  rw [h1]
  have h2 : splice (bts (m :: b) ++ zb 2) 30 [vu8 c.toUInt8] = bts (m :: b) ++ [vu8 c.toUInt8, vu8 0] := by
    simp only [splice]
    rw [List.take_append_of_le_length (by simp [hb]), List.take_of_length_le (by simp [hb]), List.drop_append, List.drop_eq_nil_of_le (by simp [hb])]
    simp [hb, zb]
  rw [h2]
  simp only [splice]
  rw [List.take_append, List.take_of_length_le (by simp [hb]), List.drop_append, List.drop_eq_nil_of_le (by simp [hb])]
  simp [hb, bts]
set_option maxRecDepth 100000 in
set_option maxHeartbeats 1000000 in
theorem sealBlock_calls (m : UInt8) (b : List UInt8) (c : UInt16) (w : World) (hb : b.length = 29) :
    Calls Try.prog 61 #[.agg (bts (m :: b) ++ [vu16 c]).toArray] w fun e w' => e = .returned (.agg (bts (m :: b ++ [c.toUInt8, (c >>> 8).toUInt8])).toArray) ∧ Below w.heap.size w w' := by
  have h3 := block_cells m b c hb
  have h2 : ((bts (m :: b) ++ [vu16 c]).drop 1).take 29 = bts b := by
    rw [bts_cons, List.cons_append, List.drop_succ_cons, List.drop_zero, List.take_append_of_le_length (by simp [hb]), List.take_of_length_le (by simp [hb])]
  have h30 : (bts (m :: b) ++ [vu16 c])[30]? = some (vu16 c) := by rw [List.getElem?_append_right (by simp [hb])]; simp [hb]
  rw [bts_cons, List.cons_append] at h2 h30 ⊢
  generalize hrs : bts (m :: b ++ [c.toUInt8, (c >>> 8).toUInt8]) = rs at h3
  have hrl : rs.length = 32 := by rw [← hrs]; simp [hb]
  generalize hvs : bts b ++ [vu16 c] = vs at h2 h30
  have hl : vs.length = 30 := by rw [← hvs]; simp [hb]
  have hone : ∀ u ∈ rs, u.oneCell' = true := by rw [← hrs]; exact one_bts _
  have HO := Lib.hid hone
  have HV := Lib.hid hvs
  have HL := Lib.hid hl
  have HRL := Lib.hid hrl
  have HB1 := Lib.hid hb
  have H2 := Lib.hid h2
  have H3 := Lib.hid h3
  have HN : Hid (vs.length + 1 = 31) := by rw [hl]; rfl
  have H30 := Lib.hid h30
  clear hvs hl hb h2 h3 h30 hrs hrl hone
  go_enter Try.func61, Try.ntmps61
  go_wp2_with (refine wpList_al rfl 35 rfl (zb 32) (by kernel_rfl) ?_)
  intro g1 w1 hg1 hb1 hc1 hz1
  obtain rfl : g1 = w.heap.size + 1 := by simp [hg1]
  have HB1w := Lib.hid hb1
  have HBm : Hid (Bk w1 w.heap.size (vu8 m :: vs)) := (Bk.new w _ _).chg hc1 id
  have HBe : Hid (Below w.heap.size w w1) := ((Below.refl _ _).alloc (Nat.le_refl _) _).trans (hc1.below (by simp) (fun _ _ => id))
  have HS1 := Lib.hid hz1
  have hcm := HBm.out.cell (j := 0) rfl
  clear hb1 hc1 hz1 hg1
  go_wp2_with (first
    | (refine wpList_al rfl 35 rfl (zb 32) (by kernel_rfl) ?_)
    | (refine wpList_bld rfl 35 [(0, .tmp 6)] rfl (zb 32) [(0, [vu8 m])] (vu8 m :: zb 31) (by kernel_rfl) (by kernel_rfl) ?f1 rfl ?_))
  case f1 => exact ⟨rfl, ⟨1, rfl, by kernel_rfl, by decide⟩, trivial⟩
  intro g2 w2 hg2 hb2 hc2 hz2
  rw [HS1.out] at hg2
  subst hg2
  have HB2w := Lib.hid hb2
  have HB2m : Hid (Bk w2 w.heap.size (vu8 m :: vs)) := HBm.out.chg hc2 id
  have HB21 : Hid (Bk w2 (w.heap.size + 1) (zb 32)) := HB1w.out.chg hc2 id
  have HBe2 : Hid (Below w.heap.size w w2) := HBe.out.trans (hc2.below HBe.out.size (fun _ _ => id))
  clear hb2 hc2 hz2
  go_wp2_with (refine wpList_st rfl 35 _ _ rfl (w.heap.size + 1 + 1) 0 32 (zb 32) (vu8 m :: zb 31) rfl rfl HB2w.out (by kernel_rfl) rfl (by decide) (one_bts (m :: List.replicate 31 0)) ?_)
  intro w0 hd hc
  rw [splice_whole (zb 32) (vu8 m :: zb 31) rfl] at hd
  have HD := Lib.hid hd
  have HB : Hid (Bk w0 w.heap.size (vu8 m :: vs)) := HB2m.out.chg hc (by omega)
  have HZ : Hid (Bk w0 (w.heap.size + 1) (zb 32)) := HB21.out.chg hc (by omega)
  have HBel : Hid (Below w.heap.size w w0) := HBe2.out.trans (hc.below HBe2.out.size (fun k hk he => by omega))
  clear hd hc
  go_wp2_with fail
  apply wp_region_rel 4 (Chg NoS) [(Veq _), (Veq _), (Veq _), (Veq _)] [[], [], [1], [2]] [8, 9, 10, 11] (by kernel_rfl) (by kernel_rfl) rfl rfl rfl Chg.refl (fun _ _ _ => Chg.trans) ⟨Veq.lasts, Veq.lasts, Veq.lasts, Veq.lasts, trivial⟩ ?aops ?afin
  case aops =>
    refine ⟨?ao0, ?ao1, ?ao2, ?ao3, trivial⟩
    case ao0 =>
      intro a wx hE hin
      have i3 : a.eval (.tmp 3) = .pointer (some ⟨w.heap.size + 1 + 1, 0, none⟩) := hin 3 rfl
      clear hin
      have hcst : ∀ v, a.eval (.const v) = v := fun _ => rfl
      have hfnc : ∀ f, a.eval (.func f) = .func (.func f) #[] #[] := fun _ => rfl
      refine want_none rfl ?_
      unfold Oper.wp
      generalize a.eval = ρ at *
      go_simp
      try go_bits
      first | exact rel_val (Chg.refl _) | (go_simp; exact rel_val (Chg.refl _))
    case ao1 =>
      intro a wx hE hin
      have i1 : a.eval (.tmp 1) = .pointer (some ⟨w.heap.size, 0, none⟩) := hin 1 rfl
      clear hin
      have hcst : ∀ v, a.eval (.const v) = v := fun _ => rfl
      have hfnc : ∀ f, a.eval (.func f) = .func (.func f) #[] #[] := fun _ => rfl
      refine want_none rfl ?_
      unfold Oper.wp
      generalize a.eval = ρ at *
      go_simp
      try go_bits
      first | exact rel_val (Chg.refl _) | (go_simp; exact rel_val (Chg.refl _))
    case ao2 =>
      rintro a wx hE hin (h1 : a.eval (.tmp 9) = _)
      clear hin
      have hcst : ∀ v, a.eval (.const v) = v := fun _ => rfl
      have hfnc : ∀ f, a.eval (.func f) = .func (.func f) #[] #[] := fun _ => rfl
      refine want_none rfl ?_
      unfold Oper.wp
      generalize a.eval = ρ at *
      go_simp
      try go_bits
      first | exact rel_val (Chg.refl _) | (go_simp; exact rel_val (Chg.refl _))
    case ao3 =>
      rintro a wx hE hin (h2 : a.eval (.tmp 10) = _)
      clear hin
      have hcst : ∀ v, a.eval (.const v) = v := fun _ => rfl
      have hfnc : ∀ f, a.eval (.func f) = .func (.func f) #[] #[] := fun _ => rfl
      refine want_none rfl ?_
      unfold Oper.wp
      generalize a.eval = ρ at *
      go_simp
      try go_bits
      first | exact rel_val (Chg.refl _) | (go_simp; exact rel_val (Chg.refl _))
  case afin =>
    intro wx hE
    rintro _ rfl _ rfl _ rfl _ rfl
    simp only [FinOk, List.take_succ_cons, List.take_zero, List.take_nil, List.drop_succ_cons, List.drop_zero, List.drop_nil, Act.put, List.setIfInBounds_toArray, List.set_cons_succ, List.set_cons_zero]
    refine wpList_cp rfl _ _ 56 56 5 rfl Try.underlying56 (by kernel_rfl) (w.heap.size + 1 + 1) 1 31 31 (some ⟨w.heap.size, 1, none⟩) 29 29 (vu8 m :: zb 31) (bts b) rfl rfl (HD.out.drew.chg hE id) (by have := (HB.out.drew.chg hE id).rd_at 1 29; rwa [H2.out] at this) (by rw [bts_length, HB1.out]) (by simp [zb]) (one_bts _) ?_
    intro w2 hb2 hc2
    have hbel : Below w.heap.size w w2 := HBel.out.trans ((hE.undrew.below (B := w.heap.size) HBel.out.size (fun _ _ => id)).trans (hc2.below (Nat.le_trans HBel.out.size hE.size) (fun k hk he => by omega)))
    have HB2 : Hid (Bk w2 w.heap.size (vu8 m :: vs)) := (HB.out.drew.chg hE id).chg hc2 (by omega)
    have HZ2 : Hid (Bk w2 (w.heap.size + 1) (zb 32)) := (HZ.out.drew.chg hE id).chg hc2 (by omega)
    have hc : w2.cell? ⟨w.heap.size, 30, none⟩ = some (vu16 c) := HB2.out.cell H30.out
    have HK := Lib.hid hb2
    have HF := Lib.hid hbel
    clear hb2 hbel hc2 hE
    go_wp2_with (refine wpList_st rfl 5 _ _ rfl (w.heap.size + 1 + 1) 30 1 _ [vu8 c.toUInt8] rfl (congrArg (fun z => [Value.int .u8 z]) (mod8_u16 c)) HK.out (by kernel_rfl) rfl ?len (fun u hu => by obtain rfl := List.mem_singleton.1 hu; rfl) ?_)
    case len => rw [length_splice _ _ _ (by simp [HB1.out, zb])]; simp [zb]
    intro w3 hb3 hc3
    have HK3 := Lib.hid hb3
    have HC3 := Lib.hid hc3
    clear hb3 hc3
    go_wp2_with (refine wpList_st rfl 5 _ _ rfl (w.heap.size + 1 + 1) 31 1 _ [vu8 (c >>> 8).toUInt8] rfl (congrArg (fun z => [Value.int .u8 z]) (mod8_hi c)) HK3.out (by kernel_rfl) rfl ?len2 (fun u hu => by obtain rfl := List.mem_singleton.1 hu; rfl) ?_)
    case len2 => rw [length_splice _ _ _ (by rw [length_splice _ _ _ (by simp [HB1.out, zb])]; simp [zb]), length_splice _ _ _ (by simp [HB1.out, zb])]; simp [zb]
    intro w4 hb4 hc4
    rw [H3.out] at hb4
    have HK4 := Lib.hid hb4
    have HC4 := Lib.hid hc4
    clear hb4 hc4
    go_wp2_with (first | (refine wpList_ld rfl 35 _ rfl (w.heap.size + 1 + 1) 0 32 rs rs rfl HK4.out (by kernel_rfl) (by kernel_rfl) (by rw [HRL.out]; decide) (by rw [List.drop_zero, ← HRL.out, List.take_length]) ?_) | (refine wpList_st rfl 35 _ _ rfl (w.heap.size + 1) 0 32 (zb 32) rs rfl rfl ((HZ2.out.chg HC3.out (by omega)).chg HC4.out (by omega)) (by kernel_rfl) HRL.out (by decide) HO.out ?_))
    intro w5 hb5 hc5
    rw [splice_whole _ _ (by rw [HRL.out]; rfl)] at hb5
    have hbel : Below w.heap.size w w5 := HF.out.trans ((HC3.out.below (B := w.heap.size) HF.out.size (fun k hk he => by omega)).trans ((HC4.out.below (Nat.le_trans HF.out.size HC3.out.size) (fun k hk he => by omega)).trans (hc5.below (Nat.le_trans (Nat.le_trans HF.out.size HC3.out.size) HC4.out.size) (fun k hk he => by omega))))
    have HK5 := Lib.hid hb5
    have HF5 := Lib.hid hbel
    clear hb5 hbel hc5
    go_wp2_with fail
    try simp only [Exit.inBlock, Exit.then]
    refine bodyPost_ret (res_cell rfl _ _ (w.heap.size + 1) 32 rs rfl HK5.out (by kernel_rfl) (by kernel_rfl) HRL.out) rfl ?_
    exact ⟨rfl, HF5.out⟩

end Go.Proofs.Ytcmfkdfegfablaa


/- The walks of a sector with a check: what the program's functions compute. -/
namespace Go.Proofs.Ytcmfkdfegfablaa
open Go.RowKit
set_option linter.unusedVariables false
set_option linter.unusedSimpArgs false


theorem pad_cells (m : UInt8) (l : List UInt8) (h : l.length ≤ 29) : splice (vu8 m :: zb 29) 1 ((bts l).take 29) = bts (m :: padB l) := by
  rw [List.take_of_length_le (by simpa using h)]
  simp only [splice, zb, bts, padB]
  rw [show 1 + (l.map vu8).length = l.length + 1 by simp [Nat.add_comm], List.drop_succ_cons, List.drop_replicate]
  simp
/-- What Encode answers. -/
def encR (m : UInt8) (l : List UInt8) : List UInt8 × Int := if m = 0 ∨ 29 < l.length then (List.replicate 32 0, 1) else (secOf m (padB l), 0)
theorem encR_no {m : UInt8} {l : List UInt8} (h : m = 0 ∨ 29 < l.length) : encR m l = (List.replicate 32 0, 1) := by rw [encR, if_pos h]
theorem encR_yes {m : UInt8} {l : List UInt8} (h : ¬ (m = 0 ∨ 29 < l.length)) : encR m l = (secOf m (padB l), 0) := by rw [encR, if_neg h]
theorem zb_bts (n : Nat) : zb n = bts (List.replicate n 0) := by simp [zb, bts]
set_option maxRecDepth 100000 in
set_option maxHeartbeats 1000000 in
theorem sealEncode_no (m : UInt8) (A : Option Addr) (n cap : Nat) (l : List UInt8) (w : World) (hl : l.length = n) (hn : n ≤ cap) (hc : cap ≤ 9223372036854775807) (hr : Rd w A (bts l)) (h : m = 0 ∨ 29 < n) :
    Calls Try.prog 51 #[vu8 m, .slice A n cap] w fun e w' => e = .returned (.tuple #[.agg (bts (encR m l).1).toArray, .int .i64 (encR m l).2]) ∧ Below w.heap.size w w' := by
  have HR := Lib.hid hr
  have he := encR_no (m := m) (l := l) (by rw [hl]; exact h)
  rw [he]
  have HL := Lib.hid hl
  clear hr hl he
  simp only [← zb_bts]
  by_cases h0 : m = 0
  · subst h0
    go_enter Try.func51, Try.ntmps51
    go_wp2_with (refine wpList_al rfl 35 rfl (zb 32) (by kernel_rfl) ?_)
    intro g w1 hg hb hc1 hs
    subst hg
    go_wp2_with (first
      | (refine wpList_bld rfl 35 [] rfl (zb 32) [] (zb 32) (by kernel_rfl) (by kernel_rfl) trivial rfl ?_)
      | (refine wpList_st rfl 35 _ _ rfl w.heap.size 0 32 (zb 32) (zb 32) rfl rfl hb (by kernel_rfl) rfl (by decide) (by decide) ?_))
    intro w2 hb2 hc2
    rw [splice_whole (zb 32) (zb 32) rfl] at hb2
    go_wp2_with fail
    (try simp only [Exit.inBlock, Exit.then])
    refine bodyPost_ret (res_cell_tmp rfl _ _ w.heap.size 32 (zb 32) rfl hb2 (by kernel_rfl) (by kernel_rfl) rfl) rfl ?_
    exact ⟨rfl, (hc1.below (Nat.le_refl _) (fun _ _ => id)).trans (hc2.below (by omega) (fun k hk he => by omega))⟩
  · have h0i : ¬ ((m.toNat : Int) = 0) := by intro h; exact h0 (UInt8.toNat_inj.1 (by simpa using h))
    have h1 : 29 < n := h.resolve_left h0
    have h1i : (29 : Int) < (n : Int) := by omega
    go_enter Try.func51, Try.ntmps51
    go_wp2_with (refine wpList_al rfl 35 rfl (zb 32) (by kernel_rfl) ?_)
    intro g w1 hg hb hc1 hs
    subst hg
    go_wp2_with (first
      | (refine wpList_bld rfl 35 [] rfl (zb 32) [] (zb 32) (by kernel_rfl) (by kernel_rfl) trivial rfl ?_)
      | (refine wpList_st rfl 35 _ _ rfl w.heap.size 0 32 (zb 32) (zb 32) rfl rfl hb (by kernel_rfl) rfl (by decide) (by decide) ?_))
    intro w2 hb2 hc2
    rw [splice_whole (zb 32) (zb 32) rfl] at hb2
    go_wp2_with fail
    (try simp only [Exit.inBlock, Exit.then])
    refine bodyPost_ret (res_cell_tmp rfl _ _ w.heap.size 32 (zb 32) rfl hb2 (by kernel_rfl) (by kernel_rfl) rfl) rfl ?_
    exact ⟨rfl, (hc1.below (Nat.le_refl _) (fun _ _ => id)).trans (hc2.below (by omega) (fun k hk he => by omega))⟩
set_option maxRecDepth 100000 in
set_option maxHeartbeats 1000000 in
theorem sealEncode_yes (m : UInt8) (A : Option Addr) (n cap : Nat) (l : List UInt8) (w : World) (hl : l.length = n) (hn : n ≤ cap) (hc : cap ≤ 9223372036854775807) (hr : Rd w A (bts l)) (h0 : ¬ m = 0) (h1 : n ≤ 29) :
    Calls Try.prog 51 #[vu8 m, .slice A n cap] w fun e w' => e = .returned (.tuple #[.agg (bts (encR m l).1).toArray, .int .i64 (encR m l).2]) ∧ Below w.heap.size w w' := by
  have he := encR_yes (m := m) (l := l) (by rw [hl]; exact fun h => h.elim h0 (by omega))
  have hp := pad_cells m l (by omega)
  have hpl := padB_length (l := l) (by omega)
  rw [he]
  simp only
  have hsl := secOf_length (m := m) hpl
  have hss : secOf m (padB l) = m :: padB l ++ [(crcCheck (m :: padB l)).toUInt8, (crcCheck (m :: padB l) >>> 8).toUInt8] := rfl
  generalize secOf m (padB l) = rs at hsl hss ⊢
  have HRS := Lib.hid hss
  have HSL := Lib.hid hsl
  generalize padB l = b at hp hpl hss HRS
  have HR := Lib.hid hr
  have HP := Lib.hid hp
  have HPL := Lib.hid hpl
  have HL := Lib.hid hl
  have h0i : ¬ ((m.toNat : Int) = 0) := by intro h; exact h0 (UInt8.toNat_inj.1 (by simpa using h))
  have h1i : ¬ ((29 : Int) < (n : Int)) := by omega
  have h0b : ((m.toNat : Int) == 0) = false := by simpa using h0i
  clear hr hl he hp hpl hsl hss h0
  go_enter Try.func51, Try.ntmps51
  go_wp2_with (refine wpList_al rfl 35 rfl (zb 32) (by kernel_rfl) ?_)
  intro g w1 hg hb hc1 hs
  subst hg
  have HB1 := Lib.hid hb
  have HE1 : Hid (Below w.heap.size w w1) := hc1.below (Nat.le_refl _) (fun _ _ => id)
  have HR1 : Hid (Rd w1 A (bts l)) := HR.out.below HE1.out
  clear hb hc1
  go_wp2_with (first
    | (refine wpList_bld rfl 99 [(0, .tmp 15)] rfl (zb 30) [(0, [vu8 m])] (vu8 m :: zb 29) (by kernel_rfl) (by kernel_rfl) ?f1 rfl ?_)
    | (refine wpList_al rfl 99 rfl (zb 30) (by kernel_rfl) ?_))
  case f1 => exact ⟨rfl, ⟨1, rfl, by kernel_rfl, by decide⟩, trivial⟩
  intro g w2 hg hb hc2 hs2
  (try rw [hs] at hg)
  subst hg
  have HE2 : Hid (Below w.heap.size w w2) := HE1.out.trans (hc2.below HE1.out.size (fun _ _ => id))
  have HB2 : Hid (Bk w2 w.heap.size (zb 32)) := HB1.out.chg hc2 id
  have HD2 := Lib.hid hb
  have HR2 : Hid (Rd w2 A (bts l)) := HR1.out.chg hc2
  clear hb hc2
  go_wp2_with (refine wpList_st rfl 99 _ _ rfl (w.heap.size + 1) 0 30 (zb 30) (vu8 m :: zb 29) rfl rfl HD2.out (by kernel_rfl) rfl (by decide) (one_bts (m :: List.replicate 29 0)) ?_)
  intro w3 hb hc3
  rw [splice_whole (zb 30) (vu8 m :: zb 29) rfl] at hb
  have HE3 : Hid (Below w.heap.size w w3) := HE2.out.trans (hc3.below HE2.out.size (fun k hk he => by omega))
  have HB3 : Hid (Bk w3 w.heap.size (zb 32)) := HB2.out.chg hc3 (by omega)
  have HD3 := Lib.hid hb
  have HR3 : Hid (Rd w3 A (bts l)) := HR.out.below HE3.out
  have hs3 := hc3.size
  clear hb hc3
  go_wp2_with (refine wpList_cp rfl _ _ 56 56 5 rfl Try.underlying56 (by kernel_rfl) (w.heap.size + 1) 1 29 29 A n cap (vu8 m :: zb 29) (bts l) rfl rfl HD3.out HR3.out (by rw [bts_length, HL.out]) (by simp [zb]) (one_bts _) ?_)
  intro w4 hb hc4
  rw [HP.out] at hb
  have HE4 : Hid (Below w.heap.size w w4) := HE3.out.trans (hc4.below HE3.out.size (fun k hk he => by omega))
  have HB4 : Hid (Bk w4 w.heap.size (zb 32)) := HB3.out.chg hc4 (by omega)
  have HD4 := Lib.hid hb
  have hs4 := hc4.size
  clear hb hc4
  go_wp2_with (refine wpList_ld rfl 99 _ rfl (w.heap.size + 1) 0 30 (bts (m :: b)) (bts (m :: b)) rfl HD4.out (by kernel_rfl) (by kernel_rfl) (by simp [HPL.out]) (by rw [List.drop_zero, List.take_of_length_le (by simp [HPL.out])]) ?_)
  refine (checkedOf_calls m b w4 HPL.out).mono ?_
  rintro e w5 ⟨rfl, hb5⟩
  have HE5 : Hid (Below w.heap.size w w5) := HE4.out.trans (hb5.mono HE4.out.size)
  have HB5 : Hid (Bk w5 w.heap.size (zb 32)) := HB4.out.below hb5
  clear hb5
  go_wp2_with fail
  refine (sealBlock_calls m b (crcCheck (m :: b)) w5 HPL.out).mono ?_
  rintro e w6 ⟨rfl, hb6⟩
  have HE6 : Hid (Below w.heap.size w w6) := HE5.out.trans (hb6.mono HE5.out.size)
  have HB6 : Hid (Bk w6 w.heap.size (zb 32)) := HB5.out.below hb6
  clear hb6
  rw [← HRS.out]
  go_wp2_with (refine wpList_st rfl 35 _ _ rfl w.heap.size 0 32 (zb 32) (bts rs) rfl rfl HB6.out (by kernel_rfl) (by rw [bts_length, HSL.out]) (by decide) (one_bts _) ?_)
  intro w7 hb7 hc7
  rw [splice_whole (zb 32) (bts rs) (by rw [bts_length, HSL.out]; rfl)] at hb7
  have HE7 : Hid (Below w.heap.size w w7) := HE6.out.trans (hc7.below HE6.out.size (fun k hk he => by omega))
  have HB7 := Lib.hid hb7
  clear hb7 hc7
  go_wp2_with fail
  (try simp only [Exit.inBlock, Exit.then])
  refine bodyPost_ret (res_cell_tmp rfl _ _ w.heap.size 32 (bts rs) rfl HB7.out (by kernel_rfl) (by kernel_rfl) (by rw [bts_length, HSL.out])) rfl ?_
  exact ⟨rfl, HE7.out⟩
theorem sealEncode_calls (m : UInt8) (A : Option Addr) (n cap : Nat) (l : List UInt8) (w : World) (hl : l.length = n) (hn : n ≤ cap) (hc : cap ≤ 9223372036854775807) (hr : Rd w A (bts l)) :
    Calls Try.prog 51 #[vu8 m, .slice A n cap] w fun e w' => e = .returned (.tuple #[.agg (bts (encR m l).1).toArray, .int .i64 (encR m l).2]) ∧ Below w.heap.size w w' := by
  by_cases h : m = 0 ∨ 29 < n
  · exact sealEncode_no m A n cap l w hl hn hc hr h
  · exact sealEncode_yes m A n cap l w hl hn hc hr (fun h' => h (.inl h')) (by omega)
end Go.Proofs.Ytcmfkdfegfablaa


/- The walks of a sector with a check: what the program's functions compute. -/
namespace Go.Proofs.Ytcmfkdfegfablaa
open Go.RowKit
set_option linter.unusedVariables false
set_option linter.unusedSimpArgs false


def bodyOf (x : List UInt8) : List UInt8 := (x.drop 1).take 29
/-- What Decode answers. -/
def decR (x : List UInt8) : List UInt8 × Int := if x.getD 0 0 = 0 ∨ secOf (x.getD 0 0) (bodyOf x) ≠ x then (List.replicate 30 0, 11) else (x.getD 0 0 :: bodyOf x, 0)
set_option maxRecDepth 100000 in
set_option maxHeartbeats 2000000 in
theorem sealDecode_calls (x : List UInt8) (w : World) (hx : x.length = 32) :
    Calls Try.prog 44 #[.agg (bts x).toArray] w fun e w' => e = .returned (.tuple #[.agg (bts (decR x).1).toArray, .int .i64 (decR x).2]) ∧ Below w.heap.size w w' := by
  have hbl : (bodyOf x).length = 29 := by simp [bodyOf, hx]
  have hbd : ((bts x).drop 1).take 29 = bts (bodyOf x) := by rw [bts_drop, bts_take]; rfl
  have h0 : (bts x)[0]? = some (vu8 (x.getD 0 0)) := bts_get (by omega)
  have hd : decR x = if x.getD 0 0 = 0 ∨ secOf (x.getD 0 0) (bodyOf x) ≠ x then (List.replicate 30 0, 11) else (x.getD 0 0 :: bodyOf x, 0) := rfl
  rw [hd]
  clear hd
  generalize bodyOf x = b at hbl hbd ⊢
  generalize x.getD 0 0 = m at h0 ⊢
  have hso : secOf m b = m :: b ++ [(crcCheck (m :: b)).toUInt8, (crcCheck (m :: b) >>> 8).toUInt8] := rfl
  rw [hso]
  generalize hq : decide ((m :: b ++ [(crcCheck (m :: b)).toUInt8, (crcCheck (m :: b) >>> 8).toUInt8]) = x) = q
  have hr : (if m = 0 ∨ (m :: b ++ [(crcCheck (m :: b)).toUInt8, (crcCheck (m :: b) >>> 8).toUInt8]) ≠ x then (List.replicate 30 (0 : UInt8), (11 : Int)) else (m :: b, 0)) = if m = 0 ∨ q = false then (List.replicate 30 0, 11) else (m :: b, 0) := by
    rw [← hq]
    simp
  rw [hr]
  clear hr hso
  have HL := Lib.hid hx
  have HBL := Lib.hid hbl
  have HBD := Lib.hid hbd
  have HQ := Lib.hid hq
  clear hx hbl hbd hq
  generalize hres : (if m = 0 ∨ q = false then (List.replicate 30 (0 : UInt8), (11 : Int)) else (m :: b, 0)) = res
  have HRES := Lib.hid hres
  clear hres
  generalize hvs : bts x = vx at h0
  go_enter Try.func44, Try.ntmps44
  go_wp2_with (refine wpList_al rfl 99 rfl (zb 30) (by kernel_rfl) ?_)
  intro g w0 hg hb0 hc0 hs0
  obtain rfl : g = w.heap.size + 1 := by simp [hg]
  have HB : Hid (Bk w0 w.heap.size (bts x)) := by rw [hvs]; exact (Bk.new w vx _).chg hc0 id
  have HZ := Lib.hid hb0
  have HBel : Hid (Below w.heap.size w w0) := ((Below.refl _ _).alloc (Nat.le_refl _) _).trans (hc0.below (by simp) (fun _ _ => id))
  have HC : Hid (w0.cell? ⟨w.heap.size, 0, none⟩ = some (vu8 m)) := by rw [← hvs] at h0; exact HB.out.cell h0
  have HS0 : Hid (w0.heap.size = w.heap.size + 2) := hs0
  clear hg hb0 hc0 hs0 h0 hvs
  go_wp2_with fail
  apply wp_region_rel 7 (Chg NoS) [(Veq _), (Veq _), (Veq _), (Veq _), (Veq _), (Veq _), (PtrAt NoS w0.heap.size (zb 30))] [[], [0], [], [2], [3], [1, 4], []] [5, 6, 7, 8, 9, 10, 4] (by kernel_rfl) (by kernel_rfl) rfl rfl rfl Chg.refl (fun _ _ _ => Chg.trans) ⟨Veq.lasts, Veq.lasts, Veq.lasts, Veq.lasts, Veq.lasts, Veq.lasts, PtrAt.lasts, trivial⟩ ?aops ?afin
  case aops =>
    refine ⟨?ao0, ?ao1, ?ao2, ?ao3, ?ao4, ?ao5, ?ao6, trivial⟩
    case ao0 =>
      intro a wx hE hin
      have i1 : a.eval (.tmp 1) = .pointer (some ⟨w.heap.size, 0, none⟩) := hin 1 rfl
      clear hin
      have hcst : ∀ v, a.eval (.const v) = v := fun _ => rfl
      have hfnc : ∀ f, a.eval (.func f) = .func (.func f) #[] #[] := fun _ => rfl
      refine want_none rfl ?_
      unfold Oper.wp
      generalize a.eval = ρ at *
      go_simp
      try go_bits
      first | exact rel_val (Chg.refl _) | (go_simp; exact rel_val (Chg.refl _))
    case ao1 =>
      rintro a wx hE hin (h0 : a.eval (.tmp 5) = _)
      clear hin
      have hcst : ∀ v, a.eval (.const v) = v := fun _ => rfl
      have hfnc : ∀ f, a.eval (.func f) = .func (.func f) #[] #[] := fun _ => rfl
      refine want_none rfl ?_
      unfold Oper.wp
      generalize a.eval = ρ at *
      have c := hE.cell (w := w0.drew) HC.out id
      go_simp
      try go_bits
      first | exact rel_val (Chg.refl _) | (go_simp; exact rel_val (Chg.refl _))
    case ao2 =>
      intro a wx hE hin
      have i1 : a.eval (.tmp 1) = .pointer (some ⟨w.heap.size, 0, none⟩) := hin 1 rfl
      clear hin
      have hcst : ∀ v, a.eval (.const v) = v := fun _ => rfl
      have hfnc : ∀ f, a.eval (.func f) = .func (.func f) #[] #[] := fun _ => rfl
      refine want_none rfl ?_
      unfold Oper.wp
      generalize a.eval = ρ at *
      go_simp
      try go_bits
      first | exact rel_val (Chg.refl _) | (go_simp; exact rel_val (Chg.refl _))
    case ao3 =>
      rintro a wx hE hin (h2 : a.eval (.tmp 7) = _)
      clear hin
      have hcst : ∀ v, a.eval (.const v) = v := fun _ => rfl
      have hfnc : ∀ f, a.eval (.func f) = .func (.func f) #[] #[] := fun _ => rfl
      refine want_none rfl ?_
      unfold Oper.wp
      generalize a.eval = ρ at *
      go_simp
      try go_bits
      first | exact rel_val (Chg.refl _) | (go_simp; exact rel_val (Chg.refl _))
    case ao4 =>
      rintro a wx hE hin (h3 : a.eval (.tmp 8) = _)
      clear hin
      have hcst : ∀ v, a.eval (.const v) = v := fun _ => rfl
      have hfnc : ∀ f, a.eval (.func f) = .func (.func f) #[] #[] := fun _ => rfl
      refine want_none rfl ?_
      exact wp_ld 97 _ rfl w.heap.size 1 29 (bts x) (bts b) h3 ((HB.out.drew).chg hE id) (by kernel_rfl) (by kernel_rfl) (by rw [bts_length, HL.out]; decide) HBD.out (rel_val (Chg.refl _))
    case ao5 =>
      rintro a wx hE hin (h1 : a.eval (.tmp 6) = _) (h4 : a.eval (.tmp 9) = _)
      clear hin
      have hcst : ∀ v, a.eval (.const v) = v := fun _ => rfl
      have hfnc : ∀ f, a.eval (.func f) = .func (.func f) #[] #[] := fun _ => rfl
      refine want_none rfl ?_
      exact wp_bld2 99 0 1 _ _ rfl 30 (zb 30) [(0, 1), (1, 29)] (by kernel_rfl) (by kernel_rfl) [vu8 m] (bts b) (by rw [h1]; rfl) (by rw [h4]; rfl) rfl (by rw [bts_length, HBL.out]; rfl) (by rw [bts_length, HBL.out]; rfl) (rel_val (Chg.refl _))
    case ao6 =>
      intro a wx hE hin
      clear hin
      have hcst : ∀ v, a.eval (.const v) = v := fun _ => rfl
      have hfnc : ∀ f, a.eval (.func f) = .func (.func f) #[] #[] := fun _ => rfl
      refine want_none rfl ?_
      exact wp_al 99 rfl (zb 30) (by kernel_rfl) ⟨_, rfl, ⟨wx.heap.size, rfl, hE.size, id, Bk.new _ _ _⟩, (Chg.refl _).alloc _⟩
  case afin =>
    intro wx hE
    rintro _ rfl _ rfl _ rfl _ rfl _ rfl _ rfl _ ⟨gg, rfl, p6, n6, b6⟩
    simp only [FinOk, List.take_succ_cons, List.take_zero, List.take_nil, List.drop_succ_cons, List.drop_zero, List.drop_nil, Act.put, List.setIfInBounds_toArray, List.set_cons_succ, List.set_cons_zero]
    rw [HS0.out] at p6
    have hng : gg ≠ w.heap.size := by omega
    have hng1 : gg ≠ w.heap.size + 1 := by omega
    have hgg : w.heap.size ≤ gg := by omega
    refine wpList_st rfl 99 _ _ rfl gg 0 30 (zb 30) (bts (m :: b)) rfl rfl b6 (by kernel_rfl) (by simp [HBL.out]) (by decide) (one_bts _) ?_
    intro w3 hb3 hc3
    rw [splice_whole (zb 30) (bts (m :: b)) (by simp [HBL.out, zb])] at hb3
    have HE3 : Hid (Below w.heap.size w w3) := HBel.out.trans ((hE.undrew.below (B := w.heap.size) HBel.out.size (fun _ _ => id)).trans (hc3.below (Nat.le_trans HBel.out.size hE.size) (fun k hk he => by omega)))
    have HB3 : Hid (Bk w3 w.heap.size (bts x)) := (HB.out.drew.chg hE id).chg hc3 (Ne.symm hng)
    have HZ3 : Hid (Bk w3 (w.heap.size + 1) (zb 30)) := (HZ.out.drew.chg hE id).chg hc3 (Ne.symm hng1)
    have HC3 : Hid (w3.cell? ⟨gg, 0, none⟩ = some (vu8 m)) := hb3.cell rfl
    have HG3 := Lib.hid hb3
    clear hb3 hc3 hE b6 p6
    go_wp2_with fail
    by_cases hm : m = 0
    · have hmi : ((m.toNat : Int) == 0) = true := by subst hm; rfl
      apply wp_region_rel 10 (Chg NoS) [(Veq _), (Veq _), (Veq _), (Veq _), (Veq undef), (Veq undef), (Veq undef), (Veq undef), (Veq undef), (Veq _)] [[], [0], [1], [2], [3], [3], [3], [3], [3], [3, 8]] [11, 12, 13, 14, 15, 16, 17, 18, 19, 20] (by kernel_rfl) (by kernel_rfl) rfl rfl rfl Chg.refl (fun _ _ _ => Chg.trans) ⟨Veq.lasts, Veq.lasts, Veq.lasts, Veq.lasts, Veq.lasts, Veq.lasts, Veq.lasts, Veq.lasts, Veq.lasts, Veq.lasts, trivial⟩ ?bops ?bfin
      case bops =>
        refine ⟨?bo0, ?bo1, ?bo2, ?bo3, ?bo4, ?bo5, ?bo6, ?bo7, ?bo8, ?bo9, trivial⟩
        case bo0 =>
          intro a wx hE hin
          have i4 : a.eval (.tmp 4) = .pointer (some ⟨gg, 0, none⟩) := hin 4 rfl
          clear hin
          have hcst : ∀ v, a.eval (.const v) = v := fun _ => rfl
          have hfnc : ∀ f, a.eval (.func f) = .func (.func f) #[] #[] := fun _ => rfl
          refine want_none rfl ?_
          unfold Oper.wp
          generalize a.eval = ρ at *
          go_simp
          try go_bits
          first | exact rel_val (Chg.refl _) | (go_simp; exact rel_val (Chg.refl _))
        case bo1 =>
          rintro a wx hE hin (h0 : a.eval (.tmp 11) = _)
          clear hin
          have hcst : ∀ v, a.eval (.const v) = v := fun _ => rfl
          have hfnc : ∀ f, a.eval (.func f) = .func (.func f) #[] #[] := fun _ => rfl
          refine want_none rfl ?_
          unfold Oper.wp
          generalize a.eval = ρ at *
          have c := hE.cell (w := w3.drew) HC3.out id
          go_simp
          try go_bits
          first | exact rel_val (Chg.refl _) | (go_simp; exact rel_val (Chg.refl _))
        case bo2 =>
          rintro a wx hE hin (h1 : a.eval (.tmp 12) = _)
          clear hin
          have hcst : ∀ v, a.eval (.const v) = v := fun _ => rfl
          have hfnc : ∀ f, a.eval (.func f) = .func (.func f) #[] #[] := fun _ => rfl
          refine want_none rfl ?_
          unfold Oper.wp
          generalize a.eval = ρ at *
          go_simp
          try go_bits
          first | exact rel_val (Chg.refl _) | (go_simp; exact rel_val (Chg.refl _))
        case bo3 =>
          rintro a wx hE hin (h2 : a.eval (.tmp 13) = _)
          clear hin
          have hcst : ∀ v, a.eval (.const v) = v := fun _ => rfl
          have hfnc : ∀ f, a.eval (.func f) = .func (.func f) #[] #[] := fun _ => rfl
          refine want_none rfl ?_
          unfold Oper.wp
          generalize a.eval = ρ at *
          go_simp
          try go_bits
          first | exact rel_val (Chg.refl _) | (go_simp; exact rel_val (Chg.refl _))
        case bo4 =>
          rintro a wx hE hin (h3 : a.eval (.tmp 14) = _)
          clear hin
          exact want_not rfl rfl h3 rfl
        case bo5 =>
          rintro a wx hE hin (h3 : a.eval (.tmp 14) = _)
          clear hin
          exact want_not rfl rfl h3 rfl
        case bo6 =>
          rintro a wx hE hin (h3 : a.eval (.tmp 14) = _)
          clear hin
          exact want_not rfl rfl h3 rfl
        case bo7 =>
          rintro a wx hE hin (h3 : a.eval (.tmp 14) = _)
          clear hin
          exact want_not rfl rfl h3 rfl
        case bo8 =>
          rintro a wx hE hin (h3 : a.eval (.tmp 14) = _)
          clear hin
          exact want_not rfl rfl h3 rfl
        case bo9 =>
          rintro a wx hE hin (h3 : a.eval (.tmp 14) = _) (h8 : a.eval (.tmp 19) = _)
          clear hin
          have hcst : ∀ v, a.eval (.const v) = v := fun _ => rfl
          have hfnc : ∀ f, a.eval (.func f) = .func (.func f) #[] #[] := fun _ => rfl
          refine want_none rfl ?_
          unfold Oper.wp
          generalize a.eval = ρ at *
          go_simp
          try go_bits
          first | exact rel_val (Chg.refl _) | (go_simp; exact rel_val (Chg.refl _))
      case bfin =>
        intro wx hE
        rintro _ rfl _ rfl _ rfl _ rfl _ rfl _ rfl _ rfl _ rfl _ rfl _ rfl
        simp only [FinOk, List.take_succ_cons, List.take_zero, List.take_nil, List.drop_succ_cons, List.drop_zero, List.drop_nil, Act.put, List.setIfInBounds_toArray, List.set_cons_succ, List.set_cons_zero]
        have HE4 : Hid (Below w.heap.size w wx) := HE3.out.trans (hE.undrew.below (B := w.heap.size) HE3.out.size (fun _ _ => id))
        have HZ4 : Hid (Bk wx (w.heap.size + 1) (zb 30)) := HZ3.out.drew.chg hE id
        have HG4 : Hid (Bk wx gg (bts (m :: b))) := HG3.out.drew.chg hE id
        clear hE
        have hres := HRES.out
        rw [if_pos (.inl hm)] at hres
        subst hres
        go_wp2_with (first
          | (refine wpList_bld rfl 99 [] rfl (zb 30) [] (zb 30) (by kernel_rfl) (by kernel_rfl) trivial rfl ?_)
          | (refine wpList_st rfl 99 _ _ rfl (w.heap.size + 1) 0 30 (zb 30) (zb 30) rfl rfl HZ4.out (by kernel_rfl) rfl (by decide) (by decide) ?_))
        intro w5 hb5 hc5
        rw [splice_whole (zb 30) (zb 30) rfl] at hb5
        go_wp2_with fail
        (try simp only [Exit.inBlock, Exit.then])
        refine bodyPost_ret (res_cell_tmp rfl _ _ (w.heap.size + 1) 30 (zb 30) rfl hb5 (by kernel_rfl) (by kernel_rfl) rfl) rfl ?_
        exact ⟨rfl, HE4.out.trans (hc5.below HE4.out.size (fun k hk he => by omega))⟩
    · have hmi : ((m.toNat : Int) == 0) = false := by simpa using (fun h => hm (UInt8.toNat_inj.1 (by simpa using h)) : ¬ ((m.toNat : Int) = 0))
      apply wp_region_rel 10 (Chg NoS) [(Veq _), (Veq _), (Veq _), (Veq _), (Veq _), (Veq _), (Veq _), (Veq _), (Veq (.bool (!q))), (Veq _)] [[], [0], [1], [2], [3], [3, 4], [3, 5], [3], [3, 6, 7], [3, 8]] [11, 12, 13, 14, 15, 16, 17, 18, 19, 20] (by kernel_rfl) (by kernel_rfl) rfl rfl rfl Chg.refl (fun _ _ _ => Chg.trans) ⟨Veq.lasts, Veq.lasts, Veq.lasts, Veq.lasts, Veq.lasts, Veq.lasts, Veq.lasts, Veq.lasts, Veq.lasts, Veq.lasts, trivial⟩ ?bops ?bfin
      case bops =>
        refine ⟨?bo0, ?bo1, ?bo2, ?bo3, ?bo4, ?bo5, ?bo6, ?bo7, ?bo8, ?bo9, trivial⟩
        case bo0 =>
          intro a wx hE hin
          have i4 : a.eval (.tmp 4) = .pointer (some ⟨gg, 0, none⟩) := hin 4 rfl
          clear hin
          have hcst : ∀ v, a.eval (.const v) = v := fun _ => rfl
          have hfnc : ∀ f, a.eval (.func f) = .func (.func f) #[] #[] := fun _ => rfl
          refine want_none rfl ?_
          unfold Oper.wp
          generalize a.eval = ρ at *
          go_simp
          try go_bits
          first | exact rel_val (Chg.refl _) | (go_simp; exact rel_val (Chg.refl _))
        case bo1 =>
          rintro a wx hE hin (h0 : a.eval (.tmp 11) = _)
          clear hin
          have hcst : ∀ v, a.eval (.const v) = v := fun _ => rfl
          have hfnc : ∀ f, a.eval (.func f) = .func (.func f) #[] #[] := fun _ => rfl
          refine want_none rfl ?_
          unfold Oper.wp
          generalize a.eval = ρ at *
          have c := hE.cell (w := w3.drew) HC3.out id
          go_simp
          try go_bits
          first | exact rel_val (Chg.refl _) | (go_simp; exact rel_val (Chg.refl _))
        case bo2 =>
          rintro a wx hE hin (h1 : a.eval (.tmp 12) = _)
          clear hin
          have hcst : ∀ v, a.eval (.const v) = v := fun _ => rfl
          have hfnc : ∀ f, a.eval (.func f) = .func (.func f) #[] #[] := fun _ => rfl
          refine want_none rfl ?_
          unfold Oper.wp
          generalize a.eval = ρ at *
          go_simp
          try go_bits
          first | exact rel_val (Chg.refl _) | (go_simp; exact rel_val (Chg.refl _))
        case bo3 =>
          rintro a wx hE hin (h2 : a.eval (.tmp 13) = _)
          clear hin
          have hcst : ∀ v, a.eval (.const v) = v := fun _ => rfl
          have hfnc : ∀ f, a.eval (.func f) = .func (.func f) #[] #[] := fun _ => rfl
          refine want_none rfl ?_
          unfold Oper.wp
          generalize a.eval = ρ at *
          go_simp
          try go_bits
          first | exact rel_val (Chg.refl _) | (go_simp; exact rel_val (Chg.refl _))
        case bo4 =>
          rintro a wx hE hin (h3 : a.eval (.tmp 14) = _)
          have i4 : a.eval (.tmp 4) = .pointer (some ⟨gg, 0, none⟩) := hin 4 rfl
          clear hin
          have hcst : ∀ v, a.eval (.const v) = v := fun _ => rfl
          have hfnc : ∀ f, a.eval (.func f) = .func (.func f) #[] #[] := fun _ => rfl
          refine want_yes rfl rfl h3 ?_
          exact wp_ld 99 _ rfl gg 0 30 (bts (m :: b)) (bts (m :: b)) i4 ((HG3.out.drew).chg hE id) (by kernel_rfl) (by kernel_rfl) (by simp [HBL.out]) (by rw [List.drop_zero, List.take_of_length_le (by simp [HBL.out])]) (rel_val (Chg.refl _))
        case bo5 =>
          rintro a wx hE hin (h3 : a.eval (.tmp 14) = _) (h4 : a.eval (.tmp 15) = _)
          clear hin
          have hcst : ∀ v, a.eval (.const v) = v := fun _ => rfl
          have hfnc : ∀ f, a.eval (.func f) = .func (.func f) #[] #[] := fun _ => rfl
          refine want_yes rfl rfl h3 ?_
          unfold Oper.wp
          generalize a.eval = ρ at *
          go_simp
          refine (checkedOf_calls m b wx HBL.out).mono ?_
          rintro e w' ⟨rfl, hb⟩
          exact rel_val (.of_below hb)
        case bo6 =>
          rintro a wx hE hin (h3 : a.eval (.tmp 14) = _) (h5 : a.eval (.tmp 16) = _)
          clear hin
          have hcst : ∀ v, a.eval (.const v) = v := fun _ => rfl
          have hfnc : ∀ f, a.eval (.func f) = .func (.func f) #[] #[] := fun _ => rfl
          refine want_yes rfl rfl h3 ?_
          unfold Oper.wp
          generalize a.eval = ρ at *
          go_simp
          refine (sealBlock_calls m b (crcCheck (m :: b)) wx HBL.out).mono ?_
          rintro e w' ⟨rfl, hb⟩
          exact rel_val (.of_below hb)
        case bo7 =>
          rintro a wx hE hin (h3 : a.eval (.tmp 14) = _)
          have i1 : a.eval (.tmp 1) = .pointer (some ⟨w.heap.size, 0, none⟩) := hin 1 rfl
          clear hin
          have hcst : ∀ v, a.eval (.const v) = v := fun _ => rfl
          have hfnc : ∀ f, a.eval (.func f) = .func (.func f) #[] #[] := fun _ => rfl
          refine want_yes rfl rfl h3 ?_
          exact wp_ld 35 _ rfl w.heap.size 0 32 (bts x) (bts x) i1 ((HB3.out.drew).chg hE id) (by kernel_rfl) (by kernel_rfl) (by rw [bts_length, HL.out]; decide) (by rw [List.drop_zero, List.take_of_length_le (by simp [HL.out])]) (rel_val (Chg.refl _))
        case bo8 =>
          rintro a wx hE hin (h3 : a.eval (.tmp 14) = _) (h6 : a.eval (.tmp 17) = _) (h7 : a.eval (.tmp 18) = _)
          clear hin
          have hcst : ∀ v, a.eval (.const v) = v := fun _ => rfl
          have hfnc : ∀ f, a.eval (.func f) = .func (.func f) #[] #[] := fun _ => rfl
          refine want_yes rfl rfl h3 ?_
          refine wp_eq_bytes true 35 _ _ _ rfl 5 32 (by kernel_rfl) Try.underlying5 (by kernel_rfl) (by kernel_rfl) (m :: b ++ [(crcCheck (m :: b)).toUInt8, (crcCheck (m :: b) >>> 8).toUInt8]) x h6 h7 (by simp [HBL.out]) HL.out ?_
          rw [HQ.out]
          cases q <;> exact rel_val (Chg.refl _)
        case bo9 =>
          rintro a wx hE hin (h3 : a.eval (.tmp 14) = _) (h8 : a.eval (.tmp 19) = _)
          clear hin
          have hcst : ∀ v, a.eval (.const v) = v := fun _ => rfl
          have hfnc : ∀ f, a.eval (.func f) = .func (.func f) #[] #[] := fun _ => rfl
          refine want_none rfl ?_
          unfold Oper.wp
          generalize a.eval = ρ at *
          go_simp
          try go_bits
          first | exact rel_val (Chg.refl _) | (go_simp; exact rel_val (Chg.refl _))
      case bfin =>
        intro wx hE
        rintro _ rfl _ rfl _ rfl _ rfl _ rfl _ rfl _ rfl _ rfl _ rfl _ rfl
        simp only [FinOk, List.take_succ_cons, List.take_zero, List.take_nil, List.drop_succ_cons, List.drop_zero, List.drop_nil, Act.put, List.setIfInBounds_toArray, List.set_cons_succ, List.set_cons_zero]
        have HE4 : Hid (Below w.heap.size w wx) := HE3.out.trans (hE.undrew.below (B := w.heap.size) HE3.out.size (fun _ _ => id))
        have HZ4 : Hid (Bk wx (w.heap.size + 1) (zb 30)) := HZ3.out.drew.chg hE id
        have HG4 : Hid (Bk wx gg (bts (m :: b))) := HG3.out.drew.chg hE id
        clear hE
        cases q
        · have hres := HRES.out
          rw [if_pos (.inr rfl)] at hres
          subst hres
          go_wp2_with (first
            | (refine wpList_bld rfl 99 [] rfl (zb 30) [] (zb 30) (by kernel_rfl) (by kernel_rfl) trivial rfl ?_)
            | (refine wpList_st rfl 99 _ _ rfl (w.heap.size + 1) 0 30 (zb 30) (zb 30) rfl rfl HZ4.out (by kernel_rfl) rfl (by decide) (by decide) ?_))
          intro w5 hb5 hc5
          rw [splice_whole (zb 30) (zb 30) rfl] at hb5
          go_wp2_with fail
          (try simp only [Exit.inBlock, Exit.then])
          refine bodyPost_ret (res_cell_tmp rfl _ _ (w.heap.size + 1) 30 (zb 30) rfl hb5 (by kernel_rfl) (by kernel_rfl) rfl) rfl ?_
          exact ⟨rfl, HE4.out.trans (hc5.below HE4.out.size (fun k hk he => by omega))⟩
        · have hres := HRES.out
          rw [if_neg (fun h => h.elim hm (by decide))] at hres
          subst hres
          go_wp2_with (first
            | (refine wpList_ld rfl 99 _ rfl gg 0 30 (bts (m :: b)) (bts (m :: b)) rfl HG4.out (by kernel_rfl) (by kernel_rfl) (by simp [HBL.out]) (by rw [List.drop_zero, List.take_of_length_le (by simp [HBL.out])]) ?_)
            | (refine wpList_st rfl 99 _ _ rfl (w.heap.size + 1) 0 30 (zb 30) (bts (m :: b)) rfl rfl HZ4.out (by kernel_rfl) (by simp [HBL.out]) (by decide) (one_bts _) ?_))
          intro w5 hb5 hc5
          rw [splice_whole (zb 30) (bts (m :: b)) (by simp [HBL.out, zb])] at hb5
          go_wp2_with fail
          (try simp only [Exit.inBlock, Exit.then])
          refine bodyPost_ret (res_cell_tmp rfl _ _ (w.heap.size + 1) 30 (bts (m :: b)) rfl hb5 (by kernel_rfl) (by kernel_rfl) (by simp [HBL.out])) rfl ?_
          exact ⟨rfl, HE4.out.trans (hc5.below HE4.out.size (fun k hk he => by omega))⟩
end Go.Proofs.Ytcmfkdfegfablaa


/- Numbers as bytes, the lowest one first. -/
namespace Go.Proofs.Ytcmfkdfegfablaa
open Go.RowKit
set_option linter.unusedVariables false
set_option linter.unusedSimpArgs false

def le (n : Nat) : Nat → List UInt8
  | 0 => []
  | k + 1 => UInt8.ofNat n :: le (n / 256) k
theorem le_length : ∀ (k n : Nat), (le n k).length = k
  | 0, _ => rfl
  | k + 1, n => by rw [le, List.length_cons, le_length k]
theorem le_snoc : ∀ (k n : Nat), le n (k + 1) = le n k ++ [UInt8.ofNat (n / 256 ^ k)]
  | 0, n => by simp [le]
  | k + 1, n => by
    rw [le, le_snoc k (n / 256), le, List.cons_append, Nat.div_div_eq_div_mul, Nat.pow_succ, Nat.mul_comm 256]
def num : List UInt8 → Nat
  | [] => 0
  | b :: l => b.toNat + 256 * num l
theorem num_lt : ∀ (l : List UInt8), num l < 256 ^ l.length
  | [] => by simp [num]
  | b :: l => by
    have h1 := num_lt l
    have h2 := b.toNat_lt
    rw [num, List.length_cons, Nat.pow_succ]
    omega
theorem num_snoc : ∀ (l : List UInt8) (b : UInt8), num (l ++ [b]) = num l + b.toNat * 256 ^ l.length
  | [], b => by simp [num]
  | a :: l, b => by
    rw [List.cons_append, num, num_snoc l b, num, List.length_cons, Nat.pow_succ, Nat.mul_add, Nat.add_assoc]
    congr 2
    rw [Nat.mul_comm (256 ^ l.length) 256, Nat.mul_left_comm]
theorem num_le : ∀ (k n : Nat), n < 256 ^ k → num (le n k) = n
  | 0, n, h => by have : n = 0 := by simpa using h
                  subst this; rfl
  | k + 1, n, h => by
    rw [le, num, num_le k (n / 256) (by rw [Nat.pow_succ] at h; omega)]
    show (UInt8.ofNat n).toNat + 256 * (n / 256) = n
    rw [UInt8.toNat_ofNat']
    show n % 256 + 256 * (n / 256) = n
    omega
end Go.Proofs.Ytcmfkdfegfablaa


/- The walks of the reference's Put and Num: numbers as bytes, the lowest one first. -/
namespace Go.Proofs.Ytcmfkdfegfablaa
open Go.RowKit
set_option linter.unusedVariables false
set_option linter.unusedSimpArgs false

theorem info_u8l : (Try.prog.info? 5).map (fun i => (i.zero, i.size, i.bytes)) = some (some (.int .u8 0), 1, 1) := by kernel_rfl
/-- A row of bytes, answered. -/
def RowPost (w : World) (l : List UInt8) (e : Ending) (w' : World) : Prop := ∃ A c, e = .returned (.slice A l.length c) ∧ w'.ownsRow w.heap.size 5 1 (.slice A l.length c) l.length (bts l) ∧ Below w.heap.size w w'
theorem bits_u32 (a b : Nat) (ha : a < 4294967296) (hb : b < 4294967296) : Go.bits .or .u32 (a : Int) (b : Int) = ((a ||| b : Nat) : Int) := by
  have ha' : a % 2 ^ IntKind.u32.bits = a := Nat.mod_eq_of_lt ha
  have hb' : b % 2 ^ IntKind.u32.bits = b := Nat.mod_eq_of_lt hb
  have h3 : a ||| b < 2 ^ 32 := Nat.or_lt_two_pow ha hb
  simp only [Go.bits, BitVec.ofInt_natCast, BitVec.toNat_or, BitVec.toNat_ofNat, ha', hb']
  exact IntWalk.u32_in _ (by omega)
theorem num_or (m k : Nat) (b : UInt8) (hk : k < 4) (hm : m < 256 ^ k) : Go.bits .or .u32 (m : Int) ((b.toNat : Int) % 4294967296 * 2 ^ (8 * k) % 4294967296) = ((m + b.toNat * 256 ^ k : Nat) : Int) := by
  have hb := b.toNat_lt
  have e : 256 ^ k = 2 ^ (8 * k) := by rw [Nat.pow_mul]
  have h24 : 2 ^ (8 * k) ≤ 16777216 := by
    rw [show 16777216 = 2 ^ 24 from rfl]
    exact Nat.pow_le_pow_right (by decide) (by omega)
  have h1 : b.toNat * 2 ^ (8 * k) < 4294967296 := by
    have := Nat.mul_le_mul (show b.toNat ≤ 255 by omega) h24
    omega
  rw [e] at hm ⊢
  have h2 : ((b.toNat : Int) % 4294967296 * 2 ^ (8 * k) % 4294967296) = ((b.toNat * 2 ^ (8 * k) : Nat) : Int) := by
    rw [Int.emod_eq_of_lt (show (0 : Int) ≤ b.toNat by omega) (by omega)]
    have : ((b.toNat : Int) * 2 ^ (8 * k)) = ((b.toNat * 2 ^ (8 * k) : Nat) : Int) := by push_cast; rfl
    rw [this, Int.emod_eq_of_lt (by omega) (by omega)]
  rw [h2, bits_u32 m _ (by omega) h1]
  congr 1
  rw [Nat.or_comm, Nat.mul_comm, ← Nat.two_pow_add_eq_or_of_lt hm, Nat.add_comm]
def PutRel (w : World) (x : UInt32) (size : Nat) (v5 v6 : Value) (wr : World) : Prop := ∃ k : Nat, k ≤ size ∧ v6 = .int .i64 k ∧ wr.ownsRow w.heap.size 5 1 v5 k (bts (le x.toNat k)) ∧ Below w.heap.size w wr
set_option maxRecDepth 100000 in
set_option maxHeartbeats 1000000 in
theorem put_calls (x : UInt32) (size : Nat) (w : World) (hs : size ≤ 4) :
    Calls Try.prog 58 #[vu32 x, .int .i64 size] w (RowPost w (le x.toNat size)) := by
  have hx : x.toNat < 4294967296 := x.toNat_lt
  have H0 : Hid (PutRel w x size (.slice none 0 0) (.int .i64 0) w) := ⟨0, Nat.zero_le _, rfl, World.ownsRow_nil w _ _ _, Below.refl _ _⟩
  obtain ⟨X, hX⟩ : ∃ X, x.toNat = X := ⟨_, rfl⟩
  have HX := Lib.hid hX
  rw [show vu32 x = .int .u32 (X : Nat) by rw [← hX]]
  rw [hX] at hx
  clear hX
  go_enter Try.func58, Try.ntmps58
  go_wp2_with fail
  go_loopw [5, 6] (fun v5 v6 wr => PutRel w x size v5 v6 wr) (fun _ v6 _ => size - (intOf v6).toNat)
  case atStart => exact H0.out
  case round =>
    obtain ⟨k, hk, rfl, hown, hb⟩ := hrel
    rw [HX.out] at hown
    have HO := Lib.hid hown
    have HB := Lib.hid hb
    obtain ⟨A, c, rfl, _, _, _⟩ := own_rd hown
    clear hown hb H0
    by_cases hlt : k < size
    · have hki : (k : Int) < (size : Int) := by omega
      have hvb : (Value.int .u8 ((X : Int) / 2 ^ (8 * k) % 256)) = vu8 (UInt8.ofNat (X / 256 ^ k)) := by
        show _ = Value.int .u8 ((UInt8.ofNat (X / 256 ^ k)).toNat : Int)
        rw [UInt8.toNat_ofNat', show 256 ^ k = 2 ^ (8 * k) by rw [Nat.pow_mul]]
        congr 1
        all_goals first | rfl | (push_cast; rfl) | push_cast
      have HVB := Lib.hid hvb
      clear hvb
      go_wp2_with (at_builtin; refine wpList_append_rd rfl (.tmp 12) (.tmp 19) 56 rfl w.heap.size 5 (.int .u8 0) 1 1 Try.underlying56 info_u8l rfl (by decide) (by decide) (.slice A k c) k (bts (le X k)) rfl ?own (some ⟨wr.heap.size, 0, none⟩) 1 1 (bts [UInt8.ofNat (X / 256 ^ k)]) rfl ?len ?rd (one_bts _) ?bytes ?base ?_)
      case own => exact own_chg HO.out ((Chg.refl (S := NoS) wr).alloc _) (fun _ _ => id)
      case len => rfl
      case rd => rw [HVB.out]; exact Rd.new _ _ _
      case bytes => omega
      case base => have := HB.out.size; simp; omega
      intro v1 w1 hown1 hg1 hat1
      rw [← bts_append, ← le_snoc] at hown1
      have HO1 := Lib.hid hown1
      have HB1 : Hid (Below w.heap.size w w1) := (HB.out.alloc HB.out.size _).trans (below_grown hg1 (by have := HB.out.size; simp; omega) (fun q hq => by have := (HO.out.lt _ hq).1; exact this))
      clear hown1 hg1 hat1
      go_wp2_with fail
      go_roundw
      case rel => exact ⟨k + 1, by omega, by go_num, by rw [HX.out]; exact HO1.out, HB1.out⟩
      case measure => simp [intOf]; omega
    · have hke : k = size := by omega
      have hki : ¬ ((k : Int) < (size : Int)) := by omega
      subst hke
      go_wp2
      go_ret
      have hl := le_length k x.toNat
      rw [HX.out] at hl ⊢
      exact ⟨A, c, by rw [hl]; rfl, by rw [hl]; exact HO.out, HB.out⟩
def NumRel2 (l : List UInt8) (v3 v4 : Value) : Prop := ∃ k : Nat, k ≤ l.length ∧ v4 = .int .i64 ((k : Int) - 1) ∧ v3 = .int .u32 (num (l.drop k) : Nat)
end Go.Proofs.Ytcmfkdfegfablaa


/- The walks of wal's small functions and of the reference's Good. -/
namespace Go.Proofs.Ytcmfkdfegfablaa
open Go.RowKit
set_option linter.unusedVariables false
set_option linter.unusedSimpArgs false

def mayB (n : Nat) (i : Int) : Bool := decide (0 ≤ i ∧ i + 6 ≤ (n : Int))
theorem mayB_yes {n : Nat} {i : Int} (h : 0 ≤ i) (h2 : i + 6 ≤ (n : Int)) : mayB n i = true := decide_eq_true ⟨h, h2⟩
theorem mayB_no {n : Nat} {i : Int} (h : ¬ (0 ≤ i ∧ i + 6 ≤ (n : Int))) : mayB n i = false := decide_eq_false h
set_option maxHeartbeats 1000000 in
theorem may_calls (w : World) (g gs : Nat) (lv : Value) (s : Dst) (i : Int) (hd : DAt 92 w g gs lv s) :
    Calls Try.prog 46 #[.pointer (some ⟨g, 0, none⟩), .int .i64 i] w fun e w' => e = .returned (.bool (mayB s.S.length i)) ∧ w = w' := by
  have HD := Lib.hid hd
  have hsl : s.S.length ≤ 1024 := DiskAt.sl hd
  clear hd
  by_cases hi : 0 ≤ i
  · by_cases h6 : i < (s.S.length : Int) - 5
    · have HM : Hid (mayB s.S.length i = true) := mayB_yes hi (by omega)
      go_enter Try.func46, Try.ntmps46
      go_wp2_with (go_at_call 29; refine (diskLen_at w g gs lv s HD.out).mono ?_; rintro e w' ⟨rfl, rfl⟩)
      go_ret
      exact ⟨by rw [HM.out]; simp [h6], rfl⟩
    · have HM : Hid (mayB s.S.length i = false) := mayB_no (fun hh => by omega)
      go_enter Try.func46, Try.ntmps46
      go_wp2_with (go_at_call 29; refine (diskLen_at w g gs lv s HD.out).mono ?_; rintro e w' ⟨rfl, rfl⟩)
      go_ret
      exact ⟨by rw [HM.out]; simp [h6], rfl⟩
  · have HM : Hid (mayB s.S.length i = false) := mayB_no (fun hh => hi hh.1)
    go_enter Try.func46, Try.ntmps46
    go_wp2
    go_ret
    exact ⟨by rw [HM.out]; rfl, rfl⟩
set_option maxHeartbeats 1000000 in
theorem may_nil (w : World) (i : Int) :
    Calls Try.prog 46 #[.pointer none, .int .i64 i] w fun e w' => e = .returned (.bool false) ∧ w = w' := by
  by_cases hi : 0 ≤ i
  · have h6 : ¬ (i < -5) := by omega
    go_enter Try.func46, Try.ntmps46
    go_wp2_with (go_at_call 29; refine (diskLen_nil w).mono ?_; rintro e w' ⟨rfl, rfl⟩)
    go_ret
    exact ⟨by simp [h6], rfl⟩
  · go_enter Try.func46, Try.ntmps46
    go_wp2
    go_ret
    exact ⟨rfl, rfl⟩
theorem le4' (n : Nat) : le n 4 = [UInt8.ofNat n, UInt8.ofNat (n / 256), UInt8.ofNat (n / 256 / 256), UInt8.ofNat (n / 256 / 256 / 256)] := rfl
theorem vu8_of (n : Nat) : vu8 (UInt8.ofNat n) = .int .u8 ((n : Int) % 256) := by
  show Value.int .u8 ((UInt8.ofNat n).toNat : Int) = _
  rw [UInt8.toNat_ofNat']
  rfl
theorem bts_le4 (n : Nat) (hn : n < 4294967296) : bts (le n 4) = [.int .u8 ((n : Int) % 256), .int .u8 ((n : Int) / 256 % 256), .int .u8 ((n : Int) / 65536 % 256), .int .u8 ((n : Int) / 16777216)] := by
  rw [le4']
  show [vu8 _, vu8 _, vu8 _, vu8 _] = _
  rw [vu8_of, vu8_of, vu8_of, vu8_of]
  congr 1
  congr 1
  congr 1
  · congr 1; omega
  · congr 1; congr 1; omega
/-- Four bytes, answered. -/
def FourPost (w : World) (l : List UInt8) (e : Ending) (w' : World) : Prop := ∃ g, e = .returned (.slice (some ⟨g, 0, none⟩) 4 4) ∧ Bk w' g (bts l) ∧ w.heap.size ≤ g ∧ Below w.heap.size w w'
set_option maxHeartbeats 1000000 in
theorem four_calls (x : UInt32) (w : World) : Calls Try.prog 62 #[vu32 x] w (FourPost w (le x.toNat 4)) := by
  obtain ⟨X, hX⟩ : ∃ X, x.toNat = X := ⟨_, rfl⟩
  have hlt : X < 4294967296 := by rw [← hX]; exact x.toNat_lt
  have HB := Lib.hid (bts_le4 X hlt)
  rw [show vu32 x = .int .u32 (X : Nat) by rw [← hX], hX]
  clear hX
  go_enter Try.func62, Try.ntmps62
  go_wp2
  go_ret
  exact ⟨w.heap.size, rfl, by rw [HB.out]; exact Bk.new w _ _, Nat.le_refl _, (Below.refl _ _).alloc (Nat.le_refl _) _⟩
structure RG (ps : List PutV) (k : Nat) : Prop where
  rg : ∀ p ∈ ps.take k, 0 ≤ p.at_ ∧ p.at_ < 12
  nd : ((ps.take k).map (·.at_)).Nodup
theorem RG.more {ps : List PutV} {k : Nat} (h : RG ps k) (hk : k < ps.length) (hr : 0 ≤ ps[k].at_ ∧ ps[k].at_ < 12) (hn : ¬ ps[k].at_ ∈ (ps.take k).map (·.at_)) : RG ps (k + 1) := by
  refine ⟨fun p hp => ?_, ?_⟩
  · rw [List.take_succ_eq_append_getElem hk] at hp
    rcases List.mem_append.1 hp with hp | hp
    · exact h.rg p hp
    · obtain rfl := List.mem_singleton.1 hp
      exact hr
  · rw [List.take_succ_eq_append_getElem hk, List.map_append, List.nodup_append]
    refine ⟨h.nd, by simp, fun a ha b hb2 => ?_⟩
    simp at hb2
    subst hb2
    exact fun he => hn (by rw [← he]; exact ha)
def RGRel (w : World) (ps : List PutV) (v : Value) (wr : World) : Prop := ∃ k : Nat, k ≤ ps.length ∧ v = .int .i64 k ∧ RG ps k ∧ Below w.heap.size w wr
def RGRel2 (w : World) (ps : List PutV) (z : Int) (k : Nat) (v : Value) (wr : World) : Prop := ∃ j : Nat, j ≤ k ∧ v = .int .i64 j ∧ (∀ i (hi : i < j) (hl : i < ps.length), ps[i].at_ ≠ z) ∧ Below w.heap.size w wr
set_option maxRecDepth 100000 in
set_option maxHeartbeats 4000000 in
theorem refGood_calls (ps : List PutV) (A : Option Addr) (n c : Nat) (w : World) (hl : ps.length = n) (hm : n ≤ 9223372036854775807) (hr : Rd w A (ps.flatMap putC)) (ho : PutsOk ps) :
    Calls Try.prog 19 #[.slice A n c] w fun e w' => e = .returned (.bool (goodB ps)) ∧ Below w.heap.size w w' := by
  subst hl
  have HR := Lib.hid hr
  have HO := Lib.hid ho
  have H0 : Hid (RGRel w ps (.int .i64 0) w) := ⟨0, Nat.zero_le _, rfl, ⟨fun p hp => by simp at hp, by simp⟩, Below.refl _ _⟩
  clear hr ho
  go_enter Try.func19, Try.ntmps19
  go_wp2_with fail
  go_loopw [3] (fun v wr => RGRel w ps v wr) (fun v _ => ps.length - (intOf v).toNat)
  case atStart => exact H0.out
  case round =>
    obtain ⟨k, hk, rfl, hg, hb⟩ := hrel
    have HG := Lib.hid hg
    have HB := Lib.hid hb
    clear hg hb H0
    by_cases hlt : k < ps.length
    · have hki : (k : Int) < (ps.length : Int) := by omega
      have HRR := Lib.hid (HR.out.below HB.out)
      obtain ⟨ad, hA⟩ := puts_some HRR.out hlt
      subst hA
      have c0 := put_at HRR.out HO.out hlt
      have HRG := Lib.hid (@goodB_range ps k hlt)
      obtain ⟨p, hp⟩ : ∃ p, ps[k] = p := ⟨_, rfl⟩
      have HP := Lib.hid hp
      rw [hp] at c0 HRG
      clear hp
      by_cases h0 : p.at_ < 0
      · have HN : Hid (goodB ps = false) := HRG.out (fun hh => by omega)
        go_wp2
        go_ret
        exact ⟨by rw [HN.out]; rfl, HB.out⟩
      · by_cases h12 : p.at_ < 12
        · have h12n : ¬ ((12 : Int) ≤ p.at_) := by omega
          have HI0 : Hid (RGRel2 w ps p.at_ k (.int .i64 0) wr) := ⟨0, Nat.zero_le _, rfl, fun j hj _ => by omega, HB.out⟩
          go_wp2_with fail
          clear c0
          go_loopw [4] (fun v w2r => RGRel2 w ps p.at_ k v w2r) (fun v _ => k - (intOf v).toNat)
          case atStart => exact HI0.out
          case round =>
            obtain ⟨j, hj, rfl, hne, hb2⟩ := hrel
            have HNE := Lib.hid hne
            have HB2 := Lib.hid hb2
            clear hne hb2 HI0
            have HR2 := Lib.hid (HR.out.below HB2.out)
            by_cases hjk : j < k
            · have hji : (j : Int) < (k : Int) := by omega
              have hjl : j < ps.length := by omega
              obtain ⟨r, hr⟩ : ∃ r, ps[j] = r := ⟨_, rfl⟩
              have HQ := Lib.hid hr
              clear hr
              by_cases heq : r.at_ = p.at_
              · have hbe : (r.at_ == p.at_) = true := by rw [heq]; exact beq_self_eq_true _
                have HN : Hid (goodB ps = false) := goodB_dup hlt (by
                  rw [HP.out, ← heq, ← HQ.out]
                  exact List.mem_map.2 ⟨ps[j], List.mem_take_iff_getElem.2 ⟨j, by omega, rfl⟩, rfl⟩)
                clear heq
                go_wp2_with fail
                apply wp_region_rel 11 (Chg NoS) [(Veq _), (Veq _), (Veq _), (Veq _), (Veq _), (Veq _), (Veq _), (Veq _), (Veq _), (Veq _), (Veq _)] [[], [], [0, 1], [2], [3], [], [], [5, 6], [7], [8], [4, 9]] [30, 31, 32, 33, 34, 35, 36, 37, 38, 39, 40] (by kernel_rfl) (by kernel_rfl) rfl rfl rfl Chg.refl (fun _ _ _ => Chg.trans) ⟨Veq.lasts, Veq.lasts, Veq.lasts, Veq.lasts, Veq.lasts, Veq.lasts, Veq.lasts, Veq.lasts, Veq.lasts, Veq.lasts, Veq.lasts, trivial⟩ ?aops ?afin
                case aops =>
                  refine ⟨?ao0, ?ao1, ?ao2, ?ao3, ?ao4, ?ao5, ?ao6, ?ao7, ?ao8, ?ao9, ?ao10, trivial⟩
                  case ao0 =>
                    intro a wx hE hin
                    have i0 : a.eval (.tmp 0) = .slice (some ad) ps.length c := hin 0 rfl
                    clear hin
                    have hcst : ∀ v, a.eval (.const v) = v := fun _ => rfl
                    have hfnc : ∀ f, a.eval (.func f) = .func (.func f) #[] #[] := fun _ => rfl
                    refine want_none rfl ?_
                    unfold Oper.wp
                    generalize a.eval = ρ at *
                    go_simp
                    try go_bits
                    first | exact rel_val (Chg.refl _) | (go_simp; exact rel_val (Chg.refl _))
                  case ao1 =>
                    intro a wx hE hin
                    have i4 : a.eval (.tmp 4) = .int .i64 j := hin 4 rfl
                    clear hin
                    have hcst : ∀ v, a.eval (.const v) = v := fun _ => rfl
                    have hfnc : ∀ f, a.eval (.func f) = .func (.func f) #[] #[] := fun _ => rfl
                    refine want_none rfl ?_
                    unfold Oper.wp
                    generalize a.eval = ρ at *
                    go_simp
                    try go_bits
                    first | exact rel_val (Chg.refl _) | (go_simp; exact rel_val (Chg.refl _))
                  case ao2 =>
                    rintro a wx hE hin (h0 : a.eval (.tmp 30) = _) (h1 : a.eval (.tmp 31) = _)
                    clear hin
                    have hcst : ∀ v, a.eval (.const v) = v := fun _ => rfl
                    have hfnc : ∀ f, a.eval (.func f) = .func (.func f) #[] #[] := fun _ => rfl
                    refine want_none rfl ?_
                    unfold Oper.wp
                    generalize a.eval = ρ at *
                    go_simp
                    try go_bits
                    first | exact rel_val (Chg.refl _) | (go_simp; exact rel_val (Chg.refl _))
                  case ao3 =>
                    rintro a wx hE hin (h2 : a.eval (.tmp 32) = _)
                    clear hin
                    have hcst : ∀ v, a.eval (.const v) = v := fun _ => rfl
                    have hfnc : ∀ f, a.eval (.func f) = .func (.func f) #[] #[] := fun _ => rfl
                    refine want_none rfl ?_
                    unfold Oper.wp
                    generalize a.eval = ρ at *
                    go_simp
                    try go_bits
                    first | exact rel_val (Chg.refl _) | (go_simp; exact rel_val (Chg.refl _))
                  case ao4 =>
                    rintro a wx hE hin (h3 : a.eval (.tmp 33) = _)
                    clear hin
                    have hcst : ∀ v, a.eval (.const v) = v := fun _ => rfl
                    have hfnc : ∀ f, a.eval (.func f) = .func (.func f) #[] #[] := fun _ => rfl
                    refine want_none rfl ?_
                    unfold Oper.wp
                    generalize a.eval = ρ at *
                    have c := put_at (HR2.out.drew.chg hE) HO.out hjl
                    rw [HQ.out] at c
                    go_simp
                    try go_bits
                    first | exact rel_val (Chg.refl _) | (go_simp; exact rel_val (Chg.refl _))
                  case ao5 =>
                    intro a wx hE hin
                    have i0 : a.eval (.tmp 0) = .slice (some ad) ps.length c := hin 0 rfl
                    clear hin
                    have hcst : ∀ v, a.eval (.const v) = v := fun _ => rfl
                    have hfnc : ∀ f, a.eval (.func f) = .func (.func f) #[] #[] := fun _ => rfl
                    refine want_none rfl ?_
                    unfold Oper.wp
                    generalize a.eval = ρ at *
                    go_simp
                    try go_bits
                    first | exact rel_val (Chg.refl _) | (go_simp; exact rel_val (Chg.refl _))
                  case ao6 =>
                    intro a wx hE hin
                    have i3 : a.eval (.tmp 3) = .int .i64 k := hin 3 rfl
                    clear hin
                    have hcst : ∀ v, a.eval (.const v) = v := fun _ => rfl
                    have hfnc : ∀ f, a.eval (.func f) = .func (.func f) #[] #[] := fun _ => rfl
                    refine want_none rfl ?_
                    unfold Oper.wp
                    generalize a.eval = ρ at *
                    go_simp
                    try go_bits
                    first | exact rel_val (Chg.refl _) | (go_simp; exact rel_val (Chg.refl _))
                  case ao7 =>
                    rintro a wx hE hin (h5 : a.eval (.tmp 35) = _) (h6 : a.eval (.tmp 36) = _)
                    clear hin
                    have hcst : ∀ v, a.eval (.const v) = v := fun _ => rfl
                    have hfnc : ∀ f, a.eval (.func f) = .func (.func f) #[] #[] := fun _ => rfl
                    refine want_none rfl ?_
                    unfold Oper.wp
                    generalize a.eval = ρ at *
                    go_simp
                    try go_bits
                    first | exact rel_val (Chg.refl _) | (go_simp; exact rel_val (Chg.refl _))
                  case ao8 =>
                    rintro a wx hE hin (h7 : a.eval (.tmp 37) = _)
                    clear hin
                    have hcst : ∀ v, a.eval (.const v) = v := fun _ => rfl
                    have hfnc : ∀ f, a.eval (.func f) = .func (.func f) #[] #[] := fun _ => rfl
                    refine want_none rfl ?_
                    unfold Oper.wp
                    generalize a.eval = ρ at *
                    go_simp
                    try go_bits
                    first | exact rel_val (Chg.refl _) | (go_simp; exact rel_val (Chg.refl _))
                  case ao9 =>
                    rintro a wx hE hin (h8 : a.eval (.tmp 38) = _)
                    clear hin
                    have hcst : ∀ v, a.eval (.const v) = v := fun _ => rfl
                    have hfnc : ∀ f, a.eval (.func f) = .func (.func f) #[] #[] := fun _ => rfl
                    refine want_none rfl ?_
                    unfold Oper.wp
                    generalize a.eval = ρ at *
                    have c := put_at (HR2.out.drew.chg hE) HO.out hlt
                    rw [HP.out] at c
                    go_simp
                    try go_bits
                    first | exact rel_val (Chg.refl _) | (go_simp; exact rel_val (Chg.refl _))
                  case ao10 =>
                    rintro a wx hE hin (h4 : a.eval (.tmp 34) = _) (h9 : a.eval (.tmp 39) = _)
                    clear hin
                    have hcst : ∀ v, a.eval (.const v) = v := fun _ => rfl
                    have hfnc : ∀ f, a.eval (.func f) = .func (.func f) #[] #[] := fun _ => rfl
                    refine want_none rfl ?_
                    unfold Oper.wp
                    generalize a.eval = ρ at *
                    go_simp
                    try go_bits
                    first | exact rel_val (Chg.refl _) | (go_simp; exact rel_val (Chg.refl _))
                case afin =>
                  intro wx hE
                  rintro _ rfl _ rfl _ rfl _ rfl _ rfl _ rfl _ rfl _ rfl _ rfl _ rfl _ rfl
                  simp only [FinOk, List.take_succ_cons, List.take_zero, List.take_nil, List.drop_succ_cons, List.drop_zero, List.drop_nil, Act.put, List.setIfInBounds_toArray, List.set_cons_succ, List.set_cons_zero]
                  have HB3 : Hid (Below w.heap.size w wx) := HB2.out.trans ((hE.undrew).below (B := w.heap.size) HB2.out.size (fun _ _ => id))
                  clear hE
                  go_wp2
                  go_ret
                  exact ⟨by rw [HN.out]; rfl, HB3.out⟩
              · have hbe : (r.at_ == p.at_) = false := by rw [beq_eq_false_iff_ne]; exact heq
                have HNQ := Lib.hid heq
                clear heq
                go_wp2_with fail
                apply wp_region_rel 11 (Chg NoS) [(Veq _), (Veq _), (Veq _), (Veq _), (Veq _), (Veq _), (Veq _), (Veq _), (Veq _), (Veq _), (Veq _)] [[], [], [0, 1], [2], [3], [], [], [5, 6], [7], [8], [4, 9]] [30, 31, 32, 33, 34, 35, 36, 37, 38, 39, 40] (by kernel_rfl) (by kernel_rfl) rfl rfl rfl Chg.refl (fun _ _ _ => Chg.trans) ⟨Veq.lasts, Veq.lasts, Veq.lasts, Veq.lasts, Veq.lasts, Veq.lasts, Veq.lasts, Veq.lasts, Veq.lasts, Veq.lasts, Veq.lasts, trivial⟩ ?aops ?afin
                case aops =>
                  refine ⟨?ao0, ?ao1, ?ao2, ?ao3, ?ao4, ?ao5, ?ao6, ?ao7, ?ao8, ?ao9, ?ao10, trivial⟩
                  case ao0 =>
                    intro a wx hE hin
                    have i0 : a.eval (.tmp 0) = .slice (some ad) ps.length c := hin 0 rfl
                    clear hin
                    have hcst : ∀ v, a.eval (.const v) = v := fun _ => rfl
                    have hfnc : ∀ f, a.eval (.func f) = .func (.func f) #[] #[] := fun _ => rfl
                    refine want_none rfl ?_
                    unfold Oper.wp
                    generalize a.eval = ρ at *
                    go_simp
                    try go_bits
                    first | exact rel_val (Chg.refl _) | (go_simp; exact rel_val (Chg.refl _))
                  case ao1 =>
                    intro a wx hE hin
                    have i4 : a.eval (.tmp 4) = .int .i64 j := hin 4 rfl
                    clear hin
                    have hcst : ∀ v, a.eval (.const v) = v := fun _ => rfl
                    have hfnc : ∀ f, a.eval (.func f) = .func (.func f) #[] #[] := fun _ => rfl
                    refine want_none rfl ?_
                    unfold Oper.wp
                    generalize a.eval = ρ at *
                    go_simp
                    try go_bits
                    first | exact rel_val (Chg.refl _) | (go_simp; exact rel_val (Chg.refl _))
                  case ao2 =>
                    rintro a wx hE hin (h0 : a.eval (.tmp 30) = _) (h1 : a.eval (.tmp 31) = _)
                    clear hin
                    have hcst : ∀ v, a.eval (.const v) = v := fun _ => rfl
                    have hfnc : ∀ f, a.eval (.func f) = .func (.func f) #[] #[] := fun _ => rfl
                    refine want_none rfl ?_
                    unfold Oper.wp
                    generalize a.eval = ρ at *
                    go_simp
                    try go_bits
                    first | exact rel_val (Chg.refl _) | (go_simp; exact rel_val (Chg.refl _))
                  case ao3 =>
                    rintro a wx hE hin (h2 : a.eval (.tmp 32) = _)
                    clear hin
                    have hcst : ∀ v, a.eval (.const v) = v := fun _ => rfl
                    have hfnc : ∀ f, a.eval (.func f) = .func (.func f) #[] #[] := fun _ => rfl
                    refine want_none rfl ?_
                    unfold Oper.wp
                    generalize a.eval = ρ at *
                    go_simp
                    try go_bits
                    first | exact rel_val (Chg.refl _) | (go_simp; exact rel_val (Chg.refl _))
                  case ao4 =>
                    rintro a wx hE hin (h3 : a.eval (.tmp 33) = _)
                    clear hin
                    have hcst : ∀ v, a.eval (.const v) = v := fun _ => rfl
                    have hfnc : ∀ f, a.eval (.func f) = .func (.func f) #[] #[] := fun _ => rfl
                    refine want_none rfl ?_
                    unfold Oper.wp
                    generalize a.eval = ρ at *
                    have c := put_at (HR2.out.drew.chg hE) HO.out hjl
                    rw [HQ.out] at c
                    go_simp
                    try go_bits
                    first | exact rel_val (Chg.refl _) | (go_simp; exact rel_val (Chg.refl _))
                  case ao5 =>
                    intro a wx hE hin
                    have i0 : a.eval (.tmp 0) = .slice (some ad) ps.length c := hin 0 rfl
                    clear hin
                    have hcst : ∀ v, a.eval (.const v) = v := fun _ => rfl
                    have hfnc : ∀ f, a.eval (.func f) = .func (.func f) #[] #[] := fun _ => rfl
                    refine want_none rfl ?_
                    unfold Oper.wp
                    generalize a.eval = ρ at *
                    go_simp
                    try go_bits
                    first | exact rel_val (Chg.refl _) | (go_simp; exact rel_val (Chg.refl _))
                  case ao6 =>
                    intro a wx hE hin
                    have i3 : a.eval (.tmp 3) = .int .i64 k := hin 3 rfl
                    clear hin
                    have hcst : ∀ v, a.eval (.const v) = v := fun _ => rfl
                    have hfnc : ∀ f, a.eval (.func f) = .func (.func f) #[] #[] := fun _ => rfl
                    refine want_none rfl ?_
                    unfold Oper.wp
                    generalize a.eval = ρ at *
                    go_simp
                    try go_bits
                    first | exact rel_val (Chg.refl _) | (go_simp; exact rel_val (Chg.refl _))
                  case ao7 =>
                    rintro a wx hE hin (h5 : a.eval (.tmp 35) = _) (h6 : a.eval (.tmp 36) = _)
                    clear hin
                    have hcst : ∀ v, a.eval (.const v) = v := fun _ => rfl
                    have hfnc : ∀ f, a.eval (.func f) = .func (.func f) #[] #[] := fun _ => rfl
                    refine want_none rfl ?_
                    unfold Oper.wp
                    generalize a.eval = ρ at *
                    go_simp
                    try go_bits
                    first | exact rel_val (Chg.refl _) | (go_simp; exact rel_val (Chg.refl _))
                  case ao8 =>
                    rintro a wx hE hin (h7 : a.eval (.tmp 37) = _)
                    clear hin
                    have hcst : ∀ v, a.eval (.const v) = v := fun _ => rfl
                    have hfnc : ∀ f, a.eval (.func f) = .func (.func f) #[] #[] := fun _ => rfl
                    refine want_none rfl ?_
                    unfold Oper.wp
                    generalize a.eval = ρ at *
                    go_simp
                    try go_bits
                    first | exact rel_val (Chg.refl _) | (go_simp; exact rel_val (Chg.refl _))
                  case ao9 =>
                    rintro a wx hE hin (h8 : a.eval (.tmp 38) = _)
                    clear hin
                    have hcst : ∀ v, a.eval (.const v) = v := fun _ => rfl
                    have hfnc : ∀ f, a.eval (.func f) = .func (.func f) #[] #[] := fun _ => rfl
                    refine want_none rfl ?_
                    unfold Oper.wp
                    generalize a.eval = ρ at *
                    have c := put_at (HR2.out.drew.chg hE) HO.out hlt
                    rw [HP.out] at c
                    go_simp
                    try go_bits
                    first | exact rel_val (Chg.refl _) | (go_simp; exact rel_val (Chg.refl _))
                  case ao10 =>
                    rintro a wx hE hin (h4 : a.eval (.tmp 34) = _) (h9 : a.eval (.tmp 39) = _)
                    clear hin
                    have hcst : ∀ v, a.eval (.const v) = v := fun _ => rfl
                    have hfnc : ∀ f, a.eval (.func f) = .func (.func f) #[] #[] := fun _ => rfl
                    refine want_none rfl ?_
                    unfold Oper.wp
                    generalize a.eval = ρ at *
                    go_simp
                    try go_bits
                    first | exact rel_val (Chg.refl _) | (go_simp; exact rel_val (Chg.refl _))
                case afin =>
                  intro wx hE
                  rintro _ rfl _ rfl _ rfl _ rfl _ rfl _ rfl _ rfl _ rfl _ rfl _ rfl _ rfl
                  simp only [FinOk, List.take_succ_cons, List.take_zero, List.take_nil, List.drop_succ_cons, List.drop_zero, List.drop_nil, Act.put, List.setIfInBounds_toArray, List.set_cons_succ, List.set_cons_zero]
                  have HB3 : Hid (Below w.heap.size w wx) := HB2.out.trans ((hE.undrew).below (B := w.heap.size) HB2.out.size (fun _ _ => id))
                  clear hE
                  go_wp2_with fail
                  go_roundw
                  case rel => exact ⟨j + 1, by omega, by go_num, fun i hi hl => by
                    rcases Nat.lt_or_ge i j with h | h
                    · exact HNE.out i h hl
                    · obtain rfl : i = j := by omega
                      rw [HQ.out]
                      exact HNQ.out, HB3.out⟩
                  case measure => simp [intOf]; omega
            · have hje : j = k := by omega
              have hji : ¬ ((j : Int) < (k : Int)) := by omega
              have HG2 := Lib.hid (HG.out.more hlt (by rw [HP.out]; exact ⟨by omega, h12⟩) (by
                rw [HP.out]
                intro hm
                obtain ⟨y, hy, he⟩ := List.mem_map.1 hm
                obtain ⟨i, hi, rfl⟩ := List.mem_take_iff_getElem.1 hy
                exact HNE.out i (by omega) (by omega) he))
              go_wp2_with fail
              go_roundw
              case rel => exact ⟨k + 1, by omega, by go_num, HG2.out, HB2.out⟩
              case measure => simp [intOf]; omega
        · have h12n : (12 : Int) ≤ p.at_ := by omega
          have HN : Hid (goodB ps = false) := HRG.out (fun hh => by omega)
          go_wp2
          go_ret
          exact ⟨by rw [HN.out]; rfl, HB.out⟩
    · have hke : k = ps.length := by omega
      have hki : ¬ ((k : Int) < (ps.length : Int)) := by omega
      have HN : Hid (goodB ps = decide ((1 : Int) ≤ (ps.length : Int) ∧ (ps.length : Int) ≤ 5)) := by
        have h1 := HG.out.rg
        have h2 := HG.out.nd
        rw [hke, List.take_length] at h1 h2
        show decide _ = decide _
        rw [decide_eq_decide]
        exact ⟨fun h => by omega, fun h => ⟨by omega, by omega, h1, h2⟩⟩
      by_cases hl1 : (1 : Int) ≤ (ps.length : Int)
      · go_wp2
        go_ret
        exact ⟨by rw [HN.out]; simp [hl1], HB.out⟩
      · go_wp2
        go_ret
        exact ⟨by rw [HN.out]; simp [hl1]; intro h; omega, HB.out⟩
end Go.Proofs.Ytcmfkdfegfablaa


/- The walk of wal.number. -/
namespace Go.Proofs.Ytcmfkdfegfablaa
open Go.RowKit
set_option linter.unusedVariables false
set_option linter.unusedSimpArgs false

theorem num_four (b0 b1 b2 b3 : UInt8) : Go.bits .or .u32 (Go.bits .or .u32 (Go.bits .or .u32 ((b0.toNat : Int) % 4294967296) ((b1.toNat : Int) % 4294967296 * 256 % 4294967296)) ((b2.toNat : Int) % 4294967296 * 65536 % 4294967296)) ((b3.toNat : Int) % 4294967296 * 16777216 % 4294967296) = ((num [b0, b1, b2, b3] : Nat) : Int) := by
  have l0 := b0.toNat_lt
  have l1 := b1.toNat_lt
  have l2 := b2.toNat_lt
  have h1 := num_or b0.toNat 1 b1 (by decide) (by omega)
  have h2 := num_or (b0.toNat + b1.toNat * 256 ^ 1) 2 b2 (by decide) (by omega)
  have h3 := num_or (b0.toNat + b1.toNat * 256 ^ 1 + b2.toNat * 256 ^ 2) 3 b3 (by decide) (by omega)
  rw [show (2 : Int) ^ (8 * 1) = 256 by decide] at h1
  rw [show (2 : Int) ^ (8 * 2) = 65536 by decide] at h2
  rw [show (2 : Int) ^ (8 * 3) = 16777216 by decide] at h3
  rw [Int.emod_eq_of_lt (show (0 : Int) ≤ b0.toNat by omega) (by omega), h1, h2, h3]
  congr 1
  simp only [num]
  omega
set_option maxRecDepth 100000 in
set_option maxHeartbeats 4000000 in
theorem walNumber_calls (l : List UInt8) (A : Option Addr) (c : Nat) (w : World) (hl : l.length = 4) (hr : Rd w A (bts l)) :
    Calls Try.prog 47 #[.slice A 4 c] w fun e w' => e = .returned (.int .u32 (num l : Nat)) ∧ Below w.heap.size w w' := by
  obtain ⟨b0, b1, b2, b3, rfl⟩ : ∃ b0 b1 b2 b3, l = [b0, b1, b2, b3] := by
    match l, hl with
    | [a, b, c, d], _ => exact ⟨a, b, c, d, rfl⟩
  obtain ⟨ad, rfl, h0⟩ := hr.bt 0 (by simp)
  obtain ⟨ad1, e1, h1⟩ := hr.bt 1 (by simp)
  obtain ⟨ad2, e2, h2⟩ := hr.bt 2 (by simp)
  obtain ⟨ad3, e3, h3⟩ := hr.bt 3 (by simp)
  injection e1 with e1
  injection e2 with e2
  injection e3 with e3
  subst e1 e2 e3
  have HC0 : Hid (w.cell? ad = some (vu8 b0)) := by show _ = _; simpa [Addr.add] using h0
  have HC1 : Hid (w.cell? ⟨ad.block, ad.off + 1, none⟩ = some (vu8 b1)) := by show _ = _; simpa [Addr.add] using h1
  have HC2 : Hid (w.cell? ⟨ad.block, ad.off + 2, none⟩ = some (vu8 b2)) := by show _ = _; simpa [Addr.add] using h2
  have HC3 : Hid (w.cell? ⟨ad.block, ad.off + 3, none⟩ = some (vu8 b3)) := by show _ = _; simpa [Addr.add] using h3
  clear h0 h1 h2 h3 hl hr
  go_enter Try.func47, Try.ntmps47
  go_wp2_with fail
  apply wp_region_rel 22 (Chg NoS) [(Veq _), (Veq _), (Veq _), (Veq _), (Veq _), (Veq _), (Veq _), (Veq _), (Veq _), (Veq _), (Veq _), (Veq _), (Veq _), (Veq _), (Veq _), (Veq _), (Veq _), (Veq _), (Veq _), (Veq _), (Veq _), (Veq _)] [[], [0], [1], [2], [], [4], [5], [6], [7], [3, 8], [], [10], [11], [12], [13], [9, 14], [], [16], [17], [18], [19], [15, 20]] [3, 4, 5, 6, 7, 8, 9, 10, 11, 12, 13, 14, 15, 16, 17, 18, 19, 20, 21, 22, 23, 24] (by kernel_rfl) (by kernel_rfl) rfl rfl rfl Chg.refl (fun _ _ _ => Chg.trans) ⟨Veq.lasts, Veq.lasts, Veq.lasts, Veq.lasts, Veq.lasts, Veq.lasts, Veq.lasts, Veq.lasts, Veq.lasts, Veq.lasts, Veq.lasts, Veq.lasts, Veq.lasts, Veq.lasts, Veq.lasts, Veq.lasts, Veq.lasts, Veq.lasts, Veq.lasts, Veq.lasts, Veq.lasts, Veq.lasts, trivial⟩ ?aops ?afin
  case aops =>
    refine ⟨?ao0, ?ao1, ?ao2, ?ao3, ?ao4, ?ao5, ?ao6, ?ao7, ?ao8, ?ao9, ?ao10, ?ao11, ?ao12, ?ao13, ?ao14, ?ao15, ?ao16, ?ao17, ?ao18, ?ao19, ?ao20, ?ao21, trivial⟩
    case ao0 =>
      intro a wx hE hin
      have i0 : a.eval (.tmp 0) = .slice (some ad) 4 c := hin 0 rfl
      clear hin
      have hcst : ∀ v, a.eval (.const v) = v := fun _ => rfl
      have hfnc : ∀ f, a.eval (.func f) = .func (.func f) #[] #[] := fun _ => rfl
      refine want_none rfl ?_
      unfold Oper.wp
      generalize a.eval = ρ at *
      go_simp
      try go_bits
      first | exact rel_val (Chg.refl _) | (go_simp; exact rel_val (Chg.refl _))
    case ao1 =>
      rintro a wx hE hin (h0 : a.eval (.tmp 3) = _)
      clear hin
      have hcst : ∀ v, a.eval (.const v) = v := fun _ => rfl
      have hfnc : ∀ f, a.eval (.func f) = .func (.func f) #[] #[] := fun _ => rfl
      refine want_none rfl ?_
      unfold Oper.wp
      generalize a.eval = ρ at *
      go_simp
      try go_bits
      first | exact rel_val (Chg.refl _) | (go_simp; exact rel_val (Chg.refl _))
    case ao2 =>
      rintro a wx hE hin (h1 : a.eval (.tmp 4) = _)
      clear hin
      have hcst : ∀ v, a.eval (.const v) = v := fun _ => rfl
      have hfnc : ∀ f, a.eval (.func f) = .func (.func f) #[] #[] := fun _ => rfl
      refine want_none rfl ?_
      unfold Oper.wp
      generalize a.eval = ρ at *
      have c := hE.cell (w := w.drew) HC0.out id
      go_simp
      try go_bits
      first | exact rel_val (Chg.refl _) | (go_simp; exact rel_val (Chg.refl _))
    case ao3 =>
      rintro a wx hE hin (h2 : a.eval (.tmp 5) = _)
      clear hin
      have hcst : ∀ v, a.eval (.const v) = v := fun _ => rfl
      have hfnc : ∀ f, a.eval (.func f) = .func (.func f) #[] #[] := fun _ => rfl
      refine want_none rfl ?_
      unfold Oper.wp
      generalize a.eval = ρ at *
      go_simp
      try go_bits
      first | exact rel_val (Chg.refl _) | (go_simp; exact rel_val (Chg.refl _))
    case ao4 =>
      intro a wx hE hin
      have i0 : a.eval (.tmp 0) = .slice (some ad) 4 c := hin 0 rfl
      clear hin
      have hcst : ∀ v, a.eval (.const v) = v := fun _ => rfl
      have hfnc : ∀ f, a.eval (.func f) = .func (.func f) #[] #[] := fun _ => rfl
      refine want_none rfl ?_
      unfold Oper.wp
      generalize a.eval = ρ at *
      go_simp
      try go_bits
      first | exact rel_val (Chg.refl _) | (go_simp; exact rel_val (Chg.refl _))
    case ao5 =>
      rintro a wx hE hin (h4 : a.eval (.tmp 7) = _)
      clear hin
      have hcst : ∀ v, a.eval (.const v) = v := fun _ => rfl
      have hfnc : ∀ f, a.eval (.func f) = .func (.func f) #[] #[] := fun _ => rfl
      refine want_none rfl ?_
      unfold Oper.wp
      generalize a.eval = ρ at *
      go_simp
      try go_bits
      first | exact rel_val (Chg.refl _) | (go_simp; exact rel_val (Chg.refl _))
    case ao6 =>
      rintro a wx hE hin (h5 : a.eval (.tmp 8) = _)
      clear hin
      have hcst : ∀ v, a.eval (.const v) = v := fun _ => rfl
      have hfnc : ∀ f, a.eval (.func f) = .func (.func f) #[] #[] := fun _ => rfl
      refine want_none rfl ?_
      unfold Oper.wp
      generalize a.eval = ρ at *
      have c := hE.cell (w := w.drew) HC1.out id
      go_simp
      try go_bits
      first | exact rel_val (Chg.refl _) | (go_simp; exact rel_val (Chg.refl _))
    case ao7 =>
      rintro a wx hE hin (h6 : a.eval (.tmp 9) = _)
      clear hin
      have hcst : ∀ v, a.eval (.const v) = v := fun _ => rfl
      have hfnc : ∀ f, a.eval (.func f) = .func (.func f) #[] #[] := fun _ => rfl
      refine want_none rfl ?_
      unfold Oper.wp
      generalize a.eval = ρ at *
      go_simp
      try go_bits
      first | exact rel_val (Chg.refl _) | (go_simp; exact rel_val (Chg.refl _))
    case ao8 =>
      rintro a wx hE hin (h7 : a.eval (.tmp 10) = _)
      clear hin
      have hcst : ∀ v, a.eval (.const v) = v := fun _ => rfl
      have hfnc : ∀ f, a.eval (.func f) = .func (.func f) #[] #[] := fun _ => rfl
      refine want_none rfl ?_
      unfold Oper.wp
      generalize a.eval = ρ at *
      go_simp
      try go_bits
      first | exact rel_val (Chg.refl _) | (go_simp; exact rel_val (Chg.refl _))
    case ao9 =>
      rintro a wx hE hin (h3 : a.eval (.tmp 6) = _) (h8 : a.eval (.tmp 11) = _)
      clear hin
      have hcst : ∀ v, a.eval (.const v) = v := fun _ => rfl
      have hfnc : ∀ f, a.eval (.func f) = .func (.func f) #[] #[] := fun _ => rfl
      refine want_none rfl ?_
      unfold Oper.wp
      generalize a.eval = ρ at *
      go_simp
      try go_bits
      first | exact rel_val (Chg.refl _) | (go_simp; exact rel_val (Chg.refl _))
    case ao10 =>
      intro a wx hE hin
      have i0 : a.eval (.tmp 0) = .slice (some ad) 4 c := hin 0 rfl
      clear hin
      have hcst : ∀ v, a.eval (.const v) = v := fun _ => rfl
      have hfnc : ∀ f, a.eval (.func f) = .func (.func f) #[] #[] := fun _ => rfl
      refine want_none rfl ?_
      unfold Oper.wp
      generalize a.eval = ρ at *
      go_simp
      try go_bits
      first | exact rel_val (Chg.refl _) | (go_simp; exact rel_val (Chg.refl _))
    case ao11 =>
      rintro a wx hE hin (h10 : a.eval (.tmp 13) = _)
      clear hin
      have hcst : ∀ v, a.eval (.const v) = v := fun _ => rfl
      have hfnc : ∀ f, a.eval (.func f) = .func (.func f) #[] #[] := fun _ => rfl
      refine want_none rfl ?_
      unfold Oper.wp
      generalize a.eval = ρ at *
      go_simp
      try go_bits
      first | exact rel_val (Chg.refl _) | (go_simp; exact rel_val (Chg.refl _))
    case ao12 =>
      rintro a wx hE hin (h11 : a.eval (.tmp 14) = _)
      clear hin
      have hcst : ∀ v, a.eval (.const v) = v := fun _ => rfl
      have hfnc : ∀ f, a.eval (.func f) = .func (.func f) #[] #[] := fun _ => rfl
      refine want_none rfl ?_
      unfold Oper.wp
      generalize a.eval = ρ at *
      have c := hE.cell (w := w.drew) HC2.out id
      go_simp
      try go_bits
      first | exact rel_val (Chg.refl _) | (go_simp; exact rel_val (Chg.refl _))
    case ao13 =>
      rintro a wx hE hin (h12 : a.eval (.tmp 15) = _)
      clear hin
      have hcst : ∀ v, a.eval (.const v) = v := fun _ => rfl
      have hfnc : ∀ f, a.eval (.func f) = .func (.func f) #[] #[] := fun _ => rfl
      refine want_none rfl ?_
      unfold Oper.wp
      generalize a.eval = ρ at *
      go_simp
      try go_bits
      first | exact rel_val (Chg.refl _) | (go_simp; exact rel_val (Chg.refl _))
    case ao14 =>
      rintro a wx hE hin (h13 : a.eval (.tmp 16) = _)
      clear hin
      have hcst : ∀ v, a.eval (.const v) = v := fun _ => rfl
      have hfnc : ∀ f, a.eval (.func f) = .func (.func f) #[] #[] := fun _ => rfl
      refine want_none rfl ?_
      unfold Oper.wp
      generalize a.eval = ρ at *
      go_simp
      try go_bits
      first | exact rel_val (Chg.refl _) | (go_simp; exact rel_val (Chg.refl _))
    case ao15 =>
      rintro a wx hE hin (h9 : a.eval (.tmp 12) = _) (h14 : a.eval (.tmp 17) = _)
      clear hin
      have hcst : ∀ v, a.eval (.const v) = v := fun _ => rfl
      have hfnc : ∀ f, a.eval (.func f) = .func (.func f) #[] #[] := fun _ => rfl
      refine want_none rfl ?_
      unfold Oper.wp
      generalize a.eval = ρ at *
      go_simp
      try go_bits
      first | exact rel_val (Chg.refl _) | (go_simp; exact rel_val (Chg.refl _))
    case ao16 =>
      intro a wx hE hin
      have i0 : a.eval (.tmp 0) = .slice (some ad) 4 c := hin 0 rfl
      clear hin
      have hcst : ∀ v, a.eval (.const v) = v := fun _ => rfl
      have hfnc : ∀ f, a.eval (.func f) = .func (.func f) #[] #[] := fun _ => rfl
      refine want_none rfl ?_
      unfold Oper.wp
      generalize a.eval = ρ at *
      go_simp
      try go_bits
      first | exact rel_val (Chg.refl _) | (go_simp; exact rel_val (Chg.refl _))
    case ao17 =>
      rintro a wx hE hin (h16 : a.eval (.tmp 19) = _)
      clear hin
      have hcst : ∀ v, a.eval (.const v) = v := fun _ => rfl
      have hfnc : ∀ f, a.eval (.func f) = .func (.func f) #[] #[] := fun _ => rfl
      refine want_none rfl ?_
      unfold Oper.wp
      generalize a.eval = ρ at *
      go_simp
      try go_bits
      first | exact rel_val (Chg.refl _) | (go_simp; exact rel_val (Chg.refl _))
    case ao18 =>
      rintro a wx hE hin (h17 : a.eval (.tmp 20) = _)
      clear hin
      have hcst : ∀ v, a.eval (.const v) = v := fun _ => rfl
      have hfnc : ∀ f, a.eval (.func f) = .func (.func f) #[] #[] := fun _ => rfl
      refine want_none rfl ?_
      unfold Oper.wp
      generalize a.eval = ρ at *
      have c := hE.cell (w := w.drew) HC3.out id
      go_simp
      try go_bits
      first | exact rel_val (Chg.refl _) | (go_simp; exact rel_val (Chg.refl _))
    case ao19 =>
      rintro a wx hE hin (h18 : a.eval (.tmp 21) = _)
      clear hin
      have hcst : ∀ v, a.eval (.const v) = v := fun _ => rfl
      have hfnc : ∀ f, a.eval (.func f) = .func (.func f) #[] #[] := fun _ => rfl
      refine want_none rfl ?_
      unfold Oper.wp
      generalize a.eval = ρ at *
      go_simp
      try go_bits
      first | exact rel_val (Chg.refl _) | (go_simp; exact rel_val (Chg.refl _))
    case ao20 =>
      rintro a wx hE hin (h19 : a.eval (.tmp 22) = _)
      clear hin
      have hcst : ∀ v, a.eval (.const v) = v := fun _ => rfl
      have hfnc : ∀ f, a.eval (.func f) = .func (.func f) #[] #[] := fun _ => rfl
      refine want_none rfl ?_
      unfold Oper.wp
      generalize a.eval = ρ at *
      go_simp
      try go_bits
      first | exact rel_val (Chg.refl _) | (go_simp; exact rel_val (Chg.refl _))
    case ao21 =>
      rintro a wx hE hin (h15 : a.eval (.tmp 18) = _) (h20 : a.eval (.tmp 23) = _)
      clear hin
      have hcst : ∀ v, a.eval (.const v) = v := fun _ => rfl
      have hfnc : ∀ f, a.eval (.func f) = .func (.func f) #[] #[] := fun _ => rfl
      refine want_none rfl ?_
      unfold Oper.wp
      generalize a.eval = ρ at *
      go_simp
      try go_bits
      first | exact rel_val (Chg.refl _) | (go_simp; exact rel_val (Chg.refl _))
  case afin =>
    intro wx hE
    rintro _ rfl _ rfl _ rfl _ rfl _ rfl _ rfl _ rfl _ rfl _ rfl _ rfl _ rfl _ rfl _ rfl _ rfl _ rfl _ rfl _ rfl _ rfl _ rfl _ rfl _ rfl _ rfl
    simp only [FinOk, List.take_succ_cons, List.take_zero, List.take_nil, List.drop_succ_cons, List.drop_zero, List.drop_nil, Act.put, List.setIfInBounds_toArray, List.set_cons_succ, List.set_cons_zero]
    have HE : Hid (Below w.heap.size w wx) := (hE.undrew).below (Nat.le_refl _) (fun _ _ => id)
    have HN := Lib.hid (num_four b0 b1 b2 b3)
    clear hE
    go_wp2
    go_ret
    exact ⟨by rw [← HN.out]; rfl, HE.out⟩
end Go.Proofs.Ytcmfkdfegfablaa


/- The walk of wal.header. -/
namespace Go.Proofs.Ytcmfkdfegfablaa
open Go.RowKit
set_option linter.unusedVariables false
set_option linter.unusedSimpArgs false

theorem own_lower {w : World} {B B' n : Nat} {e : TypeId} {size : Nat} {v : Value} {xs : List Value} (h : w.ownsRow B e size v n xs) (hB : B' ≤ B) : w.ownsRow B' e size v n xs := by
  refine ⟨h.1, ?_⟩
  rcases h.2 with h2 | ⟨g, cap, cur, hv, hbg, r⟩
  · exact .inl h2
  · exact .inr ⟨g, cap, cur, hv, Nat.le_trans hB hbg, r⟩
def FourAt (l : List UInt8) : Fact := fun w v => ∃ g, v = .slice (some ⟨g, 0, none⟩) 4 4 ∧ Bk w g (bts l)
theorem FourAt.lasts {l : List UInt8} : ∀ w w' v, Chg NoS w w' → FourAt l w v → FourAt l w' v := fun _ _ _ h ⟨g, e, hb⟩ => ⟨g, e, hb.chg h id⟩
def OwnF (base n : Nat) (xs : List UInt8) : Fact := fun w v => ∃ A c, v = .slice A n c ∧ w.ownsRow base 5 1 (.slice A n c) n (bts xs)
theorem OwnF.lasts {base n : Nat} {xs : List UInt8} : ∀ w w' v, Chg NoS w w' → OwnF base n xs w v → OwnF base n xs w' v := fun _ _ _ h ⟨A, c, e, ho⟩ => ⟨A, c, e, own_chg ho h (fun _ _ => id)⟩
/-- append where there is no room: only new blocks. -/
theorem wp_append_full {P : Program} {o : Oper} {a : Act} {w : World} {K : Act → World → Prop} {Q : Exit → Act → World → Prop} (s x : Operand) (t : TypeId) (ho : o.op = .call { callee := .builtin .append, args := #[s, x], argTypes := #[t, t] }) (e : TypeId) (z : Value) (size bytes : Nat) (ht : P.underlying t = some (.slice e)) (hinfo : (P.info? e).map (fun i => (i.zero, i.size, i.bytes)) = some (some z, size, bytes))
    (hzs : z.cells.size = size) (hsz : 0 < size) (b : Addr) (n cap : Nat) (olds : List Value) (hs : a.eval s = .slice (some b) n cap) (hlo : olds.length = n * size) (hR : Rd w (some b) olds) (A : Option Addr) (m c : Nat) (ys : List Value) (hx : a.eval x = .slice A m c) (hl : ys.length = m * size) (HR : Rd w A ys)
    (hm : 0 < m) (hfull : cap < n + m) (hbytes : (n + m) * bytes ≤ 140737488355328 ∧ n + m ≤ maxLen) (h1 : ∀ u ∈ ys, u.oneCell' = true)
    (h : ∀ A1 c1 w', w'.ownsRow w.heap.size e size (.slice A1 (n + m) c1) (n + m) (olds ++ ys) → Chg NoS w w' → K (a.put o.dst (.slice A1 (n + m) c1)) w') : o.wp P a w K Q := by
  obtain ⟨i0, hi, hzz⟩ := Option.map_eq_some_iff.1 hinfo
  simp only [Prod.mk.injEq] at hzz
  obtain ⟨hz0, hz1, hz2⟩ := hzz
  obtain ⟨ad, rfl, _⟩ := HR.at_ 0 (by rw [hl]; exact Nat.mul_pos hm hsz)
  obtain ⟨v', w', hr, ho', hg⟩ := run_append_arg_grows (P := P) w t o.type e i0 z size bytes ht hi hz0 hz1 hz2 hzs hsz b n cap olds hlo (fun j u hu => by obtain ⟨ad', e', hc⟩ := hR j u hu; injection e' with e'; subst e'; exact hc) ad m c ys hl
    (fun j u hu => by obtain ⟨ad', e', hc⟩ := HR j u hu; injection e' with e'; subst e'; exact hc) hfull hbytes.2 hbytes.1
  obtain ⟨A1, c1, rfl, _, _, _⟩ := own_rd ho'
  unfold Oper.wp execOp
  simp only [ho, resolve, invoke, builtin, Sem.run_bind, Sem.run_pure, Result.andThen_ok, List.map_toArray, List.map_cons, List.map_nil, hs, hx, hr]
  exact h A1 c1 w' ho' ⟨hg.os, hg.tape, hg.output, hg.size, fun k hk _ => hg.block k hk (fun h => by cases h)⟩
/-- A header's bytes, and its sector. -/
def hdrB (e s : UInt32) (ps : List PutV) : List UInt8 := le e.toNat 4 ++ le s.toNat 4 ++ [UInt8.ofNat ps.length] ++ ps.map (fun p => UInt8.ofNat p.at_.toNat)
theorem hdrB_length (e s : UInt32) (ps : List PutV) : (hdrB e s ps).length = 9 + ps.length := by simp [hdrB, le_length]; omega
def hdrS (e s : UInt32) (ps : List PutV) : List UInt8 := secOf 0x57 (padB (hdrB e s ps))
theorem hdrS_length (e s : UInt32) (ps : List PutV) (h : ps.length ≤ 20) : (hdrS e s ps).length = 32 := secOf_length (padB_length (by rw [hdrB_length]; omega))
theorem hdr_enc (e s : UInt32) (ps : List PutV) (h : ps.length ≤ 20) : encR 0x57 (hdrB e s ps) = (hdrS e s ps, 0) := encR_yes (by rw [hdrB_length]; intro hh; rcases hh with hh | hh; exact absurd hh (by decide); omega)
def hdrK (e s : UInt32) (ps : List PutV) (k : Nat) : List UInt8 := le e.toNat 4 ++ le s.toNat 4 ++ [UInt8.ofNat ps.length] ++ (ps.take k).map (fun p => UInt8.ofNat p.at_.toNat)
theorem hdrK_zero (e s : UInt32) (ps : List PutV) : bts (hdrK e s ps 0) = bts (le e.toNat 4 ++ le s.toNat 4) ++ bts [UInt8.ofNat ps.length] := by
  rw [hdrK, List.take_zero, List.map_nil, List.append_nil, bts_append]
theorem hdrK_succ (e s : UInt32) (ps : List PutV) (k : Nat) (h : k < ps.length) : bts (hdrK e s ps (k + 1)) = bts (hdrK e s ps k) ++ bts [UInt8.ofNat ps[k].at_.toNat] := by
  rw [hdrK, hdrK, List.take_succ_eq_append_getElem h, List.map_append, ← List.append_assoc, bts_append _ (List.map _ [ps[k]]), List.map_cons, List.map_nil]
theorem hdrK_all (e s : UInt32) (ps : List PutV) (k : Nat) (h : k = ps.length) : hdrK e s ps k = hdrB e s ps := by
  rw [hdrK, hdrB, List.take_of_length_le (by omega)]
def HdrRel (w : World) (e s : UInt32) (ps : List PutV) (bx : List Value) (v4 v23 : Value) (wr : World) : Prop := ∃ k : Nat, k ≤ ps.length ∧ v23 = .int .i64 k ∧ wr.ownsRow (w.heap.size + 2) 5 1 v4 (9 + k) (bts (hdrK e s ps k)) ∧ Bk wr w.heap.size bx ∧ Bk wr (w.heap.size + 1) (bts (List.replicate 32 0)) ∧ Below w.heap.size w wr
theorem byte_at (q : Nat) (h : q < 256) : vu8 (UInt8.ofNat q) = .int .u8 (q : Int) := by
  rw [vu8_of]
  congr 1
  omega
set_option maxRecDepth 100000 in
set_option maxHeartbeats 8000000 in
theorem header_calls (e s : UInt32) (ps : List PutV) (A : Option Addr) (n c : Nat) (w : World) (hl : ps.length = n) (h20 : n ≤ 20) (hr : Rd w A (ps.flatMap putC)) (ho : PutsOk ps) (hat : ∀ p ∈ ps, 0 ≤ p.at_ ∧ p.at_ < 256) :
    Calls Try.prog 48 #[.agg #[vu32 e, vu32 s, .slice A n c]] w fun en w' => en = .returned (.tuple #[.agg (bts (hdrS e s ps)).toArray, .int .i64 0]) ∧ Below w.heap.size w w' := by
  subst hl
  have HR := Lib.hid hr
  have HO := Lib.hid ho
  have HAT := Lib.hid hat
  clear hr ho hat
  obtain ⟨bx, hbx⟩ : ∃ bx, [vu32 e, vu32 s, .slice A ps.length c] = bx := ⟨_, rfl⟩
  have D0 : Hid (bx[0]? = some (vu32 e)) := by rw [← hbx]; exact (rfl : _ = _)
  have D1 : Hid (bx[1]? = some (vu32 s)) := by rw [← hbx]; exact (rfl : _ = _)
  have D2 : Hid (bx[2]? = some (.slice A ps.length c)) := by rw [← hbx]; exact (rfl : _ = _)
  rw [show (#[vu32 e, vu32 s, .slice A ps.length c] : Array Value) = bx.toArray by rw [← hbx]]
  clear hbx
  have HLB : Hid (vu8 (UInt8.ofNat ps.length) = .int .u8 (ps.length : Int)) := byte_at _ (by omega)
  go_enter Try.func48, Try.ntmps48
  go_wp2_with (refine wpList_al rfl 35 rfl (bts (List.replicate 32 0)) (by kernel_rfl) ?_)
  intro g2 w0 hg hb hc hs
  have hg' : g2 = w.heap.size + 1 := hg.trans (by simp)
  subst hg'
  have X0 : Hid (Bk w0 w.heap.size bx) := (Bk.new w bx _).chg hc id
  have E0 : Hid (Below w.heap.size w w0) := ((Below.refl _ _).alloc (Nat.le_refl _) _).trans (hc.below (by simp) (fun _ _ => id))
  have R0 := Lib.hid hb
  have HS0 : Hid (w.heap.size + 2 ≤ w0.heap.size) := by show _ ≤ _; have := hb.lt; omega
  clear hg hb hc hs
  go_wp2_with fail
  apply wp_region_rel 12 (Chg NoS) [(Veq _), (Veq _), (FourAt (le e.toNat 4)), (Veq _), (Veq _), (FourAt (le s.toNat 4)), (OwnF (w.heap.size + 2) 8 (le e.toNat 4 ++ le s.toNat 4)), (Veq _), (Veq _), (Veq _), (Veq _), (RowAt NoS 1 _)] [[], [0], [1], [], [3], [4], [2, 5], [], [7], [8], [9], [10]] [7, 8, 9, 10, 11, 12, 13, 14, 15, 16, 17, 18] (by kernel_rfl) (by kernel_rfl) rfl rfl rfl Chg.refl (fun _ _ _ => Chg.trans) ⟨Veq.lasts, Veq.lasts, FourAt.lasts, Veq.lasts, Veq.lasts, FourAt.lasts, OwnF.lasts, Veq.lasts, Veq.lasts, Veq.lasts, Veq.lasts, RowAt.lasts, trivial⟩ ?aops ?afin
  case aops =>
    refine ⟨?ao0, ?ao1, ?ao2, ?ao3, ?ao4, ?ao5, ?ao6, ?ao7, ?ao8, ?ao9, ?ao10, ?ao11, trivial⟩
    case ao0 =>
      intro a wx hE hin
      have i1 : a.eval (.tmp 1) = .pointer (some ⟨w.heap.size, 0, none⟩) := hin 1 rfl
      clear hin
      have hcst : ∀ v, a.eval (.const v) = v := fun _ => rfl
      have hfnc : ∀ f, a.eval (.func f) = .func (.func f) #[] #[] := fun _ => rfl
      refine want_none rfl ?_
      unfold Oper.wp
      generalize a.eval = ρ at *
      go_simp
      try go_bits
      first | exact rel_val (Chg.refl _) | (go_simp; exact rel_val (Chg.refl _))
    case ao1 =>
      rintro a wx hE hin (h0 : a.eval (.tmp 7) = _)
      clear hin
      have hcst : ∀ v, a.eval (.const v) = v := fun _ => rfl
      have hfnc : ∀ f, a.eval (.func f) = .func (.func f) #[] #[] := fun _ => rfl
      refine want_none rfl ?_
      unfold Oper.wp
      generalize a.eval = ρ at *
      have c := Bk.cell ((X0.out.drew).chg hE id) D0.out
      go_simp
      try go_bits
      first | exact rel_val (Chg.refl _) | (go_simp; exact rel_val (Chg.refl _))
    case ao2 =>
      rintro a wx hE hin (h1 : a.eval (.tmp 8) = _)
      clear hin
      have hcst : ∀ v, a.eval (.const v) = v := fun _ => rfl
      have hfnc : ∀ f, a.eval (.func f) = .func (.func f) #[] #[] := fun _ => rfl
      refine want_none rfl ?_
      unfold Oper.wp
      generalize a.eval = ρ at *
      go_simp
      refine (four_calls e wx).mono ?_
      intro e w' hp
      obtain ⟨g, rfl, hb, hg, hbel⟩ := hp
      exact ⟨_, rfl, ⟨g, rfl, hb⟩, .of_below hbel⟩
    case ao3 =>
      intro a wx hE hin
      have i1 : a.eval (.tmp 1) = .pointer (some ⟨w.heap.size, 0, none⟩) := hin 1 rfl
      clear hin
      have hcst : ∀ v, a.eval (.const v) = v := fun _ => rfl
      have hfnc : ∀ f, a.eval (.func f) = .func (.func f) #[] #[] := fun _ => rfl
      refine want_none rfl ?_
      unfold Oper.wp
      generalize a.eval = ρ at *
      go_simp
      try go_bits
      first | exact rel_val (Chg.refl _) | (go_simp; exact rel_val (Chg.refl _))
    case ao4 =>
      rintro a wx hE hin (h3 : a.eval (.tmp 10) = _)
      clear hin
      have hcst : ∀ v, a.eval (.const v) = v := fun _ => rfl
      have hfnc : ∀ f, a.eval (.func f) = .func (.func f) #[] #[] := fun _ => rfl
      refine want_none rfl ?_
      unfold Oper.wp
      generalize a.eval = ρ at *
      have c := Bk.cell ((X0.out.drew).chg hE id) D1.out
      go_simp
      try go_bits
      first | exact rel_val (Chg.refl _) | (go_simp; exact rel_val (Chg.refl _))
    case ao5 =>
      rintro a wx hE hin (h4 : a.eval (.tmp 11) = _)
      clear hin
      have hcst : ∀ v, a.eval (.const v) = v := fun _ => rfl
      have hfnc : ∀ f, a.eval (.func f) = .func (.func f) #[] #[] := fun _ => rfl
      refine want_none rfl ?_
      unfold Oper.wp
      generalize a.eval = ρ at *
      go_simp
      refine (four_calls s wx).mono ?_
      intro e w' hp
      obtain ⟨g, rfl, hb, hg, hbel⟩ := hp
      exact ⟨_, rfl, ⟨g, rfl, hb⟩, .of_below hbel⟩
    case ao6 =>
      rintro a wx hE hin ⟨g2, h2, b2⟩ ⟨g5, h5, b5⟩
      clear hin
      have hcst : ∀ v, a.eval (.const v) = v := fun _ => rfl
      have hfnc : ∀ f, a.eval (.func f) = .func (.func f) #[] #[] := fun _ => rfl
      refine want_none rfl ?_
      exact wp_append_full _ _ 56 rfl 5 (.int .u8 0) 1 1 Try.underlying56 info_u8l rfl (by decide) ⟨g2, 0, none⟩ 4 4 (bts (le e.toNat 4)) h2 (by rw [bts_length, le_length]) b2.rd (some ⟨g5, 0, none⟩) 4 4 (bts (le s.toNat 4)) h5 (by rw [bts_length, le_length]) b5.rd (by decide) (by decide) (by decide) (one_bts _) (fun A1 c1 w1 ho hc => ⟨_, rfl, ⟨A1, c1, rfl, by rw [bts_append]; exact own_lower ho (Nat.le_trans HS0.out hE.size)⟩, hc⟩)
    case ao7 =>
      intro a wx hE hin
      have i1 : a.eval (.tmp 1) = .pointer (some ⟨w.heap.size, 0, none⟩) := hin 1 rfl
      clear hin
      have hcst : ∀ v, a.eval (.const v) = v := fun _ => rfl
      have hfnc : ∀ f, a.eval (.func f) = .func (.func f) #[] #[] := fun _ => rfl
      refine want_none rfl ?_
      unfold Oper.wp
      generalize a.eval = ρ at *
      go_simp
      try go_bits
      first | exact rel_val (Chg.refl _) | (go_simp; exact rel_val (Chg.refl _))
    case ao8 =>
      rintro a wx hE hin (h7 : a.eval (.tmp 14) = _)
      clear hin
      have hcst : ∀ v, a.eval (.const v) = v := fun _ => rfl
      have hfnc : ∀ f, a.eval (.func f) = .func (.func f) #[] #[] := fun _ => rfl
      refine want_none rfl ?_
      unfold Oper.wp
      generalize a.eval = ρ at *
      have c := Bk.cell ((X0.out.drew).chg hE id) D2.out
      go_simp
      try go_bits
      first | exact rel_val (Chg.refl _) | (go_simp; exact rel_val (Chg.refl _))
    case ao9 =>
      rintro a wx hE hin (h8 : a.eval (.tmp 15) = _)
      clear hin
      have hcst : ∀ v, a.eval (.const v) = v := fun _ => rfl
      have hfnc : ∀ f, a.eval (.func f) = .func (.func f) #[] #[] := fun _ => rfl
      refine want_none rfl ?_
      unfold Oper.wp
      generalize a.eval = ρ at *
      go_simp
      try go_bits
      first | exact rel_val (Chg.refl _) | (go_simp; exact rel_val (Chg.refl _))
    case ao10 =>
      rintro a wx hE hin (h9 : a.eval (.tmp 16) = _)
      clear hin
      have hcst : ∀ v, a.eval (.const v) = v := fun _ => rfl
      have hfnc : ∀ f, a.eval (.func f) = .func (.func f) #[] #[] := fun _ => rfl
      refine want_none rfl ?_
      unfold Oper.wp
      generalize a.eval = ρ at *
      go_simp
      try go_bits
      first | exact rel_val (Chg.refl _) | (go_simp; exact rel_val (Chg.refl _))
    case ao11 =>
      rintro a wx hE hin (h10 : a.eval (.tmp 17) = _)
      clear hin
      have hcst : ∀ v, a.eval (.const v) = v := fun _ => rfl
      have hfnc : ∀ f, a.eval (.func f) = .func (.func f) #[] #[] := fun _ => rfl
      refine want_none rfl ?_
      unfold Oper.wp
      generalize a.eval = ρ at *
      go_simp
      try go_bits
      exact rel_row (id)
  case afin =>
    intro wx hE
    rintro _ rfl _ rfl _ ⟨g2, rfl, b2⟩ _ rfl _ rfl _ ⟨g5, rfl, b5⟩ _ ⟨A6, c6, rfl, o6⟩ _ rfl _ rfl _ rfl _ rfl _ ⟨g11, rfl, s11, t11, f11, c11⟩
    simp only [FinOk, List.take_succ_cons, List.take_zero, List.take_nil, List.drop_succ_cons, List.drop_zero, List.drop_nil, Act.put, List.setIfInBounds_toArray, List.set_cons_succ, List.set_cons_zero]
    have X1 := Lib.hid ((X0.out.drew).chg hE id)
    have R1 := Lib.hid ((R0.out.drew).chg hE id)
    have E1 : Hid (Below w.heap.size w wx) := E0.out.trans ((hE.undrew).below (B := w.heap.size) E0.out.size (fun _ _ => id))
    have S1 : Hid (w.heap.size + 2 ≤ wx.heap.size) := Nat.le_trans HS0.out hE.size
    have O1 := Lib.hid o6
    have RD11 : Hid (Rd wx (some ⟨g11, 0, none⟩) (bts [UInt8.ofNat ps.length])) := by
      have := Rd.row (S := NoS) c11
      show Rd _ _ _
      show Rd wx (some ⟨g11, 0, none⟩) [vu8 (UInt8.ofNat ps.length)]
      rw [HLB.out]
      exact this
    clear hE o6 c11 b2 b5
    go_wp2_with (at_builtin; refine wpList_append_rd rfl (.tmp 13) (.tmp 18) 56 rfl (w.heap.size + 2) 5 (.int .u8 0) 1 1 Try.underlying56 info_u8l rfl (by decide) (by decide) (.slice A6 8 c6) 8 (bts (le e.toNat 4 ++ le s.toNat 4)) rfl O1.out (some ⟨g11, 0, none⟩) 1 1 (bts [UInt8.ofNat ps.length]) rfl rfl RD11.out (one_bts _) (by decide) S1.out ?_)
    intro v1 w2 hown hg hat
    have O2 : Hid (w2.ownsRow (w.heap.size + 2) 5 1 v1 (9 + 0) (bts (hdrK e s ps 0))) := by
      show World.ownsRow _ _ _ _ _ _ _
      rw [hdrK_zero]
      exact hown
    have hc2 : Chg (fun q => (Value.slice A6 8 c6).ownBlock = some q) wx w2 := ⟨hg.os, hg.tape, hg.output, hg.size, fun q hq hne => hg.block q hq (fun he => hne he.symm)⟩
    have hge : ∀ q, (Value.slice A6 8 c6).ownBlock = some q → w.heap.size + 2 ≤ q := fun q hq => (O1.out.lt _ hq).1
    have X2 := Lib.hid (X1.out.chg hc2 (fun he => by have := hge _ he; omega))
    have R2 := Lib.hid (R1.out.chg hc2 (fun he => by have := hge _ he; omega))
    have E2 : Hid (Below w.heap.size w w2) := E1.out.trans (hc2.below E1.out.size (fun q hq he => by have := hge _ he; omega))
    have H0 : Hid (HdrRel w e s ps bx v1 (.int .i64 0) w2) := ⟨0, Nat.zero_le _, rfl, O2.out, X2.out, R2.out, E2.out⟩
    have d2 := X2.out.cell D2.out
    clear hown hg hat hc2 hge
    go_wp2_with fail
    go_loopw [4, 23] (fun v4 v23 wr => HdrRel w e s ps bx v4 v23 wr) (fun _ v23 _ => ps.length - (intOf v23).toNat)
    case atStart => exact H0.out
    case round =>
      clear d2
      obtain ⟨k, hk, rfl, hown, hx, hz, hb⟩ := hrel
      have HO3 := Lib.hid hown
      have HX := Lib.hid hx
      have HZ := Lib.hid hz
      have HB := Lib.hid hb
      obtain ⟨A7, c7, rfl, _, _, _⟩ := own_rd hown
      clear hown hx hz hb H0
      by_cases hlt : k < ps.length
      · have hki : (k : Int) < (ps.length : Int) := by omega
        have hrr := HR.out.below HB.out
        obtain ⟨ad, hA⟩ := puts_some hrr hlt
        subst hA
        have hpr := put_rd hrr HO.out hlt
        have hpo := HO.out _ (List.getElem_mem hlt)
        have hpa := HAT.out _ (List.getElem_mem hlt)
        obtain ⟨p, hp⟩ : ∃ p, ps[k] = p := ⟨_, rfl⟩
        have HP := Lib.hid hp
        rw [hp] at hpr hpo hpa
        have HPR := Lib.hid hpr
        have HPL := Lib.hid (putC_len hpo.1)
        obtain ⟨q, hq⟩ := Int.eq_ofNat_of_zero_le hpa.1
        have HQ := Lib.hid hq
        have hq256 : q < 256 := by have := hpa.2; omega
        clear hp hpr hpo hrr hpa hq
        go_wp2_with (first
          | (refine wpList_ldr2 rfl 54 (.tmp 25) rfl (ad.add (k * 33)) 33 (putC p) rfl HPR.out (by kernel_rfl) (by kernel_rfl) HPL.out ?_)
          | (refine wpList_al rfl 54 rfl (.int .i64 0 :: bts (List.replicate 32 0)) (by kernel_rfl) ?_))
        intro g5 w3 hg hb hc hs
        have HB3 : Hid (Below w.heap.size w w3) := HB.out.trans (hc.below HB.out.size (fun _ _ => id))
        have HO4 := Lib.hid (own_chg HO3.out hc (fun _ _ => id))
        have HX3 := Lib.hid (HX.out.chg hc id)
        have HZ3 := Lib.hid (HZ.out.chg hc id)
        have HG5 : Hid (w.heap.size + 1 < g5) := by show _ < _; rw [hg]; exact HZ.out.lt
        have HG6 : Hid ((Value.slice A7 (9 + k) c7).ownBlock ≠ some g5) := fun he => by have := (HO3.out.lt _ he).2; omega
        have K3 := Lib.hid hb
        clear hb hc hs hg
        go_wp2_with (refine wpList_st rfl 54 (.tmp 6) (.tmp 26) rfl g5 0 33 (.int .i64 0 :: bts (List.replicate 32 0)) (putC p) rfl rfl K3.out (by kernel_rfl) HPL.out (by decide) (one_put p) ?_)
        intro w4 hb hc
        rw [splice_whole _ _ (by rw [HPL.out]; rfl)] at hb
        have hg5 := HG5.out
        have HB4 : Hid (Below w.heap.size w w4) := HB3.out.trans (hc.below HB3.out.size (fun _ _ => by omega))
        have HO5 := Lib.hid (own_chg HO4.out hc (fun q hq he => HG6.out (by rw [hq, he])))
        have HX4 := Lib.hid (HX3.out.chg hc (by omega))
        have HZ4 := Lib.hid (HZ3.out.chg hc (by omega))
        have hS4 : Hid (w.heap.size + 2 ≤ w4.heap.size) := by show _ ≤ _; have := HZ4.out.lt; omega
        have c0 := hb.cell (j := 0) rfl
        rw [HQ.out] at c0
        have HBY := Lib.hid (byte_at q hq256)
        clear hb hc hg5 K3 HPR HPL HO4 HX3 HZ3
        go_wp2_with (at_builtin; refine wpList_append_rd rfl (.tmp 27) (.tmp 31) 56 rfl (w.heap.size + 2) 5 (.int .u8 0) 1 1 Try.underlying56 info_u8l rfl (by decide) (by decide) (.slice A7 (9 + k) c7) (9 + k) (bts (hdrK e s ps k)) rfl ?own (some ⟨w4.heap.size, 0, none⟩) 1 1 (bts [UInt8.ofNat q]) rfl rfl ?rd (one_bts _) ?bytes ?base ?_)
        case own => exact own_chg HO5.out ((Chg.refl (S := NoS) w4).alloc _) (fun _ _ => id)
        case rd => show Rd _ _ [vu8 (UInt8.ofNat q)]; rw [HBY.out]; exact Rd.new _ _ _
        case bytes => omega
        case base => have := hS4.out; simp; omega
        intro v5 w5 hown5 hg5 hat5
        have HO6 : Hid (w5.ownsRow (w.heap.size + 2) 5 1 v5 (9 + (k + 1)) (bts (hdrK e s ps (k + 1)))) := by
          show World.ownsRow _ _ _ _ _ _ _
          rw [hdrK_succ e s ps k hlt, HP.out, HQ.out]
          exact hown5
        have hc5 : Chg (fun q => (Value.slice A7 (9 + k) c7).ownBlock = some q) w4 w5 := (show Chg (fun q => (Value.slice A7 (9 + k) c7).ownBlock = some q) w4 (w4.alloc _) from (Chg.refl _).alloc _).trans ⟨hg5.os, hg5.tape, hg5.output, hg5.size, fun q hq hne => hg5.block q hq (fun he => hne he.symm)⟩
        have hge : ∀ q, (Value.slice A7 (9 + k) c7).ownBlock = some q → w.heap.size + 2 ≤ q := fun q hq => (HO5.out.lt _ hq).1
        have HX5 := Lib.hid (HX4.out.chg hc5 (fun he => by have := hge _ he; omega))
        have HZ5 := Lib.hid (HZ4.out.chg hc5 (fun he => by have := hge _ he; omega))
        have HB5 : Hid (Below w.heap.size w w5) := HB4.out.trans (hc5.below HB4.out.size (fun q hq he => by have := hge _ he; omega))
        clear hown5 hg5 hat5 hc5 hge
        go_wp2_with fail
        go_roundw
        case rel => exact ⟨k + 1, by omega, by go_num, HO6.out, HX5.out, HZ5.out, HB5.out⟩
        case measure => simp [intOf]; omega
      · have hke : k = ps.length := by omega
        subst hke
        have hki : ¬ (((ps.length : Nat) : Int) < (ps.length : Int)) := by omega
        have HO4 : Hid (wr.ownsRow (w.heap.size + 2) 5 1 (.slice A7 (9 + ps.length) c7) (9 + ps.length) (bts (hdrB e s ps))) := by
          have := HO3.out
          rw [hdrK_all e s ps _ rfl] at this
          exact this
        obtain ⟨A8, c8, hv8, hr8, hlc8, hcm8⟩ := own_rd HO4.out
        injection hv8 with q1 q2 q3
        clear q2
        subst q1
        subst q3
        have HR8 := Lib.hid hr8
        have hl8 : (hdrB e s ps).length = 9 + ps.length := by rw [hdrB_length]
        have HHE := Lib.hid (hdr_enc e s ps h20)
        have HHL := Lib.hid (hdrS_length e s ps h20)
        clear hr8
        go_wp2_with fail
        refine (sealEncode_calls 87 A7 (9 + ps.length) c7 (hdrB e s ps) wr hl8 hlc8 hcm8 HR8.out).mono ?_
        rintro en w3 ⟨rfl, hb⟩
        rw [HHE.out]
        have HZ3 := Lib.hid (HZ.out.below hb)
        have HB3 : Hid (Below w.heap.size w w3) := HB.out.trans (hb.mono HB.out.size)
        clear hb hl8
        obtain ⟨vv, hvv⟩ : ∃ vv, bts (hdrS e s ps) = vv := ⟨_, rfl⟩
        have HVV := Lib.hid hvv
        have HVL : Hid (vv.length = 32) := by show _ = _; rw [← hvv, bts_length, HHL.out]
        have HVO : Hid (∀ u ∈ vv, u.oneCell' = true) := by rw [← hvv]; exact one_bts _
        simp only []
        rw [hvv]
        clear hvv
        go_wp2_with (refine wpList_st rfl 35 (.tmp 2) (.tmp 36) rfl (w.heap.size + 1) 0 32 (bts (List.replicate 32 0)) vv rfl rfl HZ3.out (by kernel_rfl) HVL.out (by decide) HVO.out ?_)
        intro w4 hb hc
        rw [splice_whole _ _ (by rw [HVL.out]; rfl)] at hb
        have HB4 : Hid (Below w.heap.size w w4) := HB3.out.trans (hc.below HB3.out.size (fun _ _ => by omega))
        have HK4 := Lib.hid hb
        clear hb hc
        go_wp2_with fail
        (try simp only [Exit.inBlock, Exit.then])
        refine bodyPost_ret (res_cell_tmp rfl _ _ (w.heap.size + 1) 32 vv rfl HK4.out (by kernel_rfl) (by kernel_rfl) HVL.out) rfl ?_
        exact ⟨by rw [HVV.out]; rfl, HB4.out⟩
end Go.Proofs.Ytcmfkdfegfablaa


/- What wal's Put and Get make of a disk's state, in plain Lean. -/
namespace Go.Proofs.Ytcmfkdfegfablaa
open Go.RowKit
set_option linter.unusedVariables false
set_option linter.unusedSimpArgs false

/-! ### a disk that turns within one call -/
structure DGo (wT : TypeId) (w w' : World) (g gs : Nat) (lv lv' : Value) (t : Dst) : Prop where
  at_ : DAt wT w' g gs lv' t
  ft : ∀ j, footD g gs lv' j → footD g gs lv j ∨ w.heap.size ≤ j
  ch : Chg (footD g gs lv) w w'
section
variable {wT : TypeId} {w w1 w' : World} {g gs : Nat} {lv lv1 lv2 : Value} {s s' t : Dst}
theorem DGo.refl (h : DAt wT w g gs lv s) : DGo wT w w g gs lv lv s := ⟨h, fun _ h => .inl h, .refl _⟩
theorem DGo.post (h : DGo wT w w1 g gs lv lv1 s) {r : Value} {e : Ending} (hp : DPost wT w1 g gs lv1 s' r e w') : e = .returned r ∧ ∃ lv2, DGo wT w w' g gs lv lv2 s' := by
  obtain ⟨he, lv2, h1, h2, h3⟩ := hp
  refine ⟨he, lv2, h1, fun j hj => ?_, h.ch.then_ h3 (fun j hj hlt => (h.ft j hj).elim id (fun hh => by omega))⟩
  rcases h2 j hj with h4 | h4
  · exact h.ft j h4
  · exact .inr (Nat.le_trans h.ch.size h4)
theorem DGo.below (h : DGo wT w w1 g gs lv lv1 s) (hb : Below w1.heap.size w1 w') : DGo wT w w' g gs lv lv1 s :=
  ⟨DiskAt.below h.at_ hb, h.ft, h.ch.then_ (T := NoS) (.of_below hb) (fun _ hj => hj.elim)⟩
theorem DGo.chgN (h : DGo wT w w1 g gs lv lv1 s) (hb : Chg NoS w1 w') : DGo wT w w' g gs lv lv1 s := h.below (hb.below (Nat.le_refl _) (fun _ _ => id))
theorem DGo.trans (h : DGo wT w w1 g gs lv lv1 s) (k : DGo wT w1 w' g gs lv1 lv2 t) : DGo wT w w' g gs lv lv2 t := by
  refine ⟨k.at_, fun j hj => ?_, h.ch.then_ k.ch (fun j hj hlt => (h.ft j hj).elim id (fun hh => by omega))⟩
  rcases k.ft j hj with h4 | h4
  · exact h.ft j h4
  · exact .inr (Nat.le_trans h.ch.size h4)
theorem DGo.fin (h : DGo wT w w' g gs lv lv1 s) (r : Value) : DPost wT w g gs lv s r (.returned r) w' := ⟨rfl, lv1, h.at_, h.ft, h.ch⟩
end
/-! ### a state within bounds -/
structure DOk (lo : Int) (m : Nat) (t : Dst) : Prop where
  ll : t.L.length ≤ m
  f1 : lo ≤ t.f
  f2 : t.f ≤ 9223372036854775807
theorem passF_ok {lo f : Int} {dn : Bool} (h0 : lo ≤ 0) (h1 : lo ≤ f) : lo ≤ passF f dn := by
  unfold passF
  split
  · exact h1
  · split <;> omega
theorem passF_le {f : Int} {dn : Bool} (h1 : f ≤ 9223372036854775807) : passF f dn ≤ 9223372036854775807 := by
  unfold passF
  split
  · exact h1
  · split <;> omega
theorem DOk.mono {lo : Int} {m k : Nat} {t : Dst} (h : DOk lo m t) (hk : m ≤ k) : DOk lo k t := ⟨Nat.le_trans h.ll hk, h.f1, h.f2⟩
theorem DOk.write {lo : Int} {m : Nat} {t : Dst} (h : DOk lo m t) (h0 : lo ≤ 0) (i : Int) (b : List UInt8) : DOk lo (m + 1) (t.write i b) := by
  unfold Dst.write
  have := h.ll
  split
  · split
    · exact ⟨by show t.L.length ≤ _; omega, passF_ok h0 h.f1, passF_le h.f2⟩
    · exact ⟨by show (t.L ++ [_]).length ≤ _; rw [List.length_append]; simp; omega, passF_ok h0 h.f1, passF_le h.f2⟩
  · exact h.mono (Nat.le_succ _)
theorem DOk.flush {lo : Int} {m : Nat} {t : Dst} (h : DOk lo m t) (h0 : lo ≤ 0) : DOk lo m t.flush := by
  unfold Dst.flush
  have := h.ll
  split
  · exact ⟨by show t.L.length ≤ _; omega, passF_ok h0 h.f1, passF_le h.f2⟩
  · exact ⟨Nat.zero_le _, passF_ok h0 h.f1, passF_le h.f2⟩
theorem Dst.write_S (t : Dst) (i : Int) (b : List UInt8) : (t.write i b).S = t.S := by
  unfold Dst.write
  split
  · split <;> rfl
  · rfl
theorem Dst.flush_len (t : Dst) : t.flush.S.length = t.S.length := by
  unfold Dst.flush
  split
  · rfl
  · show (doneS t.S t.L).length = _
    rw [doneS_length]
/-! ### Put -/
def Dst.imgs (s : Dst) (fr : Int) : List PutV → Dst × Int
  | [] => (s, 0)
  | p :: ps => if s.writeE fr = 0 then (s.write fr p.data).imgs (fr + 1) ps else (s.write fr p.data, s.writeE fr)
theorem Dst.imgs_nil (s : Dst) (fr : Int) : s.imgs fr [] = (s, 0) := rfl
theorem Dst.imgs_go {s : Dst} {fr : Int} {p : PutV} {ps : List PutV} (h : s.writeE fr = 0) : s.imgs fr (p :: ps) = (s.write fr p.data).imgs (fr + 1) ps := by rw [Dst.imgs, if_pos h]
theorem Dst.imgs_no {s : Dst} {fr : Int} {p : PutV} {ps : List PutV} (h : ¬ s.writeE fr = 0) : s.imgs fr (p :: ps) = (s.write fr p.data, s.writeE fr) := by rw [Dst.imgs, if_neg h]
/-- Behind the images. -/
def Dst.walEnd (t : Dst) (fr : Int) (h : List UInt8) : Dst × Int :=
  if t.flushE = 0 then (if t.flush.writeE fr = 0 then ((t.flush.write fr h).flush, (t.flush.write fr h).flushE) else (t.flush.write fr h, t.flush.writeE fr)) else (t.flush, t.flushE)
def Dst.walPut (s : Dst) (fr : Int) (e q : UInt32) (ps : List PutV) : Dst × Int :=
  if mayB s.S.length fr = true ∧ goodB ps = true then (if (s.imgs (fr + 1) ps).2 = 0 then (s.imgs (fr + 1) ps).1.walEnd fr (hdrS e q ps) else s.imgs (fr + 1) ps) else (s, 1)
theorem Dst.walPut_no {s : Dst} {fr : Int} {e q : UInt32} {ps : List PutV} (h : ¬ (mayB s.S.length fr = true ∧ goodB ps = true)) : s.walPut fr e q ps = (s, 1) := if_neg h
theorem Dst.walPut_yes {s : Dst} {fr : Int} {e q : UInt32} {ps : List PutV} (h : mayB s.S.length fr = true) (h2 : goodB ps = true) : s.walPut fr e q ps = if (s.imgs (fr + 1) ps).2 = 0 then (s.imgs (fr + 1) ps).1.walEnd fr (hdrS e q ps) else s.imgs (fr + 1) ps := if_pos ⟨h, h2⟩
theorem walEnd_a {t : Dst} {fr : Int} {h : List UInt8} (h1 : ¬ t.flushE = 0) : t.walEnd fr h = (t.flush, t.flushE) := if_neg h1
theorem walEnd_b {t : Dst} {fr : Int} {h : List UInt8} (h1 : t.flushE = 0) (h2 : ¬ t.flush.writeE fr = 0) : t.walEnd fr h = (t.flush.write fr h, t.flush.writeE fr) := by rw [Dst.walEnd, if_pos h1, if_neg h2]
theorem walEnd_c {t : Dst} {fr : Int} {h : List UInt8} (h1 : t.flushE = 0) (h2 : t.flush.writeE fr = 0) : t.walEnd fr h = ((t.flush.write fr h).flush, (t.flush.write fr h).flushE) := by rw [Dst.walEnd, if_pos h1, if_pos h2]
theorem mayB_at {n : Nat} {i : Int} (h : mayB n i = true) : 0 ≤ i ∧ i + 6 ≤ (n : Int) := of_decide_eq_true h
theorem goodB_at {ps : List PutV} (h : goodB ps = true) : 1 ≤ ps.length ∧ ps.length ≤ 5 ∧ (∀ p ∈ ps, 0 ≤ p.at_ ∧ p.at_ < 12) ∧ (ps.map (·.at_)).Nodup := of_decide_eq_true h
/-- Put's loop: so many images are written. -/
def PutLoop (wT : TypeId) (lo : Int) (m : Nat) (w1 : World) (g gs : Nat) (lv : Value) (s : Dst) (fr : Int) (ps : List PutV) (v : Value) (wr : World) : Prop :=
  ∃ (k : Nat) (lv' : Value) (t : Dst), k ≤ ps.length ∧ v = .int .i64 k ∧ DGo wT w1 wr g gs lv lv' t ∧ s.imgs (fr + 1) ps = t.imgs (fr + 1 + k) (ps.drop k) ∧ DOk lo (m + k) t ∧ t.S.length = s.S.length
end Go.Proofs.Ytcmfkdfegfablaa


/- What wal's Get tells of a disk's state, in plain Lean. -/
namespace Go.Proofs.Ytcmfkdfegfablaa
open Go.RowKit
set_option linter.unusedVariables false
set_option linter.unusedSimpArgs false

/-- A record: its epoch, its number, its puts. -/
structure Rec where
  e : UInt32
  q : UInt32
  ps : List PutV
def Rec.no : Rec := ⟨0, 0, []⟩
theorem le_num : ∀ (l : List UInt8), le (num l) l.length = l
  | [] => rfl
  | b :: l => by
    have h2 := b.toNat_lt
    rw [List.length_cons, le, num]
    have h3 : (b.toNat + 256 * num l) / 256 = num l := by omega
    rw [h3, le_num l]
    congr 1
    apply UInt8.toNat_inj.1
    rw [UInt8.toNat_ofNat']
    show (b.toNat + 256 * num l) % 256 = b.toNat
    omega
theorem num_u32 {l : List UInt8} (h : l.length = 4) : (UInt32.ofNat (num l)).toNat = num l := by
  have := num_lt l
  rw [h] at this
  rw [UInt32.toNat_ofNat']
  exact Nat.mod_eq_of_lt (by simpa using this)
theorem vu32_num {l : List UInt8} (h : l.length = 4) : (.int .u32 (num l : Nat) : Value) = vu32 (UInt32.ofNat (num l)) := by
  unfold vu32
  rw [num_u32 h]
def nOf (x : List UInt8) : Nat := ((bodyOf x).getD 8 0).toNat
def atOf (x : List UInt8) (i : Nat) : Int := (((bodyOf x).getD (9 + i) 0).toNat : Nat)
def putsK (x : List UInt8) (D : Nat → List UInt8) (k : Nat) : List PutV := (List.range k).map fun i => ⟨atOf x i, D i⟩
def eOf (x : List UInt8) : UInt32 := UInt32.ofNat (num ((bodyOf x).take 4))
def qOf (x : List UInt8) : UInt32 := UInt32.ofNat (num (((bodyOf x).drop 4).take 4))
def restB (x : List UInt8) : Prop := (bodyOf x).drop (9 + nOf x) = List.replicate (20 - nOf x) 0
def zdat : Nat → List UInt8 := fun _ => List.replicate 32 0
def formB (x : List UInt8) : Bool := decide ((decR x).2 = 0 ∧ x.getD 0 0 = 0x57 ∧ nOf x ≤ 5 ∧ (bodyOf x).drop (9 + nOf x) = List.replicate (20 - nOf x) 0 ∧ goodB (putsK x zdat (nOf x)) = true)
theorem formB_iff {x : List UInt8} : formB x = true ↔ ((decR x).2 = 0 ∧ x.getD 0 0 = 0x57 ∧ nOf x ≤ 5 ∧ restB x ∧ goodB (putsK x zdat (nOf x)) = true) := decide_eq_true_iff
theorem putsK_length (x : List UInt8) (D : Nat → List UInt8) (k : Nat) : (putsK x D k).length = k := by simp [putsK]
theorem putsK_zero (x : List UInt8) (D : Nat → List UInt8) : putsK x D 0 = [] := rfl
theorem putsK_succ (x : List UInt8) (D : Nat → List UInt8) (k : Nat) : putsK x D (k + 1) = putsK x D k ++ [⟨atOf x k, D k⟩] := by
  rw [putsK, List.range_succ, List.map_append]
  rfl
theorem putsK_get {x : List UInt8} {D : Nat → List UInt8} {k i : Nat} (h : i < k) : (putsK x D k)[i]? = some ⟨atOf x i, D i⟩ := by
  rw [putsK, List.getElem?_map, List.getElem?_range h]
  rfl
theorem atOf_lt (x : List UInt8) (i : Nat) : 0 ≤ atOf x i ∧ atOf x i < 256 := by
  have := ((bodyOf x).getD (9 + i) 0).toNat_lt
  unfold atOf
  omega
theorem putsK_ok {x : List UInt8} {D : Nat → List UInt8} {k : Nat} (hD : ∀ i, (D i).length = 32) : PutsOk (putsK x D k) := by
  intro p hp
  obtain ⟨i, _, rfl⟩ := List.mem_map.1 hp
  have := atOf_lt x i
  exact ⟨hD i, by show -9223372036854775808 ≤ atOf x i; omega, by show atOf x i ≤ 9223372036854775807; omega⟩
theorem putsK_at {x : List UInt8} {D : Nat → List UInt8} {k : Nat} : ∀ p ∈ putsK x D k, 0 ≤ p.at_ ∧ p.at_ < 256 := by
  intro p hp
  obtain ⟨i, _, rfl⟩ := List.mem_map.1 hp
  exact atOf_lt x i
theorem putsK_ats (x : List UInt8) (D : Nat → List UInt8) (k : Nat) : (putsK x D k).map (·.at_) = (List.range k).map (atOf x) := by
  rw [putsK, List.map_map]
  rfl
theorem putsK_congr {x : List UInt8} {D D' : Nat → List UInt8} {k : Nat} (h : ∀ i, i < k → D i = D' i) : putsK x D k = putsK x D' k := by
  apply List.map_congr_left
  intro i hi
  rw [h i (List.mem_range.1 hi)]
theorem goodB_ats {ps qs : List PutV} (h : ps.map (·.at_) = qs.map (·.at_)) : goodB ps = goodB qs := by
  have hl : ps.length = qs.length := by simpa using congrArg List.length h
  have hm : ∀ {us bs : List PutV}, us.map (·.at_) = bs.map (·.at_) → (∀ p ∈ us, 0 ≤ p.at_ ∧ p.at_ < 12) → (∀ p ∈ bs, 0 ≤ p.at_ ∧ p.at_ < 12) := by
    intro us bs hab hp p hq
    have : p.at_ ∈ us.map (·.at_) := by rw [hab]; exact List.mem_map_of_mem hq
    obtain ⟨r, hr, he⟩ := List.mem_map.1 this
    have := hp r hr
    rw [← he]
    exact this
  have key : ∀ {us bs : List PutV}, us.map (·.at_) = bs.map (·.at_) → goodB us = true → goodB bs = true := by
    intro us bs hab hg
    have hll : us.length = bs.length := by simpa using congrArg List.length hab
    obtain ⟨h1, h2, h3, h4⟩ := goodB_at hg
    exact decide_eq_true ⟨by omega, by omega, hm hab h3, by rw [← hab]; exact h4⟩
  rw [Bool.eq_iff_iff]
  exact ⟨key h, key h.symm⟩
theorem bodyOf_length {x : List UInt8} (h : x.length = 32) : (bodyOf x).length = 29 := by simp [bodyOf, h]
theorem bodyOf_secOf {m : UInt8} {b : List UInt8} (h : b.length = 29) : bodyOf (secOf m b) = b := by
  show ((b ++ _).take 29) = b
  rw [List.take_append_of_le_length (by omega), List.take_of_length_le (by omega)]
theorem hdrB_take {x : List UInt8} {D : Nat → List UInt8} (h : x.length = 32) (hn : nOf x ≤ 5) : hdrB (eOf x) (qOf x) (putsK x D (nOf x)) = (bodyOf x).take (9 + nOf x) := by
  have hl := bodyOf_length h
  have hnn : nOf x = ((bodyOf x).getD 8 0).toNat := rfl
  unfold hdrB
  rw [putsK_length]
  unfold eOf qOf putsK atOf
  generalize nOf x = n at *
  generalize bodyOf x = B at *
  have h1 : (B.take 4).length = 4 := by simp; omega
  have h2 : ((B.drop 4).take 4).length = 4 := by simp; omega
  rw [num_u32 h1, num_u32 h2]
  have e1 : le (num (B.take 4)) 4 = B.take 4 := by have := le_num (B.take 4); rwa [h1] at this
  have e2 : le (num ((B.drop 4).take 4)) 4 = (B.drop 4).take 4 := by have := le_num ((B.drop 4).take 4); rwa [h2] at this
  have e3 : [UInt8.ofNat n] = (B.drop 8).take 1 := by
    have h8 : 8 < B.length := by omega
    rw [hnn, UInt8.ofNat_toNat, List.drop_eq_getElem_cons h8, List.take_succ_cons, List.take_zero, List.getD_eq_getElem?_getD, List.getElem?_eq_getElem h8]
    rfl
  have e4 : ((List.range n).map fun i => (⟨(((B.getD (9 + i) 0).toNat : Nat) : Int), D i⟩ : PutV)).map (fun p => UInt8.ofNat p.at_.toNat) = (B.drop 9).take n := by
    rw [List.map_map]
    apply List.ext_getElem
    · simp; omega
    · intro i h3 h4
      have hi : i < n := by simpa using h3
      have h9 : 9 + i < B.length := by omega
      simp only [List.getElem_map, List.getElem_range, List.getElem_take, List.getElem_drop, Function.comp, Int.toNat_natCast, UInt8.ofNat_toNat]
      rw [List.getD_eq_getElem?_getD, List.getElem?_eq_getElem h9]
      rfl
  rw [e1, e2, e3, e4, show 9 + n = 4 + (4 + (1 + n)) by omega, List.take_add, List.take_add (l := B.drop 4), List.take_add (l := (B.drop 4).drop 4), List.drop_drop, List.drop_drop]
  simp only [List.append_assoc]
theorem decR_ok {x : List UInt8} (h : (decR x).2 = 0) : (decR x).1 = x.getD 0 0 :: bodyOf x ∧ secOf (x.getD 0 0) (bodyOf x) = x := by
  unfold decR at *
  split at h
  · exact absurd h (by decide)
  · rename_i hh
    rw [if_neg hh]
    exact ⟨rfl, Decidable.byContradiction fun hc => hh (.inr hc)⟩
theorem decR_err {x : List UInt8} (h : ¬ (decR x).2 = 0) : (decR x).1 = List.replicate 30 0 ∧ (decR x).2 = 11 := by
  unfold decR at *
  split
  · exact ⟨rfl, rfl⟩
  · rename_i hh
    rw [if_neg hh] at h
    exact absurd rfl h
/-- The program's test of the header is the reference's test of the zeros. -/
theorem hdr_back {x : List UInt8} {D : Nat → List UInt8} (h : x.length = 32) (hd : (decR x).2 = 0) (hm : x.getD 0 0 = 0x57) (hn : nOf x ≤ 5) : hdrS (eOf x) (qOf x) (putsK x D (nOf x)) = x ↔ restB x := by
  have hl := bodyOf_length h
  have hx := (decR_ok hd).2
  rw [hm] at hx
  have hp : padB (hdrB (eOf x) (qOf x) (putsK x D (nOf x))) = (bodyOf x).take (9 + nOf x) ++ List.replicate (20 - nOf x) 0 := by
    rw [padB, hdrB_take h hn]
    congr 2
    simp
    omega
  have hpl : (padB (hdrB (eOf x) (qOf x) (putsK x D (nOf x)))).length = 29 := padB_length (by rw [hdrB_length, putsK_length]; omega)
  constructor
  · intro hh
    have h3 : padB (hdrB (eOf x) (qOf x) (putsK x D (nOf x))) = bodyOf x := by
      rw [← bodyOf_secOf (m := 0x57) hpl]
      exact congrArg bodyOf hh
    rw [hp] at h3
    have h4 := congrArg (List.drop (9 + nOf x)) h3
    rw [List.drop_append_of_le_length (by simp; omega), List.drop_of_length_le (by rw [List.length_take]; omega), List.nil_append] at h4
    exact h4.symm
  · intro hh
    rw [hdrS, hp, ← hh, List.take_append_drop, hx]
theorem rest_at {x : List UInt8} (h : x.length = 32) (hn : nOf x ≤ 5) : restB x ↔ ∀ j, 9 + nOf x ≤ j → j < 29 → (bodyOf x).getD j 0 = 0 := by
  have hl := bodyOf_length h
  unfold restB
  generalize nOf x = n at *
  generalize bodyOf x = B at *
  constructor
  · intro hh j hj hj2
    have := congrArg (fun l => l.getD (j - (9 + n)) 0) hh
    simp only [List.getD_eq_getElem?_getD, List.getElem?_drop] at this
    rw [show 9 + n + (j - (9 + n)) = j by omega] at this
    rw [List.getD_eq_getElem?_getD, this, List.getElem?_replicate]
    split <;> rfl
  · intro hh
    apply List.ext_getElem
    · simp; omega
    · intro i h1 h2
      have hi : i < 20 - n := by simpa using h2
      have := hh (9 + n + i) (by omega) (by omega)
      rw [List.getD_eq_getElem?_getD, List.getElem?_eq_getElem (by omega)] at this
      rw [List.getElem_drop, List.getElem_replicate]
      exact this
def recOf (x : List UInt8) (D : Nat → List UInt8) : Rec := ⟨eOf x, qOf x, putsK x D (nOf x)⟩
def Dst.walGet (s : Dst) (fr : Int) : Rec × Int :=
  if mayB s.S.length fr = true then
    if s.readE fr = 0 then (if formB (s.readB fr) = true then (recOf (s.readB fr) (fun i => s.readB (fr + 1 + (i : Nat))), 0) else (Rec.no, 11)) else (Rec.no, s.readE fr)
  else (Rec.no, 1)
theorem walGet_a {s : Dst} {fr : Int} (h : ¬ mayB s.S.length fr = true) : s.walGet fr = (Rec.no, 1) := if_neg h
theorem walGet_b {s : Dst} {fr : Int} (h : mayB s.S.length fr = true) (h2 : ¬ s.readE fr = 0) : s.walGet fr = (Rec.no, s.readE fr) := by rw [Dst.walGet, if_pos h, if_neg h2]
theorem walGet_c {s : Dst} {fr : Int} {x : List UInt8} (h : mayB s.S.length fr = true) (h2 : s.readE fr = 0) (hx : s.readB fr = x) (h3 : ¬ formB x = true) : s.walGet fr = (Rec.no, 11) := by rw [Dst.walGet, if_pos h, if_pos h2, hx, if_neg h3]
theorem walGet_d {s : Dst} {fr : Int} {x : List UInt8} (h : mayB s.S.length fr = true) (h2 : s.readE fr = 0) (hx : s.readB fr = x) (h3 : formB x = true) : s.walGet fr = (recOf x (fun i => s.readB (fr + 1 + (i : Nat))), 0) := by rw [Dst.walGet, if_pos h, if_pos h2, hx, if_pos h3]
theorem readE_next {s : Dst} {fr : Int} (h : mayB s.S.length fr = true) (h2 : s.readE fr = 0) {i : Nat} (hi : i < 5) : s.readE (fr + 1 + (i : Nat)) = 0 := by
  have h1 := mayB_at h
  unfold Dst.readE Go.Proofs.Ytcmfkdfegfablaa.readE at *
  rw [if_pos (by omega)] at h2 ⊢
  exact h2
/-- What a Get leaves: the record's struct, its puts to be read. -/
def GetPost (w : World) (r : Rec) (er : Int) (e : Ending) (w' : World) : Prop :=
  ∃ A c, e = .returned (.tuple #[.agg #[vu32 r.e, vu32 r.q, .slice A r.ps.length c], .int .i64 er]) ∧ (∀ (T : Nat → Prop) (w'' : World), Chg T w' w'' → (∀ j, T j → j < w.heap.size) → Rd w'' A (r.ps.flatMap putC)) ∧ r.ps.length ≤ c ∧ c ≤ 9223372036854775807 ∧ Below w.heap.size w w'
def RGetPost (w : World) (r : Rec) (er : Int) (e : Ending) (w' : World) : Prop :=
  ∃ A c, e = .returned (.agg #[vu32 r.e, vu32 r.q, .slice A r.ps.length c, .int .i64 er]) ∧ Rd w' A (r.ps.flatMap putC) ∧ r.ps.length ≤ c ∧ c ≤ 9223372036854775807 ∧ Below w.heap.size w w'
end Go.Proofs.Ytcmfkdfegfablaa


/- Plain laws of a disk's state (no step in sight). -/
namespace Go.Proofs.Ytcmfkdfegfablaa
open Go.RowKit
set_option linter.unusedVariables false
set_option linter.unusedSimpArgs false

theorem nowS_snoc (S : List (List UInt8)) (L : List (Nat × List UInt8)) (i : Nat) (b : List UInt8) (j : Nat) : nowS S (L ++ [(i, b)]) j = if i = j then b else nowS S L j := by
  rw [nowS, nowS, List.foldl_append]
  rfl
theorem nowS_cons (S : List (List UInt8)) (L : List (Nat × List UInt8)) (p : Nat × List UInt8) (j : Nat) (hj : j < S.length) : nowS S (p :: L) j = nowS (S.set p.1 p.2) L j := by
  rw [nowS, nowS, List.foldl_cons]
  congr 1
  simp only [List.getD_eq_getElem?_getD, List.getElem?_set]
  by_cases h : p.1 = j
  · subst h
    rw [if_pos rfl, if_pos rfl, if_pos hj]
    rfl
  · rw [if_neg h, if_neg h]
theorem nowS_done (L : List (Nat × List UInt8)) : ∀ (S : List (List UInt8)) (j : Nat), j < S.length → nowS (doneS S L) [] j = nowS S L j := by
  induction L with
  | nil => intro S j _; rfl
  | cons p L ih =>
    intro S j hj
    rw [nowS_cons S L p j hj, ← ih (S.set p.1 p.2) j (by simpa using hj)]
    rfl
theorem nowS_nil (S : List (List UInt8)) (j : Nat) : nowS S [] j = S.getD j [] := rfl
theorem live_lo : (-1 : Int) ≤ -1 := Int.le_refl _
theorem live_hi : (-1 : Int) ≤ 9223372036854775807 := by decide
theorem passD_live : passD (-1) false = false := by decide
theorem passF_live : passF (-1) false = -1 := by decide
theorem write_live (S : List (List UInt8)) (L : List (Nat × List UInt8)) (i : Nat) (b : List UInt8) (h : i < S.length) : (Dst.mk S L (-1) false).write (i : Int) b = ⟨S, L ++ [(i, b)], -1, false⟩ ∧ (Dst.mk S L (-1) false).writeE (i : Int) = 0 := by
  have hh : (Dst.mk S L (-1) false).has (i : Int) := ⟨by omega, by show (i : Int) < (S.length : Int); omega⟩
  constructor
  · rw [Dst.write, if_pos hh]
    show (if passD (-1) false = true then _ else _) = _
    rw [passD_live, if_neg (by decide)]
    rfl
  · rw [Dst.writeE, if_pos hh]
    show (if passD (-1) false = true then _ else _) = _
    rw [passD_live, if_neg (by decide)]
theorem flush_live (S : List (List UInt8)) (L : List (Nat × List UInt8)) : (Dst.mk S L (-1) false).flush = ⟨doneS S L, [], -1, false⟩ ∧ (Dst.mk S L (-1) false).flushE = 0 := by
  constructor
  · rw [Dst.flush]
    show (if passD (-1) false = true then _ else _) = _
    rw [passD_live, if_neg (by decide)]
    rfl
  · rw [Dst.flushE]
    show (if passD (-1) false = true then _ else _) = _
    rw [passD_live, if_neg (by decide)]
theorem read_live (S : List (List UInt8)) (L : List (Nat × List UInt8)) (f : Int) (i : Nat) (h : i < S.length) : (Dst.mk S L f false).readB (i : Int) = nowS S L i ∧ (Dst.mk S L f false).readE (i : Int) = 0 := by
  constructor
  · exact readB_in S L i h
  · show readE S false (i : Int) = 0
    rw [readE_in S false i (by omega) (by omega)]
    rfl
theorem nowS_new (n j : Nat) (hj : j < n) : nowS (Dst.new n).S [] j = List.replicate 32 0 := by
  show (List.replicate n (List.replicate 32 (0 : UInt8))).getD j [] = _
  rw [List.getD_eq_getElem?_getD, List.getElem?_replicate, if_pos hj]
  rfl
/-- Beside a disk another block lies. -/
theorem DPost.beside {wT : TypeId} {w w' : World} {g gs x : Nat} {lv : Value} {s' : Dst} {r : Value} {e : Ending} {vs : List Value} (hp : DPost wT w g gs lv s' r e w') {w0 : World} {s : Dst} (hs : DSes wT w0 w g gs lv s) (hx : ¬ footD g gs lv x) (hb : Bk w x vs) :
    e = .returned r ∧ ∃ lv', DSes wT w0 w' g gs lv' s' ∧ ¬ footD g gs lv' x ∧ Bk w' x vs ∧ Below w0.heap.size w0 w' := by
  obtain ⟨he, lv', h1, h2, h3⟩ := hp
  have hlt := hb.lt
  obtain ⟨_, hbel⟩ : True ∧ Below w0.heap.size w0 w' := ⟨trivial, hs.bel.trans (h3.below hs.bel.size (fun k hk hf => by have := hs.fr k hf; omega))⟩
  refine ⟨he, lv', ⟨h1, fun j hj => ?_, hbel⟩, fun hj => ?_, hb.chg h3 hx, hbel⟩
  · rcases h2 j hj with h4 | h4
    · exact hs.fr j h4
    · exact Nat.le_trans hs.bel.size h4
  · rcases h2 x hj with h4 | h4
    · exact hx h4
    · omega
end Go.Proofs.Ytcmfkdfegfablaa


/- What Put leaves and Get tells of it, in plain Lean: wholly, and cut at any write or flush. -/
namespace Go.Proofs.Ytcmfkdfegfablaa
open Go.RowKit
set_option linter.unusedVariables false
set_option linter.unusedSimpArgs false

theorem getD_pre {l r : List UInt8} {i : Nat} (h : i < l.length) : (l ++ r).getD i 0 = l.getD i 0 := by
  rw [List.getD_eq_getElem?_getD, List.getD_eq_getElem?_getD, List.getElem?_append_left h]
/-- A header's bytes. -/
theorem hdr_body {e q : UInt32} {ps : List PutV} (h : ps.length ≤ 5) : bodyOf (hdrS e q ps) = hdrB e q ps ++ List.replicate (20 - ps.length) 0 := by
  have hl := hdrB_length e q ps
  rw [hdrS, bodyOf_secOf (padB_length (by omega)), padB, hl, show 29 - (9 + ps.length) = 20 - ps.length by omega]
theorem hdr_n {e q : UInt32} {ps : List PutV} (h : ps.length ≤ 5) : nOf (hdrS e q ps) = ps.length := by
  have h1 := le_length 4 e.toNat
  have h2 := le_length 4 q.toNat
  rw [nOf, hdr_body h, getD_pre (by rw [hdrB_length]; omega), hdrB, getD_pre (by simp [h1, h2]), List.getD_eq_getElem?_getD, List.getElem?_append_right (by simp [h1, h2])]
  simp [h1, h2]
  omega
theorem hdr_e {e q : UInt32} {ps : List PutV} (h : ps.length ≤ 5) : eOf (hdrS e q ps) = e := by
  have h1 := le_length 4 e.toNat
  have ht : (le e.toNat 4 ++ (le q.toNat 4 ++ [UInt8.ofNat ps.length] ++ ps.map (fun p : PutV => UInt8.ofNat p.at_.toNat) ++ List.replicate (20 - ps.length) 0)).take 4 = le e.toNat 4 := by
    rw [List.take_append_of_le_length (by omega), List.take_of_length_le (by omega)]
  rw [eOf, hdr_body h, hdrB]
  simp only [List.append_assoc] at ht ⊢
  rw [ht, num_le 4 _ (by have := e.toNat_lt; omega), UInt32.ofNat_toNat]
theorem hdr_q {e q : UInt32} {ps : List PutV} (h : ps.length ≤ 5) : qOf (hdrS e q ps) = q := by
  have h1 := le_length 4 e.toNat
  have h2 := le_length 4 q.toNat
  have ht : ((le e.toNat 4 ++ (le q.toNat 4 ++ ([UInt8.ofNat ps.length] ++ (ps.map (fun p : PutV => UInt8.ofNat p.at_.toNat) ++ List.replicate (20 - ps.length) 0)))).drop 4).take 4 = le q.toNat 4 := by
    rw [List.drop_append_of_le_length (by omega), List.drop_of_length_le (by omega), List.nil_append, List.take_append_of_le_length (by omega), List.take_of_length_le (by omega)]
  rw [qOf, hdr_body h, hdrB]
  simp only [List.append_assoc] at ht ⊢
  rw [ht, num_le 4 _ (by have := q.toNat_lt; omega), UInt32.ofNat_toNat]
theorem hdr_at {e q : UInt32} {ps : List PutV} (h : ps.length ≤ 5) (hat : ∀ p ∈ ps, 0 ≤ p.at_ ∧ p.at_ < 256) {i : Nat} (hi : i < ps.length) : atOf (hdrS e q ps) i = ps[i].at_ := by
  have h1 := le_length 4 e.toNat
  have h2 := le_length 4 q.toNat
  have h9 : (le e.toNat 4 ++ le q.toNat 4 ++ [UInt8.ofNat ps.length]).length = 9 := by simp [h1, h2]
  have ha := hat _ (List.getElem_mem hi)
  rw [atOf, hdr_body h, getD_pre (by rw [hdrB_length]; omega), hdrB, List.getD_eq_getElem?_getD, List.getElem?_append_right (by omega), h9, Nat.add_sub_cancel_left, List.getElem?_map, List.getElem?_eq_getElem hi]
  show (((UInt8.ofNat ps[i].at_.toNat).toNat : Nat) : Int) = _
  rw [UInt8.toNat_ofNat']
  show ((ps[i].at_.toNat % 256 : Nat) : Int) = _
  omega
theorem hdr_rest {e q : UInt32} {ps : List PutV} (h : ps.length ≤ 5) : restB (hdrS e q ps) := by
  unfold restB
  rw [hdr_n h, hdr_body h, List.drop_append_of_le_length (by rw [hdrB_length]; omega), List.drop_of_length_le (by rw [hdrB_length]; omega), List.nil_append]
theorem hdr_dec {e q : UInt32} {ps : List PutV} (h : ps.length ≤ 5) : (decR (hdrS e q ps)).2 = 0 := by
  have h0 : (hdrS e q ps).getD 0 0 = 0x57 := rfl
  have hb : secOf 0x57 (bodyOf (hdrS e q ps)) = hdrS e q ps := by
    rw [hdrS, bodyOf_secOf (padB_length (by rw [hdrB_length]; omega))]
  unfold decR
  rw [h0, hb, if_neg (by simp)]
theorem hdr_ats {e q : UInt32} {ps : List PutV} {D : Nat → List UInt8} (h : ps.length ≤ 5) (hat : ∀ p ∈ ps, 0 ≤ p.at_ ∧ p.at_ < 256) : (putsK (hdrS e q ps) D ps.length).map (·.at_) = ps.map (·.at_) := by
  rw [putsK_ats]
  apply List.ext_getElem
  · simp
  · intro i h1 h2
    have hi : i < ps.length := by simpa using h2
    simp only [List.getElem_map, List.getElem_range]
    exact hdr_at h hat hi
theorem hdr_form {e q : UInt32} {ps : List PutV} (hg : goodB ps = true) : formB (hdrS e q ps) = true := by
  obtain ⟨h1, h5, h12, _⟩ := goodB_at hg
  have hat : ∀ p ∈ ps, 0 ≤ p.at_ ∧ p.at_ < 256 := fun p hp => by have := h12 p hp; omega
  refine formB_iff.2 ⟨hdr_dec h5, rfl, by rw [hdr_n h5]; exact h5, hdr_rest h5, ?_⟩
  rw [hdr_n h5, goodB_ats (hdr_ats (D := zdat) h5 hat)]
  exact hg
def dat (ps : List PutV) (i : Nat) : List UInt8 := ((ps[i]?).map (·.data)).getD []
/-- Of a header Get tells the numbers and the places; with the images all. -/
theorem rec_hdr {e q : UInt32} {ps : List PutV} {D : Nat → List UInt8} (hg : goodB ps = true) :
    (recOf (hdrS e q ps) D).e = e ∧ (recOf (hdrS e q ps) D).q = q ∧ (recOf (hdrS e q ps) D).ps.map (·.at_) = ps.map (·.at_) ∧ ((∀ i, i < ps.length → D i = dat ps i) → recOf (hdrS e q ps) D = ⟨e, q, ps⟩) := by
  obtain ⟨h1, h5, h12, _⟩ := goodB_at hg
  have hat : ∀ p ∈ ps, 0 ≤ p.at_ ∧ p.at_ < 256 := fun p hp => by have := h12 p hp; omega
  refine ⟨hdr_e h5, hdr_q h5, ?_, fun hD => ?_⟩
  · show (putsK (hdrS e q ps) D (nOf (hdrS e q ps))).map _ = _
    rw [hdr_n h5, hdr_ats h5 hat]
  · unfold recOf
    rw [hdr_e h5, hdr_q h5, hdr_n h5]
    congr 1
    apply List.ext_getElem
    · rw [putsK_length]
    · intro i h3 h4
      have := putsK_get (x := hdrS e q ps) (D := D) h4
      rw [List.getElem?_eq_getElem h3] at this
      rw [Option.some.inj this, hdr_at h5 hat h4, hD i h4, dat, List.getElem?_eq_getElem h4]
      rfl
/-- The images, as loose writes. -/
def imgL (fr : Nat) : List PutV → List (Nat × List UInt8)
  | [] => []
  | p :: ps => (fr, p.data) :: imgL (fr + 1) ps
theorem imgL_length : ∀ (ps : List PutV) (fr : Nat), (imgL fr ps).length = ps.length
  | [], _ => rfl
  | p :: ps, fr => by rw [imgL, List.length_cons, imgL_length ps, List.length_cons]
theorem imgL_mem : ∀ (ps : List PutV) (fr : Nat) (x : Nat × List UInt8), x ∈ imgL fr ps → fr ≤ x.1 ∧ x.1 < fr + ps.length
  | [], _, _, h => by simp [imgL] at h
  | p :: ps, fr, x, h => by
    rcases List.mem_cons.1 h with rfl | h
    · exact ⟨Nat.le_refl _, by simp⟩
    · have := imgL_mem ps (fr + 1) x h
      rw [List.length_cons]
      omega
theorem now_img : ∀ (ps : List PutV) (fr : Nat) (S : List (List UInt8)) (j : Nat), j < S.length → nowS S (imgL fr ps) j = if fr ≤ j ∧ j < fr + ps.length then dat ps (j - fr) else S.getD j []
  | [], fr, S, j, _ => by
    rw [if_neg (by intro hh; have := hh.1; have h2 := hh.2; rw [List.length_nil] at h2; omega)]
    rfl
  | p :: ps, fr, S, j, hj => by
    rw [imgL, nowS_cons _ _ _ _ hj, now_img ps (fr + 1) _ j (by simpa using hj), List.length_cons]
    by_cases h1 : fr + 1 ≤ j ∧ j < fr + 1 + ps.length
    · rw [if_pos h1, if_pos (by omega), dat, dat, show j - fr = j - (fr + 1) + 1 by omega, List.getElem?_cons_succ]
    · rw [if_neg h1]
      simp only [List.getD_eq_getElem?_getD, List.getElem?_set]
      by_cases h2 : fr = j
      · subst h2
        rw [if_pos rfl, if_pos hj, if_pos (by omega), Nat.sub_self]
        rfl
      · rw [if_neg h2, if_neg (by omega)]
theorem passD_go {f : Int} (h : f ≠ 0) : passD f false = false := by
  unfold passD
  simpa using h
theorem passD_stop {dn : Bool} : passD 0 dn = true := by
  unfold passD
  simp
/-- How a fuse goes down by k. -/
def dec (f : Int) (k : Nat) : Int := if f < 0 then f else f - k
theorem passF_go {f : Int} (h : f ≠ 0) : passF f false = dec f 1 := by
  unfold passF dec
  by_cases h2 : f < 0
  · rw [if_neg (by simp; omega), if_neg (by omega), if_pos h2]
  · rw [if_neg (by simp; omega), if_pos (by omega), if_neg h2]
    rfl
theorem passF_stop {dn : Bool} : passF 0 dn = 0 := by
  unfold passF
  rw [if_pos (.inr rfl)]
theorem write_go {S : List (List UInt8)} {L : List (Nat × List UInt8)} {f : Int} {i : Nat} {b : List UInt8} (h : i < S.length) (hf : f ≠ 0) : (Dst.mk S L f false).write (i : Int) b = ⟨S, L ++ [(i, b)], dec f 1, false⟩ ∧ (Dst.mk S L f false).writeE (i : Int) = 0 := by
  have hh : (Dst.mk S L f false).has (i : Int) := ⟨by omega, by show (i : Int) < (S.length : Int); omega⟩
  constructor
  · rw [Dst.write, if_pos hh]
    show (if passD f false = true then _ else _) = _
    rw [passD_go hf, if_neg (by decide)]
    show Dst.mk S _ (passF f false) false = _
    rw [passF_go hf]
    rfl
  · rw [Dst.writeE, if_pos hh]
    show (if passD f false = true then _ else _) = _
    rw [passD_go hf, if_neg (by decide)]
theorem write_stop {S : List (List UInt8)} {L : List (Nat × List UInt8)} {i : Nat} {b : List UInt8} (h : i < S.length) : (Dst.mk S L 0 false).write (i : Int) b = ⟨S, L, 0, true⟩ ∧ (Dst.mk S L 0 false).writeE (i : Int) = 20 := by
  have hh : (Dst.mk S L 0 false).has (i : Int) := ⟨by omega, by show (i : Int) < (S.length : Int); omega⟩
  constructor
  · rw [Dst.write, if_pos hh]
    show (if passD 0 false = true then _ else _) = _
    rw [passD_stop, if_pos rfl]
    show Dst.mk S L (passF 0 false) true = _
    rw [passF_stop]
  · rw [Dst.writeE, if_pos hh]
    show (if passD 0 false = true then _ else _) = _
    rw [passD_stop, if_pos rfl]
theorem flush_go {S : List (List UInt8)} {L : List (Nat × List UInt8)} {f : Int} (hf : f ≠ 0) : (Dst.mk S L f false).flush = ⟨doneS S L, [], dec f 1, false⟩ ∧ (Dst.mk S L f false).flushE = 0 := by
  constructor
  · rw [Dst.flush]
    show (if passD f false = true then _ else _) = _
    rw [passD_go hf, if_neg (by decide)]
    show Dst.mk _ _ (passF f false) false = _
    rw [passF_go hf]
  · rw [Dst.flushE]
    show (if passD f false = true then _ else _) = _
    rw [passD_go hf, if_neg (by decide)]
theorem flush_stop {S : List (List UInt8)} {L : List (Nat × List UInt8)} : (Dst.mk S L 0 false).flush = ⟨S, L, 0, true⟩ ∧ (Dst.mk S L 0 false).flushE = 20 := by
  constructor
  · rw [Dst.flush]
    show (if passD 0 false = true then _ else _) = _
    rw [passD_stop, if_pos rfl]
    show Dst.mk S L (passF 0 false) true = _
    rw [passF_stop]
  · rw [Dst.flushE]
    show (if passD 0 false = true then _ else _) = _
    rw [passD_stop, if_pos rfl]
theorem dec_dec (f : Int) (j k : Nat) (h : f < 0 ∨ (j : Int) ≤ f) : dec (dec f j) k = dec f (j + k) := by
  unfold dec
  by_cases hf : f < 0
  · simp [hf]
  · rw [if_neg hf]
    rcases h with h | h
    · exact absurd h hf
    · rw [if_neg (by omega), if_neg hf]
      omega
theorem dec_zero (f : Int) : dec f 0 = f := by
  unfold dec
  split
  · rfl
  · simp
/-- The images go through, all of them, -/
theorem imgs_all : ∀ (ps : List PutV) (fr : Nat) (S : List (List UInt8)) (L : List (Nat × List UInt8)) (f : Int), fr + ps.length ≤ S.length → (f < 0 ∨ (ps.length : Int) ≤ f) → (Dst.mk S L f false).imgs (fr : Int) ps = (⟨S, L ++ imgL fr ps, dec f ps.length, false⟩, 0)
  | [], fr, S, L, f, _, _ => by rw [Dst.imgs_nil, imgL, List.append_nil, List.length_nil, dec_zero]
  | p :: ps, fr, S, L, f, h, hf => by
    rw [List.length_cons] at h hf
    have hfz : f ≠ 0 := by omega
    obtain ⟨h1, h2⟩ := write_go (S := S) (L := L) (b := p.data) (show fr < S.length by omega) hfz
    rw [Dst.imgs_go h2, h1, show ((fr : Int) + 1) = ((fr + 1 : Nat) : Int) by omega, imgs_all ps (fr + 1) S _ (dec f 1) (by omega) (by unfold dec; split <;> omega), dec_dec _ _ _ (by omega), List.length_cons, imgL, List.append_assoc, Nat.add_comm 1]
    rfl
/-- or only some. -/
theorem imgs_cut : ∀ (ps : List PutV) (fr : Nat) (S : List (List UInt8)) (L : List (Nat × List UInt8)) (f : Nat), fr + ps.length ≤ S.length → f < ps.length → (Dst.mk S L (f : Int) false).imgs (fr : Int) ps = (⟨S, L ++ imgL fr (ps.take f), 0, true⟩, 20)
  | [], fr, S, L, f, _, hf => by simp at hf
  | p :: ps, fr, S, L, 0, h, hf => by
    rw [List.length_cons] at h
    obtain ⟨h1, h2⟩ := write_stop (S := S) (L := L) (b := p.data) (show fr < S.length by omega)
    show (Dst.mk S L 0 false).imgs (fr : Int) _ = _
    rw [Dst.imgs_no (by rw [h2]; decide), h1, h2, List.take_zero, imgL, List.append_nil]
  | p :: ps, fr, S, L, f + 1, h, hf => by
    rw [List.length_cons] at h hf
    obtain ⟨h1, h2⟩ := write_go (S := S) (L := L) (b := p.data) (f := ((f + 1 : Nat) : Int)) (show fr < S.length by omega) (by omega)
    rw [Dst.imgs_go h2, h1, show ((fr : Int) + 1) = ((fr + 1 : Nat) : Int) by omega, show dec ((f + 1 : Nat) : Int) 1 = (f : Int) by unfold dec; rw [if_neg (by omega)]; omega, imgs_cut ps (fr + 1) S _ f (by omega) (by omega), List.take_succ_cons, imgL, List.append_assoc]
    rfl
theorem mayB_nat {n fr : Nat} (h : fr + 6 ≤ n) : mayB n (fr : Int) = true := decide_eq_true ⟨by omega, by omega⟩
/-- The sectors behind a Put that went through. -/
def putS (S : List (List UInt8)) (fr : Nat) (e q : UInt32) (ps : List PutV) : List (List UInt8) := (doneS S (imgL (fr + 1) ps)).set fr (hdrS e q ps)
theorem putS_length (S : List (List UInt8)) (fr : Nat) (e q : UInt32) (ps : List PutV) : (putS S fr e q ps).length = S.length := by rw [putS, List.length_set, doneS_length]
theorem doneS_nil (S : List (List UInt8)) : doneS S [] = S := rfl
theorem doneS_one (S : List (List UInt8)) (i : Nat) (b : List UInt8) : doneS S [(i, b)] = S.set i b := rfl
theorem put_all {S : List (List UInt8)} {fr : Nat} {f : Int} {e q : UInt32} {ps : List PutV} (h : fr + 6 ≤ S.length) (hg : goodB ps = true) (hf : f < 0 ∨ (ps.length : Int) + 3 ≤ f) : (Dst.mk S [] f false).walPut (fr : Int) e q ps = (⟨putS S fr e q ps, [], dec f (ps.length + 3), false⟩, 0) := by
  obtain ⟨h1, h5, _, _⟩ := goodB_at hg
  have him := imgs_all ps (fr + 1) S [] f (by omega) (by omega)
  rw [show (((fr + 1 : Nat) : Int)) = (fr : Int) + 1 by omega, List.nil_append] at him
  rw [Dst.walPut_yes (mayB_nat h) hg, him]
  simp only []
  rw [if_pos trivial]
  have hz : dec f ps.length ≠ 0 := by unfold dec; split <;> omega
  obtain ⟨f1, f2⟩ := flush_go (S := S) (L := imgL (fr + 1) ps) hz
  rw [dec_dec _ _ _ (by omega)] at f1
  have hz2 : dec f (ps.length + 1) ≠ 0 := by unfold dec; split <;> omega
  obtain ⟨w1, w2⟩ := write_go (S := doneS S (imgL (fr + 1) ps)) (L := []) (b := hdrS e q ps) (show fr < _ by rw [doneS_length]; omega) hz2
  rw [dec_dec _ _ _ (by omega)] at w1
  have hz3 : dec f (ps.length + 1 + 1) ≠ 0 := by unfold dec; split <;> omega
  obtain ⟨g1, g2⟩ := flush_go (S := doneS S (imgL (fr + 1) ps)) (L := [(fr, hdrS e q ps)]) hz3
  rw [dec_dec _ _ _ (by omega)] at g1
  rw [walEnd_c f2 (by rw [f1, w2]), f1, w1, List.nil_append, g1, g2]
  rfl
/-- What a Put that was cut leaves. -/
def cutD (S : List (List UInt8)) (fr : Nat) (e q : UInt32) (ps : List PutV) (f : Nat) : Dst :=
  if f < ps.length then ⟨S, imgL (fr + 1) (ps.take f), 0, true⟩
  else if f = ps.length then ⟨S, imgL (fr + 1) ps, 0, true⟩
  else if f = ps.length + 1 then ⟨doneS S (imgL (fr + 1) ps), [], 0, true⟩
  else ⟨doneS S (imgL (fr + 1) ps), [(fr, hdrS e q ps)], 0, true⟩
theorem put_cut {S : List (List UInt8)} {fr f : Nat} {e q : UInt32} {ps : List PutV} (h : fr + 6 ≤ S.length) (hg : goodB ps = true) (hf : f < ps.length + 3) : (Dst.mk S [] (f : Int) false).walPut (fr : Int) e q ps = (cutD S fr e q ps f, 20) := by
  obtain ⟨h1, h5, _, _⟩ := goodB_at hg
  rw [Dst.walPut_yes (mayB_nat h) hg]
  by_cases hc : f < ps.length
  · have him := imgs_cut ps (fr + 1) S [] f (by omega) hc
    rw [show (((fr + 1 : Nat) : Int)) = (fr : Int) + 1 by omega, List.nil_append] at him
    rw [him]
    simp only []
    rw [if_neg (by decide), cutD, if_pos hc]
  have him := imgs_all ps (fr + 1) S [] f (by omega) (by omega)
  rw [show (((fr + 1 : Nat) : Int)) = (fr : Int) + 1 by omega, List.nil_append] at him
  rw [him]
  simp only []
  rw [if_pos trivial]
  by_cases hc2 : f = ps.length
  · have hz : dec (f : Int) ps.length = 0 := by unfold dec; rw [if_neg (by omega)]; omega
    obtain ⟨f1, f2⟩ := flush_stop (S := S) (L := imgL (fr + 1) ps)
    rw [hz, walEnd_a (by rw [f2]; decide), f1, f2, cutD, if_neg hc, if_pos hc2]
  have hz : dec (f : Int) ps.length ≠ 0 := by unfold dec; split <;> omega
  obtain ⟨f1, f2⟩ := flush_go (S := S) (L := imgL (fr + 1) ps) hz
  rw [dec_dec _ _ _ (by omega)] at f1
  by_cases hc3 : f = ps.length + 1
  · have hz2 : dec (f : Int) (ps.length + 1) = 0 := by unfold dec; rw [if_neg (by omega)]; omega
    rw [hz2] at f1
    obtain ⟨w1, w2⟩ := write_stop (S := doneS S (imgL (fr + 1) ps)) (L := []) (b := hdrS e q ps) (show fr < _ by rw [doneS_length]; omega)
    rw [walEnd_b f2 (by rw [f1, w2]; decide), f1, w1, w2, cutD, if_neg hc, if_neg hc2, if_pos hc3]
  have hz2 : dec (f : Int) (ps.length + 1) ≠ 0 := by unfold dec; split <;> omega
  obtain ⟨w1, w2⟩ := write_go (S := doneS S (imgL (fr + 1) ps)) (L := []) (b := hdrS e q ps) (show fr < _ by rw [doneS_length]; omega) hz2
  rw [dec_dec _ _ _ (by omega)] at w1
  have hz3 : dec (f : Int) (ps.length + 1 + 1) = 0 := by unfold dec; rw [if_neg (by omega)]; omega
  rw [hz3] at w1
  obtain ⟨g1, g2⟩ := flush_stop (S := doneS S (imgL (fr + 1) ps)) (L := [(fr, hdrS e q ps)])
  rw [walEnd_c f2 (by rw [f1, w2]), f1, w1, List.nil_append, g1, g2, cutD, if_neg hc, if_neg hc2, if_neg hc3]
theorem putS_hdr {S : List (List UInt8)} {fr : Nat} {e q : UInt32} {ps : List PutV} (h : fr < S.length) : (putS S fr e q ps).getD fr [] = hdrS e q ps := by
  rw [putS, List.getD_eq_getElem?_getD, List.getElem?_set_self (by rw [doneS_length]; exact h)]
  rfl
theorem putS_img {S : List (List UInt8)} {fr : Nat} {e q : UInt32} {ps : List PutV} {i : Nat} (h : fr + 1 + ps.length ≤ S.length) (hi : i < ps.length) : (putS S fr e q ps).getD (fr + 1 + i) [] = dat ps i := by
  rw [putS, List.getD_eq_getElem?_getD, List.getElem?_set_ne (by omega), ← List.getD_eq_getElem?_getD, ← nowS_nil, nowS_done _ _ _ (by omega), now_img _ _ _ _ (by omega), if_pos (by omega), Nat.add_sub_cancel_left]
theorem putS_out {S : List (List UInt8)} {fr : Nat} {e q : UInt32} {ps : List PutV} {j : Nat} (hj : j < S.length) (h : j < fr ∨ fr + ps.length < j) : (putS S fr e q ps).getD j [] = S.getD j [] := by
  rw [putS, List.getD_eq_getElem?_getD, List.getElem?_set_ne (by omega), ← List.getD_eq_getElem?_getD, ← nowS_nil, nowS_done _ _ _ hj, now_img _ _ _ _ hj, if_neg (by omega)]
/-- What Get tells where a good header stands. -/
theorem get_hdr {S : List (List UInt8)} {fr : Nat} {f : Int} {e q : UInt32} {ps : List PutV} (h : fr + 6 ≤ S.length) (hg : goodB ps = true) (hh : S.getD fr [] = hdrS e q ps) : ∃ r, (Dst.mk S [] f false).walGet (fr : Int) = (r, 0) ∧ r.e = e ∧ r.q = q ∧ r.ps.map (·.at_) = ps.map (·.at_) ∧ ((∀ i, i < ps.length → S.getD (fr + 1 + i) [] = dat ps i) → r = ⟨e, q, ps⟩) := by
  obtain ⟨h1, h5, _, _⟩ := goodB_at hg
  obtain ⟨r1, r2⟩ := read_live S [] f fr (by omega)
  rw [nowS_nil, hh] at r1
  refine ⟨_, walGet_d (mayB_nat h) r2 r1 (hdr_form hg), ?_⟩
  obtain ⟨a1, a2, a3, a4⟩ := rec_hdr (e := e) (q := q) (D := fun i => (Dst.mk S [] f false).readB ((fr : Int) + 1 + (i : Nat))) hg
  refine ⟨a1, a2, a3, fun hD => a4 fun i hi => ?_⟩
  obtain ⟨r3, _⟩ := read_live S [] f (fr + 1 + i) (by omega)
  rw [nowS_nil, hD i hi] at r3
  show (Dst.mk S [] f false).readB ((fr : Int) + 1 + (i : Nat)) = _
  rw [← r3]
  congr 1
theorem fold_or (ks : List UInt8) : ∀ (M : List ((Nat × List UInt8) × Nat)) (S : List (List UInt8)) (j : Nat), (M.foldl (fun s p => if ks.getD p.2 0 % 2 = 1 then s.set p.1.1 p.1.2 else s) S).getD j [] = S.getD j [] ∨ ∃ p ∈ M, p.1.1 = j ∧ (M.foldl (fun s p => if ks.getD p.2 0 % 2 = 1 then s.set p.1.1 p.1.2 else s) S).getD j [] = p.1.2
  | [], S, j => .inl rfl
  | p :: M, S, j => by
    rw [List.foldl_cons]
    rcases fold_or ks M (if ks.getD p.2 0 % 2 = 1 then S.set p.1.1 p.1.2 else S) j with h | ⟨x, hx, h1, h2⟩
    · rw [h]
      split
      · by_cases hj : p.1.1 = j
        · by_cases hl : j < S.length
          · refine .inr ⟨p, List.mem_cons_self, hj, ?_⟩
            rw [hj, List.getD_eq_getElem?_getD, List.getElem?_set_self hl]
            rfl
          · refine .inl ?_
            rw [List.getD_eq_getElem?_getD, List.getD_eq_getElem?_getD, List.getElem?_eq_none (by simpa using Nat.le_of_not_lt hl), List.getElem?_eq_none (by omega)]
        · refine .inl ?_
          rw [List.getD_eq_getElem?_getD, List.getElem?_set_ne hj, ← List.getD_eq_getElem?_getD]
      · exact .inl rfl
    · exact .inr ⟨x, List.mem_cons_of_mem _ hx, h1, h2⟩
theorem up_or (S : List (List UInt8)) (L : List (Nat × List UInt8)) (ks : List UInt8) (j : Nat) : (upS S L ks).getD j [] = S.getD j [] ∨ ∃ b, (j, b) ∈ L ∧ (upS S L ks).getD j [] = b := by
  rcases fold_or ks L.zipIdx S j with h | ⟨p, hp, h1, h2⟩
  · exact .inl h
  · refine .inr ⟨p.1.2, ?_, h2⟩
    have := List.mem_zipIdx' hp
    rw [← h1]
    have h3 := this.2
    show p.1 ∈ L
    rw [h3]
    exact List.getElem_mem _
theorem up_out {S : List (List UInt8)} {L : List (Nat × List UInt8)} {ks : List UInt8} {j : Nat} (h : ∀ b, (j, b) ∉ L) : (upS S L ks).getD j [] = S.getD j [] := by
  rcases up_or S L ks j with h1 | ⟨b, h1, _⟩
  · exact h1
  · exact absurd h1 (h b)
/-- Behind a Put of `was`, a cut Put of `now` and an Up. -/
theorem wal_torn {S : List (List UInt8)} {fr : Nat} {we wq ne nq : UInt32} {wps nps : List PutV} {f : Nat} {ks : List UInt8} (h : fr + 6 ≤ S.length) (hw : goodB wps = true) (hn : goodB nps = true) :
    (Dst.mk S [] (-1) false).walPut (fr : Int) we wq wps = (⟨putS S fr we wq wps, [], -1, false⟩, 0) ∧
    ∃ D er r, (Dst.mk (putS S fr we wq wps) [] (f : Int) false).walPut (fr : Int) ne nq nps = (D, er) ∧ (er = 0 ∨ er = 20) ∧ (er = 0 ↔ nps.length + 3 ≤ f) ∧ (D.up ks).walGet (fr : Int) = (r, 0) ∧ (r = ⟨ne, nq, nps⟩ ∨ (er = 20 ∧ r.e = we ∧ r.q = wq ∧ r.ps.map (·.at_) = wps.map (·.at_))) := by
  obtain ⟨_, h5, _, _⟩ := goodB_at hn
  refine ⟨put_all (f := -1) h hw (by omega), ?_⟩
  have hT : (putS S fr we wq wps).length = S.length := putS_length _ _ _ _ _
  have hT0 : (putS S fr we wq wps).getD fr [] = hdrS we wq wps := putS_hdr (by omega)
  generalize putS S fr we wq wps = T at *
  by_cases hf : nps.length + 3 ≤ f
  · obtain ⟨r, hr, _, _, _, h4⟩ := get_hdr (S := putS T fr ne nq nps) (fr := fr) (f := -1) (e := ne) (q := nq) (ps := nps) (by rw [putS_length]; omega) hn (putS_hdr (by omega))
    refine ⟨_, _, r, put_all (f := (f : Int)) (by omega) hn (by omega), .inl rfl, ⟨fun _ => hf, fun _ => rfl⟩, hr, .inl (h4 fun i hi => putS_img (by omega) hi)⟩
  · refine ⟨cutD T fr ne nq nps f, 20, ?_⟩
    have hcut := put_cut (S := T) (fr := fr) (f := f) (e := ne) (q := nq) (by omega) hn (by omega)
    have old : ∀ (S2 : List (List UInt8)), S2.length = S.length → S2.getD fr [] = hdrS we wq wps → ∃ r, (Dst.mk S2 [] (-1) false).walGet (fr : Int) = (r, 0) ∧ (r = ⟨ne, nq, nps⟩ ∨ ((20 : Int) = 20 ∧ r.e = we ∧ r.q = wq ∧ r.ps.map (·.at_) = wps.map (·.at_))) := fun S2 h1 h2 => by
      obtain ⟨r, hr, a1, a2, a3, _⟩ := get_hdr (f := -1) (by omega) hw h2
      exact ⟨r, hr, .inr ⟨rfl, a1, a2, a3⟩⟩
    have key : ∃ r, ((cutD T fr ne nq nps f).up ks).walGet (fr : Int) = (r, 0) ∧ (r = ⟨ne, nq, nps⟩ ∨ ((20 : Int) = 20 ∧ r.e = we ∧ r.q = wq ∧ r.ps.map (·.at_) = wps.map (·.at_))) := by
      have hno : ∀ ps b, (fr, b) ∉ imgL (fr + 1) ps := fun ps b hm => by have := imgL_mem _ _ _ hm; simp at this; omega
      unfold cutD
      split
      · exact old _ (by rw [upS_length]; exact hT) (by rw [up_out (hno _)]; exact hT0)
      · split
        · exact old _ (by rw [upS_length]; exact hT) (by rw [up_out (hno _)]; exact hT0)
        · have hd0 : (doneS T (imgL (fr + 1) nps)).getD fr [] = hdrS we wq wps := by
            rw [← nowS_nil, nowS_done _ _ _ (by omega), now_img _ _ _ _ (by omega), if_neg (by omega)]
            exact hT0
          split
          · exact old _ (by rw [upS_length, doneS_length]; exact hT) (by rw [up_out (by simp)]; exact hd0)
          · rcases up_or (doneS T (imgL (fr + 1) nps)) [(fr, hdrS ne nq nps)] ks fr with h1 | ⟨b, h1, h2⟩
            · exact old _ (by rw [upS_length, doneS_length]; exact hT) (by rw [h1]; exact hd0)
            · obtain rfl : b = hdrS ne nq nps := by simpa using h1
              obtain ⟨r, hr, _, _, _, h4⟩ := get_hdr (f := -1) (fr := fr) (S := upS (doneS T (imgL (fr + 1) nps)) [(fr, hdrS ne nq nps)] ks) (by rw [upS_length, doneS_length]; omega) hn h2
              refine ⟨r, hr, .inl (h4 fun i hi => ?_)⟩
              rw [up_out (by simp; omega), ← nowS_nil, nowS_done _ _ _ (by omega), now_img _ _ _ _ (by omega), if_pos (by omega), Nat.add_sub_cancel_left]
    obtain ⟨r, h1, h2⟩ := key
    exact ⟨r, hcut, .inr rfl, ⟨fun hh => absurd hh (by decide), fun hh => absurd hh hf⟩, h1, h2⟩
end Go.Proofs.Ytcmfkdfegfablaa


/- The walks of label.low and number. -/
namespace Go.Proofs.Ytcmfkdfegfablaa
open Go.RowKit
set_option linter.unusedVariables false
set_option linter.unusedSimpArgs false

def LowRel (w : World) (x : UInt32) (size : Nat) (v0 v5 v7 : Value) (wr : World) : Prop := ∃ k : Nat, k ≤ size ∧ v7 = .int .i64 k ∧ v0 = .int .u32 (x.toNat / 256 ^ k : Nat) ∧ wr.ownsRow w.heap.size 5 1 v5 k (bts (le x.toNat k)) ∧ Below w.heap.size w wr
set_option maxRecDepth 100000 in
set_option maxHeartbeats 1000000 in
theorem low_calls (x : UInt32) (size : Nat) (w : World) (hs : size ≤ 4) :
    Calls Try.prog 63 #[vu32 x, .int .i64 size] w (RowPost w (le x.toNat size)) := by
  have hx : x.toNat < 4294967296 := x.toNat_lt
  have H0 : Hid (LowRel w x size (vu32 x) (.slice none 0 0) (.int .i64 0) w) := ⟨0, Nat.zero_le _, rfl, by simp [vu32], World.ownsRow_nil w _ _ _, Below.refl _ _⟩
  generalize hv : vu32 x = vx at H0
  go_enter Try.func63, Try.ntmps63
  go_wp2_with fail
  go_loopw [0, 5, 7] (fun v0 v5 v7 wr => LowRel w x size v0 v5 v7 wr) (fun _ _ v7 _ => size - (intOf v7).toNat)
  case atStart => exact H0.out
  case round =>
    obtain ⟨k, hk, rfl, hv0, hown, hb⟩ := hrel
    obtain ⟨m, hm⟩ : ∃ m, x.toNat / 256 ^ k = m := ⟨_, rfl⟩
    rw [hm] at hv0
    subst hv0
    have HM := Lib.hid hm
    have hm32 : m < 4294967296 := by rw [← hm]; exact Nat.lt_of_le_of_lt (Nat.div_le_self _ _) hx
    clear hm
    have HO := Lib.hid hown
    have HB := Lib.hid hb
    obtain ⟨A, c, rfl, _, _, _⟩ := own_rd hown
    clear hown hb H0
    by_cases hlt : k < size
    · have hki : (k : Int) < (size : Int) := by omega
      have hvb : (Value.int .u8 ((m : Int) % 256)) = vu8 (UInt8.ofNat m) := by
        show _ = Value.int .u8 ((UInt8.ofNat m).toNat : Int)
        rw [UInt8.toNat_ofNat']
        rfl
      have HVB := Lib.hid hvb
      clear hvb
      go_wp2_with (at_builtin; refine wpList_append_rd rfl (.tmp 9) (.tmp 12) 56 rfl w.heap.size 5 (.int .u8 0) 1 1 Try.underlying56 info_u8l rfl (by decide) (by decide) (.slice A k c) k (bts (le x.toNat k)) rfl ?own (some ⟨wr.heap.size, 0, none⟩) 1 1 (bts [UInt8.ofNat m]) rfl ?len ?rd (one_bts _) ?bytes ?base ?_)
      case own => exact own_chg HO.out ((Chg.refl (S := NoS) wr).alloc _) (fun _ _ => id)
      case len => rfl
      case rd => rw [HVB.out]; exact Rd.new _ _ _
      case bytes => omega
      case base => have := HB.out.size; simp; omega
      intro v1 w1 hown1 hg1 hat1
      rw [← bts_append, ← HM.out, ← le_snoc] at hown1
      have HO1 := Lib.hid hown1
      have HB1 : Hid (Below w.heap.size w w1) := (HB.out.alloc HB.out.size _).trans (below_grown hg1 (by have := HB.out.size; simp; omega) (fun q hq => by have := (HO.out.lt _ hq).1; exact this))
      clear hown1 hg1 hat1
      have hdiv : m / 256 = x.toNat / 256 ^ (k + 1) := by rw [← HM.out, Nat.div_div_eq_div_mul, Nat.pow_succ]
      go_wp2_with fail
      go_roundw
      case rel => exact ⟨k + 1, by omega, by go_num, by rw [← hdiv]; rfl, HO1.out, HB1.out⟩
      case measure => simp [intOf]; omega
    · have hke : k = size := by omega
      have hki : ¬ ((k : Int) < (size : Int)) := by omega
      subst hke
      go_wp2
      go_ret
      have hl := le_length k x.toNat
      exact ⟨A, c, by rw [hl]; rfl, by rw [hl]; exact HO.out, HB.out⟩

def NumRel (l : List UInt8) (v3 v8 : Value) : Prop := ∃ k : Nat, k ≤ l.length ∧ v8 = .int .i64 k ∧ v3 = .int .u32 (num (l.take k) : Nat)
set_option maxRecDepth 100000 in
set_option maxHeartbeats 1000000 in
theorem number_calls (l : List UInt8) (A : Option Addr) (n c : Nat) (w : World) (hl : l.length = n) (hs : n ≤ 4) (hr : Rd w A (bts l)) :
    Calls Try.prog 45 #[.slice A n c] w fun e w' => e = .returned (.int .u32 (num l : Nat)) ∧ w = w' := by
  subst hl
  have HR := Lib.hid hr
  have H0 : Hid (NumRel l (.int .u32 0) (.int .i64 0)) := ⟨0, Nat.zero_le _, rfl, rfl⟩
  clear hr
  go_enter Try.func45, Try.ntmps45
  go_wp2_with fail
  go_loop [3, 8] (fun v3 v8 => NumRel l v3 v8) (fun _ v8 => l.length - (intOf v8).toNat)
  case atStart => exact H0.out
  case round =>
    obtain ⟨k, hk, rfl, hv3⟩ := hrel
    obtain ⟨m, hm⟩ : ∃ m, num (l.take k) = m := ⟨_, rfl⟩
    rw [hm] at hv3
    subst hv3
    have HM := Lib.hid hm
    clear hm H0
    by_cases hlt : k < l.length
    · have hki : (k : Int) < (l.length : Int) := by omega
      obtain ⟨ad, hA, hc⟩ := HR.out.bt k hlt
      subst hA
      obtain ⟨b, hb⟩ : ∃ b, l.getD k 0 = b := ⟨_, rfl⟩
      rw [hb] at hc
      have HB := Lib.hid hb
      have hor := num_or m k b (by omega) (by rw [← HM.out]; have := num_lt (l.take k); rwa [List.length_take, Nat.min_eq_left hk] at this)
      have hnx : num (l.take (k + 1)) = m + b.toNat * 256 ^ k := by
        rw [List.take_succ_eq_append_getElem hlt, num_snoc, HM.out, List.length_take, Nat.min_eq_left hk, ← hb, List.getD_eq_getElem?_getD, List.getElem?_eq_getElem hlt]
        rfl
      have HNX := Lib.hid hnx
      clear hb hnx
      go_wp2_with fail
      go_round
      case rel => exact ⟨k + 1, by omega, by go_num, by rw [HNX.out]; first | rfl | (push_cast; rfl) | (simp; rfl)⟩
      case measure => simp [intOf]; omega
    · have hke : k = l.length := by omega
      have hki : ¬ ((k : Int) < (l.length : Int)) := by omega
      have HF : Hid (num l = m) := by show _ = _; rw [← HM.out, hke, List.take_length]
      go_wp2
      go_ret
      exact ⟨by rw [HF.out]; rfl, rfl⟩
end Go.Proofs.Ytcmfkdfegfablaa


/- The walk of label.body. -/
namespace Go.Proofs.Ytcmfkdfegfablaa
open Go.RowKit
set_option linter.unusedVariables false
set_option linter.unusedSimpArgs false

structure Lab where
  e : UInt32
  s : UInt32
  n : UInt32
  d : UInt16
  la : UInt16
  deriving DecidableEq
def labC (l : Lab) : List Value := [vu32 l.e, vu32 l.s, vu32 l.n, vu16 l.d, vu16 l.la]
def bodyB (l : Lab) : List UInt8 := ([l.e, l.s, l.n].flatMap fun x => le x.toNat 4) ++ [l.d, l.la].flatMap fun x => le x.toNat 2
theorem bodyB_length (l : Lab) : (bodyB l).length = 16 := by simp [bodyB, le_length]
def BodyRel (w : World) (ns : List UInt32) (bx : List Value) (v3 v16 : Value) (wr : World) : Prop := ∃ k : Nat, k ≤ 3 ∧ v16 = .int .i64 k ∧ wr.ownsRow (w.heap.size + 2) 5 1 v3 (4 * k) (bts ((ns.take k).flatMap fun x => le x.toNat 4)) ∧ Bk wr (w.heap.size + 1) (ns.map vu32) ∧ Bk wr w.heap.size bx ∧ Below w.heap.size w wr
def BodyRel2 (w : World) (gd : Nat) (pre12 : List UInt8) (ds : List UInt16) (bx : List Value) (v3 v31 : Value) (wr : World) : Prop := ∃ k : Nat, k ≤ 2 ∧ v31 = .int .i64 k ∧ wr.ownsRow (w.heap.size + 2) 5 1 v3 (12 + 2 * k) (bts (pre12 ++ (ds.take k).flatMap fun x => le x.toNat 2)) ∧ Bk wr gd (ds.map vu16) ∧ v3.ownBlock ≠ some gd ∧ Bk wr w.heap.size bx ∧ Below w.heap.size w wr
set_option maxRecDepth 100000 in
set_option maxHeartbeats 4000000 in
theorem body_calls (l : Lab) (w : World) :
    Calls Try.prog 52 #[.agg (labC l).toArray] w (RowPost w (bodyB l)) := by
  obtain ⟨bx, hbx⟩ : ∃ bx, labC l = bx := ⟨_, rfl⟩
  have HBX := Lib.hid hbx
  rw [hbx]
  have d0 : bx[0]? = some (vu32 l.e) := by rw [← hbx]; rfl
  have d1 : bx[1]? = some (vu32 l.s) := by rw [← hbx]; rfl
  have d2 : bx[2]? = some (vu32 l.n) := by rw [← hbx]; rfl
  have d3 : bx[3]? = some (vu16 l.d) := by rw [← hbx]; rfl
  have d4 : bx[4]? = some (vu16 l.la) := by rw [← hbx]; rfl
  have D3 := Lib.hid d3
  have D4 := Lib.hid d4
  have c0 := Bk.cell (Bk.new w bx 40) d0
  have c1 := Bk.cell (Bk.new w bx 40) d1
  have c2 := Bk.cell (Bk.new w bx 40) d2
  clear hbx d0 d1 d2 d3 d4
  obtain ⟨ns, hns⟩ : ∃ ns, [l.e, l.s, l.n] = ns := ⟨_, rfl⟩
  have HNL : Hid (ns.length = 3) := by show _ = _; rw [← hns]; rfl
  have HGET : Hid (∀ k (h : k < ns.length), (ns.map vu32)[k]? = some (vu32 ns[k])) := fun k h => by rw [List.getElem?_map, List.getElem?_eq_getElem h]; rfl
  have H0 : Hid (BodyRel w ns bx (.slice none 0 0) (.int .i64 0) ((w.alloc (.cells bx.toArray 40)).alloc (.cells #[vu32 l.e, vu32 l.s, vu32 l.n] 22))) :=
    ⟨0, by omega, rfl, World.ownsRow_nil _ _ _ _, by rw [← hns]; exact Bk.new_at (by simp) rfl, (Bk.new w bx _).alloc _, ((Below.refl _ _).alloc (Nat.le_refl _) _).alloc (by simp) _⟩
  have HNS := Lib.hid hns
  clear hns
  go_enter Try.func52, Try.ntmps52
  go_wp2_with fail
  go_loopw [3, 16] (fun v3 v16 wr => BodyRel w ns bx v3 v16 wr) (fun _ v16 _ => 3 - (intOf v16).toNat)
  case atStart => exact H0.out
  case round =>
    clear c0 c1 c2
    obtain ⟨k, hk, rfl, hown, hrow, hbox, hb⟩ := hrel
    have HO := Lib.hid hown
    have HW := Lib.hid hrow
    have HX := Lib.hid hbox
    have HB := Lib.hid hb
    obtain ⟨A, c, rfl, _, _, _⟩ := own_rd hown
    clear hown hrow hbox hb H0
    by_cases hlt : k < 3
    · have hki : (k : Int) < 3 := by omega
      have hkl : k < ns.length := by rw [HNL.out]; exact hlt
      obtain ⟨x, hx⟩ : ∃ x, ns[k] = x := ⟨_, rfl⟩
      have hcx : wr.cell? ⟨w.heap.size + 1, k, none⟩ = some (vu32 x) := by
        have := HW.out.cell (j := k) (HGET.out k hkl)
        rw [hx] at this
        exact this
      have HXE := Lib.hid hx
      clear hx
      go_wp2_with fail
      refine (low_calls x 4 wr (by decide)).mono ?_
      intro e w2 hp
      obtain ⟨A2, c2, rfl, hown2, hb2⟩ := hp
      obtain ⟨A3, c3, hv3, hrd2, _, _⟩ := own_rd hown2
      injection hv3 with h1 _ h3
      subst h1
      subst h3
      have hll := le_length 4 x.toNat
      rw [hll]
      have HRD := Lib.hid hrd2
      have HO2 := Lib.hid (own_chg HO.out (Chg.of_below (S := NoS) hb2) (fun _ _ => id))
      have HW2 := Lib.hid (HW.out.below hb2)
      have HX2 := Lib.hid (HX.out.below hb2)
      have HB2 : Hid (Below w.heap.size w w2) := HB.out.trans (hb2.mono HB.out.size)
      have HSZ : Hid (w.heap.size + 2 ≤ wr.heap.size) := by show _ ≤ _; have := HW.out.lt; omega
      have HSZ2 : Hid (w.heap.size + 2 ≤ w2.heap.size) := Nat.le_trans HSZ.out hb2.size
      have HLL := Lib.hid hll
      clear hown2 hrd2 hb2 hcx hll
      go_wp2_with (at_builtin; refine wpList_append_rd rfl (.tmp 20) (.tmp 22) 56 rfl (w.heap.size + 2) 5 (.int .u8 0) 1 1 Try.underlying56 info_u8l rfl (by decide) (by decide) (.slice A (4 * k) c) (4 * k) (bts ((ns.take k).flatMap fun x => le x.toNat 4)) rfl HO2.out A2 4 c2 (bts (le x.toNat 4)) rfl ?len HRD.out (one_bts _) ?bytes ?base ?_)
      case len => rw [bts_length, HLL.out]
      case bytes => omega
      case base => exact HSZ2.out
      intro v1 w3 hown3 hg3 hat3
      rw [← bts_append, show ((ns.take k).flatMap fun x => le x.toNat 4) ++ le x.toNat 4 = (ns.take (k + 1)).flatMap fun x => le x.toNat 4 by rw [List.take_succ_eq_append_getElem hkl, HXE.out]; simp] at hown3
      have hc3 : Chg (fun q => (Value.slice A (4 * k) c).ownBlock = some q) w2 w3 := ⟨hg3.os, hg3.tape, hg3.output, hg3.size, fun q hq hne => hg3.block q hq (fun he => hne he.symm)⟩
      have hge : ∀ q, (Value.slice A (4 * k) c).ownBlock = some q → w.heap.size + 2 ≤ q := fun q hq => (HO2.out.lt _ hq).1
      have HO3 : Hid (w3.ownsRow (w.heap.size + 2) 5 1 v1 (4 * (k + 1)) (bts ((ns.take (k + 1)).flatMap fun x => le x.toNat 4))) := by
        have : 4 * (k + 1) = 4 * k + 4 := by omega
        rw [this]
        exact hown3
      have HW3 := Lib.hid (HW2.out.chg hc3 (fun he => by have := hge _ he; omega))
      have HX3 := Lib.hid (HX2.out.chg hc3 (fun he => by have := hge _ he; omega))
      have HB3 : Hid (Below w.heap.size w w3) := HB2.out.trans (hc3.below HB2.out.size (fun q hq he => by have := hge _ he; omega))
      clear hown3 hc3 hge hg3 hat3
      go_wp2_with fail
      go_roundw
      case rel => exact ⟨k + 1, by omega, by go_num, HO3.out, HW3.out, HX3.out, HB3.out⟩
      case measure => simp [intOf]; omega
    · have hke : k = 3 := by omega
      subst hke
      have hki : ¬ (((3 : Nat) : Int) < 3) := by omega
      have HO12 : Hid (wr.ownsRow (w.heap.size + 2) 5 1 (.slice A 12 c) 12 (bts (ns.flatMap fun x => le x.toNat 4))) := by
        have := HO.out
        rw [List.take_of_length_le (by rw [HNL.out]; decide)] at this
        exact this
      have HP12 : Hid ((ns.flatMap fun x => le x.toNat 4).length = 12) := by show _ = _; rw [← HNS.out]; simp [le_length]
      have HNSB : Hid ((ns.flatMap fun x => le x.toNat 4) ++ ([l.d, l.la].flatMap fun x => le x.toNat 2) = bodyB l) := by show _ = _; rw [← HNS.out]; rfl
      generalize (ns.flatMap fun x => le x.toNat 4) = pre12 at HO12 HP12 HNSB
      have e3 := Bk.cell HX.out D3.out
      have e4 := Bk.cell HX.out D4.out
      obtain ⟨ds, hds⟩ : ∃ ds, [l.d, l.la] = ds := ⟨_, rfl⟩
      have HNL2 : Hid (ds.length = 2) := by show _ = _; rw [← hds]; rfl
      have HGET2 : Hid (∀ k (h : k < ds.length), (ds.map vu16)[k]? = some (vu16 ds[k])) := fun k h => by rw [List.getElem?_map, List.getElem?_eq_getElem h]; rfl
      have HSW : Hid (w.heap.size + 2 ≤ wr.heap.size) := by show _ ≤ _; have := HW.out.lt; omega
      have H2 : Hid (BodyRel2 w wr.heap.size pre12 ds bx (.slice A 12 c) (.int .i64 0) (wr.alloc (.cells #[vu16 l.d, vu16 l.la] 38))) :=
        ⟨0, by omega, rfl, by rw [List.take_zero, List.flatMap_nil, List.append_nil]; exact own_chg HO12.out ((Chg.refl (S := NoS) wr).alloc _) (fun _ _ => id), by rw [← hds]; exact Bk.new_at rfl rfl, fun he => by have := (HO12.out.lt _ he).2; omega, HX.out.alloc _, HB.out.alloc HB.out.size _⟩
      rw [hds] at HNSB
      clear hds HO HO12
      obtain ⟨gd, hgd⟩ : ∃ gd, wr.heap.size = gd := ⟨_, rfl⟩
      have HGD : Hid (w.heap.size + 2 ≤ gd) := by rw [← hgd]; exact HSW.out
      rw [hgd] at H2
      go_wp2_with fail
      clear hgd
      go_loopw [3, 31] (fun v3 v31 wr => BodyRel2 w gd pre12 ds bx v3 v31 wr) (fun _ v31 _ => 2 - (intOf v31).toNat)
      case atStart => exact H2.out
      case round =>
        clear e3 e4
        obtain ⟨k, hk, rfl, hown, hrow, hne, hbox, hb⟩ := hrel
        have HNE := Lib.hid hne
        have HO := Lib.hid hown
        have HW := Lib.hid hrow
        have HX := Lib.hid hbox
        have HB := Lib.hid hb
        obtain ⟨A, c, rfl, _, _, _⟩ := own_rd hown
        clear hown hrow hne hbox hb H2
        by_cases hlt : k < 2
        · have hki : (k : Int) < 2 := by omega
          have hkl : k < ds.length := by rw [HNL2.out]; exact hlt
          obtain ⟨x, hx⟩ : ∃ x, ds[k] = x := ⟨_, rfl⟩
          have hcx : wr.cell? ⟨gd, k, none⟩ = some (vu16 x) := by
            have := HW.out.cell (j := k) (HGET2.out k hkl)
            rw [hx] at this
            exact this
          have HXE := Lib.hid hx
          clear hx
          go_wp2_with fail
          rw [show ((x.toNat : Int) % 4294967296) = ((x.toUInt32.toNat : Nat) : Int) by rw [UInt16.toNat_toUInt32]; have := x.toNat_lt; omega]
          refine (low_calls x.toUInt32 2 wr (by decide)).mono ?_
          intro e w2 hp
          rw [UInt16.toNat_toUInt32] at hp
          obtain ⟨A2, c2, rfl, hown2, hb2⟩ := hp
          obtain ⟨A3, c3, hv3, hrd2, _, _⟩ := own_rd hown2
          injection hv3 with h1 _ h3
          subst h1
          subst h3
          have hll := le_length 2 x.toNat
          rw [hll]
          have HRD := Lib.hid hrd2
          have HO2 := Lib.hid (own_chg HO.out (Chg.of_below (S := NoS) hb2) (fun _ _ => id))
          have HW2 := Lib.hid (HW.out.below hb2)
          have HX2 := Lib.hid (HX.out.below hb2)
          have HB2 : Hid (Below w.heap.size w w2) := HB.out.trans (hb2.mono HB.out.size)
          have HSZ : Hid (w.heap.size + 2 ≤ wr.heap.size) := by show _ ≤ _; have := HW.out.lt; have := HGD.out; omega
          have HSZ2 : Hid (w.heap.size + 2 ≤ w2.heap.size) := Nat.le_trans HSZ.out hb2.size
          have HLL := Lib.hid hll
          clear hown2 hrd2 hb2 hcx hll
          go_wp2_with (at_builtin; refine wpList_append_rd rfl (.tmp 35) (.tmp 38) 56 rfl (w.heap.size + 2) 5 (.int .u8 0) 1 1 Try.underlying56 info_u8l rfl (by decide) (by decide) (.slice A (12 + 2 * k) c) (12 + 2 * k) (bts (pre12 ++ (ds.take k).flatMap fun x => le x.toNat 2)) rfl HO2.out A2 2 c2 (bts (le x.toNat 2)) rfl ?len HRD.out (one_bts _) ?bytes ?base ?_)
          case len => rw [bts_length, HLL.out]
          case bytes => omega
          case base => exact HSZ2.out
          intro v1 w3 hown3 hg3 hat3
          rw [← bts_append, List.append_assoc, show ((ds.take k).flatMap fun x => le x.toNat 2) ++ le x.toNat 2 = (ds.take (k + 1)).flatMap fun x => le x.toNat 2 by rw [List.take_succ_eq_append_getElem hkl, HXE.out]; simp] at hown3
          have hc3 : Chg (fun q => (Value.slice A (12 + 2 * k) c).ownBlock = some q) w2 w3 := ⟨hg3.os, hg3.tape, hg3.output, hg3.size, fun q hq hne => hg3.block q hq (fun he => hne he.symm)⟩
          have hge : ∀ q, (Value.slice A (12 + 2 * k) c).ownBlock = some q → w.heap.size + 2 ≤ q := fun q hq => (HO2.out.lt _ hq).1
          have HO3 : Hid (w3.ownsRow (w.heap.size + 2) 5 1 v1 (12 + 2 * (k + 1)) (bts (pre12 ++ (ds.take (k + 1)).flatMap fun x => le x.toNat 2))) := by
            have : 12 + 2 * (k + 1) = 12 + 2 * k + 2 := by omega
            rw [this]
            exact hown3
          have HW3 := Lib.hid (HW2.out.chg hc3 (fun he => HNE.out he))
          have HNE3 : Hid (v1.ownBlock ≠ some gd) := by
            intro he
            rcases hat3 with h | h
            · exact HNE.out (by rw [← h, he])
            · rw [h] at he
              injection he with he
              have := HW2.out.lt
              omega
          have HX3 := Lib.hid (HX2.out.chg hc3 (fun he => by have := hge _ he; omega))
          have HB3 : Hid (Below w.heap.size w w3) := HB2.out.trans (hc3.below HB2.out.size (fun q hq he => by have := hge _ he; omega))
          clear hown3 hc3 hge hg3 hat3
          go_wp2_with fail
          go_roundw
          case rel => exact ⟨k + 1, by omega, by go_num, HO3.out, HW3.out, HNE3.out, HX3.out, HB3.out⟩
          case measure => simp [intOf]; omega
        · have hke : k = 2 := by omega
          subst hke
          have hki : ¬ (((2 : Nat) : Int) < 2) := by omega
          have HO16 : Hid (wr.ownsRow (w.heap.size + 2) 5 1 (.slice A 16 c) 16 (bts (bodyB l))) := by
            have := HO.out
            rw [List.take_of_length_le (by rw [HNL2.out]; decide), HNSB.out] at this
            exact this
          go_wp2
          go_ret
          have hl := bodyB_length l
          have ho := HO16.out
          refine ⟨A, c, by rw [hl]; rfl, by rw [hl]; exact own_lower ho (by omega), HB.out⟩

end Go.Proofs.Ytcmfkdfegfablaa


/- The walk of label.Encode. -/
namespace Go.Proofs.Ytcmfkdfegfablaa
open Go.RowKit
set_option linter.unusedVariables false
set_option linter.unusedSimpArgs false

/-- A label's sector. -/
def labEnc (l : Lab) : List UInt8 := secOf 76 (padB (bodyB l))
theorem labEnc_length (l : Lab) : (labEnc l).length = 32 := secOf_length (padB_length (by rw [bodyB_length]; decide))
theorem enc_lab (l : Lab) : encR 76 (bodyB l) = (labEnc l, 0) := encR_yes (by rw [bodyB_length]; decide)
theorem labC_length (l : Lab) : (labC l).length = 5 := rfl
theorem one_lab (l : Lab) : ∀ u ∈ labC l, u.oneCell' = true := by
  intro u hu
  simp only [labC, List.mem_cons, List.not_mem_nil, or_false] at hu
  rcases hu with rfl | rfl | rfl | rfl | rfl <;> rfl
def zLab : Lab := ⟨0, 0, 0, 0, 0⟩
set_option maxRecDepth 100000 in
set_option maxHeartbeats 2000000 in
theorem labEncode_calls (l : Lab) (w : World) :
    Calls Try.prog 36 #[.agg (labC l).toArray] w fun e w' => e = .returned (.agg (bts (labEnc l)).toArray) ∧ Below w.heap.size w w' := by
  obtain ⟨bx, hbx⟩ : ∃ bx, labC l = bx := ⟨_, rfl⟩
  have HBX := Lib.hid hbx
  have HBL : Hid (bx.length = 5) := by show _ = _; rw [← hbx]; rfl
  rw [hbx]
  clear hbx
  have HN0 : Hid ((bts (List.replicate 32 0)).length = 32) := by show _ = _; rw [bts_length, List.length_replicate]
  go_enter Try.func36, Try.ntmps36
  go_wp2_with (refine wpList_al rfl 35 rfl (bts (List.replicate 32 0)) (by kernel_rfl) ?_)
  intro g2 w1 hg hb hc hs
  have HX1 : Hid (Bk w1 w.heap.size bx) := (Bk.new w bx _).chg hc id
  have HE1 : Hid (Below w.heap.size w w1) := ((Below.refl _ _).alloc (Nat.le_refl _) _).trans (hc.below (by simp) (fun _ _ => id))
  have HG2 : Hid (w.heap.size < g2) := by show _ < _; rw [hg]; simp
  have HZ1 := Lib.hid hb
  clear hg hb hc hs
  go_wp2_with (refine wpList_ld rfl 40 (.tmp 1) rfl w.heap.size 0 5 bx bx rfl HX1.out (by kernel_rfl) (by kernel_rfl) (by rw [HBL.out]; decide) (by rw [List.drop_zero, ← HBL.out, List.take_length]) ?_)
  go_wp2_with fail
  rw [← HBX.out]
  refine (body_calls l w1).mono ?_
  intro e w2 hp
  obtain ⟨A, c, rfl, ho, hb⟩ := hp
  obtain ⟨A', c', hv, hr, hlc, hcm⟩ := own_rd ho
  injection hv with h1 _ h3
  subst h1
  subst h3
  have hl16 := bodyB_length l
  rw [hl16] at hlc ⊢
  have HR2 := Lib.hid hr
  have HZ2 := Lib.hid (HZ1.out.below hb)
  have HE2 : Hid (Below w.heap.size w w2) := HE1.out.trans (hb.mono HE1.out.size)
  clear ho hr hb
  go_wp2_with fail
  refine (sealEncode_calls 76 A 16 c (bodyB l) w2 hl16 hlc hcm HR2.out).mono ?_
  rintro e w3 ⟨rfl, hb⟩
  rw [enc_lab]
  have HZ3 := Lib.hid (HZ2.out.below hb)
  have HE3 : Hid (Below w.heap.size w w3) := HE2.out.trans (hb.mono HE2.out.size)
  clear hb HR2 hl16
  obtain ⟨vv, hvv⟩ : ∃ vv, bts (labEnc l) = vv := ⟨_, rfl⟩
  have HVV := Lib.hid hvv
  have HVL : Hid (vv.length = 32) := by show _ = _; rw [← hvv, bts_length, labEnc_length]
  have HVO : Hid (∀ u ∈ vv, u.oneCell' = true) := by rw [← hvv]; exact one_bts _
  simp only []
  rw [hvv]
  clear hvv
  go_wp2_with (refine wpList_al rfl 35 rfl (bts (List.replicate 32 0)) (by kernel_rfl) ?_)
  intro g3 w4 hg hb hc hs
  have HG3 : Hid (g2 < g3) := by show _ < _; rw [hg]; exact HZ3.out.lt
  have HZ4 := Lib.hid (HZ3.out.chg hc id)
  have HE4 : Hid (Below w.heap.size w w4) := HE3.out.trans (hc.below HE3.out.size (fun _ _ => id))
  have HY4 := Lib.hid hb
  clear hg hb hc hs
  go_wp2_with (refine wpList_st rfl 35 (.tmp 3) (.tmp 9) rfl g3 0 32 (bts (List.replicate 32 0)) vv rfl rfl HY4.out (by kernel_rfl) HVL.out (by decide) HVO.out ?_)
  intro w5 hb hc
  rw [splice_whole _ _ (by rw [HVL.out]; rfl)] at hb
  have hg2 := HG2.out
  have hg3 := HG3.out
  have HZ5 := Lib.hid (HZ4.out.chg hc (by omega))
  have HE5 : Hid (Below w.heap.size w w5) := HE4.out.trans (hc.below HE4.out.size (fun _ _ => by omega))
  have HY5 := Lib.hid hb
  clear hb hc hg2 hg3
  go_wp2_with (first
    | (refine wpList_ld rfl 35 (.tmp 3) rfl g3 0 32 vv vv rfl HY5.out (by kernel_rfl) (by kernel_rfl) (by rw [HVL.out]; decide) (by rw [List.drop_zero, ← HVL.out, List.take_length]) ?_)
    | (refine wpList_st rfl 35 (.tmp 2) (.tmp 11) rfl g2 0 32 (bts (List.replicate 32 0)) vv rfl rfl HZ5.out (by kernel_rfl) HVL.out (by decide) HVO.out ?_))
  intro w6 hb hc
  rw [splice_whole _ _ (by rw [HVL.out]; rfl)] at hb
  have hg2 := HG2.out
  have HE6 : Hid (Below w.heap.size w w6) := HE5.out.trans (hc.below HE5.out.size (fun _ _ => by omega))
  have HY6 := Lib.hid hb
  clear hb hc hg2
  go_wp2_with fail
  (try simp only [Exit.inBlock, Exit.then])
  refine bodyPost_ret (res_cell rfl _ _ g2 32 vv rfl HY6.out (by kernel_rfl) (by kernel_rfl) HVL.out) rfl ?_
  exact ⟨by rw [HVV.out], HE6.out⟩
end Go.Proofs.Ytcmfkdfegfablaa


/- The walk of label.Decode. -/
namespace Go.Proofs.Ytcmfkdfegfablaa
open Go.RowKit
set_option linter.unusedVariables false
set_option linter.unusedSimpArgs false

/-- The label that stands in a body. -/
def labOf (b : List UInt8) : Lab := ⟨UInt32.ofNat (num ((b.drop 0).take 4)), UInt32.ofNat (num ((b.drop 4).take 4)), UInt32.ofNat (num ((b.drop 8).take 4)), UInt16.ofNat (num ((b.drop 12).take 2)), UInt16.ofNat (num ((b.drop 14).take 2))⟩
def labDec (x : List UInt8) : Lab × Int := if x = List.replicate 32 0 then (zLab, 0) else if (decR x).2 ≠ 0 ∨ labEnc (labOf (bodyOf x)) ≠ x then (zLab, 11) else (labOf (bodyOf x), 0)
theorem body_rd {w : World} {g : Nat} {b : List UInt8} (h : Bk w g (bts b)) (off n : Nat) : Rd w (some ⟨g, off, none⟩) (bts ((b.drop off).take n)) := by
  have := h.rd_at off n
  rwa [bts_drop, bts_take] at this
theorem num_part (b : List UInt8) (off n : Nat) : num ((b.drop off).take n) < 256 ^ n := by
  have h1 := num_lt ((b.drop off).take n)
  exact Nat.lt_of_lt_of_le h1 (Nat.pow_le_pow_right (by decide) (by rw [List.length_take]; omega))
theorem num32 (b : List UInt8) (off : Nat) : Value.int .u32 (num ((b.drop off).take 4) : Nat) = vu32 (UInt32.ofNat (num ((b.drop off).take 4))) := by
  have := num_part b off 4
  rw [vu32, UInt32.toNat_ofNat_of_lt' (by show _ < 4294967296; omega)]
theorem num16 (b : List UInt8) (off : Nat) : Value.int .u16 ((num ((b.drop off).take 2) : Nat) : Int) = vu16 (UInt16.ofNat (num ((b.drop off).take 2))) := by
  have := num_part b off 2
  rw [vu16, UInt16.toNat_ofNat_of_lt' (by show _ < 65536; omega)]
theorem num16m (b : List UInt8) (off : Nat) : Value.int .u16 (IntKind.u16.wrap ((num ((b.drop off).take 2) : Nat) : Int)) = vu16 (UInt16.ofNat (num ((b.drop off).take 2))) := by
  have := num_part b off 2
  rw [← num16, IntWalk.u16_in _ (by omega)]
theorem decR_errL (x : List UInt8) : (decR x).2 = 0 ∨ (decR x).2 = 11 := by
  unfold decR
  split
  · exact .inr rfl
  · exact .inl rfl
theorem decR_okL {x : List UInt8} (h : (decR x).2 = 0) : (decR x).1 = x.getD 0 0 :: bodyOf x := by
  unfold decR at *
  split
  · rename_i hh
    rw [if_pos hh] at h
    exact absurd h (by decide)
  · rfl
theorem decR_len {x : List UInt8} (h : x.length = 32) : (decR x).1.length = 30 := by
  unfold decR
  split
  · rw [List.length_replicate]
  · rw [List.length_cons, bodyOf, List.length_take, List.length_drop, h]; rfl
set_option maxRecDepth 100000 in
set_option maxHeartbeats 4000000 in
theorem labDecode_calls (x : List UInt8) (w : World) (hx : x.length = 32) :
    Calls Try.prog 31 #[.agg (bts x).toArray] w fun e w' => e = .returned (.tuple #[.agg (labC (labDec x).1).toArray, .int .i64 (labDec x).2]) ∧ Below w.heap.size w w' := by
  have HXL := Lib.hid hx
  have HBX : Hid ((bts x).length = 32) := by show _ = _; rw [bts_length, hx]
  clear hx
  go_enter Try.func31, Try.ntmps31
  go_wp2_with (refine wpList_al rfl 40 rfl (labC zLab) (by kernel_rfl) ?_)
  intro g2 w1 hg hb hc hs
  have X1 : Hid (Bk w1 w.heap.size (bts x)) := (Bk.new w (bts x) _).chg hc id
  have E1 : Hid (Below w.heap.size w w1) := ((Below.refl _ _).alloc (Nat.le_refl _) _).trans (hc.below (by simp) (fun _ _ => id))
  have G2 : Hid (w.heap.size < g2) := by show _ < _; rw [hg]; simp
  have R1 := Lib.hid hb
  clear hg hb hc hs
  by_cases hz : x = (List.replicate 32 0)
  · have HZ := Lib.hid hz
    have HD : Hid (labDec x = (zLab, 0)) := by show _ = _; rw [labDec, if_pos hz]
    clear hz
    go_wp2_with (first
      | (refine wpList_ld rfl 35 (.tmp 1) rfl w.heap.size 0 32 (bts x) (bts x) rfl X1.out (by kernel_rfl) (by kernel_rfl) (by rw [HBX.out]; decide) (by rw [List.drop_zero, ← HBX.out, List.take_length]) ?_)
      | (refine wpList_bld rfl 35 [] rfl (bts (List.replicate 32 0)) [] (bts (List.replicate 32 0)) (by kernel_rfl) (by kernel_rfl) trivial rfl ?_)
      | (refine wpList_eq_bytes rfl false 35 35 (.tmp 8) (.tmp 9) rfl 5 32 Try.underlying35 Try.underlying5 (by kernel_rfl) (by kernel_rfl) x (List.replicate 32 0) rfl rfl HXL.out (by rw [List.length_replicate]) true (by rw [HZ.out]; simp) ?_)
      | (refine wpList_bld rfl 40 [] rfl (labC zLab) [] (labC zLab) (by kernel_rfl) (by kernel_rfl) trivial rfl ?_)
      | (refine wpList_st rfl 40 (.tmp 2) (.tmp 11) rfl g2 0 5 (labC zLab) (labC zLab) rfl rfl R1.out (by kernel_rfl) rfl (by decide) (one_lab _) ?_))
    intro w2 hb hc
    rw [splice_whole _ _ rfl] at hb
    have hg2 := G2.out
    have E2 : Hid (Below w.heap.size w w2) := E1.out.trans (hc.below E1.out.size (fun _ _ => by omega))
    have R2 := Lib.hid hb
    clear hb hc hg2
    go_wp2_with fail
    (try simp only [Exit.inBlock, Exit.then])
    refine bodyPost_ret (res_cell_tmp rfl _ _ g2 5 (labC zLab) rfl R2.out (by kernel_rfl) (by kernel_rfl) rfl) rfl ?_
    exact ⟨by rw [HD.out]; rfl, E2.out⟩
  · have HZ := Lib.hid hz
    go_wp2_with (first
      | (refine wpList_ld rfl 35 (.tmp 1) rfl w.heap.size 0 32 (bts x) (bts x) rfl X1.out (by kernel_rfl) (by kernel_rfl) (by rw [HBX.out]; decide) (by rw [List.drop_zero, ← HBX.out, List.take_length]) ?_)
      | (refine wpList_bld rfl 35 [] rfl (bts (List.replicate 32 0)) [] (bts (List.replicate 32 0)) (by kernel_rfl) (by kernel_rfl) trivial rfl ?_)
      | (refine wpList_eq_bytes rfl false 35 35 (.tmp 8) (.tmp 9) rfl 5 32 Try.underlying35 Try.underlying5 (by kernel_rfl) (by kernel_rfl) x (List.replicate 32 0) rfl rfl HXL.out (by rw [List.length_replicate]) false (by rw [decide_eq_false HZ.out]; rfl) ?_))
    refine (sealDecode_calls x w1 HXL.out).mono ?_
    rintro e w2 ⟨rfl, hb⟩
    have X2 := Lib.hid (X1.out.below hb)
    have R2 := Lib.hid (R1.out.below hb)
    have E2 : Hid (Below w.heap.size w w2) := E1.out.trans (hb.mono E1.out.size)
    clear hb
    have hdl := decR_len HXL.out
    obtain ⟨dv, hdv⟩ : ∃ dv, bts (decR x).1 = dv := ⟨_, rfl⟩
    have HDL : Hid (dv.length = 30) := by show _ = _; rw [← hdv, bts_length, hdl]
    have HDO : Hid (∀ u ∈ dv, u.oneCell' = true) := by rw [← hdv]; exact one_bts _
    have HDV := Lib.hid hdv
    rw [hdv]
    clear hdv hdl
    rcases decR_errL x with he | he
    rotate_left
    · have HD : Hid (labDec x = (zLab, 11)) := by show _ = _; rw [labDec, if_neg HZ.out, if_pos (.inl (by rw [he]; decide))]
      rw [he]
      clear he hz
      go_wp2_with (refine wpList_al rfl 99 rfl (bts (List.replicate 30 0)) (by kernel_rfl) ?_)
      intro g4 w3 hg hb hc hs
      have R3 := Lib.hid (R2.out.chg hc id)
      have E3 : Hid (Below w.heap.size w w3) := E2.out.trans (hc.below E2.out.size (fun _ _ => id))
      have G4 : Hid (g2 < g4) := by show _ < _; rw [hg]; exact R2.out.lt
      have S3 := Lib.hid hb
      clear hg hb hc hs
      go_wp2_with (refine wpList_st rfl 99 (.tmp 4) (.tmp 15) rfl g4 0 30 (bts (List.replicate 30 0)) dv rfl rfl S3.out (by kernel_rfl) HDL.out (by decide) HDO.out ?_)
      intro w4 hb hc
      have hg2 := G2.out
      have hg4 := G4.out
      have R4 := Lib.hid (R3.out.chg hc (by omega))
      have E4 : Hid (Below w.heap.size w w4) := E3.out.trans (hc.below E3.out.size (fun _ _ => by omega))
      clear hb hc hg2 hg4
      go_wp2_with (first
        | (refine wpList_bld rfl 40 [] rfl (labC zLab) [] (labC zLab) (by kernel_rfl) (by kernel_rfl) trivial rfl ?_)
        | (refine wpList_st rfl 40 (.tmp 2) (.tmp 19) rfl g2 0 5 (labC zLab) (labC zLab) rfl rfl R4.out (by kernel_rfl) rfl (by decide) (one_lab _) ?_))
      intro w5 hb hc
      rw [splice_whole _ _ rfl] at hb
      have hg2 := G2.out
      have E5 : Hid (Below w.heap.size w w5) := E4.out.trans (hc.below E4.out.size (fun _ _ => by omega))
      have R5 := Lib.hid hb
      clear hb hc hg2
      go_wp2_with fail
      (try simp only [Exit.inBlock, Exit.then])
      refine bodyPost_ret (res_cell_tmp rfl _ _ g2 5 (labC zLab) rfl R5.out (by kernel_rfl) (by kernel_rfl) rfl) rfl ?_
      exact ⟨by rw [HD.out]; rfl, E5.out⟩
    · have HD : Hid (labDec x = if labEnc (labOf (bodyOf x)) ≠ x then (zLab, 11) else (labOf (bodyOf x), 0)) := by
        show _ = _
        rw [labDec, if_neg HZ.out]
        by_cases h : labEnc (labOf (bodyOf x)) ≠ x
        · rw [if_pos (.inr h), if_pos h]
        · rw [if_neg (fun hh => hh.elim (fun h2 => h2 he) h), if_neg h]
      have hok := decR_okL he
      obtain ⟨b, hb0⟩ : ∃ b, bodyOf x = b := ⟨_, rfl⟩
      have HB29 : Hid (b.length = 29) := by show _ = _; rw [← hb0, bodyOf, List.length_take, List.length_drop, HXL.out]; rfl
      have HDB : Hid ((dv.drop 1).take 29 = bts b) := by show _ = _; rw [← HDV.out, hok, hb0]; show (bts b).take 29 = bts b; rw [List.take_of_length_le (by rw [bts_length, HB29.out]; decide)]
      rw [hb0] at HD
      rw [he]
      clear he hz hok hb0
      go_wp2_with (refine wpList_al rfl 99 rfl (bts (List.replicate 30 0)) (by kernel_rfl) ?_)
      intro g4 w3 hg hb hc hs
      have X3 := Lib.hid (X2.out.chg hc id)
      have R3 := Lib.hid (R2.out.chg hc id)
      have E3 : Hid (Below w.heap.size w w3) := E2.out.trans (hc.below E2.out.size (fun _ _ => id))
      have G4 : Hid (g2 < g4) := by show _ < _; rw [hg]; exact R2.out.lt
      have S3 := Lib.hid hb
      clear hg hb hc hs
      go_wp2_with (refine wpList_st rfl 99 (.tmp 4) (.tmp 15) rfl g4 0 30 (bts (List.replicate 30 0)) dv rfl rfl S3.out (by kernel_rfl) HDL.out (by decide) HDO.out ?_)
      intro w4 hb hc
      rw [splice_whole _ _ (by rw [HDL.out]; rfl)] at hb
      have hg2 := G2.out
      have hg4 := G4.out
      have X4 := Lib.hid (X3.out.chg hc (by omega))
      have R4 := Lib.hid (R3.out.chg hc (by omega))
      have E4 : Hid (Below w.heap.size w w4) := E3.out.trans (hc.below E3.out.size (fun _ _ => by omega))
      have S4 := Lib.hid hb
      clear hb hc hg2 hg4
      go_wp2_with (first
        | (refine wpList_ld rfl 97 (.tmp 21) rfl g4 1 29 dv (bts b) rfl S4.out (by kernel_rfl) (by kernel_rfl) (by rw [HDL.out]; decide) HDB.out ?_)
        | (refine wpList_al rfl 97 rfl (bts (List.replicate 29 0)) (by kernel_rfl) ?_))
      intro g6 w5 hg hb hc hs
      have X5 := Lib.hid (X4.out.chg hc id)
      have R5 := Lib.hid (R4.out.chg hc id)
      have E5 : Hid (Below w.heap.size w w5) := E4.out.trans (hc.below E4.out.size (fun _ _ => id))
      have G6 : Hid (g2 < g6) := by show _ < _; rw [hg]; exact R4.out.lt
      have S5 := Lib.hid hb
      clear hg hb hc hs
      go_wp2_with (refine wpList_st rfl 97 (.tmp 6) (.tmp 22) rfl g6 0 29 (bts (List.replicate 29 0)) (bts b) rfl rfl S5.out (by kernel_rfl) (by rw [bts_length, HB29.out]) (by decide) (one_bts _) ?_)
      intro w6 hb hc
      rw [splice_whole _ _ (by rw [bts_length, HB29.out]; rfl)] at hb
      have hg2 := G2.out
      have hg6 := G6.out
      have X6 := Lib.hid (X5.out.chg hc (by omega))
      have R6 := Lib.hid (R5.out.chg hc (by omega))
      have E6 : Hid (Below w.heap.size w w6) := E5.out.trans (hc.below E5.out.size (fun _ _ => by omega))
      have K6 := Lib.hid hb
      clear hb hc hg2 hg6
      have HK0 := Lib.hid (num32 b 0)
      have HK1 := Lib.hid (num32 b 4)
      have HK2 := Lib.hid (num32 b 8)
      have HK3 := Lib.hid (num16m b 12)
      have HK4 := Lib.hid (num16m b 14)
      go_wp2_with fail
      apply wp_region_rel 14 (Chg NoS) [(Veq _), (Veq _), (Veq _), (Veq _), (Veq _), (Veq _), (Veq _), (Veq _), (Veq _), (Veq _), (Veq _), (Veq _), (Veq _), (PtrAt NoS w6.heap.size (labC zLab))] [[], [0], [], [2], [], [4], [], [6], [7], [], [9], [10], [1, 3, 5, 8, 11], []] [23, 24, 25, 26, 27, 28, 29, 30, 31, 32, 33, 34, 35, 7] (by kernel_rfl) (by kernel_rfl) rfl rfl rfl Chg.refl (fun _ _ _ => Chg.trans) ⟨Veq.lasts, Veq.lasts, Veq.lasts, Veq.lasts, Veq.lasts, Veq.lasts, Veq.lasts, Veq.lasts, Veq.lasts, Veq.lasts, Veq.lasts, Veq.lasts, Veq.lasts, PtrAt.lasts, trivial⟩ ?aops ?afin
      case aops =>
        refine ⟨?ao0, ?ao1, ?ao2, ?ao3, ?ao4, ?ao5, ?ao6, ?ao7, ?ao8, ?ao9, ?ao10, ?ao11, ?ao12, ?ao13, trivial⟩
        case ao0 =>
          intro a wx hE hin
          have i6 : a.eval (.tmp 6) = .pointer (some ⟨g6, 0, none⟩) := hin 6 rfl
          clear hin
          have hcst : ∀ v, a.eval (.const v) = v := fun _ => rfl
          have hfnc : ∀ f, a.eval (.func f) = .func (.func f) #[] #[] := fun _ => rfl
          refine want_none rfl ?_
          unfold Oper.wp
          generalize a.eval = ρ at *
          go_simp
          try go_bits
          first | exact rel_val (Chg.refl _) | (go_simp; exact rel_val (Chg.refl _))
        case ao1 =>
          rintro a wx hE hin (h0 : a.eval (.tmp 23) = _)
          clear hin
          have hcst : ∀ v, a.eval (.const v) = v := fun _ => rfl
          have hfnc : ∀ f, a.eval (.func f) = .func (.func f) #[] #[] := fun _ => rfl
          refine want_none rfl ?_
          unfold Oper.wp
          generalize a.eval = ρ at *
          go_simp
          refine (number_calls ((b.drop 0).take 4) _ 4 _ wx (by rw [List.length_take, List.length_drop, HB29.out]; decide) (by decide) (body_rd ((K6.out.drew).chg hE id) 0 4)).mono ?_
          rintro e w' ⟨rfl, rfl⟩
          exact rel_val (Chg.refl _)
        case ao2 =>
          intro a wx hE hin
          have i6 : a.eval (.tmp 6) = .pointer (some ⟨g6, 0, none⟩) := hin 6 rfl
          clear hin
          have hcst : ∀ v, a.eval (.const v) = v := fun _ => rfl
          have hfnc : ∀ f, a.eval (.func f) = .func (.func f) #[] #[] := fun _ => rfl
          refine want_none rfl ?_
          unfold Oper.wp
          generalize a.eval = ρ at *
          go_simp
          try go_bits
          first | exact rel_val (Chg.refl _) | (go_simp; exact rel_val (Chg.refl _))
        case ao3 =>
          rintro a wx hE hin (h2 : a.eval (.tmp 25) = _)
          clear hin
          have hcst : ∀ v, a.eval (.const v) = v := fun _ => rfl
          have hfnc : ∀ f, a.eval (.func f) = .func (.func f) #[] #[] := fun _ => rfl
          refine want_none rfl ?_
          unfold Oper.wp
          generalize a.eval = ρ at *
          go_simp
          refine (number_calls ((b.drop 4).take 4) _ 4 _ wx (by rw [List.length_take, List.length_drop, HB29.out]; decide) (by decide) (body_rd ((K6.out.drew).chg hE id) 4 4)).mono ?_
          rintro e w' ⟨rfl, rfl⟩
          exact rel_val (Chg.refl _)
        case ao4 =>
          intro a wx hE hin
          have i6 : a.eval (.tmp 6) = .pointer (some ⟨g6, 0, none⟩) := hin 6 rfl
          clear hin
          have hcst : ∀ v, a.eval (.const v) = v := fun _ => rfl
          have hfnc : ∀ f, a.eval (.func f) = .func (.func f) #[] #[] := fun _ => rfl
          refine want_none rfl ?_
          unfold Oper.wp
          generalize a.eval = ρ at *
          go_simp
          try go_bits
          first | exact rel_val (Chg.refl _) | (go_simp; exact rel_val (Chg.refl _))
        case ao5 =>
          rintro a wx hE hin (h4 : a.eval (.tmp 27) = _)
          clear hin
          have hcst : ∀ v, a.eval (.const v) = v := fun _ => rfl
          have hfnc : ∀ f, a.eval (.func f) = .func (.func f) #[] #[] := fun _ => rfl
          refine want_none rfl ?_
          unfold Oper.wp
          generalize a.eval = ρ at *
          go_simp
          refine (number_calls ((b.drop 8).take 4) _ 4 _ wx (by rw [List.length_take, List.length_drop, HB29.out]; decide) (by decide) (body_rd ((K6.out.drew).chg hE id) 8 4)).mono ?_
          rintro e w' ⟨rfl, rfl⟩
          exact rel_val (Chg.refl _)
        case ao6 =>
          intro a wx hE hin
          have i6 : a.eval (.tmp 6) = .pointer (some ⟨g6, 0, none⟩) := hin 6 rfl
          clear hin
          have hcst : ∀ v, a.eval (.const v) = v := fun _ => rfl
          have hfnc : ∀ f, a.eval (.func f) = .func (.func f) #[] #[] := fun _ => rfl
          refine want_none rfl ?_
          unfold Oper.wp
          generalize a.eval = ρ at *
          go_simp
          try go_bits
          first | exact rel_val (Chg.refl _) | (go_simp; exact rel_val (Chg.refl _))
        case ao7 =>
          rintro a wx hE hin (h6 : a.eval (.tmp 29) = _)
          clear hin
          have hcst : ∀ v, a.eval (.const v) = v := fun _ => rfl
          have hfnc : ∀ f, a.eval (.func f) = .func (.func f) #[] #[] := fun _ => rfl
          refine want_none rfl ?_
          unfold Oper.wp
          generalize a.eval = ρ at *
          go_simp
          refine (number_calls ((b.drop 12).take 2) _ 2 _ wx (by rw [List.length_take, List.length_drop, HB29.out]; decide) (by decide) (body_rd ((K6.out.drew).chg hE id) 12 2)).mono ?_
          rintro e w' ⟨rfl, rfl⟩
          exact rel_val (Chg.refl _)
        case ao8 =>
          rintro a wx hE hin (h7 : a.eval (.tmp 30) = _)
          clear hin
          have hcst : ∀ v, a.eval (.const v) = v := fun _ => rfl
          have hfnc : ∀ f, a.eval (.func f) = .func (.func f) #[] #[] := fun _ => rfl
          refine want_none rfl ?_
          unfold Oper.wp
          generalize a.eval = ρ at *
          go_simp
          try go_bits
          first | exact rel_val (Chg.refl _) | (go_simp; exact rel_val (Chg.refl _))
        case ao9 =>
          intro a wx hE hin
          have i6 : a.eval (.tmp 6) = .pointer (some ⟨g6, 0, none⟩) := hin 6 rfl
          clear hin
          have hcst : ∀ v, a.eval (.const v) = v := fun _ => rfl
          have hfnc : ∀ f, a.eval (.func f) = .func (.func f) #[] #[] := fun _ => rfl
          refine want_none rfl ?_
          unfold Oper.wp
          generalize a.eval = ρ at *
          go_simp
          try go_bits
          first | exact rel_val (Chg.refl _) | (go_simp; exact rel_val (Chg.refl _))
        case ao10 =>
          rintro a wx hE hin (h9 : a.eval (.tmp 32) = _)
          clear hin
          have hcst : ∀ v, a.eval (.const v) = v := fun _ => rfl
          have hfnc : ∀ f, a.eval (.func f) = .func (.func f) #[] #[] := fun _ => rfl
          refine want_none rfl ?_
          unfold Oper.wp
          generalize a.eval = ρ at *
          go_simp
          refine (number_calls ((b.drop 14).take 2) _ 2 _ wx (by rw [List.length_take, List.length_drop, HB29.out]; decide) (by decide) (body_rd ((K6.out.drew).chg hE id) 14 2)).mono ?_
          rintro e w' ⟨rfl, rfl⟩
          exact rel_val (Chg.refl _)
        case ao11 =>
          rintro a wx hE hin (h10 : a.eval (.tmp 33) = _)
          clear hin
          have hcst : ∀ v, a.eval (.const v) = v := fun _ => rfl
          have hfnc : ∀ f, a.eval (.func f) = .func (.func f) #[] #[] := fun _ => rfl
          refine want_none rfl ?_
          unfold Oper.wp
          generalize a.eval = ρ at *
          go_simp
          try go_bits
          first | exact rel_val (Chg.refl _) | (go_simp; exact rel_val (Chg.refl _))
        case ao12 =>
          rintro a wx hE hin (h1 : a.eval (.tmp 24) = _) (h3 : a.eval (.tmp 26) = _) (h5 : a.eval (.tmp 28) = _) (h8 : a.eval (.tmp 31) = _) (h11 : a.eval (.tmp 34) = _)
          clear hin
          have hcst : ∀ v, a.eval (.const v) = v := fun _ => rfl
          have hfnc : ∀ f, a.eval (.func f) = .func (.func f) #[] #[] := fun _ => rfl
          refine want_none rfl ?_
          exact wp_bld 40 [(0, .tmp 24), (1, .tmp 26), (2, .tmp 28), (3, .tmp 31), (4, .tmp 34)] rfl (labC zLab) [(0, [vu32 (labOf b).e]), (1, [vu32 (labOf b).s]), (2, [vu32 (labOf b).n]), (3, [vu16 (labOf b).d]), (4, [vu16 (labOf b).la])] (labC (labOf b)) (by kernel_rfl) (by kernel_rfl)
            ⟨by rw [h1, HK0.out]; rfl, ⟨1, rfl, by kernel_rfl, by decide⟩, by rw [h3, HK1.out]; rfl, ⟨1, rfl, by kernel_rfl, by decide⟩, by rw [h5, HK2.out]; rfl, ⟨1, rfl, by kernel_rfl, by decide⟩, by rw [h8, HK3.out]; rfl, ⟨1, rfl, by kernel_rfl, by decide⟩, by rw [h11, HK4.out]; rfl, ⟨1, rfl, by kernel_rfl, by decide⟩, trivial⟩ rfl (rel_val (Chg.refl _))
        case ao13 =>
          intro a wx hE hin
          clear hin
          have hcst : ∀ v, a.eval (.const v) = v := fun _ => rfl
          have hfnc : ∀ f, a.eval (.func f) = .func (.func f) #[] #[] := fun _ => rfl
          refine want_none rfl ?_
          exact wp_al 40 rfl (labC zLab) (by kernel_rfl) ⟨_, rfl, ⟨_, rfl, hE.size, id, Bk.new wx _ _⟩, (Chg.refl _).alloc _⟩
      case afin =>
        intro wx hE
        rintro _ rfl _ rfl _ rfl _ rfl _ rfl _ rfl _ rfl _ rfl _ rfl _ rfl _ rfl _ rfl _ rfl _ ⟨g7, rfl, p7, n7, b7⟩
        simp only [FinOk, List.take_succ_cons, List.take_zero, List.take_nil, List.drop_succ_cons, List.drop_zero, List.drop_nil, Act.put, List.setIfInBounds_toArray, List.set_cons_succ, List.set_cons_zero]
        have K7 : Hid (Bk wx w.heap.size (bts x)) := (X6.out.drew).chg hE id
        have R7 : Hid (Bk wx g2 (labC zLab)) := (R6.out.drew).chg hE id
        have E7 : Hid (Below w.heap.size w wx) := E6.out.trans ((hE.undrew).below (B := w.heap.size) E6.out.size (fun _ _ => id))
        have L7 := Lib.hid b7
        have P7 := Lib.hid p7
        clear hE b7 p7 n7
        obtain ⟨k, hk⟩ : ∃ k, labOf b = k := ⟨_, rfl⟩
        rw [hk] at HD ⊢
        have hg7 : g2 < g7 := Nat.lt_of_lt_of_le R6.out.lt P7.out
        have G7 := Lib.hid hg7
        clear hk hg7 HK0 HK1 HK2 HK3 HK4
        go_wp2_with (refine wpList_st rfl 40 (.tmp 7) (.tmp 35) rfl g7 0 5 (labC zLab) (labC k) rfl rfl L7.out (by kernel_rfl) rfl (by decide) (one_lab _) ?_)
        intro w8 hb hc
        rw [splice_whole (labC zLab) (labC k) rfl] at hb
        have hg2 := G2.out
        have hg7 := G7.out
        have X8 := Lib.hid (K7.out.chg hc (by omega))
        have R8 := Lib.hid (R7.out.chg hc (by omega))
        have E8 : Hid (Below w.heap.size w w8) := E7.out.trans (hc.below E7.out.size (fun _ _ => by omega))
        have L8 := Lib.hid hb
        clear hb hc hg2 hg7
        go_wp2_with fail
        by_cases hq : labEnc k = x
        · have HQ := Lib.hid hq
          clear hq
          apply wp_region_rel 4 (Chg NoS) [(Veq _), (Veq _), (Veq _), (Veq _)] [[], [0], [], [1, 2]] [36, 37, 38, 39] (by kernel_rfl) (by kernel_rfl) rfl rfl rfl Chg.refl (fun _ _ _ => Chg.trans) ⟨Veq.lasts, Veq.lasts, Veq.lasts, Veq.lasts, trivial⟩ ?bops ?bfin
          case bops =>
            refine ⟨?bo0, ?bo1, ?bo2, ?bo3, trivial⟩
            case bo0 =>
              intro a wx hE hin
              have i7 : a.eval (.tmp 7) = .pointer (some ⟨g7, 0, none⟩) := hin 7 rfl
              clear hin
              have hcst : ∀ v, a.eval (.const v) = v := fun _ => rfl
              have hfnc : ∀ f, a.eval (.func f) = .func (.func f) #[] #[] := fun _ => rfl
              refine want_none rfl ?_
              exact wp_ld 40 _ rfl g7 0 5 (labC k) (labC k) i7 ((L8.out.drew).chg hE id) (by kernel_rfl) (by kernel_rfl) (Nat.le_refl _) rfl (rel_val (Chg.refl _))
            case bo1 =>
              rintro a wx hE hin (h0 : a.eval (.tmp 36) = _)
              clear hin
              have hcst : ∀ v, a.eval (.const v) = v := fun _ => rfl
              have hfnc : ∀ f, a.eval (.func f) = .func (.func f) #[] #[] := fun _ => rfl
              refine want_none rfl ?_
              unfold Oper.wp
              generalize a.eval = ρ at *
              go_simp
              refine (labEncode_calls k wx).mono ?_
              rintro e w' ⟨rfl, hb⟩
              exact rel_val (.of_below hb)
            case bo2 =>
              intro a wx hE hin
              have i1 : a.eval (.tmp 1) = .pointer (some ⟨w.heap.size, 0, none⟩) := hin 1 rfl
              clear hin
              have hcst : ∀ v, a.eval (.const v) = v := fun _ => rfl
              have hfnc : ∀ f, a.eval (.func f) = .func (.func f) #[] #[] := fun _ => rfl
              refine want_none rfl ?_
              exact wp_ld 35 _ rfl w.heap.size 0 32 (bts x) (bts x) i1 ((X8.out.drew).chg hE id) (by kernel_rfl) (by kernel_rfl) (by rw [HBX.out]; decide) (by rw [List.drop_zero, ← HBX.out, List.take_length]) (rel_val (Chg.refl _))
            case bo3 =>
              rintro a wx hE hin (h1 : a.eval (.tmp 37) = _) (h2 : a.eval (.tmp 38) = _)
              clear hin
              have hcst : ∀ v, a.eval (.const v) = v := fun _ => rfl
              have hfnc : ∀ f, a.eval (.func f) = .func (.func f) #[] #[] := fun _ => rfl
              refine want_none rfl ?_
              exact wp_eq_bytes true 35 35 _ _ rfl 5 32 Try.underlying35 Try.underlying5 (by kernel_rfl) (by kernel_rfl) (labEnc k) x h1 h2 (labEnc_length k) HXL.out (by rw [show (true ^^ decide (labEnc k = x)) = false by simp [HQ.out]]; exact rel_val (e := .bool false) (Chg.refl _))
          case bfin =>
            intro wx hE
            rintro _ rfl _ rfl _ rfl _ rfl
            simp only [FinOk, List.take_succ_cons, List.take_zero, List.take_nil, List.drop_succ_cons, List.drop_zero, List.drop_nil, Act.put, List.setIfInBounds_toArray, List.set_cons_succ, List.set_cons_zero]
            have R9 : Hid (Bk wx g2 (labC zLab)) := (R8.out.drew).chg hE id
            have L9 : Hid (Bk wx g7 (labC k)) := (L8.out.drew).chg hE id
            have E9 : Hid (Below w.heap.size w wx) := E8.out.trans ((hE.undrew).below (B := w.heap.size) E8.out.size (fun _ _ => id))
            clear hE
            go_wp2_with (first
              | (refine wpList_ld rfl 40 (.tmp 7) rfl g7 0 5 (labC k) (labC k) rfl L9.out (by kernel_rfl) (by kernel_rfl) (Nat.le_refl _) rfl ?_)
              | (refine wpList_st rfl 40 (.tmp 2) (.tmp 41) rfl g2 0 5 (labC zLab) (labC k) rfl rfl R9.out (by kernel_rfl) rfl (by decide) (one_lab _) ?_))
            intro w9 hb hc
            rw [splice_whole (labC zLab) (labC k) rfl] at hb
            have hg2 := G2.out
            have E10 : Hid (Below w.heap.size w w9) := E9.out.trans (hc.below E9.out.size (fun _ _ => by omega))
            have R10 := Lib.hid hb
            clear hb hc hg2
            go_wp2_with fail
            (try simp only [Exit.inBlock, Exit.then])
            refine bodyPost_ret (res_cell_tmp rfl _ _ g2 5 (labC k) rfl R10.out (by kernel_rfl) (by kernel_rfl) rfl) rfl ?_
            exact ⟨by rw [HD.out, if_neg (fun h => h HQ.out)]; rfl, E10.out⟩
        · have HQ := Lib.hid hq
          clear hq
          apply wp_region_rel 4 (Chg NoS) [(Veq _), (Veq _), (Veq _), (Veq _)] [[], [0], [], [1, 2]] [36, 37, 38, 39] (by kernel_rfl) (by kernel_rfl) rfl rfl rfl Chg.refl (fun _ _ _ => Chg.trans) ⟨Veq.lasts, Veq.lasts, Veq.lasts, Veq.lasts, trivial⟩ ?cops ?cfin
          case cops =>
            refine ⟨?co0, ?co1, ?co2, ?co3, trivial⟩
            case co0 =>
              intro a wx hE hin
              have i7 : a.eval (.tmp 7) = .pointer (some ⟨g7, 0, none⟩) := hin 7 rfl
              clear hin
              have hcst : ∀ v, a.eval (.const v) = v := fun _ => rfl
              have hfnc : ∀ f, a.eval (.func f) = .func (.func f) #[] #[] := fun _ => rfl
              refine want_none rfl ?_
              exact wp_ld 40 _ rfl g7 0 5 (labC k) (labC k) i7 ((L8.out.drew).chg hE id) (by kernel_rfl) (by kernel_rfl) (Nat.le_refl _) rfl (rel_val (Chg.refl _))
            case co1 =>
              rintro a wx hE hin (h0 : a.eval (.tmp 36) = _)
              clear hin
              have hcst : ∀ v, a.eval (.const v) = v := fun _ => rfl
              have hfnc : ∀ f, a.eval (.func f) = .func (.func f) #[] #[] := fun _ => rfl
              refine want_none rfl ?_
              unfold Oper.wp
              generalize a.eval = ρ at *
              go_simp
              refine (labEncode_calls k wx).mono ?_
              rintro e w' ⟨rfl, hb⟩
              exact rel_val (.of_below hb)
            case co2 =>
              intro a wx hE hin
              have i1 : a.eval (.tmp 1) = .pointer (some ⟨w.heap.size, 0, none⟩) := hin 1 rfl
              clear hin
              have hcst : ∀ v, a.eval (.const v) = v := fun _ => rfl
              have hfnc : ∀ f, a.eval (.func f) = .func (.func f) #[] #[] := fun _ => rfl
              refine want_none rfl ?_
              exact wp_ld 35 _ rfl w.heap.size 0 32 (bts x) (bts x) i1 ((X8.out.drew).chg hE id) (by kernel_rfl) (by kernel_rfl) (by rw [HBX.out]; decide) (by rw [List.drop_zero, ← HBX.out, List.take_length]) (rel_val (Chg.refl _))
            case co3 =>
              rintro a wx hE hin (h1 : a.eval (.tmp 37) = _) (h2 : a.eval (.tmp 38) = _)
              clear hin
              have hcst : ∀ v, a.eval (.const v) = v := fun _ => rfl
              have hfnc : ∀ f, a.eval (.func f) = .func (.func f) #[] #[] := fun _ => rfl
              refine want_none rfl ?_
              exact wp_eq_bytes true 35 35 _ _ rfl 5 32 Try.underlying35 Try.underlying5 (by kernel_rfl) (by kernel_rfl) (labEnc k) x h1 h2 (labEnc_length k) HXL.out (by rw [show (true ^^ decide (labEnc k = x)) = true by simp [HQ.out]]; exact rel_val (e := .bool true) (Chg.refl _))
          case cfin =>
            intro wx hE
            rintro _ rfl _ rfl _ rfl _ rfl
            simp only [FinOk, List.take_succ_cons, List.take_zero, List.take_nil, List.drop_succ_cons, List.drop_zero, List.drop_nil, Act.put, List.setIfInBounds_toArray, List.set_cons_succ, List.set_cons_zero]
            have R9 : Hid (Bk wx g2 (labC zLab)) := (R8.out.drew).chg hE id
            have L9 : Hid (Bk wx g7 (labC k)) := (L8.out.drew).chg hE id
            have E9 : Hid (Below w.heap.size w wx) := E8.out.trans ((hE.undrew).below (B := w.heap.size) E8.out.size (fun _ _ => id))
            clear hE
            go_wp2_with (first
              | (refine wpList_bld rfl 40 [] rfl (labC zLab) [] (labC zLab) (by kernel_rfl) (by kernel_rfl) trivial rfl ?_)
              | (refine wpList_st rfl 40 (.tmp 2) (.tmp 40) rfl g2 0 5 (labC zLab) (labC zLab) rfl rfl R9.out (by kernel_rfl) rfl (by decide) (one_lab _) ?_))
            intro w9 hb hc
            rw [splice_whole (labC zLab) (labC zLab) rfl] at hb
            have hg2 := G2.out
            have E10 : Hid (Below w.heap.size w w9) := E9.out.trans (hc.below E9.out.size (fun _ _ => by omega))
            have R10 := Lib.hid hb
            clear hb hc hg2
            go_wp2_with fail
            (try simp only [Exit.inBlock, Exit.then])
            refine bodyPost_ret (res_cell_tmp rfl _ _ g2 5 (labC zLab) rfl R10.out (by kernel_rfl) (by kernel_rfl) rfl) rfl ?_
            exact ⟨by rw [HD.out, if_pos HQ.out]; rfl, E10.out⟩
end Go.Proofs.Ytcmfkdfegfablaa


/- The walks of Later and of Bits. -/
namespace Go.Proofs.Ytcmfkdfegfablaa
open Go.RowKit
set_option linter.unusedVariables false
set_option linter.unusedSimpArgs false

def laterB (e s t n : UInt32) : Bool := decide (t.toNat < e.toNat) || (decide (e.toNat = t.toNat) && decide (n.toNat < s.toNat))
set_option maxHeartbeats 1000000 in
theorem later_calls (e s t n : UInt32) (w : World) :
    Calls Try.prog 41 #[vu32 e, vu32 s, vu32 t, vu32 n] w fun en w' => en = .returned (.bool (laterB e s t n)) ∧ w = w' := by
  unfold laterB vu32
  generalize e.toNat = a
  generalize s.toNat = b
  generalize t.toNat = c
  generalize n.toNat = d
  by_cases h1 : c < a
  · have h1i : (c : Int) < (a : Int) := by omega
    go_enter Try.func41, Try.ntmps41
    go_wp2
    go_ret
    exact ⟨by simp [h1], rfl⟩
  · have h1i : ¬ ((c : Int) < (a : Int)) := by omega
    by_cases h2 : a = c
    · subst h2
      go_enter Try.func41, Try.ntmps41
      go_wp2
      go_ret
      exact ⟨by simp, rfl⟩
    · have h2i : ((a : Int) == (c : Int)) = false := by rw [beq_eq_false_iff_ne]; omega
      go_enter Try.func41, Try.ntmps41
      go_wp2
      go_ret
      exact ⟨by simp [h1, h2], rfl⟩
end Go.Proofs.Ytcmfkdfegfablaa


/- The walk of label.Bits (no label in sight). -/
namespace Go.Proofs.Ytcmfkdfegfablaa
open Go.RowKit
set_option linter.unusedVariables false
set_option linter.unusedSimpArgs false

def bitOf (p : PutV) : Nat := if 0 ≤ p.at_ ∧ p.at_ < 12 then 2 ^ p.at_.toNat else 0
def bitsN (ps : List PutV) : Nat := ps.foldl (fun v p => v ||| bitOf p) 0
theorem bitOf_lt (p : PutV) : bitOf p < 4096 := by
  unfold bitOf
  split
  · rename_i h
    have : p.at_.toNat ≤ 11 := by omega
    have := Nat.pow_le_pow_right (show 0 < 2 by decide) this
    omega
  · decide
theorem bitsN_take (ps : List PutV) (k : Nat) (h : k < ps.length) : bitsN (ps.take (k + 1)) = bitsN (ps.take k) ||| bitOf ps[k] := by
  rw [bitsN, bitsN, List.take_succ_eq_append_getElem h, List.foldl_append]
  rfl
theorem bitsN_snoc (ps : List PutV) (p : PutV) : bitsN (ps ++ [p]) = bitsN ps ||| bitOf p := by
  rw [bitsN, bitsN, List.foldl_append]
  rfl
theorem bitsN_append (ps qs : List PutV) : bitsN (ps ++ qs) = bitsN ps ||| bitsN qs := by
  have : ∀ (l : List PutV) (v : Nat), l.foldl (fun v p => v ||| bitOf p) v = v ||| l.foldl (fun v p => v ||| bitOf p) 0 := by
    intro l
    induction l with
    | nil => intro v; simp
    | cons p l ih =>
      intro v
      rw [List.foldl_cons, List.foldl_cons, ih, ih (0 ||| bitOf p), Nat.zero_or, Nat.or_assoc]
  rw [bitsN, List.foldl_append, this]
  rfl
theorem bitsN_lt (ps : List PutV) : bitsN ps < 4096 := by
  unfold bitsN
  suffices h : ∀ (l : List PutV) (v : Nat), v < 4096 → l.foldl (fun v p => v ||| bitOf p) v < 4096 from h ps 0 (by decide)
  intro l
  induction l with
  | nil => intro v h; exact h
  | cons p l ih => intro v h; exact ih _ (Nat.or_lt_two_pow (n := 12) h (bitOf_lt p))
theorem bits_or16 (m q : Nat) (hm : m < 4096) (hq : q < 12) : Go.bits .or .u16 (m : Int) (IntKind.u16.wrap ((2 : Int) ^ q)) = ((m ||| 2 ^ q : Nat) : Int) := by
  have h2 : ((2 : Int) ^ q) = ((2 ^ q : Nat) : Int) := by push_cast; rfl
  have h3 : 2 ^ q ≤ 2 ^ 11 := Nat.pow_le_pow_right (by decide) (by omega)
  rw [h2]
  generalize 2 ^ q = z at h3
  rw [IntWalk.u16_in _ (by omega)]
  exact (bits_u16 m z (by omega) (by omega)).2.2
def BitsRel (w : World) (ps : List PutV) (v3 v8 : Value) (wr : World) : Prop := ∃ k : Nat, k ≤ ps.length ∧ v8 = .int .i64 k ∧ v3 = .int .u16 (bitsN (ps.take k) : Nat) ∧ Below w.heap.size w wr
set_option maxRecDepth 100000 in
set_option maxHeartbeats 2000000 in
theorem bits_calls (ps : List PutV) (A : Option Addr) (n c : Nat) (w : World) (hl : ps.length = n) (hm : n ≤ 9223372036854775807) (hr : Rd w A (ps.flatMap putC)) (ho : PutsOk ps) :
    Calls Try.prog 49 #[.slice A n c] w fun e w' => e = .returned (.int .u16 (bitsN ps : Nat)) ∧ Below w.heap.size w w' := by
  subst hl
  have HR := Lib.hid hr
  have HO := Lib.hid ho
  have H0 : Hid (BitsRel w ps (.int .u16 0) (.int .i64 0) w) := ⟨0, Nat.zero_le _, rfl, rfl, Below.refl _ _⟩
  clear hr ho
  go_enter Try.func49, Try.ntmps49
  go_wp2_with fail
  go_loopw [3, 8] (fun v3 v8 wr => BitsRel w ps v3 v8 wr) (fun _ v8 _ => ps.length - (intOf v8).toNat)
  case atStart => exact H0.out
  case round =>
    obtain ⟨k, hk, rfl, hv3, hb⟩ := hrel
    obtain ⟨m, hmm⟩ : ∃ m, bitsN (ps.take k) = m := ⟨_, rfl⟩
    rw [hmm] at hv3
    subst hv3
    have HM := Lib.hid hmm
    have HB := Lib.hid hb
    clear hmm hb H0
    by_cases hlt : k < ps.length
    · have hki : (k : Int) < (ps.length : Int) := by omega
      have hrr := HR.out.below HB.out
      obtain ⟨ad, hA⟩ := puts_some hrr hlt
      subst hA
      have hpr := put_rd hrr HO.out hlt
      have hpo := HO.out _ (List.getElem_mem hlt)
      have hnx := bitsN_take ps k hlt
      obtain ⟨p, hp⟩ : ∃ p, ps[k] = p := ⟨_, rfl⟩
      rw [hp] at hpr hpo hnx
      rw [HM.out] at hnx
      have HPR := Lib.hid hpr
      have HPL := Lib.hid (putC_len hpo.1)
      have HNX := Lib.hid hnx
      have hml : m < 4096 := by rw [← HM.out]; exact bitsN_lt _
      clear hp hpr hpo hnx hrr
      go_wp2_with (first
        | (refine wpList_ldr2 rfl 54 (.tmp 10) rfl (ad.add (k * 33)) 33 (putC p) rfl HPR.out (by kernel_rfl) (by kernel_rfl) HPL.out ?_)
        | (refine wpList_al rfl 54 rfl (.int .i64 0 :: bts (List.replicate 32 0)) (by kernel_rfl) ?_))
      intro g5 w2 hg hb hc hs
      have HB2 : Hid (Below w.heap.size w w2) := HB.out.trans (hc.below HB.out.size (fun _ _ => id))
      have HG5 : Hid (w.heap.size ≤ g5) := by show _ ≤ _; rw [hg]; exact HB.out.size
      have K2 := Lib.hid hb
      clear hb hc hs hg
      go_wp2_with (refine wpList_st rfl 54 (.tmp 5) (.tmp 11) rfl g5 0 33 (.int .i64 0 :: bts (List.replicate 32 0)) (putC p) rfl rfl K2.out (by kernel_rfl) HPL.out (by decide) (one_put p) ?_)
      intro w3 hb hc
      rw [splice_whole _ _ (by rw [HPL.out]; rfl)] at hb
      have hg5 := HG5.out
      have HB3 : Hid (Below w.heap.size w w3) := HB2.out.trans (hc.below HB2.out.size (fun _ _ => by omega))
      have c0 := hb.cell (j := 0) rfl
      clear hb hc hg5 K2 HPR HPL
      by_cases h0 : 0 ≤ p.at_
      · by_cases h12 : p.at_ < 12
        · obtain ⟨q, hq⟩ := Int.eq_ofNat_of_zero_le h0
          rw [hq] at c0 h12
          have hq12 : q < 12 := by omega
          have hbo : bitOf p = 2 ^ q := by rw [bitOf, if_pos ⟨h0, by rw [hq]; exact h12⟩, hq]; rfl
          rw [hbo] at HNX
          clear hbo h0 hq
          have hor := bits_or16 m q hml hq12
          go_wp2_with fail
          go_roundw
          case rel => exact ⟨k + 1, by omega, by go_num, by rw [HNX.out], HB3.out⟩
          case measure => simp [intOf]; omega
        · have hbo : bitOf p = 0 := by rw [bitOf, if_neg (fun hh => h12 hh.2)]
          have HBO := Lib.hid hbo
          clear hbo
          go_wp2_with fail
          go_roundw
          case rel => exact ⟨k + 1, by omega, by go_num, by rw [HNX.out, HBO.out, Nat.or_zero], HB3.out⟩
          case measure => simp [intOf]; omega
      · have hbo : bitOf p = 0 := by rw [bitOf, if_neg (fun hh => h0 hh.1)]
        have HBO := Lib.hid hbo
        have h0n : p.at_ < 0 := by omega
        clear hbo
        go_wp2_with fail
        go_roundw
        case rel => exact ⟨k + 1, by omega, by go_num, by rw [HNX.out, HBO.out, Nat.or_zero], HB3.out⟩
        case measure => simp [intOf]; omega
    · have hke : k = ps.length := by omega
      have hki : ¬ ((k : Int) < (ps.length : Int)) := by omega
      have HF : Hid (bitsN ps = m) := by show _ = _; rw [← HM.out, hke, List.take_length]
      go_wp2
      go_ret
      exact ⟨by rw [HF.out]; rfl, HB.out⟩
set_option maxRecDepth 100000 in
set_option maxHeartbeats 2000000 in
theorem refBits_calls (ps : List PutV) (A : Option Addr) (n c : Nat) (w : World) (hl : ps.length = n) (hm : n ≤ 9223372036854775807) (hr : Rd w A (ps.flatMap putC)) (ho : PutsOk ps) :
    Calls Try.prog 22 #[.slice A n c] w fun e w' => e = .returned (.int .u16 (bitsN ps : Nat)) ∧ w = w' := by
  subst hl
  have HR := Lib.hid hr
  have HO := Lib.hid ho
  clear hr ho
  go_enter Try.func22, Try.ntmps22
  go_wp2_with fail
  go_loop [3, 4] (fun v3 v4 => ∃ k : Nat, k ≤ ps.length ∧ v4 = .int .i64 k ∧ v3 = .int .u16 (bitsN (ps.take k) : Nat)) (fun _ v4 => ps.length - (intOf v4).toNat)
  case atStart => exact ⟨0, Nat.zero_le _, rfl, rfl⟩
  case round =>
    obtain ⟨k, hk, rfl, hv3⟩ := hrel
    obtain ⟨m, hmm⟩ : ∃ m, bitsN (ps.take k) = m := ⟨_, rfl⟩
    rw [hmm] at hv3
    subst hv3
    have HM := Lib.hid hmm
    clear hmm
    by_cases hlt : k < ps.length
    · have hki : (k : Int) < (ps.length : Int) := by omega
      obtain ⟨ad, hA⟩ := puts_some HR.out hlt
      subst hA
      have c0 := put_at HR.out HO.out hlt
      have hnx := bitsN_take ps k hlt
      obtain ⟨p, hp⟩ : ∃ p, ps[k] = p := ⟨_, rfl⟩
      rw [hp] at c0 hnx
      rw [HM.out] at hnx
      have HNX := Lib.hid hnx
      have hml : m < 4096 := by rw [← HM.out]; exact bitsN_lt _
      clear hp hnx
      by_cases h0 : 0 ≤ p.at_
      · by_cases h12 : p.at_ < 12
        · obtain ⟨q, hq⟩ := Int.eq_ofNat_of_zero_le h0
          rw [hq] at c0 h12
          have hq12 : q < 12 := by omega
          have hbo : bitOf p = 2 ^ q := by rw [bitOf, if_pos ⟨h0, by rw [hq]; exact h12⟩, hq]; rfl
          rw [hbo] at HNX
          clear hbo h0 hq
          have hor := bits_or16 m q hml hq12
          go_wp2_with fail
          go_round
          case rel => exact ⟨k + 1, by omega, by go_num, by rw [HNX.out]⟩
          case measure => simp [intOf]; omega
        · have hbo : bitOf p = 0 := by rw [bitOf, if_neg (fun hh => h12 hh.2)]
          have HBO := Lib.hid hbo
          clear hbo
          go_wp2_with fail
          go_round
          case rel => exact ⟨k + 1, by omega, by go_num, by rw [HNX.out, HBO.out, Nat.or_zero]⟩
          case measure => simp [intOf]; omega
      · have hbo : bitOf p = 0 := by rw [bitOf, if_neg (fun hh => h0 hh.1)]
        have HBO := Lib.hid hbo
        have h0n : p.at_ < 0 := by omega
        clear hbo
        go_wp2_with fail
        go_round
        case rel => exact ⟨k + 1, by omega, by go_num, by rw [HNX.out, HBO.out, Nat.or_zero]⟩
        case measure => simp [intOf]; omega
    · have hke : k = ps.length := by omega
      have hki : ¬ ((k : Int) < (ps.length : Int)) := by omega
      have HF : Hid (bitsN ps = m) := by show _ = _; rw [← HM.out, hke, List.take_length]
      go_wp2
      go_ret
      exact ⟨by rw [HF.out]; rfl, rfl⟩
end Go.Proofs.Ytcmfkdfegfablaa
