
/- Packets held against each other; packets that are read out of the arguments. -/
import Derived.Test.YtpldcmcldoidaaaPkDec
import Derived.Test.YtpldcmcldoidaaaKeepPuts
import Derived.Test.YtpldcmcldoidaaaKeep
import Derived.Test.YtpldcmcldoidaaaOpen
namespace Go.Proofs.Ytpldcmcldoidaaa
open Go.ChangeShapes Go.WideShapes Go.RowKit Go.Deep
set_option linter.unusedVariables false
set_option linter.unusedSimpArgs false

structure PkV where
  k : Int
  e : UInt32
  q : UInt32
  ps : List PutV
def PkV.no : PkV := ⟨0, 0, 0, []⟩
def zPk : List Value := [.int .i64 0, vu32 0, vu32 0, .slice none 0 0]
def RdN (base : Nat) (w : World) (A : Option Addr) (ys : List Value) : Prop := ∀ (T : Nat → Prop) (w' : World), Chg T w w' → (∀ j, T j → j < base) → Rd w' A ys
theorem RdN.rd {base : Nat} {w : World} {A : Option Addr} {ys : List Value} (h : RdN base w A ys) : Rd w A ys := h NoS w (Chg.refl _) (fun _ hj => hj.elim)
theorem RdN.mono {base b2 : Nat} {w : World} {A : Option Addr} {ys : List Value} (h : RdN base w A ys) (hb : b2 ≤ base) : RdN b2 w A ys := fun T w' hc hT => h T w' hc (fun j hj => Nat.lt_of_lt_of_le (hT j hj) hb)
theorem RdN.chg {base : Nat} {w w1 : World} {A : Option Addr} {ys : List Value} (h : RdN base w A ys) {T : Nat → Prop} (hc : Chg T w w1) (hT : ∀ j, T j → j < base) : RdN base w1 A ys := fun T' w' hc' hT' =>
  h (fun j => T j ∨ T' j) w' ((hc.mono (fun _ hj => .inl hj)).trans (hc'.mono (fun _ hj => .inr hj))) (fun j hj => hj.elim (hT j) (hT' j))
theorem RdN.nil {base : Nat} {w : World} {A : Option Addr} : RdN base w A [] := fun _ _ _ _ => Rd.nil _ _
theorem RdN.own {base : Nat} {w : World} {e : TypeId} {size n : Nat} {v : Value} {A : Option Addr} {c : Nat} {ys : List Value} (h : w.ownsRow base e size (.slice A n c) n ys) : RdN base w A ys := fun T w' hc hT => by
  obtain ⟨A', c', hv, hr, _, _⟩ := own_rd (own_chg h hc (fun j hj ht => by have := (h.lt j hj).1; have := hT j ht; omega))
  injection hv with h1 _ _
  subst h1
  exact hr
def BkF (g : Nat) (vs : List Value) : Fact := fun w _ => Bk w g vs
theorem BkF.lasts {g : Nat} {vs : List Value} : ∀ w w' v, Chg NoS w w' → BkF g vs w v → BkF g vs w' v := fun _ _ _ h hb => hb.chg h id
theorem infoPut3 : (Try.prog.info? 48).map (fun i => (i.zero, i.size, i.bytes)) = some (some zPut, 33, 40) := by kernel_rfl
theorem puts_length {ps : List PutV} (h : PutsOk ps) : (ps.flatMap putC).length = ps.length * 33 := flat_length putC 33 ps (fun p hp => putC_len (h p hp).1)
theorem one_puts (ps : List PutV) : ∀ u ∈ ps.flatMap putC, u.oneCell' = true := by
  intro u hu
  obtain ⟨p, _, hp⟩ := List.mem_flatMap.1 hu
  exact one_put p u hp
theorem wp_append_full {P : Program} {o : Oper} {a : Act} {w : World} {K : Act → World → Prop} {Q : Exit → Act → World → Prop} (s x : Operand) (t : TypeId) (ho : o.op = .call { callee := .builtin .append, args := #[s, x], argTypes := #[t, t] }) (e : TypeId) (z : Value) (size bytes : Nat) (ht : P.underlying t = some (.slice e)) (hinfo : (P.info? e).map (fun i => (i.zero, i.size, i.bytes)) = some (some z, size, bytes))
    (hzs : z.cells.size = size) (hsz : 0 < size) (b : Addr) (n cap : Nat) (olds : List Value) (hs : a.eval s = .slice (some b) n cap) (hlo : olds.length = n * size) (hR : Rd w (some b) olds) (A : Option Addr) (m c : Nat) (ys : List Value) (hx : a.eval x = .slice A m c) (hl : ys.length = m * size) (HR : Rd w A ys)
    (hm : 0 < m) (hfull : cap < n + m) (hbytes : (n + m) * bytes ≤ 140737488355328 ∧ n + m ≤ maxLen) (h1 : ∀ u ∈ ys, u.oneCell' = true)
    (h : ∀ A1 c1 w', w'.ownsRow w.heap.size e size (.slice A1 (n + m) c1) (n + m) (olds ++ ys) → Chg NoS w w' → K (a.put o.dst (.slice A1 (n + m) c1)) w') : o.wp P a w K Q := by
  obtain ⟨i0, hi, hzz⟩ := Option.map_eq_some_iff.1 hinfo
  simp only [Prod.mk.injEq] at hzz
  obtain ⟨hz0, hz1, hz2⟩ := hzz
  obtain ⟨ad, rfl, _⟩ := HR.at_ 0 (by rw [hl]; exact Nat.mul_pos hm hsz)
  obtain ⟨v', w', hr, ho', hg⟩ := run_append_arg_grows (P := P) w t o.type e i0 z size bytes ht hi hz0 hz1 hz2 hzs hsz b n cap olds hlo (fun j u hu => by obtain ⟨ad', e', hc⟩ := hR j u hu; injection e' with e'; subst e'; exact hc) ad m c ys hl
    (fun j u hu => by obtain ⟨ad', e', hc⟩ := HR j u hu; injection e' with e'; subst e'; exact hc) hfull hbytes.2 hbytes.1
  obtain ⟨A1, c1, rfl, _, _, _⟩ := own_rd ho'
  unfold Oper.wp execOp
  simp only [ho, resolve, invoke, builtin, Sem.run_bind, Sem.run_pure, Result.andThen_ok, List.map_toArray, List.map_cons, List.map_nil, hs, hx, hr]
  exact h A1 c1 w' ho' ⟨hg.os, hg.tape, hg.output, hg.size, fun k hk _ => hg.block k hk (fun h => by cases h)⟩
theorem wp_append_new {P : Program} {o : Oper} {a : Act} {w : World} {K : Act → World → Prop} {Q : Exit → Act → World → Prop} (s x : Operand) (t : TypeId) (ho : o.op = .call { callee := .builtin .append, args := #[s, x], argTypes := #[t, t] }) (e : TypeId) (z : Value) (size bytes : Nat) (ht : P.underlying t = some (.slice e)) (hinfo : (P.info? e).map (fun i => (i.zero, i.size, i.bytes)) = some (some z, size, bytes))
    (hzs : z.cells.size = size) (hsz : 0 < size) (hby : 0 < bytes) (b : Addr) (hs : a.eval s = .slice (some b) 0 0) (A : Option Addr) (m c : Nat) (ys : List Value) (hx : a.eval x = .slice A m c) (hl : ys.length = m * size) (HR : Rd w A ys) (hbytes : m * bytes ≤ 140737488355328) (h1 : ∀ u ∈ ys, u.oneCell' = true)
    (h : ∀ A1 c1 w', RdN w.heap.size w' A1 ys → Chg NoS w w' → K (a.put o.dst (.slice A1 m c1)) w') : o.wp P a w K Q := by
  rcases Nat.eq_zero_or_pos m with h0 | h0
  · subst h0
    have hy : ys = [] := List.eq_nil_of_length_eq_zero (by omega)
    subst hy
    exact wp_append_empty s x t ho e z size bytes ht hinfo hzs hsz hby b hs A 0 c [] hx hl HR hbytes (fun A1 c1 w' _ hc => h A1 c1 w' .nil hc)
  · have hm : m ≤ 140737488355328 := Nat.le_trans (Nat.le_mul_of_pos_right _ hby) hbytes
    exact wp_append_full s x t ho e z size bytes ht hinfo hzs hsz b 0 0 [] hs (by simp) (Rd.nil _ _) A m c ys hx hl HR h0 (by omega) ⟨by rw [Nat.zero_add]; exact hbytes, by simp only [maxLen]; omega⟩ h1 (fun A1 c1 w' ho hc => by
      rw [Nat.zero_add] at ho ⊢
      rw [List.nil_append] at ho
      exact h A1 c1 w' (RdN.own (v := .bool true) ho) hc)

theorem wpList_append_new {P : Program} {ops : Array Oper} {rest : List Oper} {o : Oper} {a : Act} {w : World} {Q : Exit → Act → World → Prop} (hw : Region.wanted o (yielded ops a.tmps) = true) (s x : Operand) (t : TypeId) (ho : o.op = .call { callee := .builtin .append, args := #[s, x], argTypes := #[t, t] }) (e : TypeId) (z : Value) (size bytes : Nat) (ht : P.underlying t = some (.slice e)) (hinfo : (P.info? e).map (fun i => (i.zero, i.size, i.bytes)) = some (some z, size, bytes))
    (hzs : z.cells.size = size) (hsz : 0 < size) (hby : 0 < bytes) (b : Addr) (hs : a.eval s = .slice (some b) 0 0) (A : Option Addr) (m c : Nat) (ys : List Value) (hx : a.eval x = .slice A m c) (hl : ys.length = m * size) (HR : Rd w A ys) (hbytes : m * bytes ≤ 140737488355328) (h1 : ∀ u ∈ ys, u.oneCell' = true)
    (h : ∀ A1 c1 w', RdN w.heap.size w' A1 ys → Chg NoS w w' → wpList P ops Q rest (a.put o.dst (.slice A1 m c1)) w') : wpList P ops Q (o :: rest) a w :=
  wpl hw fun K hK => wp_append_new s x t ho e z size bytes ht hinfo hzs hsz hby b hs A m c ys hx hl HR hbytes h1 (fun A1 c1 w' hr hc => hK _ _ (h A1 c1 w' hr hc))
structure PkOk (W : World) (p : PkV) (A : Option Addr) (n c : Nat) : Prop where
  len : p.ps.length = n
  cap : n ≤ c
  max : c ≤ 9223372036854775807
  rd : Rd W A (p.ps.flatMap putC)
  ok : PutsOk p.ps
  k1 : -9223372036854775808 ≤ p.k
  k2 : p.k ≤ 9223372036854775807
theorem PkOk.below {w w' : World} {p : PkV} {A : Option Addr} {n c : Nat} (h : PkOk w p A n c) (hb : Below w.heap.size w w') : PkOk w' p A n c := ⟨h.len, h.cap, h.max, h.rd.below hb, h.ok, h.k1, h.k2⟩
section
variable {H : Type} {enc : TypeId × Value → H} {W : World} {P : Program}
theorem TC.u32p {t : TypeId} {cs : List Value} (h : TC enc P W t cs) (ht : P.underlying t = some (.int .u32)) : ∃ x : UInt32, cs = [vu32 x] := by
  obtain ⟨n, rfl, hw⟩ := h.int ht
  have hb : 0 ≤ n ∧ n ≤ 4294967295 := by
    simp [Lit.wf, IntKind.min, IntKind.max, IntKind.signed, IntKind.bits] at hw
    omega
  refine ⟨UInt32.ofNat n.toNat, ?_⟩
  rw [vu32, UInt32.toNat_ofNat_of_lt' (by show n.toNat < 4294967296; omega)]
  congr 2
  omega
theorem pktCells : Try.prog.cellsOf 25 = 4 := by kernel_rfl
set_option maxRecDepth 100000 in
theorem TC.pkt {cs : List Value} (h : TC enc Try.prog W 25 cs) : ∃ p A n c, cs = pktC p.k p.e p.q A n c ∧ PkOk W p A n c := by
  obtain ⟨hl, hf⟩ := h.struct Try.underlying25
  rw [pktCells] at hl
  match cs, hl with
  | [a, b, c, d], _ =>
    have f0 : TC enc Try.prog W 3 (([a, b, c, d].drop 0).take (Try.prog.cellsOf 3)) := hf 0 _ rfl
    have f1 : TC enc Try.prog W 22 (([a, b, c, d].drop 1).take (Try.prog.cellsOf 22)) := hf 1 _ rfl
    have f2 : TC enc Try.prog W 22 (([a, b, c, d].drop 2).take (Try.prog.cellsOf 22)) := hf 2 _ rfl
    have f3 : TC enc Try.prog W 23 (([a, b, c, d].drop 3).take (Try.prog.cellsOf 23)) := hf 3 _ rfl
    rw [show Try.prog.cellsOf 3 = 1 by kernel_rfl] at f0
    rw [show Try.prog.cellsOf 22 = 1 by kernel_rfl] at f1 f2
    rw [show Try.prog.cellsOf 23 = 1 by kernel_rfl] at f3
    obtain ⟨x0, hx0, b0⟩ := f0.int Try.underlying3
    obtain ⟨x1, hx1⟩ := f1.u32p Try.underlying22
    obtain ⟨x2, hx2⟩ := f2.u32p Try.underlying22
    obtain ⟨A, n, c3, ps, hx3, hl3, hc3, hm3, hr3, ho3⟩ := f3.puts
    simp at hx0 hx1 hx2 hx3
    have B0 := Go.bounds_i64 b0
    exact ⟨⟨x0, x1, x2, ps⟩, A, n, c3, by simp [pktC, hx0, hx1, hx2, hx3], ⟨hl3, hc3, hm3, hr3, ho3, B0.1, B0.2⟩⟩
end
theorem infoPk : (Try.prog.info? 25).map (fun i => (i.zero, i.size)) = some (some (.agg zPk.toArray), 4) := by kernel_rfl

def pkEq (p r : PkV) : Bool := decide (p.k = r.k) && decide (p.e = r.e) && decide (p.q = r.q) && decide (p.ps = r.ps)
theorem pkEq_self (p : PkV) : pkEq p p = true := by simp [pkEq]
set_option maxRecDepth 100000 in
set_option maxHeartbeats 4000000 in
theorem keepPackets_calls (p r : PkV) (A B : Option Addr) (n m c d : Nat) (w : World) (hl : p.ps.length = n) (hm : r.ps.length = m) (hnn : n ≤ 9223372036854775807) (hr : Rd w A (p.ps.flatMap putC)) (hr2 : Rd w B (r.ps.flatMap putC)) (ho : PutsOk p.ps) (ho2 : PutsOk r.ps) :
    Calls Try.prog 13 #[.agg (pktC p.k p.e p.q A n c).toArray, .agg (pktC r.k r.e r.q B m d).toArray] w fun e w' => e = .returned (.bool (pkEq p r)) ∧ Below w.heap.size w w' := by
  have HR := Lib.hid hr
  have HR2 := Lib.hid hr2
  have HO := Lib.hid ho
  have HO2 := Lib.hid ho2
  have HL := Lib.hid hl
  have HM := Lib.hid hm
  have HN := Lib.hid hnn
  clear hr hr2 ho ho2 hl hm hnn
  obtain ⟨bx, hbx⟩ : ∃ bx, pktC p.k p.e p.q A n c = bx := ⟨_, rfl⟩
  obtain ⟨by_, hby⟩ : ∃ by_, pktC r.k r.e r.q B m d = by_ := ⟨_, rfl⟩
  have HX : Hid (Bk ((w.alloc (.cells bx.toArray 25)).alloc (.cells by_.toArray 25)) w.heap.size bx) := (Bk.new w bx _).below ((Below.refl _ _).alloc (Nat.le_refl _) _)
  have HY : Hid (Bk ((w.alloc (.cells bx.toArray 25)).alloc (.cells by_.toArray 25)) (w.heap.size + 1) by_) := by
    have h := Bk.new (w.alloc (.cells bx.toArray 25)) by_ 25
    have hs : (w.alloc (.cells bx.toArray 25)).heap.size = w.heap.size + 1 := by simp
    rwa [hs] at h
  have HE : Hid (Below w.heap.size w ((w.alloc (.cells bx.toArray 25)).alloc (.cells by_.toArray 25))) := ((Below.refl _ _).alloc (Nat.le_refl _) _).alloc (by simp) _
  have c0 := HX.out.cell (j := 0) (v := .int .i64 p.k) (by rw [← hbx]; exact (rfl : _ = _))
  have c1 := HX.out.cell (j := 1) (v := vu32 p.e) (by rw [← hbx]; exact (rfl : _ = _))
  have c2 := HX.out.cell (j := 2) (v := vu32 p.q) (by rw [← hbx]; exact (rfl : _ = _))
  have c3 := HX.out.cell (j := 3) (v := .slice A n c) (by rw [← hbx]; exact (rfl : _ = _))
  have d0 := HY.out.cell (j := 0) (v := .int .i64 r.k) (by rw [← hby]; exact (rfl : _ = _))
  have d1 := HY.out.cell (j := 1) (v := vu32 r.e) (by rw [← hby]; exact (rfl : _ = _))
  have d2 := HY.out.cell (j := 2) (v := vu32 r.q) (by rw [← hby]; exact (rfl : _ = _))
  have d3 := HY.out.cell (j := 3) (v := .slice B m d) (by rw [← hby]; exact (rfl : _ = _))
  rw [hbx, hby]
  clear hbx hby HX HY
  by_cases h1 : p.k = r.k
  case neg =>
    have n1 : (p.k == r.k) = false := by rw [beq_eq_false_iff_ne]; exact h1
    have HF : Hid (pkEq p r = false) := by show _ = _; simp [pkEq, h1]
    clear h1
    go_enter Try.func13, Try.ntmps13
    go_wp2_with fail
    (try simp only [Exit.inBlock, Exit.then])
    go_ret
    exact ⟨by rw [HF.out]; rfl, HE.out⟩
  by_cases h2 : p.e = r.e
  case neg =>
    have n2 : (((p.e.toNat : Nat) : Int) == ((r.e.toNat : Nat) : Int)) = false := by rw [beq_eq_false_iff_ne]; exact fun h => h2 (UInt32.toNat_inj.1 (by omega))
    have HF : Hid (pkEq p r = false) := by show _ = _; simp [pkEq, h2]
    clear h2
    rw [← h1] at d0
    clear h1
    go_enter Try.func13, Try.ntmps13
    go_wp2_with fail
    (try simp only [Exit.inBlock, Exit.then])
    go_ret
    exact ⟨by rw [HF.out]; rfl, HE.out⟩
  by_cases h3 : p.q = r.q
  case neg =>
    have n3 : (((p.q.toNat : Nat) : Int) == ((r.q.toNat : Nat) : Int)) = false := by rw [beq_eq_false_iff_ne]; exact fun h => h3 (UInt32.toNat_inj.1 (by omega))
    have HF : Hid (pkEq p r = false) := by show _ = _; simp [pkEq, h3]
    clear h3
    rw [← h1] at d0
    rw [← h2] at d1
    clear h1 h2
    go_enter Try.func13, Try.ntmps13
    go_wp2_with fail
    (try simp only [Exit.inBlock, Exit.then])
    go_ret
    exact ⟨by rw [HF.out]; rfl, HE.out⟩
  have HF : Hid (pkEq p r = decide (p.ps = r.ps)) := by show _ = _; simp [pkEq, h1, h2, h3]
  rw [← h1] at d0
  rw [← h2] at d1
  rw [← h3] at d2
  clear h1 h2 h3
  go_enter Try.func13, Try.ntmps13
  go_wp2_with fail
  refine (keepPuts_calls p.ps r.ps A B n m c d _ HL.out HM.out HN.out (HR.out.below HE.out) (HR2.out.below HE.out) HO.out HO2.out).mono ?_
  rintro en w2 ⟨rfl, hb⟩
  have E2 : Hid (Below w.heap.size w w2) := HE.out.trans (hb.mono HE.out.size)
  clear hb c0 c1 c2 c3 d0 d1 d2 d3 HE
  rw [← HF.out]
  go_wp2_with fail
  (try simp only [Exit.inBlock, Exit.then])
  go_ret
  exact ⟨rfl, E2.out⟩
set_option maxRecDepth 100000 in
set_option maxHeartbeats 4000000 in
theorem putsEq_calls (ps qs : List PutV) (A B : Option Addr) (n m c d : Nat) (w : World) (hl : ps.length = n) (hm : qs.length = m) (hnn : n ≤ 9223372036854775807) (hr : Rd w A (ps.flatMap putC)) (hr2 : Rd w B (qs.flatMap putC)) (ho : PutsOk ps) (ho2 : PutsOk qs) :
    Calls Try.prog 29 #[.slice A n c, .slice B m d] w fun e w' => e = .returned (.bool (decide (ps = qs))) ∧ Below w.heap.size w w' := by
  subst hl hm
  by_cases hlen : ps.length = qs.length
  case neg =>
    have HNE : Hid (decide (ps = qs) = false) := decide_eq_false (fun h => hlen (by rw [h]))
    have hne : ¬ ((ps.length : Int) = (qs.length : Int)) := by omega
    clear hlen hr hr2 ho ho2
    go_enter Try.func29, Try.ntmps29
    go_wp2_with fail
    (try simp only [Exit.inBlock, Exit.then])
    go_ret
    exact ⟨by rw [HNE.out]; rfl, Below.refl _ _⟩
  have HR := Lib.hid hr
  have HR2 := Lib.hid hr2
  have HO := Lib.hid ho
  have HO2 := Lib.hid ho2
  have HLEN := Lib.hid hlen
  clear hr hr2 ho ho2
  rw [← hlen]
  clear hlen
  go_enter Try.func29, Try.ntmps29
  go_wp2_with fail
  go_loopw [13] (fun v5 wr => KPRel w ps qs v5 wr) (fun v5 _ => ps.length - (intOf v5).toNat)
  case atStart => exact ⟨0, Nat.zero_le _, rfl, rfl, Below.refl _ _⟩
  case round =>
    obtain ⟨k, hk, rfl, ht, hb⟩ := hrel
    have HT0 := Lib.hid ht
    have EB := Lib.hid hb
    clear ht hb
    by_cases hlt : k < ps.length
    · have hki : (k : Int) < (ps.length : Int) := by omega
      have hlt2 : k < qs.length := by have := HLEN.out; omega
      obtain ⟨ad, rfl⟩ := puts_some HR.out hlt
      obtain ⟨ad2, rfl⟩ := puts_some HR2.out hlt2
      have HP := Lib.hid (put_rd (HR.out.below EB.out) HO.out hlt)
      have HQ := Lib.hid (put_rd (HR2.out.below EB.out) HO2.out hlt2)
      have HPD := Lib.hid (HO.out _ (List.getElem_mem hlt)).1
      have HQD := Lib.hid (HO2.out _ (List.getElem_mem hlt2)).1
      obtain ⟨p, hp⟩ : ∃ p, ps[k] = p := ⟨_, rfl⟩
      obtain ⟨q, hq⟩ : ∃ q, qs[k] = q := ⟨_, rfl⟩
      have HPE := Lib.hid hp
      have HQE := Lib.hid hq
      rw [hp] at HP HPD
      rw [hq] at HQ HQD
      have HPL := Lib.hid (putC_len HPD.out)
      have HQL := Lib.hid (putC_len HQD.out)
      clear hp hq
      go_wp2_with fail
      apply wp_region_rel 9 (Chg NoS) [(Veq _), (Veq _), (Veq _), (Veq _), (Veq _), (Veq _), (Veq _), (Veq _), (Veq _)] [[], [], [0, 1], [2], [], [], [4, 5], [6], [3, 7]] [16, 17, 18, 19, 20, 21, 22, 23, 24] (by kernel_rfl) (by kernel_rfl) rfl rfl rfl Chg.refl (fun _ _ _ => Chg.trans) ⟨Veq.lasts, Veq.lasts, Veq.lasts, Veq.lasts, Veq.lasts, Veq.lasts, Veq.lasts, Veq.lasts, Veq.lasts, trivial⟩ ?aops ?afin
      case aops =>
        refine ⟨?ao0, ?ao1, ?ao2, ?ao3, ?ao4, ?ao5, ?ao6, ?ao7, ?ao8, trivial⟩
        case ao0 =>
          intro a wx hE hin
          have i0 : a.eval (.tmp 0) = .slice (some ad) ps.length c := hin 0 rfl
          clear hin
          have hcst : ∀ v, a.eval (.const v) = v := fun _ => rfl
          have hfnc : ∀ f, a.eval (.func f) = .func (.func f) #[] #[] := fun _ => rfl
          refine want_none rfl ?_
          unfold Oper.wp
          generalize a.eval = ρ at *
          go_simp
          try go_bits
          first | exact rel_val (Chg.refl _) | (go_simp; exact rel_val (Chg.refl _))
        case ao1 =>
          intro a wx hE hin
          have i5 : a.eval (.tmp 5) = .int .i64 k := hin 5 rfl
          clear hin
          have hcst : ∀ v, a.eval (.const v) = v := fun _ => rfl
          have hfnc : ∀ f, a.eval (.func f) = .func (.func f) #[] #[] := fun _ => rfl
          refine want_none rfl ?_
          unfold Oper.wp
          generalize a.eval = ρ at *
          go_simp
          try go_bits
          first | exact rel_val (Chg.refl _) | (go_simp; exact rel_val (Chg.refl _))
        case ao2 =>
          rintro a wx hE hin (h0 : a.eval (.tmp 16) = _) (h1 : a.eval (.tmp 17) = _)
          clear hin
          have hcst : ∀ v, a.eval (.const v) = v := fun _ => rfl
          have hfnc : ∀ f, a.eval (.func f) = .func (.func f) #[] #[] := fun _ => rfl
          refine want_none rfl ?_
          unfold Oper.wp
          generalize a.eval = ρ at *
          go_simp
          try go_bits
          first | exact rel_val (Chg.refl _) | (go_simp; exact rel_val (Chg.refl _))
        case ao3 =>
          rintro a wx hE hin (h2 : a.eval (.tmp 18) = _)
          clear hin
          have hcst : ∀ v, a.eval (.const v) = v := fun _ => rfl
          have hfnc : ∀ f, a.eval (.func f) = .func (.func f) #[] #[] := fun _ => rfl
          refine want_none rfl ?_
          exact wp_ldr2 48 _ rfl (ad.add (k * 33)) 33 (putC p) h2 (HP.out.below (Chg.belowN hE.undrew)) (by kernel_rfl) (by kernel_rfl) HPL.out (rel_val (Chg.refl _))
        case ao4 =>
          intro a wx hE hin
          have i1 : a.eval (.tmp 1) = .slice (some ad2) ps.length d := hin 1 rfl
          clear hin
          have hcst : ∀ v, a.eval (.const v) = v := fun _ => rfl
          have hfnc : ∀ f, a.eval (.func f) = .func (.func f) #[] #[] := fun _ => rfl
          refine want_none rfl ?_
          unfold Oper.wp
          generalize a.eval = ρ at *
          go_simp
          try go_bits
          first | exact rel_val (Chg.refl _) | (go_simp; exact rel_val (Chg.refl _))
        case ao5 =>
          intro a wx hE hin
          have i5 : a.eval (.tmp 5) = .int .i64 k := hin 5 rfl
          clear hin
          have hcst : ∀ v, a.eval (.const v) = v := fun _ => rfl
          have hfnc : ∀ f, a.eval (.func f) = .func (.func f) #[] #[] := fun _ => rfl
          refine want_none rfl ?_
          unfold Oper.wp
          generalize a.eval = ρ at *
          go_simp
          try go_bits
          first | exact rel_val (Chg.refl _) | (go_simp; exact rel_val (Chg.refl _))
        case ao6 =>
          rintro a wx hE hin (h4 : a.eval (.tmp 20) = _) (h5 : a.eval (.tmp 21) = _)
          clear hin
          have hcst : ∀ v, a.eval (.const v) = v := fun _ => rfl
          have hfnc : ∀ f, a.eval (.func f) = .func (.func f) #[] #[] := fun _ => rfl
          refine want_none rfl ?_
          unfold Oper.wp
          generalize a.eval = ρ at *
          go_simp
          try go_bits
          first | exact rel_val (Chg.refl _) | (go_simp; exact rel_val (Chg.refl _))
        case ao7 =>
          rintro a wx hE hin (h6 : a.eval (.tmp 22) = _)
          clear hin
          have hcst : ∀ v, a.eval (.const v) = v := fun _ => rfl
          have hfnc : ∀ f, a.eval (.func f) = .func (.func f) #[] #[] := fun _ => rfl
          refine want_none rfl ?_
          exact wp_ldr2 48 _ rfl (ad2.add (k * 33)) 33 (putC q) h6 (HQ.out.below (Chg.belowN hE.undrew)) (by kernel_rfl) (by kernel_rfl) HQL.out (rel_val (Chg.refl _))
        case ao8 =>
          rintro a wx hE hin (h3 : a.eval (.tmp 19) = _) (h7 : a.eval (.tmp 23) = _)
          clear hin
          have hcst : ∀ v, a.eval (.const v) = v := fun _ => rfl
          have hfnc : ∀ f, a.eval (.func f) = .func (.func f) #[] #[] := fun _ => rfl
          refine want_none rfl ?_
          exact wp_eq_put true _ _ _ rfl p q HPD.out HQD.out (by rw [h3]) (by rw [h7]) (rel_val (Chg.refl _))
      case afin =>
        intro wx hE
        rintro _ rfl _ rfl _ rfl _ rfl _ rfl _ rfl _ rfl _ rfl _ rfl
        simp only [FinOk, List.take_succ_cons, List.take_zero, List.take_nil, List.drop_succ_cons, List.drop_zero, List.drop_nil, Act.put, List.setIfInBounds_toArray, List.set_cons_succ, List.set_cons_zero]
        have EX : Hid (Below w.heap.size w wx) := EB.out.trans (hE.undrew.below EB.out.size (fun _ _ => id))
        clear hE
        by_cases hpq : p = q
        · have HT : Hid (ps.take (k + 1) = qs.take (k + 1)) := by
            show _ = _
            rw [List.take_succ_eq_append_getElem hlt, List.take_succ_eq_append_getElem hlt2, HT0.out, HPE.out, HQE.out, hpq]
          rw [show (true ^^ decide (p = q)) = false by rw [decide_eq_true hpq]; rfl]
          clear hpq
          go_wp2_with fail
          go_roundw
          case rel => exact ⟨k + 1, by omega, by go_num, HT.out, EX.out⟩
          case measure => simp [intOf]; omega
        · have HNE : Hid (decide (ps = qs) = false) := decide_eq_false (fun h => hpq (by
            have h1 := HPE.out
            have h2 := HQE.out
            subst h
            rw [← h1, ← h2]))
          rw [show (true ^^ decide (p = q)) = true by rw [decide_eq_false hpq]; rfl]
          clear hpq
          go_wp2_with fail
          (try simp only [Exit.inBlock, Exit.then])
          go_ret
          exact ⟨by rw [HNE.out]; rfl, EX.out⟩
    · have hke : k = ps.length := by omega
      subst hke
      have hki : ¬ (((ps.length : Nat) : Int) < (ps.length : Int)) := by omega
      have HEQ : Hid (decide (ps = qs) = true) := decide_eq_true (by
        have h := HT0.out
        rwa [List.take_length, List.take_of_length_le (by rw [HLEN.out]; exact Nat.le_refl _)] at h)
      go_wp2_with fail
      (try simp only [Exit.inBlock, Exit.then])
      go_ret
      exact ⟨by rw [HEQ.out]; rfl, EB.out⟩
set_option maxRecDepth 100000 in
set_option maxHeartbeats 4000000 in
theorem packSame_calls (p r : PkV) (A B : Option Addr) (n m c d : Nat) (w : World) (hl : p.ps.length = n) (hm : r.ps.length = m) (hnn : n ≤ 9223372036854775807) (hr : Rd w A (p.ps.flatMap putC)) (hr2 : Rd w B (r.ps.flatMap putC)) (ho : PutsOk p.ps) (ho2 : PutsOk r.ps) :
    Calls Try.prog 14 #[.agg (pktC p.k p.e p.q A n c).toArray, .agg (pktC r.k r.e r.q B m d).toArray] w fun e w' => e = .returned (.bool (pkEq p r)) ∧ Below w.heap.size w w' := by
  have HR := Lib.hid hr
  have HR2 := Lib.hid hr2
  have HO := Lib.hid ho
  have HO2 := Lib.hid ho2
  have HL := Lib.hid hl
  have HM := Lib.hid hm
  have HN := Lib.hid hnn
  clear hr hr2 ho ho2 hl hm hnn
  obtain ⟨bx, hbx⟩ : ∃ bx, pktC p.k p.e p.q A n c = bx := ⟨_, rfl⟩
  obtain ⟨by_, hby⟩ : ∃ by_, pktC r.k r.e r.q B m d = by_ := ⟨_, rfl⟩
  have HX : Hid (Bk ((w.alloc (.cells bx.toArray 25)).alloc (.cells by_.toArray 25)) w.heap.size bx) := (Bk.new w bx _).below ((Below.refl _ _).alloc (Nat.le_refl _) _)
  have HY : Hid (Bk ((w.alloc (.cells bx.toArray 25)).alloc (.cells by_.toArray 25)) (w.heap.size + 1) by_) := by
    have h := Bk.new (w.alloc (.cells bx.toArray 25)) by_ 25
    have hs : (w.alloc (.cells bx.toArray 25)).heap.size = w.heap.size + 1 := by simp
    rwa [hs] at h
  have HE : Hid (Below w.heap.size w ((w.alloc (.cells bx.toArray 25)).alloc (.cells by_.toArray 25))) := ((Below.refl _ _).alloc (Nat.le_refl _) _).alloc (by simp) _
  have c0 := HX.out.cell (j := 0) (v := .int .i64 p.k) (by rw [← hbx]; exact (rfl : _ = _))
  have c1 := HX.out.cell (j := 1) (v := vu32 p.e) (by rw [← hbx]; exact (rfl : _ = _))
  have c2 := HX.out.cell (j := 2) (v := vu32 p.q) (by rw [← hbx]; exact (rfl : _ = _))
  have c3 := HX.out.cell (j := 3) (v := .slice A n c) (by rw [← hbx]; exact (rfl : _ = _))
  have d0 := HY.out.cell (j := 0) (v := .int .i64 r.k) (by rw [← hby]; exact (rfl : _ = _))
  have d1 := HY.out.cell (j := 1) (v := vu32 r.e) (by rw [← hby]; exact (rfl : _ = _))
  have d2 := HY.out.cell (j := 2) (v := vu32 r.q) (by rw [← hby]; exact (rfl : _ = _))
  have d3 := HY.out.cell (j := 3) (v := .slice B m d) (by rw [← hby]; exact (rfl : _ = _))
  rw [hbx, hby]
  clear hbx hby HX HY
  by_cases h1 : p.k = r.k
  case neg =>
    have n1 : (p.k == r.k) = false := by rw [beq_eq_false_iff_ne]; exact h1
    have HF : Hid (pkEq p r = false) := by show _ = _; simp [pkEq, h1]
    clear h1
    go_enter Try.func14, Try.ntmps14
    go_wp2_with fail
    (try simp only [Exit.inBlock, Exit.then])
    go_ret
    exact ⟨by rw [HF.out]; rfl, HE.out⟩
  by_cases h2 : p.e = r.e
  case neg =>
    have n2 : (((p.e.toNat : Nat) : Int) == ((r.e.toNat : Nat) : Int)) = false := by rw [beq_eq_false_iff_ne]; exact fun h => h2 (UInt32.toNat_inj.1 (by omega))
    have HF : Hid (pkEq p r = false) := by show _ = _; simp [pkEq, h2]
    clear h2
    rw [← h1] at d0
    clear h1
    go_enter Try.func14, Try.ntmps14
    go_wp2_with fail
    (try simp only [Exit.inBlock, Exit.then])
    go_ret
    exact ⟨by rw [HF.out]; rfl, HE.out⟩
  by_cases h3 : p.q = r.q
  case neg =>
    have n3 : (((p.q.toNat : Nat) : Int) == ((r.q.toNat : Nat) : Int)) = false := by rw [beq_eq_false_iff_ne]; exact fun h => h3 (UInt32.toNat_inj.1 (by omega))
    have HF : Hid (pkEq p r = false) := by show _ = _; simp [pkEq, h3]
    clear h3
    rw [← h1] at d0
    rw [← h2] at d1
    clear h1 h2
    go_enter Try.func14, Try.ntmps14
    go_wp2_with fail
    (try simp only [Exit.inBlock, Exit.then])
    go_ret
    exact ⟨by rw [HF.out]; rfl, HE.out⟩
  have HF : Hid (pkEq p r = decide (p.ps = r.ps)) := by show _ = _; simp [pkEq, h1, h2, h3]
  rw [← h1] at d0
  rw [← h2] at d1
  rw [← h3] at d2
  clear h1 h2 h3
  go_enter Try.func14, Try.ntmps14
  go_wp2_with fail
  refine (putsEq_calls p.ps r.ps A B n m c d _ HL.out HM.out HN.out (HR.out.below HE.out) (HR2.out.below HE.out) HO.out HO2.out).mono ?_
  rintro en w2 ⟨rfl, hb⟩
  have E2 : Hid (Below w.heap.size w w2) := HE.out.trans (hb.mono HE.out.size)
  clear hb c0 c1 c2 c3 d0 d1 d2 d3 HE
  rw [← HF.out]
  go_wp2_with fail
  (try simp only [Exit.inBlock, Exit.then])
  go_ret
  exact ⟨rfl, E2.out⟩
theorem infoPutS : (Try.prog.info? 48).map (fun i => (i.zero, i.size, i.bytes)) = some (some zPut, 33, 40) := by kernel_rfl
theorem puts_lenS {ps : List PutV} (h : PutsOk ps) : (ps.flatMap putC).length = ps.length * 33 := flat_length putC 33 ps (fun p hp => putC_len (h p hp).1)
theorem one_putsS (ps : List PutV) : ∀ u ∈ ps.flatMap putC, u.oneCell' = true := by
  intro u hu
  obtain ⟨p, _, h⟩ := List.mem_flatMap.1 hu
  exact one_put p u h
set_option maxRecDepth 100000 in
set_option maxHeartbeats 4000000 in
theorem own18_calls (p : PkV) (A : Option Addr) (n c : Nat) (w : World) (h : PkOk w p A n c) (hn : n ≤ 1000) :
    Calls Try.prog 7 #[.agg (pktC p.k p.e p.q A n c).toArray] w fun e w' => ∃ A1 c1, e = .returned (.agg (pktC p.k p.e p.q A1 n c1).toArray) ∧ Rd w' A1 (p.ps.flatMap putC) ∧ Below w.heap.size w w' := by
  have H := Lib.hid h
  clear h
  obtain ⟨bx, hbx⟩ : ∃ bx, pktC p.k p.e p.q A n c = bx := ⟨_, rfl⟩
  have HBX := Lib.hid hbx
  have D3 : Hid (bx[3]? = some (.slice A n c)) := by rw [← hbx]; exact (rfl : _ = _)
  have HBL : Hid (bx.length = 4) := by show _ = _; rw [← hbx]; rfl
  rw [hbx]
  clear hbx
  go_enter Try.func7, Try.ntmps7
  go_wp2_with (refine wpList_al rfl 25 rfl zPkD (by kernel_rfl) ?_)
  intro g2 w2 hg hb hc hs
  have E1 : Below w.heap.size w (w.alloc (.cells bx.toArray 25)) := (Below.refl _ _).alloc (Nat.le_refl _) _
  have HG : Hid (g2 = w.heap.size + 1) := hg
  have K1 : Hid (Bk w2 w.heap.size bx) := (Bk.new w bx _).chg hc id
  have K2 := Lib.hid hb
  have E2 : Hid (Below w.heap.size w w2) := E1.trans (hc.below (by simp) (fun _ _ => id))
  clear hg hb hc hs E1
  have c3 := (K1.out.alloc (.cells #[] 48)).cell D3.out
  go_wp2_with (refine wpList_append_new rfl _ _ 23 rfl 48 zPut 33 40 Try.underlying23 infoPutS rfl (by decide) (by decide) ⟨w2.heap.size, 0, none⟩ rfl A n c (p.ps.flatMap putC) rfl (by rw [puts_lenS H.out.ok, H.out.len]) ((H.out.rd.below E2.out).alloc _) (by omega) (one_putsS _) ?_)
  intro A1 c1 w3 hr hc
  have R3 := Lib.hid hr
  have C3 : Hid (Chg NoS w2 w3) := ((Chg.refl _).alloc _).trans hc
  have K3 : Hid (Bk w3 w.heap.size bx) := K1.out.chg C3.out id
  have Z3 : Hid (Bk w3 g2 zPkD) := K2.out.chg C3.out id
  have E3 : Hid (Below w.heap.size w w3) := E2.out.trans (C3.out.below E2.out.size (fun _ _ => id))
  have S2 : Hid (g2 < w2.heap.size) := K2.out.lt
  clear hr hc c3 K1 K2 E2
  go_wp2_with (refine wpList_st rfl 23 (.tmp 7) (.tmp 6) rfl w.heap.size 3 1 bx [.slice A1 n c1] rfl rfl K3.out (by kernel_rfl) rfl (by rw [HBL.out]; exact (by decide : 3 + 1 ≤ 4)) (fun u hu => by obtain rfl := List.mem_singleton.1 hu; rfl) ?_)
  intro w4 hbk hc
  have hbk2 : Bk w4 w.heap.size (pktC p.k p.e p.q A1 n c1) := by rw [← HBX.out] at hbk; exact hbk
  have K4 := Lib.hid hbk2
  have Z4 : Hid (Bk w4 g2 zPkD) := Z3.out.chg hc (fun h => by have := HG.out; omega)
  have E4 : Hid (Below w.heap.size w w4) := E3.out.trans (hc.below E3.out.size (fun q hq he => by omega))
  have R4 : Hid (RdN (w2.heap.size) w4 A1 (p.ps.flatMap putC)) := (R3.out.mono (by simp)).chg hc (fun j hj => by have := HG.out; have := S2.out; omega)
  clear hbk hbk2 hc R3 C3 K3 Z3 E3
  go_wp2_with (first
    | (refine wpList_ld rfl 25 (.tmp 1) rfl w.heap.size 0 4 (pktC p.k p.e p.q A1 n c1) (pktC p.k p.e p.q A1 n c1) rfl K4.out (by kernel_rfl) (by kernel_rfl) (Nat.le_refl 4) rfl ?_)
    | (refine wpList_st rfl 25 (.tmp 2) (.tmp 8) rfl g2 0 4 zPkD (pktC p.k p.e p.q A1 n c1) rfl rfl Z4.out (by kernel_rfl) rfl (by decide) (one_pktD _ _ _ _ _ _) ?_))
  intro w5 hbk hc
  rw [splice_whole zPkD (pktC p.k p.e p.q A1 n c1) rfl] at hbk
  have K5 := Lib.hid hbk
  have E5 : Hid (Below w.heap.size w w5) := E4.out.trans (hc.below E4.out.size (fun q hq he => by have := HG.out; omega))
  have R5 : Hid (RdN (w2.heap.size) w5 A1 (p.ps.flatMap putC)) := R4.out.chg hc (fun j hj => by have := S2.out; omega)
  clear hbk hc
  go_wp2_with fail
  (try simp only [Exit.inBlock, Exit.then])
  refine bodyPost_ret (res_cell rfl _ _ g2 4 _ rfl K5.out (by kernel_rfl) (by kernel_rfl) rfl) rfl ?_
  exact ⟨A1, c1, rfl, R5.out.rd, E5.out⟩
end Go.Proofs.Ytpldcmcldoidaaa
