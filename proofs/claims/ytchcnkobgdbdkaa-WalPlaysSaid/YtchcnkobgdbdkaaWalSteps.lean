import Derived.Test.YtchcnkobgdbdkaaLf
import Derived.Test.YtchcnkobgdbdkaaLe

/- The steps of law 08: how they are read; fair; own. -/
namespace Go.Proofs.Ytchcnkobgdbdkaa
open Go.ChangeShapes Go.WideShapes Go.RowKit Go.Deep
set_option linter.unusedVariables false
set_option linter.unusedSimpArgs false

/-! ### a new row of puts, that lasts whatever older blocks do -/
def RdN (base : Nat) (w : World) (A : Option Addr) (ys : List Value) : Prop := ∀ (T : Nat → Prop) (w' : World), Chg T w w' → (∀ j, T j → j < base) → Rd w' A ys
theorem RdN.rd {base : Nat} {w : World} {A : Option Addr} {ys : List Value} (h : RdN base w A ys) : Rd w A ys := h NoS w (Chg.refl _) (fun _ hj => hj.elim)
theorem RdN.mono {base b2 : Nat} {w : World} {A : Option Addr} {ys : List Value} (h : RdN base w A ys) (hb : b2 ≤ base) : RdN b2 w A ys := fun T w' hc hT => h T w' hc (fun j hj => Nat.lt_of_lt_of_le (hT j hj) hb)
theorem RdN.chg {base : Nat} {w w1 : World} {A : Option Addr} {ys : List Value} (h : RdN base w A ys) {T : Nat → Prop} (hc : Chg T w w1) (hT : ∀ j, T j → j < base) : RdN base w1 A ys := fun T' w' hc' hT' =>
  h (fun j => T j ∨ T' j) w' ((hc.mono (fun _ hj => .inl hj)).trans (hc'.mono (fun _ hj => .inr hj))) (fun j hj => hj.elim (hT j) (hT' j))
theorem RdN.nil {base : Nat} {w : World} {A : Option Addr} : RdN base w A [] := fun _ _ _ _ => Rd.nil _ _
theorem RdN.own {base : Nat} {w : World} {e : TypeId} {size n c : Nat} {A : Option Addr} {ys : List Value} (h : w.ownsRow base e size (.slice A n c) n ys) : RdN base w A ys := fun T w' hc hT => by
  obtain ⟨A', c', hv, hr, _, _⟩ := own_rd (own_chg h hc (fun j hj ht => by have := (h.lt j hj).1; have := hT j ht; omega))
  injection hv with h1 _ _
  subst h1
  exact hr
theorem one_puts (ps : List PutV) : ∀ u ∈ ps.flatMap putC, u.oneCell' = true := by
  intro u hu
  obtain ⟨p, _, hp⟩ := List.mem_flatMap.1 hu
  exact one_put p u hp
theorem wp_append_new {P : Program} {o : Oper} {a : Act} {w : World} {K : Act → World → Prop} {Q : Exit → Act → World → Prop} (s x : Operand) (t : TypeId) (ho : o.op = .call { callee := .builtin .append, args := #[s, x], argTypes := #[t, t] }) (e : TypeId) (z : Value) (size bytes : Nat) (ht : P.underlying t = some (.slice e)) (hinfo : (P.info? e).map (fun i => (i.zero, i.size, i.bytes)) = some (some z, size, bytes))
    (hzs : z.cells.size = size) (hsz : 0 < size) (hby : 0 < bytes) (b : Addr) (hs : a.eval s = .slice (some b) 0 0) (A : Option Addr) (m c : Nat) (ys : List Value) (hx : a.eval x = .slice A m c) (hl : ys.length = m * size) (HR : Rd w A ys) (hbytes : m * bytes ≤ 140737488355328) (h1 : ∀ u ∈ ys, u.oneCell' = true)
    (h : ∀ A1 c1 w', RdN w.heap.size w' A1 ys → Chg NoS w w' → K (a.put o.dst (.slice A1 m c1)) w') : o.wp P a w K Q := by
  rcases Nat.eq_zero_or_pos m with h0 | h0
  · subst h0
    have hy : ys = [] := List.eq_nil_of_length_eq_zero (by omega)
    subst hy
    exact wp_append_empty s x t ho e z size bytes ht hinfo hzs hsz hby b hs A 0 c [] hx hl HR hbytes (fun A1 c1 w' _ hc => h A1 c1 w' .nil hc)
  · have hm : m ≤ 140737488355328 := Nat.le_trans (Nat.le_mul_of_pos_right _ hby) hbytes
    exact wp_append_full s x t ho e z size bytes ht hinfo hzs hsz b 0 0 [] hs (by simp) (Rd.nil _ _) A m c ys hx hl HR h0 (by omega) ⟨by rw [Nat.zero_add]; exact hbytes, by simp only [maxLen]; omega⟩ h1 (fun A1 c1 w' ho hc => by
      rw [Nat.zero_add] at ho ⊢
      rw [List.nil_append] at ho
      exact h A1 c1 w' (.own ho) hc)
def PutsN (base n : Nat) (ps : List PutV) : Fact := fun w v => ∃ A c, v = .slice A n c ∧ RdN base w A (ps.flatMap putC)
theorem PutsN.lasts {base n : Nat} {ps : List PutV} : ∀ w w' v, Chg NoS w w' → PutsN base n ps w v → PutsN base n ps w' v := fun _ _ _ h ⟨A, c, e, ho⟩ => ⟨A, c, e, ho.chg h (fun _ hj => hj.elim)⟩
def RecN (base : Nat) (r : RecV) : Fact := fun w v => ∃ A c, v = .agg #[vu32 r.e, vu32 r.q, .slice A r.n c, .int .i64 0] ∧ RdN base w A (r.ps.flatMap putC)
theorem RecN.lasts {base : Nat} {r : RecV} : ∀ w w' v, Chg NoS w w' → RecN base r w v → RecN base r w' v := fun _ _ _ h ⟨A, c, e, ho⟩ => ⟨A, c, e, ho.chg h (fun _ hj => hj.elim)⟩
def OwnPost (w : World) (r : RecV) (e : Ending) (w' : World) : Prop := ∃ A c, e = .returned (.agg #[vu32 r.e, vu32 r.q, .slice A r.n c, .int .i64 0]) ∧ RdN w.heap.size w' A (r.ps.flatMap putC) ∧ Below w.heap.size w w'
set_option maxRecDepth 100000 in
set_option maxHeartbeats 8000000 in
theorem own_calls (w : World) (r : RecV) (hok : RecOk w r) (hn : r.n ≤ 50) : Calls Try.prog 16 #[.agg #[vu32 r.e, vu32 r.q, .slice r.A r.n r.c]] w (OwnPost w r) := by
  have HOK := Lib.hid hok
  have HN := Lib.hid hn
  clear hok
  obtain ⟨bx, hbx⟩ : ∃ bx, [vu32 r.e, vu32 r.q, .slice r.A r.n r.c] = bx := ⟨_, rfl⟩
  have DR0 : Hid (bx[0]? = some (vu32 r.e)) := by rw [← hbx]; exact (rfl : _ = _)
  have DR1 : Hid (bx[1]? = some (vu32 r.q)) := by rw [← hbx]; exact (rfl : _ = _)
  have DR2 : Hid (bx[2]? = some (.slice r.A r.n r.c)) := by rw [← hbx]; exact (rfl : _ = _)
  rw [show (#[vu32 r.e, vu32 r.q, .slice r.A r.n r.c] : Array Value) = bx.toArray by rw [← hbx]]
  clear hbx
  go_enter Try.func16, Try.ntmps16
  go_wp2_with (refine wpList_al rfl 53 rfl zQ (by kernel_rfl) ?_)
  intro gq w1 hg hb hc hs
  have GQ : Hid (w.heap.size < gq) := by show _ < _; rw [hg]; simp
  have KZ1 := Lib.hid hb
  have KX1 : Hid (Bk w1 w.heap.size bx) := (Bk.new w bx _).chg hc id
  have EX1 : Hid (Below w.heap.size w w1) := ((Below.refl _ _).alloc (Nat.le_refl _) _).trans (hc.below (by simp) (fun _ _ => id))
  clear hg hb hc hs
  go_wp2_with fail
  apply wp_region_rel 9 (Chg NoS) [(Veq _), (Veq _), (Veq _), (Veq _), (RowAt NoS 0 _), (Veq _), (Veq _), (PutsN (gq + 1) r.n r.ps), (RecN (gq + 1) r)] [[], [0], [], [2], [], [], [5], [4, 6], [1, 3, 7]] [3, 4, 5, 6, 7, 8, 9, 10, 11] (by kernel_rfl) (by kernel_rfl) rfl rfl rfl Chg.refl (fun _ _ _ => Chg.trans) ⟨Veq.lasts, Veq.lasts, Veq.lasts, Veq.lasts, RowAt.lasts, Veq.lasts, Veq.lasts, PutsN.lasts, RecN.lasts, trivial⟩ ?aops ?afin
  case aops =>
    refine ⟨?ao0, ?ao1, ?ao2, ?ao3, ?ao4, ?ao5, ?ao6, ?ao7, ?ao8, trivial⟩
    case ao0 =>
      intro a wx hE hin
      have i1 : a.eval (.tmp 1) = .pointer (some ⟨w.heap.size, 0, none⟩) := hin 1 rfl
      clear hin
      have hcst : ∀ v, a.eval (.const v) = v := fun _ => rfl
      have hfnc : ∀ f, a.eval (.func f) = .func (.func f) #[] #[] := fun _ => rfl
      refine want_none rfl ?_
      unfold Oper.wp
      generalize a.eval = ρ at *
      go_simp
      try go_bits
      first | exact rel_val (Chg.refl _) | (go_simp; exact rel_val (Chg.refl _))
    case ao1 =>
      rintro a wx hE hin (h0 : a.eval (.tmp 3) = _)
      clear hin
      have hcst : ∀ v, a.eval (.const v) = v := fun _ => rfl
      have hfnc : ∀ f, a.eval (.func f) = .func (.func f) #[] #[] := fun _ => rfl
      refine want_none rfl ?_
      unfold Oper.wp
      generalize a.eval = ρ at *
      have c := Bk.cell ((KX1.out.drew).chg hE id) DR0.out
      go_simp
      try go_bits
      first | exact rel_val (Chg.refl _) | (go_simp; exact rel_val (Chg.refl _))
    case ao2 =>
      intro a wx hE hin
      have i1 : a.eval (.tmp 1) = .pointer (some ⟨w.heap.size, 0, none⟩) := hin 1 rfl
      clear hin
      have hcst : ∀ v, a.eval (.const v) = v := fun _ => rfl
      have hfnc : ∀ f, a.eval (.func f) = .func (.func f) #[] #[] := fun _ => rfl
      refine want_none rfl ?_
      unfold Oper.wp
      generalize a.eval = ρ at *
      go_simp
      try go_bits
      first | exact rel_val (Chg.refl _) | (go_simp; exact rel_val (Chg.refl _))
    case ao3 =>
      rintro a wx hE hin (h2 : a.eval (.tmp 5) = _)
      clear hin
      have hcst : ∀ v, a.eval (.const v) = v := fun _ => rfl
      have hfnc : ∀ f, a.eval (.func f) = .func (.func f) #[] #[] := fun _ => rfl
      refine want_none rfl ?_
      unfold Oper.wp
      generalize a.eval = ρ at *
      have c := Bk.cell ((KX1.out.drew).chg hE id) DR1.out
      go_simp
      try go_bits
      first | exact rel_val (Chg.refl _) | (go_simp; exact rel_val (Chg.refl _))
    case ao4 =>
      intro a wx hE hin
      clear hin
      have hcst : ∀ v, a.eval (.const v) = v := fun _ => rfl
      have hfnc : ∀ f, a.eval (.func f) = .func (.func f) #[] #[] := fun _ => rfl
      refine want_none rfl ?_
      unfold Oper.wp
      generalize a.eval = ρ at *
      go_simp
      try go_bits
      exact rel_row (id)
    case ao5 =>
      intro a wx hE hin
      have i1 : a.eval (.tmp 1) = .pointer (some ⟨w.heap.size, 0, none⟩) := hin 1 rfl
      clear hin
      have hcst : ∀ v, a.eval (.const v) = v := fun _ => rfl
      have hfnc : ∀ f, a.eval (.func f) = .func (.func f) #[] #[] := fun _ => rfl
      refine want_none rfl ?_
      unfold Oper.wp
      generalize a.eval = ρ at *
      go_simp
      try go_bits
      first | exact rel_val (Chg.refl _) | (go_simp; exact rel_val (Chg.refl _))
    case ao6 =>
      rintro a wx hE hin (h5 : a.eval (.tmp 8) = _)
      clear hin
      have hcst : ∀ v, a.eval (.const v) = v := fun _ => rfl
      have hfnc : ∀ f, a.eval (.func f) = .func (.func f) #[] #[] := fun _ => rfl
      refine want_none rfl ?_
      unfold Oper.wp
      generalize a.eval = ρ at *
      have c := Bk.cell ((KX1.out.drew).chg hE id) DR2.out
      go_simp
      try go_bits
      first | exact rel_val (Chg.refl _) | (go_simp; exact rel_val (Chg.refl _))
    case ao7 =>
      rintro a wx hE hin ⟨g4, h4, s4, t4, f4, c4⟩ (h6 : a.eval (.tmp 9) = _)
      clear hin
      have hcst : ∀ v, a.eval (.const v) = v := fun _ => rfl
      have hfnc : ∀ f, a.eval (.func f) = .func (.func f) #[] #[] := fun _ => rfl
      refine want_none rfl ?_
      exact wp_append_new _ _ 23 rfl 39 zPut 33 40 Try.underlying23 infoPut3 rfl (by decide) (by decide) ⟨g4, 0, none⟩ h4 r.A r.n r.c (r.ps.flatMap putC) h6 (by rw [puts_length HOK.out.ok, HOK.out.len]) (HOK.out.rd.below (EX1.out.trans (hE.undrew.below EX1.out.size (fun _ _ => id)))) (by have := HN.out; omega) (one_puts _) (fun A1 c1 w1 hr1 hc1 => ⟨_, rfl, ⟨A1, c1, rfl, hr1.mono (Nat.le_trans KZ1.out.lt hE.size)⟩, hc1⟩)
    case ao8 =>
      rintro a wx hE hin (h1 : a.eval (.tmp 4) = _) (h3 : a.eval (.tmp 6) = _) ⟨A7, c7, h7, o7⟩
      clear hin
      have hcst : ∀ v, a.eval (.const v) = v := fun _ => rfl
      have hfnc : ∀ f, a.eval (.func f) = .func (.func f) #[] #[] := fun _ => rfl
      refine want_none rfl ?_
      exact wp_bld 53 [(0, .tmp 4), (1, .tmp 6), (2, .tmp 10)] rfl zQ [(0, [vu32 r.e]), (1, [vu32 r.q]), (2, [.slice A7 r.n c7])] [vu32 r.e, vu32 r.q, .slice A7 r.n c7, .int .i64 0] (by kernel_rfl) (by kernel_rfl) ⟨by rw [h1]; rfl, ⟨1, rfl, by kernel_rfl, by decide⟩, by rw [h3]; rfl, ⟨1, rfl, by kernel_rfl, by decide⟩, by rw [h7]; rfl, ⟨1, rfl, by kernel_rfl, by decide⟩, trivial⟩ rfl ⟨_, rfl, ⟨A7, c7, rfl, o7⟩, Chg.refl _⟩
  case afin =>
    intro wx hE
    rintro _ rfl _ rfl _ rfl _ rfl _ ⟨g4, rfl, s4, t4, f4, c4⟩ _ rfl _ rfl _ ⟨A7, c7, rfl, o7⟩ _ ⟨A8, c8, rfl, o8⟩
    simp only [FinOk, List.take_succ_cons, List.take_zero, List.take_nil, List.drop_succ_cons, List.drop_zero, List.drop_nil, Act.put, List.setIfInBounds_toArray, List.set_cons_succ, List.set_cons_zero]
    have O8 := Lib.hid o8
    have EX2 : Hid (Below w.heap.size w wx) := EX1.out.trans (hE.undrew.below EX1.out.size (fun _ _ => id))
    have KZ2 : Hid (Bk wx gq zQ) := KZ1.out.drew.chg hE id
    clear o7 o8 hE c4
    go_wp2_with (refine wpList_st rfl 53 (.tmp 2) (.tmp 11) rfl gq 0 4 zQ [vu32 r.e, vu32 r.q, .slice A8 r.n c8, .int .i64 0] rfl rfl KZ2.out (by kernel_rfl) rfl (by decide) (one_rec4 _ _ _ _ _ _) ?_)
    intro wz hbz hcz
    rw [splice_whole zQ [vu32 r.e, vu32 r.q, .slice A8 r.n c8, .int .i64 0] rfl] at hbz
    have HEZ : Hid (Below w.heap.size w wz) := EX2.out.trans (hcz.below EX2.out.size (fun k hk he => by have := GQ.out; omega))
    have HBZ := Lib.hid hbz
    have OZ : Hid (RdN w.heap.size wz A8 (r.ps.flatMap putC)) := (O8.out.chg hcz (fun j hj => by omega)).mono (by have := GQ.out; omega)
    clear hbz hcz
    go_wp2_with fail
    (try simp only [Exit.inBlock, Exit.then])
    refine bodyPost_ret (res_cell rfl _ _ gq 4 _ rfl HBZ.out (by kernel_rfl) (by kernel_rfl) rfl) rfl ?_
    exact ⟨A8, c8, rfl, OZ.out, HEZ.out⟩
/-! ### steps -/
structure StpW where
  k : Int
  i : Int
  r : RecV
  A : Option Addr
  n : Nat
  c : Nat
  body : List UInt8
  B : Option Addr
  m : Nat
  d : Nat
  keep : List UInt8
def stwC (s : StpW) : List Value := [.int .i64 s.k, .int .i64 s.i, vu32 s.r.e, vu32 s.r.q, .slice s.r.A s.r.n s.r.c, .slice s.A s.n s.c, .slice s.B s.m s.d]
structure StwOk (W : World) (s : StpW) : Prop where
  k1 : -9223372036854775808 ≤ s.k
  k2 : s.k ≤ 9223372036854775807
  i1 : -9223372036854775808 ≤ s.i
  i2 : s.i ≤ 9223372036854775807
  rcd : RecOk W s.r
  len : s.body.length = s.n
  cap : s.n ≤ s.c
  max : s.c ≤ 9223372036854775807
  rd : Rd W s.A (bts s.body)
  len2 : s.keep.length = s.m
  cap2 : s.m ≤ s.d
  max2 : s.d ≤ 9223372036854775807
  rd2 : Rd W s.B (bts s.keep)
section
variable {H : Type} {enc : TypeId × Value → H} {W : World}
theorem stwCells : Try.prog.cellsOf 50 = 7 := by kernel_rfl
set_option maxRecDepth 100000 in
theorem TC.stw {cs : List Value} (h : TC enc Try.prog W 50 cs) : ∃ s, cs = stwC s ∧ StwOk W s := by
  obtain ⟨hl, hf⟩ := h.struct Try.underlying50
  rw [stwCells] at hl
  match cs, hl with
  | [a, b, c, d, e, f, g], _ =>
    have f0 : TC enc Try.prog W 3 (([a, b, c, d, e, f, g].drop 0).take (Try.prog.cellsOf 3)) := hf 0 _ rfl
    have f1 : TC enc Try.prog W 3 (([a, b, c, d, e, f, g].drop 1).take (Try.prog.cellsOf 3)) := hf 1 _ rfl
    have f2 : TC enc Try.prog W 25 (([a, b, c, d, e, f, g].drop 2).take (Try.prog.cellsOf 25)) := hf 2 _ rfl
    have f3 : TC enc Try.prog W 48 (([a, b, c, d, e, f, g].drop 5).take (Try.prog.cellsOf 48)) := hf 3 _ rfl
    have f4 : TC enc Try.prog W 48 (([a, b, c, d, e, f, g].drop 6).take (Try.prog.cellsOf 48)) := hf 4 _ rfl
    rw [show Try.prog.cellsOf 3 = 1 by kernel_rfl] at f0 f1
    rw [recCells] at f2
    rw [show Try.prog.cellsOf 48 = 1 by kernel_rfl] at f3 f4
    obtain ⟨x0, hx0, b0⟩ := f0.int Try.underlying3
    obtain ⟨x1, hx1, b1⟩ := f1.int Try.underlying3
    obtain ⟨r, hr, rok⟩ := f2.rec
    obtain ⟨A3, n3, c3, l3, hx3, hl3, hc3, hm3, hr3⟩ := f3.bytes Try.underlying48 Try.underlying5 (by kernel_rfl)
    obtain ⟨A4, n4, c4, l4, hx4, hl4, hc4, hm4, hr4⟩ := f4.bytes Try.underlying48 Try.underlying5 (by kernel_rfl)
    simp [recC] at hx0 hx1 hr hx3 hx4
    have B0 := Go.bounds_i64 b0
    have B1 := Go.bounds_i64 b1
    exact ⟨⟨x0, x1, r, A3, n3, c3, l3, A4, n4, c4, l4⟩, by simp [stwC, hx0, hx1, hr, hx3, hx4], ⟨B0.1, B0.2, B1.1, B1.2, rok, hl3, hc3, hm3, hr3, hl4, hc4, hm4, hr4⟩⟩
theorem stws_of : ∀ (n : Nat) (vs : List Value), vs.length = n * 7 → (∀ i, i < n → TC enc Try.prog W 50 ((vs.drop (i * 7)).take 7)) → ∃ l : List StpW, l.length = n ∧ vs = l.flatMap stwC ∧ ∀ s ∈ l, StwOk W s
  | 0, vs, hl, _ => ⟨[], rfl, List.eq_nil_of_length_eq_zero (by omega), fun s hs => by cases hs⟩
  | n + 1, vs, hl, h => by
    obtain ⟨s, hs, hok⟩ := (h 0 (by omega)).stw
    obtain ⟨l, h1, h2, h3⟩ := stws_of n (vs.drop 7) (by rw [List.length_drop]; omega) (fun i hi => by
      have := h (i + 1) (by omega)
      rwa [show (i + 1) * 7 = 7 + i * 7 by omega, ← List.drop_drop] at this)
    refine ⟨s :: l, by simp [h1], ?_, ?_⟩
    · rw [List.flatMap_cons, ← h2, ← hs, Nat.zero_mul, List.drop_zero, List.take_append_drop]
    · intro x hx
      rcases List.mem_cons.1 hx with rfl | hx
      · exact hok
      · exact h3 x hx
theorem TC.stws {cs : List Value} (h : TC enc Try.prog W 43 cs) :
    ∃ (A : Option Addr) (n cap : Nat) (l : List StpW), cs = [.slice A n cap] ∧ l.length = n ∧ n ≤ cap ∧ cap ≤ 9223372036854775807 ∧ Rd W A (l.flatMap stwC) ∧ ∀ s ∈ l, StwOk W s := by
  obtain ⟨A, n, cap, vs, h0, h1, h2, h3, h4, h5⟩ := h.slice Try.underlying43
  rw [stwCells] at h3 h5
  obtain ⟨l, hl, rfl, hk⟩ := stws_of n vs h3 h5
  exact ⟨A, n, cap, l, h0, hl, h1, h2, h4, hk⟩
end
theorem stw_get {l : List StpW} {k : Nat} (hk : k < l.length) (j : Nat) (hj : j < 7) : (l.flatMap stwC)[k * 7 + j]? = (stwC l[k])[j]? := by
  have h := flat_piece stwC 7 l k l[k] (fun _ _ => rfl) (List.getElem?_eq_getElem hk)
  have h2 := congrArg (·[j]?) h
  simp only [List.getElem?_take, List.getElem?_drop] at h2
  rwa [if_pos hj] at h2
theorem stw_some {w : World} {A : Option Addr} {l : List StpW} (hr : Rd w A (l.flatMap stwC)) {k : Nat} (hk : k < l.length) : ∃ ad, A = some ad := by
  obtain ⟨ad, hA, _⟩ := hr _ _ (stw_get hk 0 (by decide))
  exact ⟨ad, hA⟩
theorem stw_rd {w : World} {ad : Addr} {l : List StpW} (hr : Rd w (some ad) (l.flatMap stwC)) {k : Nat} (hk : k < l.length) : Rd w (some (ad.add (k * 7))) (stwC l[k]) := by
  have h := (hr.drop (k * 7)).take 7
  rwa [flat_piece stwC 7 l k l[k] (fun _ _ => rfl) (List.getElem?_eq_getElem hk)] at h
theorem stw_at {w : World} {ad : Addr} {l : List StpW} (hr : Rd w (some ad) (l.flatMap stwC)) {k : Nat} (hk : k < l.length) (j : Nat) (hj : j < 7) {v : Value} (hv : (stwC l[k])[j]? = some v) (h0 : 0 < j := by decide) : w.cell? ⟨(ad.add (k * 7)).block, (ad.add (k * 7)).off + j, none⟩ = some v := by
  obtain ⟨ad', hA, h⟩ := hr _ v (by rw [stw_get hk j hj]; exact hv)
  injection hA with hA
  subst hA
  rw [← add_add] at h
  cases j with
  | zero => exact absurd h0 (by decide)
  | succ j => exact h
theorem one_stw (s : StpW) : ∀ u ∈ stwC s, u.oneCell' = true := by
  intro u hu
  simp only [stwC, List.mem_cons, List.not_mem_nil, or_false] at hu
  rcases hu with rfl | rfl | rfl | rfl | rfl | rfl | rfl <;> rfl
def fairS (s : StpW) : Bool := decide (s.r.n ≤ 50) && decide (s.n ≤ 29) && decide (s.m ≤ 300)
def fairW (l : List StpW) : Bool := l.all fairS && decide (l.length ≤ 80)
theorem fairS_at {s : StpW} (h : fairS s = true) : s.r.n ≤ 50 ∧ s.n ≤ 29 ∧ s.m ≤ 300 := by
  simp only [fairS, Bool.and_eq_true, decide_eq_true_eq] at h
  exact ⟨h.1.1, h.1.2, h.2⟩
theorem fairW_at {l : List StpW} (h : fairW l = true) : (∀ s ∈ l, s.r.n ≤ 50 ∧ s.n ≤ 29 ∧ s.m ≤ 300) ∧ l.length ≤ 80 := by
  rw [fairW, Bool.and_eq_true] at h
  exact ⟨fun s hs => fairS_at (List.all_eq_true.1 h.1 s hs), of_decide_eq_true h.2⟩
theorem fairW_no {l : List StpW} {k : Nat} (hk : k < l.length) (h : fairS l[k] = false) : fairW l = false := by
  rw [fairW, Bool.and_eq_false_iff]
  left
  rw [List.all_eq_false]
  exact ⟨l[k], List.getElem_mem hk, by simp [h]⟩
theorem fairW_yes {l : List StpW} (h : ∀ j (hj : j < l.length), fairS l[j] = true) : fairW l = decide (l.length ≤ 80) := by
  rw [fairW, List.all_eq_true.2, Bool.true_and]
  intro s hs
  obtain ⟨j, hj, rfl⟩ := List.getElem_of_mem hs
  exact h j hj
set_option maxRecDepth 20000 in
set_option maxHeartbeats 4000000 in
theorem fairW_calls (w : World) (A : Option Addr) (n c : Nat) (l : List StpW) (hl : l.length = n) (hm : n ≤ 9223372036854775807) (hr : Rd w A (l.flatMap stwC)) :
    Calls Try.prog 13 #[.slice A n c] w fun e w' => e = .returned (.bool (fairW l)) ∧ w = w' := by
  subst hl
  have HR := Lib.hid hr
  clear hr
  go_enter Try.func13, Try.ntmps13
  go_wp2_with fail
  go_loop [3] (fun v => ∃ k : Nat, k ≤ l.length ∧ v = .int .i64 k ∧ ∀ j (hj : j < l.length), j < k → fairS l[j] = true) (fun v => l.length - (intOf v).toNat)
  case atStart => exact ⟨0, by omega, rfl, fun j _ h => by omega⟩
  case round =>
    obtain ⟨k, hk, rfl, hall⟩ := hrel
    have HA := Lib.hid hall
    clear hall
    by_cases hlt : k < l.length
    · have hki : (k : Int) < (l.length : Int) := by omega
      obtain ⟨ad, hA⟩ := stw_some HR.out hlt
      subst hA
      have c4 : w.cell? ⟨(ad.add (k * 7)).block, (ad.add (k * 7)).off + 2 + 2, none⟩ = some (.slice l[k].r.A l[k].r.n l[k].r.c) := stw_at HR.out hlt 4 (by decide) rfl
      have c5 : w.cell? ⟨(ad.add (k * 7)).block, (ad.add (k * 7)).off + 5, none⟩ = some (.slice l[k].A l[k].n l[k].c) := stw_at HR.out hlt 5 (by decide) rfl
      have c6 : w.cell? ⟨(ad.add (k * 7)).block, (ad.add (k * 7)).off + 6, none⟩ = some (.slice l[k].B l[k].m l[k].d) := stw_at HR.out hlt 6 (by decide) rfl
      by_cases h1 : l[k].r.n ≤ 50
      · have h1i : ¬ ((50 : Int) < (l[k].r.n : Int)) := by omega
        by_cases h2 : l[k].n ≤ 29
        · have h2i : ¬ ((29 : Int) < (l[k].n : Int)) := by omega
          by_cases h3 : l[k].m ≤ 300
          · have h3i : ¬ ((300 : Int) < (l[k].m : Int)) := by omega
            have HS : Hid (fairS l[k] = true) := by show _ = _; simp [fairS, h1, h2, h3]
            clear h1 h2 h3
            go_wp2
            go_round
            case rel => exact ⟨k + 1, by omega, by go_num, fun j hj hjk => by
              rcases Nat.lt_or_ge j k with h | h
              · exact HA.out j hj h
              · obtain rfl : j = k := by omega
                exact HS.out⟩
            case measure => simp [intOf]; omega
          · have h3i : ((300 : Int) < (l[k].m : Int)) := by omega
            have HF : Hid (fairW l = false) := fairW_no hlt (by simp [fairS, h3])
            clear h1 h2 h3
            go_wp2
            go_ret
            exact ⟨by rw [HF.out]; rfl, rfl⟩
        · have h2i : ((29 : Int) < (l[k].n : Int)) := by omega
          have HF : Hid (fairW l = false) := fairW_no hlt (by simp [fairS, h2])
          clear h1 h2
          go_wp2
          go_ret
          exact ⟨by rw [HF.out]; rfl, rfl⟩
      · have h1i : ((50 : Int) < (l[k].r.n : Int)) := by omega
        have HF : Hid (fairW l = false) := fairW_no hlt (by simp [fairS, h1])
        clear h1
        go_wp2
        go_ret
        exact ⟨by rw [HF.out]; rfl, rfl⟩
    · have hke : k = l.length := by omega
      subst hke
      have hki : ¬ (((l.length : Nat) : Int) < (l.length : Int)) := by omega
      have HF : Hid (fairW l = decide (l.length ≤ 80)) := fairW_yes (fun j hj => HA.out j hj hj)
      by_cases h80 : l.length ≤ 80
      · have h80i : ((l.length : Nat) : Int) ≤ 80 := by omega
        have HF2 : Hid (fairW l = true) := by show _ = _; rw [HF.out, decide_eq_true h80]
        clear h80
        go_wp2
        go_ret
        exact ⟨by rw [HF2.out]; (try rfl), rfl⟩
      · have h80i : ¬ ((l.length : Nat) : Int) ≤ 80 := by omega
        have HF2 : Hid (fairW l = false) := by show _ = _; rw [HF.out, decide_eq_false h80]
        clear h80
        go_wp2
        go_ret
        exact ⟨by rw [HF2.out]; (try rfl), rfl⟩
end Go.Proofs.Ytchcnkobgdbdkaa
