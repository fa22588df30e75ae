
/- Blocks whose cells are known whole: what is read out of them, stored and copied into them. -/
import Derived.Test.YtpldcmcldoidaaaArr
import Derived.Laws.CopyOwn
import Derived.Laws.CopyRow
import Derived.Laws.Tables
namespace Go.Proofs.Ytpldcmcldoidaaa
open Go.RowKit
set_option linter.unusedVariables false
set_option linter.unusedSimpArgs false

/-- Block g holds the cells vs. -/
def Bk (w : World) (g : Nat) (vs : List Value) : Prop := ∃ t, w.heap[g]? = some (.cells vs.toArray t (0, 0))
theorem Bk.chg {S : Nat → Prop} {w w1 : World} {g : Nat} {vs : List Value} (h : Bk w g vs) (hc : Chg S w w1) (hS : ¬ S g) : Bk w1 g vs := by
  obtain ⟨t, h⟩ := h
  exact ⟨t, hc.get h hS⟩
theorem Bk.below {w w1 : World} {g : Nat} {vs : List Value} (h : Bk w g vs) (hc : Below w.heap.size w w1) : Bk w1 g vs := h.chg (S := NoS) (.of_below hc) id
theorem Bk.lt {w : World} {g : Nat} {vs : List Value} (h : Bk w g vs) : g < w.heap.size := by
  obtain ⟨t, h⟩ := h
  exact (Array.getElem?_eq_some_iff.1 h).1
theorem Bk.drew {w : World} {g : Nat} {vs : List Value} (h : Bk w g vs) : Bk w.drew g vs := h
theorem Bk.new (w : World) (vs : List Value) (t : TypeId) : Bk (w.alloc (.cells vs.toArray t)) w.heap.size vs := ⟨t, heap_alloc_new w _⟩
theorem Bk.new_at {w : World} {g : Nat} {cs : Array Value} {t : TypeId} {vs : List Value} (hg : g = w.heap.size) (hv : cs = vs.toArray) : Bk (w.alloc (.cells cs t)) g vs := by
  subst hg
  subst hv
  exact Bk.new w vs t
theorem Bk.alloc {w : World} {g : Nat} {vs : List Value} (h : Bk w g vs) (o : Obj) : Bk (w.alloc o) g vs := h.chg (S := NoS) ((Chg.refl w).alloc o) id
theorem Bk.rd {w : World} {g : Nat} {vs : List Value} (h : Bk w g vs) : Rd w (some ⟨g, 0, none⟩) vs := by
  obtain ⟨t, h⟩ := h
  exact Rd.row (S := NoS) h
theorem Bk.rd_at {w : World} {g : Nat} {vs : List Value} (h : Bk w g vs) (off n : Nat) : Rd w (some ⟨g, off, none⟩) ((vs.drop off).take n) := by
  obtain ⟨t, h⟩ := h
  have := Rd.of_block_at h off
  simp only at this
  exact Rd.take this n
theorem Bk.cell {w : World} {g j : Nat} {vs : List Value} {v : Value} (h : Bk w g vs) (hj : vs[j]? = some v) : w.cell? ⟨g, j, none⟩ = some v := by
  obtain ⟨t, h⟩ := h
  simpa [World.cell?, h] using hj
theorem Bk.frozen {w : World} {g : Nat} {vs : List Value} (h : Bk w g vs) (j : Nat) : w.frozen? ⟨g, j, none⟩ = false := by
  obtain ⟨t, h⟩ := h
  simp [World.frozen?, h]
theorem Bk.set {w : World} {g j : Nat} {vs : List Value} (h : Bk w g vs) (v : Value) : Bk (w.setCell ⟨g, j, none⟩ v) g (vs.set j v) := by
  obtain ⟨t, h⟩ := h
  refine ⟨t, ?_⟩
  rw [heap_setCell_same w g j _ t v h]
  simp
theorem Bk.inj {w : World} {g : Nat} {vs us : List Value} (h : Bk w g vs) (h' : Bk w g us) : vs = us := by
  obtain ⟨t, h⟩ := h
  obtain ⟨t', h'⟩ := h'
  rw [h] at h'
  injection h' with h'
  injection h' with h' _
  exact List.toArray_inj h'

theorem Chg.undrew {S : Nat → Prop} {w w1 : World} (h : Chg S w.drew w1) : Chg S w w1 := ⟨h.os, h.tape, h.output, h.size, h.block⟩
theorem chg_setRow (w : World) (g : Nat) (cs : Array Value) : Chg (· = g) w (w.setRow g cs) :=
  ⟨rfl, rfl, rfl, by simp, fun k _ hk => setRow_other w g k cs hk⟩
theorem splice_eq (vs us : List Value) (off : Nat) : vs.take off ++ us ++ vs.drop (off + us.length) = splice vs off us := by simp [splice]
theorem splice_nil (vs : List Value) (off : Nat) : splice vs off [] = vs := by simp [splice]
theorem splice_all (vs us : List Value) (h : us.length = vs.length) : splice vs 0 us = us := by simp [splice, h]

section
variable {P : Program} {o : Oper} {a : Act} {w : World} {K : Act → World → Prop} {Q : Exit → Act → World → Prop}
/-- An operation of a list, carried out by a law of its own. -/
theorem wpl {ops : Array Oper} {rest : List Oper} (hw : Region.wanted o (yielded ops a.tmps) = true) (h : ∀ K : Act → World → Prop, (∀ a w, wpList P ops Q rest a w → K a w) → o.wp P a w K Q) : wpList P ops Q (o :: rest) a w := by
  refine wpList_step fun K hK => ?_
  rw [if_pos hw]
  exact h K hK
theorem run_loadVar_at (w : World) (ty g off n : Nat) (vs : List Value) (hb : Bk w g vs) (hagg : (match P.underlying ty with | some (.struct _) | some (.array _ _) => true | _ => false) = true) (hsz : (P.info? ty).map (·.size) = some n) (hn : off + n ≤ vs.length) :
    (loadVar ty ⟨g, off, none⟩).run P w = .ok (.agg ((vs.drop off).take n).toArray) w := by
  obtain ⟨i0, hi, hs⟩ := Option.map_eq_some_iff.1 hsz
  have hl : (loadCells ⟨g, off, none⟩ ((vs.drop off).take n).length).run P w = .ok ((vs.drop off).take n).toArray w :=
    run_loadCells_list (P := P) w ⟨g, off, none⟩ _ (fun j v hv => by
      rw [add_plain]
      rw [List.getElem?_take] at hv
      split at hv
      · rw [List.getElem?_drop] at hv
        exact hb.cell hv
      · cases hv)
  have hlen : ((vs.drop off).take n).length = n := by rw [List.length_take, List.length_drop]; omega
  rw [hlen] at hl
  have hag : (isAgg ty).run P w = .ok true w := by
    unfold isAgg
    cases hu : P.underlying ty with
    | none => simp [hu] at hagg
    | some d =>
      rw [Sem.run_bind, run_underlying hu w]
      cases d <;> simp_all
  simp [loadVar, Sem.run_bind, hag, sizeOf, typeInfo, hi, hs, hl]
/-- A part of a block is read. -/
theorem wp_ld (ty : TypeId) (x : Operand) (ho : o.op = .load ty x) (g off n : Nat) (vs us : List Value) (hx : a.eval x = .pointer (some ⟨g, off, none⟩)) (hb : Bk w g vs)
    (hagg : (match P.underlying ty with | some (.struct _) | some (.array _ _) => true | _ => false) = true) (hsz : (P.info? ty).map (·.size) = some n) (hn : off + n ≤ vs.length) (hus : (vs.drop off).take n = us)
    (h : K (a.put o.dst (.agg us.toArray)) w) : o.wp P a w K Q := by
  subst hus
  unfold Oper.wp execOp
  simp only [ho, hx, Instr.loadAt, Instr.sureAddr, Sem.run_bind, Sem.run_pure, Result.andThen_ok, run_loadVar_at w ty g off n vs hb hagg hsz hn]
  exact h
theorem run_storeVar_at (w : World) (ty g off : Nat) (vs : List Value) (v : Value) (hb : Bk w g vs) (hsz : (P.info? ty).map (·.size) = some v.cells.toList.length) (hn : off + v.cells.toList.length ≤ vs.length) (h1 : ∀ u ∈ v.cells.toList, u.oneCell' = true) :
    ∃ w', (storeVar ty ⟨g, off, none⟩ v).run P w = .ok () w' ∧ Bk w' g (splice vs off v.cells.toList) ∧ Chg (· = g) w w' := by
  obtain ⟨t, hb⟩ := hb
  obtain ⟨i0, hi, hs⟩ := Option.map_eq_some_iff.1 hsz
  have := run_storeCells_at P g off t v.cells.toList 0 vs.toArray w hb (by simpa using hn) h1
  simp only [Nat.add_zero] at this
  refine ⟨_, ?_, ⟨t, setRow_heap w g _ _ t _ hb⟩, chg_setRow w g _⟩
  rw [← splice_eq]
  simp only [storeVar, Sem.run_bind, sizeOf, typeInfo, run_program, Result.andThen_ok, hi, Sem.run_pure]
  rw [if_neg (by rw [hs]; simp)]
  simpa using this
/-- A value is stored into a part of a block. -/
theorem wp_st (ty : TypeId) (x y : Operand) (ho : o.op = .store ty x y) (g off : Nat) (vs us : List Value) (hx : a.eval x = .pointer (some ⟨g, off, none⟩)) (hy : (a.eval y).cells.toList = us) (hb : Bk w g vs)
    (hsz : (P.info? ty).map (·.size) = some us.length) (hn : off + us.length ≤ vs.length) (h1 : ∀ u ∈ us, u.oneCell' = true)
    (h : ∀ w', Bk w' g (splice vs off us) → Chg (· = g) w w' → K (a.put o.dst undef) w') : o.wp P a w K Q := by
  subst hy
  obtain ⟨w', hr, hb', hc⟩ := run_storeVar_at (P := P) w ty g off vs (a.eval y) hb hsz hn h1
  unfold Oper.wp execOp
  simp only [ho, hx, Instr.storeAt, Instr.sureAddr, Sem.run_bind, Sem.run_pure, Result.andThen_ok, hr]
  exact h w' hb' hc
/-- copy into a part of a block. -/
theorem wp_cp (d s : Operand) (dT sT elem : TypeId) (ho : o.op = .call { callee := .builtin .copy, args := #[d, s], argTypes := #[dT, sT] }) (hu : P.underlying dT = some (.slice elem)) (hs1 : (P.info? elem).map (·.size) = some 1)
    (g off n cd : Nat) (A : Option Addr) (m cs : Nat) (vs us : List Value) (hd : a.eval d = .slice (some ⟨g, off, none⟩) n cd) (hs : a.eval s = .slice A m cs) (hb : Bk w g vs) (hr : Rd w A us) (hl : us.length = m) (hn : off + n ≤ vs.length) (h1 : ∀ u ∈ us, u.oneCell' = true)
    (h : ∀ w', Bk w' g (splice vs off (us.take n)) → Chg (· = g) w w' → K (a.put o.dst (goInt (Nat.min m n : Nat))) w') : o.wp P a w K Q := by
  obtain ⟨i0, hi, hsz⟩ := Option.map_eq_some_iff.1 hs1
  have hlen : (us.take n).length = Nat.min m n := by rw [List.length_take, hl]; exact Nat.min_comm n m
  have key : ∃ w', (Builtin.copy_ #[dT, sT] o.type #[.slice (some ⟨g, off, none⟩) n cd, .slice A m cs]).run P w = .ok (goInt (Nat.min m n : Nat)) w' ∧ Bk w' g (splice vs off (us.take n)) ∧ Chg (· = g) w w' := by
    by_cases hz : Nat.min m n = 0
    · refine ⟨w, ?_, ?_, Chg.refl w⟩
      · rw [hz]
        exact run_copy_none w dT sT o.type elem _ A n cd m cs hu hs1 hz
      · rw [show us.take n = [] from List.eq_nil_of_length_eq_zero (by omega), splice_nil]
        exact hb
    · have hpos : 0 < us.length := by
        rw [hl]
        rcases Nat.eq_zero_or_pos m with h0 | h0
        · subst h0; simp at hz
        · exact h0
      obtain ⟨ad, rfl, _⟩ := hr.at_ 0 hpos
      obtain ⟨t, hb⟩ := hb
      have hnle : off + Nat.min m n ≤ vs.length := Nat.le_trans (Nat.add_le_add_left (Nat.min_le_right m n) off) hn
      have hld := run_loadCells_list (P := P) w ad (us.take n) (fun j v hv => by
        rw [List.getElem?_take] at hv
        split at hv
        · obtain ⟨ad', e, hc⟩ := hr j v hv
          injection e with e
          subst e
          exact hc
        · cases hv)
      have hst := run_storeCells_at P g off t (us.take n) 0 vs.toArray w hb (by rw [hlen]; simpa using hnle) (fun u hu => h1 u (List.mem_of_mem_take hu))
      simp only [Nat.add_zero] at hst
      rw [hlen] at hld
      refine ⟨_, ?_, ⟨t, setRow_heap w g _ _ t _ hb⟩, chg_setRow w g _⟩
      rw [← splice_eq]
      simp [Builtin.copy_, run_underlying hu, Builtin.lenOf, Builtin.firstCells, sizeOf, typeInfo, hi, hsz, hld, hst]
  obtain ⟨w', hrun, hb', hc⟩ := key
  unfold Oper.wp execOp
  simp only [ho, resolve, invoke, builtin, Sem.run_bind, Sem.run_pure, Result.andThen_ok, List.map_toArray, List.map_cons, List.map_nil, hd, hs, hrun]
  exact h w' hb' hc
end
/-! ### the same within lists of operations -/
section
variable {P : Program} {o : Oper} {a : Act} {w : World} {Q : Exit → Act → World → Prop} {ops : Array Oper} {rest : List Oper}
theorem wpList_ld (hw : Region.wanted o (yielded ops a.tmps) = true) (ty : TypeId) (x : Operand) (ho : o.op = .load ty x) (g off n : Nat) (vs us : List Value) (hx : a.eval x = .pointer (some ⟨g, off, none⟩)) (hb : Bk w g vs)
    (hagg : (match P.underlying ty with | some (.struct _) | some (.array _ _) => true | _ => false) = true) (hsz : (P.info? ty).map (·.size) = some n) (hn : off + n ≤ vs.length) (hus : (vs.drop off).take n = us)
    (h : wpList P ops Q rest (a.put o.dst (.agg us.toArray)) w) : wpList P ops Q (o :: rest) a w :=
  wpl hw fun K hK => wp_ld ty x ho g off n vs us hx hb hagg hsz hn hus (hK _ _ h)
theorem wpList_st (hw : Region.wanted o (yielded ops a.tmps) = true) (ty : TypeId) (x y : Operand) (ho : o.op = .store ty x y) (g off n : Nat) (vs us : List Value) (hx : a.eval x = .pointer (some ⟨g, off, none⟩)) (hy : (a.eval y).cells.toList = us) (hb : Bk w g vs)
    (hsz : (P.info? ty).map (·.size) = some n) (hlen : us.length = n) (hn : off + n ≤ vs.length) (h1 : ∀ u ∈ us, u.oneCell' = true)
    (h : ∀ w', Bk w' g (splice vs off us) → Chg (· = g) w w' → wpList P ops Q rest (a.put o.dst undef) w') : wpList P ops Q (o :: rest) a w := by
  subst hlen
  exact wpl hw fun K hK => wp_st ty x y ho g off vs us hx hy hb hsz hn h1 fun w' hb' hc => hK _ _ (h w' hb' hc)
theorem wpList_cp (hw : Region.wanted o (yielded ops a.tmps) = true) (d s : Operand) (dT sT elem : TypeId) (ho : o.op = .call { callee := .builtin .copy, args := #[d, s], argTypes := #[dT, sT] }) (hu : P.underlying dT = some (.slice elem)) (hs1 : (P.info? elem).map (·.size) = some 1)
    (g off n cd : Nat) (A : Option Addr) (m cs : Nat) (vs us : List Value) (hd : a.eval d = .slice (some ⟨g, off, none⟩) n cd) (hs : a.eval s = .slice A m cs) (hb : Bk w g vs) (hr : Rd w A us) (hl : us.length = m) (hn : off + n ≤ vs.length) (h1 : ∀ u ∈ us, u.oneCell' = true)
    (h : ∀ w', Bk w' g (splice vs off (us.take n)) → Chg (· = g) w w' → wpList P ops Q rest (a.put o.dst (goInt (Nat.min m n : Nat))) w') : wpList P ops Q (o :: rest) a w :=
  wpl hw fun K hK => wp_cp d s dT sT elem ho hu hs1 g off n cd A m cs vs us hd hs hb hr hl hn h1 fun w' hb' hc => hK _ _ (h w' hb' hc)
end
theorem wpList_eq_bytes {P : Program} {o : Oper} {a : Act} {w : World} {Q : Exit → Act → World → Prop} {ops : Array Oper} {rest : List Oper} (hw : Region.wanted o (yielded ops a.tmps) = true) (neg : Bool) (t ty : TypeId) (x y : Operand) (ho : o.op = .binOp (if neg then .neq else .eql) t x y ty)
    (e n : Nat) (ht : P.underlying t = some (.array n e)) (he : P.underlying e = some (.int .u8)) (hsz : (P.info? e).map (·.size) = some 1) (hm : P.eqGuardType P.depth t = false) (xs ys : List UInt8)
    (hx : a.eval x = .agg (bts xs).toArray) (hy : a.eval y = .agg (bts ys).toArray) (hlx : xs.length = n) (hly : ys.length = n) (r : Bool) (hr : (neg ^^ decide (xs = ys)) = r)
    (h : wpList P ops Q rest (a.put o.dst (.bool r)) w) : wpList P ops Q (o :: rest) a w := by
  subst hr
  exact wpl hw fun K hK => wp_eq_bytes neg t ty x y ho e n ht he hsz hm xs ys hx hy hlx hly (hK _ _ h)
/-- The world of a call, of code, gets a name. -/
theorem calls_at {P : Program} {n : Nat} {args : Array Value} {w : World} {Q : Ending → World → Prop} (h : ∀ w', w = w' → Calls P n args w' Q) : Calls P n args w Q := h w rfl
theorem code_at {P : Program} {c : Code} {Q : Exit → Act → World → Prop} {a : Act} {w : World} (h : ∀ w', w = w' → Code.wp P c Q a w') : Code.wp P c Q a w := h w rfl
/-! ### a struct or an array out of parts -/
theorem fold_set (off : Nat) : ∀ (us : List Value) (i : Nat) (z : Array Value), off + i + us.length ≤ z.size →
    ((us.zipIdx i).foldl (fun cs (x : Value × Nat) => cs.setIfInBounds (off + x.2) x.1) z) = (splice z.toList (off + i) us).toArray
  | [], i, z, _ => by simp [splice]
  | u :: us, i, z, h => by
    rw [List.zipIdx_cons, List.foldl_cons, fold_set off us (i + 1) _ (by simp at h ⊢; omega)]
    congr 1
    have e := list_seg_step z.toList (off + i) u us (by simp at h ⊢; omega)
    rw [← splice_eq, ← splice_eq, List.length_cons]
    simpa [Nat.add_assoc] using e
theorem fill_step {place : Nat → Option (Nat × Nat)} {z : List Value} {i off : Nat} {v : Value} {rest : List (Nat × Value)} {us : List Value} (hus : v.cells.toList = us) (hp : place i = some (off, us.length)) (hl : off + us.length ≤ z.length) :
    Instr.fill place z.toArray ((i, v) :: rest) = Instr.fill place (splice z off us).toArray rest := by
  subst hus
  have e := fold_set off v.cells.toList 0 z.toArray (by simpa using hl)
  have hz : v.cells.zipIdx = (v.cells.toList.zipIdx 0).toArray := by
    apply Array.toList_inj.1
    simp
  rw [Instr.fill, hp]
  simp only
  rw [if_neg (by simp at hl ⊢; omega)]
  rw [hz, List.foldl_toArray', e]
  · simp
  · simp
def placesOf (P : Program) (t : TypeId) : Option (List (Nat × Nat)) :=
  match P.underlying t with
  | some (.struct fields) => fields.toList.mapM fun f => (P.info? f.type).map fun i => (f.offset, i.size)
  | _ => none
theorem built_of {P : Program} {t : TypeId} {zs : List Value} {pl : List (Nat × Nat)} {parts : List (Nat × Value)} {us : List Value} (hz : (P.info? t).bind (·.zero) = some (.agg zs.toArray)) (hp : placesOf P t = some pl)
    (hf : Instr.fill (pl.toArray[·]?) zs.toArray parts = some us.toArray) : P.built t parts = some us.toArray := by
  unfold placesOf at hp
  cases hi : P.info? t with
  | none => rw [hi] at hz; simp at hz
  | some it =>
    rw [hi] at hz
    simp at hz
    split at hp
    · rename_i fields hu
      unfold Program.built
      rw [hi, hu]
      simp only [hz, hp]
      simpa [Value.cells] using hf
    · cases hp
/-- A struct whose two parts fill it. -/
theorem wp_bld2 {P : Program} {o : Oper} {a : Act} {w : World} {K : Act → World → Prop} {Q : Exit → Act → World → Prop} (t : TypeId) (i j : Nat) (x y : Operand) (ho : o.op = .build t #[(i, x), (j, y)]) (n : Nat) (zs : List Value) (pl : List (Nat × Nat)) (hz : (P.info? t).bind (·.zero) = some (.agg zs.toArray)) (hp : placesOf P t = some pl)
    (us vs : List Value) (hx : (a.eval x).cells.toList = us) (hy : (a.eval y).cells.toList = vs) (hpi : pl.toArray[i]? = some (0, us.length)) (hpj : pl.toArray[j]? = some (us.length, vs.length)) (hl : zs.length = us.length + vs.length)
    (h : K (a.put o.dst (.agg (us ++ vs).toArray)) w) : o.wp P a w K Q := by
  have hb : P.built t [(i, a.eval x), (j, a.eval y)] = some (us ++ vs).toArray := by
    refine built_of hz hp ?_
    rw [fill_step hx hpi (by omega), fill_step hy hpj (by rw [length_splice _ _ _ (by omega)]; omega), Instr.fill]
    congr 2
    simp only [splice, List.take_zero, List.nil_append, Nat.zero_add]
    rw [List.take_append_of_le_length (by omega), List.take_length, List.drop_append, List.drop_eq_nil_of_le (show us.length ≤ us.length + vs.length by omega), List.nil_append, List.drop_drop, List.drop_eq_nil_of_le (by omega), List.append_nil]
  unfold Oper.wp execOp
  simp only [ho, Sem.run_bind, List.map_toArray, List.map_cons, List.map_nil, run_build w t _ _ hb, Result.andThen_ok]
  exact h
/-! ### any build -/
def splices (zs : List Value) : List (Nat × List Value) → List Value
  | [] => zs
  | (off, us) :: r => splices (splice zs off us) r
def placeAt (P : Program) (t : TypeId) (i : Nat) : Option (Nat × Nat) :=
  match P.underlying t with
  | some (.struct fields) => (fields.toList.mapM fun f => (P.info? f.type).map fun i => (f.offset, i.size)).bind (·.toArray[i]?)
  | some (.array _ e) => (P.info? e).map fun ie => (i * ie.size, ie.size)
  | _ => none
def placesB (P : Program) (t : TypeId) : Bool :=
  match P.underlying t with
  | some (.struct fields) => (fields.toList.mapM fun f => (P.info? f.type).map fun i => (f.offset, i.size)).isSome
  | some (.array _ e) => (P.info? e).isSome
  | _ => false
def FitsAt (P : Program) (t : TypeId) (n : Nat) (ev : Operand → Value) : List (Nat × Operand) → List (Nat × List Value) → Prop
  | (i, x) :: ps, (off, us) :: sp => (ev x).cells.toList = us ∧ (∃ k, us.length = k ∧ placeAt P t i = some (off, k) ∧ off + k ≤ n) ∧ FitsAt P t n ev ps sp
  | [], [] => True
  | _, _ => False
theorem fill_fits {P : Program} {t : TypeId} {n : Nat} {ev : Operand → Value} {place : Nat → Option (Nat × Nat)} (hp : place = placeAt P t) : ∀ (ps : List (Nat × Operand)) (sp : List (Nat × List Value)) (zs : List Value), zs.length = n → FitsAt P t n ev ps sp →
    Instr.fill place zs.toArray (ps.map fun p => (p.1, ev p.2)) = some (splices zs sp).toArray
  | [], [], zs, _, _ => by simp [Instr.fill, splices]
  | (i, x) :: ps, (off, us) :: sp, zs, hz, h => by
    obtain ⟨h1, ⟨k, h2, h3, h4⟩, h5⟩ := h
    subst h2
    rw [List.map_cons, fill_step h1 (by rw [hp]; exact h3) (by omega)]
    exact fill_fits hp ps sp _ (by rw [length_splice _ _ _ (by omega)]; exact hz) h5
  | [], _ :: _, _, _, h => h.elim
  | _ :: _, [], _, _, h => h.elim
theorem built_fits {P : Program} {t : TypeId} {zs : List Value} {ev : Operand → Value} {ps : List (Nat × Operand)} {sp : List (Nat × List Value)} (hz : (P.info? t).bind (·.zero) = some (.agg zs.toArray)) (hok : placesB P t = true)
    (h : FitsAt P t zs.length ev ps sp) : P.built t (ps.map fun p => (p.1, ev p.2)) = some (splices zs sp).toArray := by
  cases hi : P.info? t with
  | none => rw [hi] at hz; simp at hz
  | some it =>
    rw [hi] at hz
    simp at hz
    unfold placesB at hok
    split at hok
    · rename_i fields hu
      obtain ⟨pl, hpl⟩ := Option.isSome_iff_exists.1 hok
      unfold Program.built
      rw [hi, hu]
      simp only [hz, hpl]
      exact fill_fits (by funext i; simp [placeAt, hu, hpl]) ps sp zs rfl h
    · rename_i n e hu
      obtain ⟨ie, hie⟩ := Option.isSome_iff_exists.1 hok
      unfold Program.built
      rw [hi, hu]
      simp only [hz, hie]
      exact fill_fits (by funext i; simp [placeAt, hu, hie]) ps sp zs rfl h
    · cases hok
theorem wp_bld {P : Program} {o : Oper} {a : Act} {w : World} {K : Act → World → Prop} {Q : Exit → Act → World → Prop} (t : TypeId) (ps : List (Nat × Operand)) (ho : o.op = .build t ps.toArray) (zs : List Value) (sp : List (Nat × List Value)) (us : List Value) (hz : (P.info? t).bind (·.zero) = some (.agg zs.toArray)) (hok : placesB P t = true)
    (hf : FitsAt P t zs.length a.eval ps sp) (hus : splices zs sp = us) (h : K (a.put o.dst (.agg us.toArray)) w) : o.wp P a w K Q := by
  subst hus
  have hb := built_fits hz hok hf
  unfold Oper.wp execOp
  simp only [ho, Sem.run_bind, List.map_toArray, run_build w t _ _ hb, Result.andThen_ok]
  exact h
theorem wpList_bld {P : Program} {o : Oper} {a : Act} {w : World} {Q : Exit → Act → World → Prop} {ops : Array Oper} {rest : List Oper} (hw : Region.wanted o (yielded ops a.tmps) = true) (t : TypeId) (ps : List (Nat × Operand)) (ho : o.op = .build t ps.toArray) (zs : List Value) (sp : List (Nat × List Value)) (us : List Value) (hz : (P.info? t).bind (·.zero) = some (.agg zs.toArray)) (hok : placesB P t = true)
    (hf : FitsAt P t zs.length a.eval ps sp) (hus : splices zs sp = us) (h : wpList P ops Q rest (a.put o.dst (.agg us.toArray)) w) : wpList P ops Q (o :: rest) a w :=
  wpl hw fun K hK => wp_bld t ps ho zs sp us hz hok hf hus (hK _ _ h)
/-! ### a new block -/
theorem run_alloc_zero {P : Program} (w : World) (t : TypeId) (zs : List Value) (hz : (P.info? t).bind (·.zero) = some (.agg zs.toArray)) : (Instr.alloc t true (.tuple #[])).run P w = .ok (.pointer (some ⟨w.heap.size, 0, none⟩)) (w.alloc (.cells zs.toArray t)) := by
  obtain ⟨it, hi, hz'⟩ := Option.bind_eq_some_iff.1 hz
  simp [Instr.alloc, zeroValue, typeInfo, hi, hz', Value.cells, newVar, newRow]
theorem wp_al {P : Program} {o : Oper} {a : Act} {w : World} {K : Act → World → Prop} {Q : Exit → Act → World → Prop} (t : TypeId) (ho : o.op = .alloc t) (zs : List Value) (hz : (P.info? t).bind (·.zero) = some (.agg zs.toArray))
    (h : K (a.put o.dst (.pointer (some ⟨w.heap.size, 0, none⟩))) (w.alloc (.cells zs.toArray t))) : o.wp P a w K Q := by
  unfold Oper.wp execOp
  simp only [ho, Sem.run_bind, run_alloc_zero w t zs hz, Result.andThen_ok, Sem.run_pure]
  exact h
theorem wpList_al {P : Program} {o : Oper} {a : Act} {w : World} {Q : Exit → Act → World → Prop} {ops : Array Oper} {rest : List Oper} (hw : Region.wanted o (yielded ops a.tmps) = true) (t : TypeId) (ho : o.op = .alloc t) (zs : List Value) (hz : (P.info? t).bind (·.zero) = some (.agg zs.toArray))
    (h : ∀ g w', g = w.heap.size → Bk w' g zs → Chg NoS w w' → w'.heap.size = g + 1 → wpList P ops Q rest (a.put o.dst (.pointer (some ⟨g, 0, none⟩))) w') : wpList P ops Q (o :: rest) a w :=
  wpl hw fun K hK => wp_al t ho zs hz (hK _ _ (h _ _ rfl (Bk.new w zs t) ((Chg.refl w).alloc _) (by simp)))
/-- Behind the walk's own steps the call's result is in a cell. -/
theorem sized_bts (l : List UInt8) {n : Nat} (h : l.length = n) : (bts l).length = n := by simpa using h
theorem splice_whole (vs us : List Value) (h : us.length = vs.length) : splice vs 0 us = us := by
  simp only [splice, List.take_zero, List.nil_append, Nat.zero_add, h, List.drop_length, List.append_nil]
/-- A place that was made behind a world, and what it holds. -/
def PtrAt (S : Nat → Prop) (base : Nat) (vs : List Value) : Fact := fun w v => ∃ g, v = .pointer (some ⟨g, 0, none⟩) ∧ base ≤ g ∧ ¬ S g ∧ Bk w g vs
theorem PtrAt.lasts {S : Nat → Prop} {base : Nat} {vs : List Value} : ∀ w w' v, Chg S w w' → PtrAt S base vs w v → PtrAt S base vs w' v :=
  fun _ _ _ h ⟨g, e, hb, hs, hk⟩ => ⟨g, e, hb, hs, hk.chg h hs⟩
/-- Two rows, the first of them made here, and the row of both. -/
def RowsAt (u : Value) (l : List Value) : Fact := fun W v => ∃ g k, v = .slice (some ⟨g, 0, none⟩) 2 2 ∧ Rd W (some ⟨g, 0, none⟩) [.slice (some ⟨k, 0, none⟩) 1 1, u] ∧ Rd W (some ⟨k, 0, none⟩) l
theorem RowsAt.lasts {u : Value} {l : List Value} : ∀ w w' v, Chg NoS w w' → RowsAt u l w v → RowsAt u l w' v :=
  fun _ _ _ h ⟨g, k, e, h1, h2⟩ => ⟨g, k, e, h1.chg h, h2.chg h⟩
/-! ### results in memory -/
theorem res_cell_tmp {P : Program} {fn : Func} {p u : Tmp} {ty : TypeId} (h : fn.results = #[.cell p ty, .tmp u]) (tmps : Array Value) (w : World) (g n : Nat) (vs : List Value) (hp : tmps.getD p undef = .pointer (some ⟨g, 0, none⟩)) (hb : Bk w g vs)
    (hagg : (match P.underlying ty with | some (.struct _) | some (.array _ _) => true | _ => false) = true) (hsz : (P.info? ty).map (·.size) = some n) (hn : vs.length = n) :
    (results fn tmps).run P w = .ok (.tuple #[.agg vs.toArray, tmps.getD u undef]) w := by
  have := run_loadVar_at (P := P) w ty g 0 n vs hb hagg hsz (by omega)
  rw [List.drop_zero, ← hn, List.take_length] at this
  rw [results_cell_tmp h, hp]
  simp [asAddr, this]
theorem res_cell {P : Program} {fn : Func} {p : Tmp} {ty : TypeId} (h : fn.results = #[.cell p ty]) (tmps : Array Value) (w : World) (g n : Nat) (vs : List Value) (hp : tmps.getD p undef = .pointer (some ⟨g, 0, none⟩)) (hb : Bk w g vs)
    (hagg : (match P.underlying ty with | some (.struct _) | some (.array _ _) => true | _ => false) = true) (hsz : (P.info? ty).map (·.size) = some n) (hn : vs.length = n) :
    (results fn tmps).run P w = .ok (.agg vs.toArray) w := by
  have := run_loadVar_at (P := P) w ty g 0 n vs hb hagg hsz (by omega)
  rw [List.drop_zero, ← hn, List.take_length] at this
  have hp' : tmps[p]?.getD undef = .pointer (some ⟨g, 0, none⟩) := by simpa using hp
  simp [results, h, hp', asAddr, this]
/-! ### the bytes of a splice -/
theorem splice_bts (a b : List UInt8) (off : Nat) : splice (bts a) off (bts b) = bts (splice a off b) := by simp [splice, bts, List.map_take, List.map_drop]
end Go.Proofs.Ytpldcmcldoidaaa
