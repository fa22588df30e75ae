/- Two disks, the program's and the reference's, through the same steps. -/
import Derived.Test.YtnpcehlbboeadaaCopied
import Derived.Test.YtnpcehlbboeadaaDiskFusesWalk
namespace Go.Proofs.Ytnpcehlbboeadaa
open Go.RowKit
set_option linter.unusedVariables false
set_option linter.unusedSimpArgs false

section
variable {P : Program} {o : Oper} {a : Act} {w : World} {Q : Exit → Act → World → Prop} {ops : Array Oper} {rest : List Oper}
theorem run_loadVar_rd (w : World) (ty : TypeId) (ad : Addr) (vs : List Value) (hr : Rd w (some ad) vs) (hagg : (match P.underlying ty with | some (.struct _) | some (.array _ _) => true | _ => false) = true) (hsz : (P.info? ty).map (·.size) = some vs.length) :
    (loadVar ty ad).run P w = .ok (.agg vs.toArray) w := by
  obtain ⟨i0, hi, hs⟩ := Option.map_eq_some_iff.1 hsz
  have hl : (loadCells ad vs.length).run P w = .ok vs.toArray w :=
    run_loadCells_list (P := P) w ad vs (fun j v hv => by
      obtain ⟨ad', e, hc⟩ := hr j v hv
      injection e with e
      subst e
      exact hc)
  have hag : (isAgg ty).run P w = .ok true w := by
    unfold isAgg
    cases hu : P.underlying ty with
    | none => simp [hu] at hagg
    | some d =>
      rw [Sem.run_bind, run_underlying hu w]
      cases d <;> simp_all
  simp [loadVar, Sem.run_bind, hag, sizeOf, typeInfo, hi, hs, hl]
/-- A struct is read where it may be read. -/
theorem wpList_ldr (hw : Region.wanted o (yielded ops a.tmps) = true) (ty : TypeId) (x : Operand) (ho : o.op = .load ty x) (ad : Addr) (vs : List Value) (hx : a.eval x = .pointer (some ad)) (hr : Rd w (some ad) vs)
    (hagg : (match P.underlying ty with | some (.struct _) | some (.array _ _) => true | _ => false) = true) (hsz : (P.info? ty).map (·.size) = some vs.length)
    (h : wpList P ops Q rest (a.put o.dst (.agg vs.toArray)) w) : wpList P ops Q (o :: rest) a w := by
  refine wpl hw fun K hK => ?_
  unfold Oper.wp execOp
  simp only [ho, hx, Instr.loadAt, Instr.sureAddr, Sem.run_bind, Sem.run_pure, Result.andThen_ok, run_loadVar_rd w ty ad vs hr hagg hsz]
  exact hK _ _ h
end
theorem stp_rd {w : World} {ad : Addr} {l : List Stp} (hr : Rd w (some ad) (l.flatMap stpC)) {k : Nat} (hk : k < l.length) : Rd w (some (ad.add (k * 4))) (stpC l[k]) := by
  have h := (hr.drop (k * 4)).take 4
  rwa [flat_piece stpC 4 l k l[k] (fun _ _ => rfl) (List.getElem?_eq_getElem hk)] at h
theorem one_stp (s : Stp) : ∀ u ∈ stpC s, u.oneCell' = true := by
  intro u hu
  simp only [stpC, List.mem_cons, List.not_mem_nil, or_false] at hu
  rcases hu with rfl | rfl | rfl | rfl <;> rfl
/-- The program's state beside the reference's: the fuse is none at least. -/
def Dst.low (t : Dst) : Dst := ⟨t.S, t.L, max t.f (-1), t.dn⟩
theorem passD_low (f : Int) (dn : Bool) : passD (max f (-1)) dn = passD f dn := by
  unfold passD
  congr 1
  rw [decide_eq_decide]
  omega
theorem passF_low (f : Int) (dn : Bool) : passF (max f (-1)) dn = max (passF f dn) (-1) := by
  unfold passF
  by_cases h1 : dn = true ∨ f = 0
  · rw [if_pos h1, if_pos (h1.imp id (fun h => by omega))]
  · have h2 : ¬ (dn = true ∨ max f (-1) = 0) := fun h => h1 (h.imp id (fun h => by omega))
    rw [if_neg h1, if_neg h2]
    by_cases h3 : 0 < f
    · rw [if_pos h3, if_pos (by omega)]
      omega
    · rw [if_neg h3, if_neg (by omega)]
theorem low_write (t : Dst) (i : Int) (b : List UInt8) : t.low.write i b = (t.write i b).low := by
  unfold Dst.write
  show (if t.has i then (if passD (max t.f (-1)) t.dn = true then (⟨t.S, t.L, passF (max t.f (-1)) t.dn, true⟩ : Dst) else ⟨t.S, t.L ++ [(i.toNat, b)], passF (max t.f (-1)) t.dn, false⟩) else t.low) = _
  rw [passD_low, passF_low]
  split
  · split <;> rfl
  · rfl
theorem low_writeE (t : Dst) (i : Int) : t.low.writeE i = t.writeE i := by
  unfold Dst.writeE
  show (if t.has i then (if passD (max t.f (-1)) t.dn = true then 20 else 0) else 1) = _
  rw [passD_low]
theorem low_flush (t : Dst) : t.low.flush = t.flush.low := by
  unfold Dst.flush
  show (if passD (max t.f (-1)) t.dn = true then (⟨t.S, t.L, passF (max t.f (-1)) t.dn, true⟩ : Dst) else ⟨doneS t.S t.L, [], passF (max t.f (-1)) t.dn, false⟩) = _
  rw [passD_low, passF_low]
  split <;> rfl
theorem low_flushE (t : Dst) : t.low.flushE = t.flushE := by
  unfold Dst.flushE
  show (if passD (max t.f (-1)) t.dn = true then 20 else 0) = _
  rw [passD_low]
theorem low_up (t : Dst) (ks : List UInt8) : t.low.up ks = (t.up ks).low := rfl
theorem low_fuse (t : Dst) (n : Int) : t.low.fuse (max n (-1)) = (t.fuse n).low := rfl
/-- A state within the bounds. -/
structure TOk (N k : Nat) (t : Dst) : Prop where
  sl : t.S.length = N
  ll : t.L.length ≤ k
  f1 : -9223372036854775808 ≤ t.f
  f2 : t.f ≤ 9223372036854775807
theorem TOk.lo {N k : Nat} {t : Dst} (h : TOk N k t) : -1 ≤ t.low.f := by show -1 ≤ max t.f (-1); omega
theorem TOk.hi {N k : Nat} {t : Dst} (h : TOk N k t) : t.low.f ≤ 9223372036854775807 := by have := h.f2; show max t.f (-1) ≤ _; omega
theorem passF_lo {f : Int} {dn : Bool} (h1 : -9223372036854775808 ≤ f) : -9223372036854775808 ≤ passF f dn := by
  unfold passF
  split
  · exact h1
  · split <;> omega
theorem passF_hi {f : Int} {dn : Bool} (h1 : f ≤ 9223372036854775807) : passF f dn ≤ 9223372036854775807 := by
  unfold passF
  split
  · exact h1
  · split <;> omega
theorem TOk.more {N k : Nat} {t : Dst} (h : TOk N k t) : TOk N (k + 1) t := ⟨h.sl, by have := h.ll; omega, h.f1, h.f2⟩
theorem TOk.write {N k : Nat} {t : Dst} (h : TOk N k t) (i : Int) (b : List UInt8) : TOk N (k + 1) (t.write i b) := by
  unfold Dst.write
  have := h.ll
  split
  · split
    · exact ⟨h.sl, by show t.L.length ≤ _; omega, passF_lo h.f1, passF_hi h.f2⟩
    · exact ⟨h.sl, by show (t.L ++ [_]).length ≤ _; rw [List.length_append]; simp; omega, passF_lo h.f1, passF_hi h.f2⟩
  · exact h.more
theorem TOk.flush {N k : Nat} {t : Dst} (h : TOk N k t) : TOk N (k + 1) t.flush := by
  unfold Dst.flush
  have := h.ll
  split
  · exact ⟨h.sl, by show t.L.length ≤ _; omega, passF_lo h.f1, passF_hi h.f2⟩
  · exact ⟨by show (doneS t.S t.L).length = N; rw [doneS_length]; exact h.sl, Nat.zero_le _, passF_lo h.f1, passF_hi h.f2⟩
theorem TOk.up {N k : Nat} {t : Dst} (h : TOk N k t) (ks : List UInt8) : TOk N (k + 1) (t.up ks) :=
  ⟨by show (upS t.S t.L ks).length = N; rw [upS_length]; exact h.sl, Nat.zero_le _, by show _ ≤ (-1 : Int); decide, by show (-1 : Int) ≤ _; decide⟩
theorem TOk.fuse {N k : Nat} {t : Dst} (h : TOk N k t) (n : Int) (h1 : -9223372036854775808 ≤ n) (h2 : n ≤ 9223372036854775807) : TOk N (k + 1) (t.fuse n) := ⟨h.sl, by have := h.ll; show t.L.length ≤ _; omega, h1, h2⟩
section
variable {w0 w w' : World} {g gs q qs : Nat} {lv mv : Value} {s t : Dst} {wT vT : TypeId}
theorem Two.chgN (h : Two w0 w wT g gs lv s vT q qs mv t) (hb : Chg NoS w w') : Two w0 w' wT g gs lv s vT q qs mv t := h.below (hb.below (Nat.le_refl _) (fun _ _ => id))
/-- A block beside both. -/
def Beside2 (w0 : World) (g gs : Nat) (lv : Value) (q qs : Nat) (mv : Value) (x : Nat) : Prop := (∀ j, footD g gs lv j → j ≠ x) ∧ (∀ j, footD q qs mv j → j ≠ x) ∧ w0.heap.size ≤ x
theorem Two.beside (h : Two w0 w wT g gs lv s vT q qs mv t) {x : Nat} (hx : x = w.heap.size) : Beside2 w0 g gs lv q qs mv x :=
  ⟨fun j hj he => by have := DiskAt.lt h.a.at_ j hj; omega, fun j hj he => by have := DiskAt.lt h.b.at_ j hj; omega, by rw [hx]; exact h.a.bel.size⟩
theorem Two.st (h : Two w0 w wT g gs lv s vT q qs mv t) {x : Nat} (hx : Beside2 w0 g gs lv q qs mv x) (hc : Chg (· = x) w w') : Two w0 w' wT g gs lv s vT q qs mv t :=
  have hb : Below w0.heap.size w0 w' := h.a.bel.trans (hc.below h.a.bel.size (fun j hj he => by have := hx.2.2; omega))
  ⟨⟨DiskAt.chg h.a.at_ hc (fun j hj he => hx.1 j hj he), h.a.fr, hb⟩, ⟨DiskAt.chg h.b.at_ hc (fun j hj he => hx.2.1 j hj he), h.b.fr, hb⟩, h.ap⟩
theorem Two.new {n : Nat} {e : Ending} (h2 : n ≤ 1024) (ha : DSes wT w0 w g gs lv s) (h : NewPost w n e w') : ∃ q qs, e = .returned (.tuple #[.pointer (some ⟨q, 0, none⟩), .int .i64 0]) ∧ Two w0 w' wT g gs lv s vT q qs (.slice none 0 0) (Dst.new n) := by
  obtain ⟨q, qs, rfl, h3, h4, h5⟩ := h.at_ (wT := vT) h2
  have hb := ha.below h5
  exact ⟨q, qs, rfl, hb, ⟨h3, fun j hj => Nat.le_trans ha.bel.size (h4 j hj), hb.bel⟩, fun j hj hk => by have := DiskAt.lt ha.at_ j hj; have := h4 j hk; omega⟩
theorem Two.fuse2 (h : Two w0 w wT g gs lv s vT q qs mv t) (n : Int) (hc : Chg (· = q) w w') (hd : Dk w' q (.slice (some ⟨qs, 0, none⟩) t.S.length t.S.length) mv n t.dn) : Two w0 w' wT g gs lv s vT q qs mv (t.fuse n) := by
  have hp : DPost vT w q qs mv (t.fuse n) (.tuple #[]) (.returned (.tuple #[])) w' := ⟨rfl, mv, DiskAt.redk h.b.at_ hc hd, fun j hj => .inl hj, hc.mono (fun j hj => .inl hj)⟩
  obtain ⟨_, mv', h1⟩ := h.swap.post hp
  exact ⟨⟨DiskAt.chg h.a.at_ hc (fun j hj he => h.ap j hj (.inl he)), h.a.fr, h1.a.bel⟩, ⟨DiskAt.redk h.b.at_ hc hd, h.b.fr, h1.a.bel⟩, h.ap⟩
end
theorem lowLoose (w : World) (g gs : Nat) (lv : Value) (t : Dst) (h : DAt 91 w g gs lv t.low) : Calls Try.prog 27 #[.pointer (some ⟨g, 0, none⟩)] w fun e w' => e = .returned (.int .i64 t.L.length) ∧ w = w' := diskLoose_at w g gs lv t.low h
theorem lowDown (w : World) (g gs : Nat) (lv : Value) (t : Dst) (h : DAt 91 w g gs lv t.low) : Calls Try.prog 28 #[.pointer (some ⟨g, 0, none⟩)] w fun e w' => e = .returned (.bool t.dn) ∧ w = w' := diskDown_at w g gs lv t.low h
theorem lowLen (w : World) (g gs : Nat) (lv : Value) (t : Dst) (h : DAt 91 w g gs lv t.low) : Calls Try.prog 29 #[.pointer (some ⟨g, 0, none⟩)] w fun e w' => e = .returned (.int .i64 t.S.length) ∧ w = w' := diskLen_at w g gs lv t.low h
theorem lowRead (w : World) (g gs : Nat) (lv : Value) (t : Dst) (i : Int) (h : DAt 91 w g gs lv t.low) : Calls Try.prog 20 #[.pointer (some ⟨g, 0, none⟩), .int .i64 i] w fun e w' => e = .returned (.tuple #[.agg (bts (t.readB i)).toArray, .int .i64 (t.readE i)]) ∧ Below w.heap.size w w' := diskRead_at w g gs lv t.low i h
/-- Both disks, one behind a turn. -/
def TwoTo (w0 : World) (g gs : Nat) (s : Dst) (q qs : Nat) (mv : Value) (t : Dst) (r : Value) : Fact := fun w v => v = r ∧ ∃ lv, Two w0 w 91 g gs lv s 93 q qs mv t
theorem TwoTo.lasts {w0 : World} {g gs q qs : Nat} {s t : Dst} {mv r : Value} : ∀ w w' v, Chg NoS w w' → TwoTo w0 g gs s q qs mv t r w v → TwoTo w0 g gs s q qs mv t r w' v := fun _ _ _ h ⟨hv, lv, ht⟩ => ⟨hv, lv, ht.chgN h⟩
end Go.Proofs.Ytnpcehlbboeadaa
