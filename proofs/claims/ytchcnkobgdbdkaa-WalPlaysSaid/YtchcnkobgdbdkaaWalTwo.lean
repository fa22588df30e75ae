import Derived.Test.YtchcnkobgdbdkaaLe
import Derived.Test.YtchcnkobgdbdkaaWalSteps
import Derived.Test.YtchcnkobgdbdkaaLb

/- The log on two disks, the program's and the reference's, in plain Lean. -/
namespace Go.Proofs.Ytchcnkobgdbdkaa
open Go.RowKit
set_option linter.unusedVariables false
set_option linter.unusedSimpArgs false

theorem low_imgs : ∀ (ps : List PutV) (t : Dst) (fr : Int), t.low.imgs fr ps = ((t.imgs fr ps).1.low, (t.imgs fr ps).2)
  | [], t, fr => rfl
  | p :: ps, t, fr => by
    by_cases h : t.writeE fr = 0
    · rw [Dst.imgs_go h, Dst.imgs_go (by rw [low_writeE]; exact h), low_write, low_imgs ps]
    · rw [Dst.imgs_no h, Dst.imgs_no (by rw [low_writeE]; exact h), low_write, low_writeE]
theorem low_walEnd (t : Dst) (fr : Int) (h : List UInt8) : t.low.walEnd fr h = ((t.walEnd fr h).1.low, (t.walEnd fr h).2) := by
  by_cases h1 : t.flushE = 0
  · by_cases h2 : t.flush.writeE fr = 0
    · rw [walEnd_c h1 h2, walEnd_c (by rw [low_flushE]; exact h1) (by rw [low_flush, low_writeE]; exact h2), low_flush, low_write, low_flush, low_flushE]
    · rw [walEnd_b h1 h2, walEnd_b (by rw [low_flushE]; exact h1) (by rw [low_flush, low_writeE]; exact h2), low_flush, low_write, low_writeE]
  · rw [walEnd_a h1, walEnd_a (by rw [low_flushE]; exact h1), low_flush, low_flushE]
theorem low_walPut (t : Dst) (fr : Int) (e q : UInt32) (ps : List PutV) : t.low.walPut fr e q ps = ((t.walPut fr e q ps).1.low, (t.walPut fr e q ps).2) := by
  by_cases h : mayB t.S.length fr = true ∧ goodB ps = true
  · rw [Dst.walPut_yes h.1 h.2, Dst.walPut_yes (s := t.low) h.1 h.2, low_imgs]
    by_cases h2 : (t.imgs (fr + 1) ps).2 = 0
    · rw [if_pos h2, if_pos h2, low_walEnd]
    · rw [if_neg h2, if_neg h2]
  · rw [Dst.walPut_no h, Dst.walPut_no (s := t.low) h]
theorem low_walGet (t : Dst) (fr : Int) : t.low.walGet fr = t.walGet fr := rfl
theorem TOk.mono {N k k2 : Nat} {t : Dst} (h : TOk N k t) (hk : k ≤ k2) : TOk N k2 t := ⟨h.sl, Nat.le_trans h.ll hk, h.f1, h.f2⟩
theorem TOk.imgs {N : Nat} : ∀ (ps : List PutV) (t : Dst) (k : Nat) (fr : Int), TOk N k t → TOk N (k + ps.length) (t.imgs fr ps).1
  | [], t, k, fr, h => h
  | p :: ps, t, k, fr, h => by
    rw [List.length_cons]
    by_cases h2 : t.writeE fr = 0
    · rw [Dst.imgs_go h2]
      exact (TOk.imgs ps _ (k + 1) _ (h.write fr p.data)).mono (by omega)
    · rw [Dst.imgs_no h2]
      exact (h.write fr p.data).mono (by omega)
theorem TOk.walEnd {N k : Nat} {t : Dst} (h : TOk N k t) (fr : Int) (b : List UInt8) : TOk N (k + 3) (t.walEnd fr b).1 := by
  by_cases h1 : t.flushE = 0
  · by_cases h2 : t.flush.writeE fr = 0
    · rw [walEnd_c h1 h2]
      exact (h.flush.write fr b).flush
    · rw [walEnd_b h1 h2]
      exact (h.flush.write fr b).mono (by omega)
  · rw [walEnd_a h1]
    exact h.flush.mono (by omega)
theorem TOk.walPut {N k : Nat} {t : Dst} (h : TOk N k t) (fr : Int) (e q : UInt32) (ps : List PutV) : TOk N (k + 8) (t.walPut fr e q ps).1 := by
  by_cases hh : mayB t.S.length fr = true ∧ goodB ps = true
  · have h5 := (goodB_at hh.2).2.1
    rw [Dst.walPut_yes hh.1 hh.2]
    by_cases h2 : (t.imgs (fr + 1) ps).2 = 0
    · rw [if_pos h2]
      exact ((h.imgs ps t k (fr + 1)).walEnd fr _).mono (by omega)
    · rw [if_neg h2]
      exact (h.imgs ps t k (fr + 1)).mono (by omega)
  · rw [Dst.walPut_no hh]
    exact h.mono (by omega)
theorem TOk.dlow {N k m : Nat} {t : Dst} (h : TOk N k t) (hm : k ≤ m) : DOk (-1) m t.low := ⟨Nat.le_trans h.ll hm, h.lo, h.hi⟩
theorem TOk.dref {N k m : Nat} {t : Dst} (h : TOk N k t) (hm : k ≤ m) : DOk (-9223372036854775808) m t := ⟨Nat.le_trans h.ll hm, h.f1, h.f2⟩
theorem walGet_oks {s : Dst} {fr : Int} (h : ∀ i, (s.readB i).length = 32) : PutsOk (s.walGet fr).1.ps := by
  unfold Dst.walGet
  have h0 : PutsOk Rec.no.ps := fun p hp => by cases hp
  split
  · split
    · split
      · exact putsK_ok (fun i => h _)
      · exact h0
    · exact h0
  · exact h0
theorem secs_piece (ws : List (List UInt8)) (h : ∀ b ∈ ws, b.length = 32) (i : Nat) (hi : i < ws.length) : ((secs ws).drop (i * 32)).take 32 = bts (ws.getD i []) :=
  flat_piece bts 32 ws i _ (fun s hs => by rw [bts_length]; exact h s hs) (by rw [List.getD_eq_getElem?_getD, List.getElem?_eq_getElem hi]; rfl)
theorem encR_length {m : UInt8} {l : List UInt8} : (encR m l).1.length = 32 := by
  unfold encR
  split
  · exact List.length_replicate
  · rename_i h
    exact secOf_length (padB_length (by omega))
theorem PutsN.chg {base n : Nat} {ps : List PutV} {T : Nat → Prop} {w w' : World} {v : Value} (h : PutsN base n ps w v) (hc : Chg T w w') (hT : ∀ j, T j → j < base) : PutsN base n ps w' v := by
  obtain ⟨A, c, e, ho⟩ := h
  exact ⟨A, c, e, ho.chg hc hT⟩
theorem RecN.chg {base : Nat} {r : RecV} {T : Nat → Prop} {w w' : World} {v : Value} (h : RecN base r w v) (hc : Chg T w w') (hT : ∀ j, T j → j < base) : RecN base r w' v := by
  obtain ⟨A, c, e, ho⟩ := h
  exact ⟨A, c, e, ho.chg hc hT⟩
def Rec3 (base : Nat) (r : RecV) : Fact := fun w v => ∃ A c, v = .agg #[vu32 r.e, vu32 r.q, .slice A r.n c] ∧ RdN base w A (r.ps.flatMap putC)
theorem Rec3.lasts {base : Nat} {r : RecV} : ∀ w w' v, Chg NoS w w' → Rec3 base r w v → Rec3 base r w' v := fun _ _ _ h ⟨A, c, e, ho⟩ => ⟨A, c, e, ho.chg h (fun _ hj => hj.elim)⟩
theorem Rec3.chg {base : Nat} {r : RecV} {T : Nat → Prop} {w w' : World} {v : Value} (h : Rec3 base r w v) (hc : Chg T w w') (hT : ∀ j, T j → j < base) : Rec3 base r w' v := by
  obtain ⟨A, c, e, ho⟩ := h
  exact ⟨A, c, e, ho.chg hc hT⟩
theorem wpList_append_new {P : Program} {o : Oper} {a : Act} {w : World} {Q : Exit → Act → World → Prop} {ops : Array Oper} {rest : List Oper} (hw : Region.wanted o (yielded ops a.tmps) = true) (s x : Operand) (t : TypeId) (ho : o.op = .call { callee := .builtin .append, args := #[s, x], argTypes := #[t, t] }) (e : TypeId) (z : Value) (size bytes : Nat) (ht : P.underlying t = some (.slice e)) (hinfo : (P.info? e).map (fun i => (i.zero, i.size, i.bytes)) = some (some z, size, bytes))
    (hzs : z.cells.size = size) (hsz : 0 < size) (hby : 0 < bytes) (b : Addr) (hs : a.eval s = .slice (some b) 0 0) (A : Option Addr) (m c : Nat) (ys : List Value) (hx : a.eval x = .slice A m c) (hl : ys.length = m * size) (HR : Rd w A ys) (hbytes : m * bytes ≤ 140737488355328) (h1 : ∀ u ∈ ys, u.oneCell' = true)
    (h : ∀ A1 c1 w', RdN w.heap.size w' A1 ys → Chg NoS w w' → wpList P ops Q rest (a.put o.dst (.slice A1 m c1)) w') : wpList P ops Q (o :: rest) a w :=
  wpl hw fun K hK => wp_append_new s x t ho e z size bytes ht hinfo hzs hsz hby b hs A m c ys hx hl HR hbytes h1 (fun A1 c1 w' h2 h3 => hK _ _ (h A1 c1 w' h2 h3))
section
open Go.ChangeShapes Go.WideShapes Go.Deep
variable {H : Type} {enc : TypeId × Value → H} {W : World}
theorem TC.int2 {cs : List Value} (h : TC enc Try.prog W 42 cs) : ∃ a b : Int, cs = [.int .i64 a, .int .i64 b] ∧ -9223372036854775808 ≤ a ∧ a ≤ 9223372036854775807 ∧ -9223372036854775808 ≤ b ∧ b ≤ 9223372036854775807 := by
  obtain ⟨hl, hf⟩ := h.arr Try.underlying42
  rw [show Try.prog.cellsOf 42 = 2 by kernel_rfl] at hl
  rw [show Try.prog.cellsOf 3 = 1 by kernel_rfl] at hf
  match cs, hl with
  | [x, y], _ =>
    obtain ⟨a, ha, wa⟩ := (hf 0 (by decide)).int Try.underlying3
    obtain ⟨b, hb, wb⟩ := (hf 1 (by decide)).int Try.underlying3
    simp at ha hb
    have B0 := Go.bounds_i64 wa
    have B1 := Go.bounds_i64 wb
    exact ⟨a, b, by rw [ha, hb], B0.1, B0.2, B1.1, B1.2⟩
end
end Go.Proofs.Ytchcnkobgdbdkaa
