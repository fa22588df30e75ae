import Derived.Test.YtcmfkdfegfablaaG4
import Derived.Test.YtcmfkdfegfablaaG5
import Derived.Test.YtcmfkdfegfablaaRelU

/- Tools for the laws of a node: rows of labels, an operation that turns a node, a row of one's own. -/
namespace Go.Proofs.Ytcmfkdfegfablaa
open Go.ChangeShapes Go.WideShapes Go.RowKit Go.Deep
set_option linter.unusedVariables false
set_option linter.unusedSimpArgs false

theorem wp_ldr2 {P : Program} {o : Oper} {a : Act} {w : World} {K : Act → World → Prop} {Q : Exit → Act → World → Prop} (ty : TypeId) (x : Operand) (ho : o.op = .load ty x) (ad : Addr) (n : Nat) (vs : List Value) (hx : a.eval x = .pointer (some ad)) (hr : Rd w (some ad) vs)
    (hagg : (match P.underlying ty with | some (.struct _) | some (.array _ _) => true | _ => false) = true) (hsz : (P.info? ty).map (·.size) = some n) (hn : vs.length = n)
    (h : K (a.put o.dst (.agg vs.toArray)) w) : o.wp P a w K Q := by
  subst hn
  unfold Oper.wp execOp
  simp only [ho, hx, Instr.loadAt, Instr.sureAddr, Sem.run_bind, Sem.run_pure, Result.andThen_ok, run_loadVar_rd2 w ty ad vs hr hagg hsz]
  exact h
theorem labAfter_pair (L l : Lab) (t : Dst) : labAfter L l (t, (0 : Int)).2 = l := rfl
theorem labAfter_23 (L l : Lab) (t : Dst) : labAfter L l (t, (23 : Int)).2 = L := rfl
section
variable {H : Type} {enc : TypeId × Value → H} {W : World}
theorem labs_of : ∀ (n : Nat) (vs : List Value), vs.length = n * 5 → (∀ i, i < n → TC enc Try.prog W 40 ((vs.drop (i * 5)).take 5)) → ∃ l : List Lab, l.length = n ∧ vs = l.flatMap labC
  | 0, vs, hl, _ => ⟨[], rfl, List.eq_nil_of_length_eq_zero (by omega)⟩
  | n + 1, vs, hl, h => by
    obtain ⟨s, hs⟩ := (h 0 (by omega)).lab
    obtain ⟨l, h1, h2⟩ := labs_of n (vs.drop 5) (by rw [List.length_drop]; omega) (fun i hi => by
      have := h (i + 1) (by omega)
      rwa [show (i + 1) * 5 = 5 + i * 5 by omega, ← List.drop_drop] at this)
    refine ⟨s :: l, by simp [h1], ?_⟩
    rw [List.flatMap_cons, ← h2, ← hs, Nat.zero_mul, List.drop_zero, List.take_append_drop]
theorem TC.labs {cs : List Value} (h : TC enc Try.prog W 63 cs) :
    ∃ (A : Option Addr) (n cap : Nat) (l : List Lab), cs = [.slice A n cap] ∧ l.length = n ∧ n ≤ cap ∧ cap ≤ 9223372036854775807 ∧ Rd W A (l.flatMap labC) := by
  obtain ⟨A, n, cap, vs, h0, h1, h2, h3, h4, h5⟩ := h.slice Try.underlying63
  rw [cLab] at h3 h5
  obtain ⟨l, hl, rfl⟩ := labs_of n vs h3 h5
  exact ⟨A, n, cap, l, h0, hl, h1, h2, h4⟩
end
theorem lab_some {w : World} {A : Option Addr} {l : List Lab} (hr : Rd w A (l.flatMap labC)) {k : Nat} (hk : k < l.length) : ∃ ad, A = some ad := by
  have hl : (l.flatMap labC).length = l.length * 5 := flat_length labC 5 l (fun _ _ => rfl)
  obtain ⟨ad, hA, _⟩ := hr.at_ (k * 5) (by omega)
  exact ⟨ad, hA⟩
theorem lab_rd {w : World} {ad : Addr} {l : List Lab} (hr : Rd w (some ad) (l.flatMap labC)) {k : Nat} (hk : k < l.length) : Rd w (some (ad.add (k * 5))) (labC l[k]) := by
  have h := (hr.drop (k * 5)).take 5
  rwa [flat_piece labC 5 l k l[k] (fun _ _ => rfl) (List.getElem?_eq_getElem hk)] at h
/-- What an operation leaves that turned the node. -/
def NodeF (w0 : World) (gd gsd hn : Nat) (lv : Value) (B : Nat) (z : Int) (S : List (List UInt8)) (L : Lab) : Fact := fun w v => v = .int .i64 z ∧ ∃ lv', DSes 92 w0 w gd gsd lv' (UpD S) ∧ Bk w hn (NdC gd L) ∧ (∀ j, footD gd gsd lv' j → footD gd gsd lv j ∨ B ≤ j)
theorem NodeF.lasts {w0 : World} {gd gsd hn : Nat} {lv : Value} {B : Nat} {z : Int} {S : List (List UInt8)} {L : Lab} : ∀ w w' v, Chg NoS w w' → NodeF w0 gd gsd hn lv B z S L w v → NodeF w0 gd gsd hn lv B z S L w' v :=
  fun _ _ _ h ⟨h1, lv', h2, h3, h4⟩ => ⟨h1, lv', h2.chgN h, h3.chg h id, h4⟩
theorem upLoose_at (w : World) (g gs : Nat) (lv : Value) (S : List (List UInt8)) (h : DAt 92 w g gs lv (UpD S)) : Calls Try.prog 24 #[.pointer (some ⟨g, 0, none⟩)] w fun e w' => e = .returned (.int .i64 0) ∧ w = w' :=
  (diskLoose_at w g gs lv (UpD S) h).mono fun _ _ h => h
theorem late1 {e s : UInt32} (h : laterB e s 1 0 = true) : ¬ laterB 1 1 e s = true := by
  simp only [laterB, Bool.or_eq_true, Bool.and_eq_true, decide_eq_true_eq] at h ⊢
  have h1 : (1 : UInt32).toNat = 1 := rfl
  have h0 : (0 : UInt32).toNat = 0 := rfl
  rw [h1, h0] at h
  rw [h1]
  omega
theorem wupd_not : ∀ (ps : List PutV) (F : Nat → List UInt8) (b : Nat), (∀ p ∈ ps, p.at_.toNat ≠ b) → wupd F ps b = F b
  | [], F, b, _ => rfl
  | p :: ps, F, b, h => by
    show wupd (fun b => if p.at_.toNat = b then p.data else F b) ps b = _
    rw [wupd_not ps _ b (fun x hx => h x (List.mem_cons_of_mem _ hx))]
    exact if_neg (h p List.mem_cons_self)
theorem wupd_at : ∀ (ps : List PutV) (F : Nat → List UInt8), AtsOk ps → (ps.map (·.at_)).Nodup → ∀ (k : Nat) (hk : k < ps.length), wupd F ps ps[k].at_.toNat = ps[k].data
  | [], F, _, _, k, hk => by simp at hk
  | p :: ps, F, ha, hn, 0, _ => by
    show wupd (fun b => if p.at_.toNat = b then p.data else F b) ps p.at_.toNat = p.data
    rw [List.map_cons, List.nodup_cons] at hn
    rw [wupd_not ps _ _ (fun x hx he => hn.1 (by
      have h1 := ha x (List.mem_cons_of_mem _ hx)
      have h2 := ha p List.mem_cons_self
      rw [show p.at_ = x.at_ by omega]
      exact List.mem_map_of_mem (f := (·.at_)) hx))]
    exact if_pos rfl
  | p :: ps, F, ha, hn, k + 1, hk => by
    rw [List.map_cons, List.nodup_cons] at hn
    exact wupd_at ps _ (fun x hx => ha x (List.mem_cons_of_mem _ hx)) hn.2 k (by simpa using hk)
theorem info_u8n : (Try.prog.info? 5).map (fun i => (i.zero, i.size, i.bytes)) = some (some (.int .u8 0), 1, 1) := by kernel_rfl
theorem copied {w w1 : World} {e : TypeId} {v1 : Value} {n : Nat} {ks : List UInt8} (ho : w1.ownsRow w.heap.size e 1 v1 n (bts ks)) (hg : (w.alloc (.cells #[] e)).grownBy w1 (Value.slice (some ⟨w.heap.size, 0, none⟩) 0 0).ownBlock) :
    ∃ A1 c1, v1 = .slice A1 n c1 ∧ Below w.heap.size w w1 ∧ ∀ g gs, g < w.heap.size → gs < w.heap.size → ∀ w', Chg (fun j => j = g ∨ j = gs) w1 w' → Rd w' A1 (bts ks) := by
  obtain ⟨A1, c1, rfl, _, _, _⟩ := own_rd ho
  refine ⟨A1, c1, rfl, ((Below.refl _ _).alloc (Nat.le_refl _) _).trans (below_grown hg (by simp) (by intro k hk; simp [Value.ownBlock] at hk; omega)), fun g gs h1 h2 w' hc => ?_⟩
  obtain ⟨A2, c2, hv, hr, _⟩ := own_rd (own_chg ho hc (fun k hk => by
    have := (ho.lt _ hk).1
    rintro (rfl | rfl) <;> omega))
  injection hv with hA _ _
  subst hA
  exact hr
/-- The sectors behind Apply, as a node's reader sees them. -/
theorem app_same {S T : List (List UInt8)} (hS : S.length = 19) (hT : T.length = 19) (h : ∀ j, 1 ≤ j → j < 19 → T.getD j [] = S.getD j []) : (UpD T).walGet 1 = (UpD S).walGet 1 := get_same hT hS fun j h1 h7 => h j h1 (by omega)
end Go.Proofs.Ytcmfkdfegfablaa
