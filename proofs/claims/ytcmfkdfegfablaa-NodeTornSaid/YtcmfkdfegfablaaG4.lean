/- Texts of this seat, merged: NodePure, WalPut, WalGet, Sit, Node1, NodeSet, NodeCar, NodeApp, LabBack0, NodeOp, NodeUp, LabEq0, Wakes9, WalOpen. -/
import Derived.Test.YtcmfkdfegfablaaG3
import Derived.Test.YtcmfkdfegfablaaG1
import Derived.Test.YtcmfkdfegfablaaG2

/- A node's disk and its label: what Apply, SetLabel and Open leave. -/
namespace Go.Proofs.Ytcmfkdfegfablaa
open Go.RowKit
set_option linter.unusedVariables false
set_option linter.unusedSimpArgs false

/-- The puts are written. -/
def Dst.blks (s : Dst) : List PutV → Dst × Int
  | [] => (s, 0)
  | p :: ps => if s.writeE (7 + p.at_) = 0 then (s.write (7 + p.at_) p.data).blks ps else (s.write (7 + p.at_) p.data, s.writeE (7 + p.at_))
theorem Dst.blks_nil (s : Dst) : s.blks [] = (s, 0) := rfl
theorem Dst.blks_go {s : Dst} {p : PutV} {ps : List PutV} (h : s.writeE (7 + p.at_) = 0) : s.blks (p :: ps) = (s.write (7 + p.at_) p.data).blks ps := by rw [Dst.blks, if_pos h]
theorem Dst.blks_no {s : Dst} {p : PutV} {ps : List PutV} (h : ¬ s.writeE (7 + p.at_) = 0) : s.blks (p :: ps) = (s.write (7 + p.at_) p.data, s.writeE (7 + p.at_)) := by rw [Dst.blks, if_neg h]
def Dst.setLab (s : Dst) (l : Lab) : Dst × Int := if s.writeE 0 = 0 then ((s.write 0 (labEnc l)).flush, (s.write 0 (labEnc l)).flushE) else (s.write 0 (labEnc l), s.writeE 0)
theorem setLab_go {s : Dst} {l : Lab} (h : s.writeE 0 = 0) : s.setLab l = ((s.write 0 (labEnc l)).flush, (s.write 0 (labEnc l)).flushE) := if_pos h
theorem setLab_no {s : Dst} {l : Lab} (h : ¬ s.writeE 0 = 0) : s.setLab l = (s.write 0 (labEnc l), s.writeE 0) := if_neg h
def Dst.carryEnd (s : Dst) (l : Lab) : Dst × Int := if s.flushE = 0 then s.flush.setLab l else (s.flush, s.flushE)
theorem carryEnd_go {s : Dst} {l : Lab} (h : s.flushE = 0) : s.carryEnd l = s.flush.setLab l := if_pos h
theorem carryEnd_no {s : Dst} {l : Lab} (h : ¬ s.flushE = 0) : s.carryEnd l = (s.flush, s.flushE) := if_neg h
def Dst.carry (s : Dst) (ps : List PutV) (l : Lab) : Dst × Int := if (s.blks ps).2 = 0 then (s.blks ps).1.carryEnd l else s.blks ps
def labAfter (L l : Lab) (z : Int) : Lab := if z = 0 then l else L
def nextU (n q : UInt32) : UInt32 := if n.toNat ≤ (q + 1).toNat then q + 1 else n
def carryL (L : Lab) (e q : UInt32) (ps : List PutV) (d : UInt16) : Lab := ⟨e, q, nextU L.n q, d, UInt16.ofNat (bitsN ps)⟩
def Dst.nApply (s : Dst) (L : Lab) (e q : UInt32) (ps : List PutV) (d : UInt16) : Dst × Int :=
  if goodB ps = true then (if laterB e q L.e L.s = true then (if (s.walPut 1 e q ps).2 = 0 then (s.walPut 1 e q ps).1.carry ps (carryL L e q ps d) else s.walPut 1 e q ps) else (s, 23)) else (s, 1)
theorem nApply_bad {s : Dst} {L : Lab} {e q : UInt32} {ps : List PutV} {d : UInt16} (h : ¬ goodB ps = true) : s.nApply L e q ps d = (s, 1) := if_neg h
theorem nApply_old {s : Dst} {L : Lab} {e q : UInt32} {ps : List PutV} {d : UInt16} (h : goodB ps = true) (h2 : ¬ laterB e q L.e L.s = true) : s.nApply L e q ps d = (s, 23) := by rw [Dst.nApply, if_pos h, if_neg h2]
theorem nApply_put {s : Dst} {L : Lab} {e q : UInt32} {ps : List PutV} {d : UInt16} (h : goodB ps = true) (h2 : laterB e q L.e L.s = true) (h3 : ¬ (s.walPut 1 e q ps).2 = 0) : s.nApply L e q ps d = s.walPut 1 e q ps := by rw [Dst.nApply, if_pos h, if_pos h2, if_neg h3]
theorem nApply_go {s : Dst} {L : Lab} {e q : UInt32} {ps : List PutV} {d : UInt16} (h : goodB ps = true) (h2 : laterB e q L.e L.s = true) (h3 : (s.walPut 1 e q ps).2 = 0) : s.nApply L e q ps d = (s.walPut 1 e q ps).1.carry ps (carryL L e q ps d) := by rw [Dst.nApply, if_pos h, if_pos h2, if_pos h3]
/-- What an opening leaves, its answer, the label that it knows. -/
def Dst.nOpen (s : Dst) : Dst × Int × Lab :=
  if s.S.length = 19 then (if s.readE 0 = 0 then (if (labDec (s.readB 0)).2 = 0 then
    (if (s.walGet 1).2 = 11 then (s, 0, (labDec (s.readB 0)).1)
     else if (s.walGet 1).2 = 0 then
      (if laterB (s.walGet 1).1.e (s.walGet 1).1.q (labDec (s.readB 0)).1.e (labDec (s.readB 0)).1.s = true then
        ((s.carry (s.walGet 1).1.ps (carryL (labDec (s.readB 0)).1 (s.walGet 1).1.e (s.walGet 1).1.q (s.walGet 1).1.ps (labDec (s.readB 0)).1.d)).1, (s.carry (s.walGet 1).1.ps (carryL (labDec (s.readB 0)).1 (s.walGet 1).1.e (s.walGet 1).1.q (s.walGet 1).1.ps (labDec (s.readB 0)).1.d)).2, carryL (labDec (s.readB 0)).1 (s.walGet 1).1.e (s.walGet 1).1.q (s.walGet 1).1.ps (labDec (s.readB 0)).1.d)
       else (s, 0, (labDec (s.readB 0)).1))
     else (s, (s.walGet 1).2, zLab))
    else (s, (labDec (s.readB 0)).2, zLab)) else (s, s.readE 0, zLab)) else (s, 1, zLab)
section
variable {s : Dst} {L : Lab} {r : Rec} {z : Int}
theorem nOpen_len (h : ¬ s.S.length = 19) : s.nOpen = (s, 1, zLab) := if_neg h
theorem nOpen_read (h : s.S.length = 19) (h1 : ¬ s.readE 0 = 0) : s.nOpen = (s, s.readE 0, zLab) := by rw [Dst.nOpen, if_pos h, if_neg h1]
theorem nOpen_lab (h : s.S.length = 19) (h1 : s.readE 0 = 0) (h2 : labDec (s.readB 0) = (L, z)) (h3 : ¬ z = 0) : s.nOpen = (s, z, zLab) := by rw [Dst.nOpen, if_pos h, if_pos h1, h2, if_neg h3]
theorem nOpen_form (h : s.S.length = 19) (h1 : s.readE 0 = 0) (h2 : labDec (s.readB 0) = (L, 0)) (h3 : (s.walGet 1).2 = 11) : s.nOpen = (s, 0, L) := by rw [Dst.nOpen, if_pos h, if_pos h1, h2, if_pos rfl, if_pos h3]
theorem nOpen_get (h : s.S.length = 19) (h1 : s.readE 0 = 0) (h2 : labDec (s.readB 0) = (L, 0)) (h3 : ¬ (s.walGet 1).2 = 11) (h4 : ¬ (s.walGet 1).2 = 0) : s.nOpen = (s, (s.walGet 1).2, zLab) := by rw [Dst.nOpen, if_pos h, if_pos h1, h2, if_pos rfl, if_neg h3, if_neg h4]
theorem nOpen_old (h : s.S.length = 19) (h1 : s.readE 0 = 0) (h2 : labDec (s.readB 0) = (L, 0)) (h3 : s.walGet 1 = (r, 0)) (h4 : ¬ laterB r.e r.q L.e L.s = true) : s.nOpen = (s, 0, L) := by rw [Dst.nOpen, if_pos h, if_pos h1, h2, if_pos rfl, h3, if_neg (by show ¬ ((0 : Int) = 11); decide), if_pos rfl, if_neg h4]
theorem nOpen_go (h : s.S.length = 19) (h1 : s.readE 0 = 0) (h2 : labDec (s.readB 0) = (L, 0)) (h3 : s.walGet 1 = (r, 0)) (h4 : laterB r.e r.q L.e L.s = true) : s.nOpen = ((s.carry r.ps (carryL L r.e r.q r.ps L.d)).1, (s.carry r.ps (carryL L r.e r.q r.ps L.d)).2, carryL L r.e r.q r.ps L.d) := by rw [Dst.nOpen, if_pos h, if_pos h1, h2, if_pos rfl, h3, if_neg (by show ¬ ((0 : Int) = 11); decide), if_pos rfl, if_pos h4]
end
/-! ### on a disk that is up -/
def blkL (ps : List PutV) : List (Nat × List UInt8) := ps.map fun p => (7 + p.at_.toNat, p.data)
theorem blkL_cons (p : PutV) (ps : List PutV) : blkL (p :: ps) = (7 + p.at_.toNat, p.data) :: blkL ps := rfl
def AtsOk (ps : List PutV) : Prop := ∀ p ∈ ps, 0 ≤ p.at_ ∧ p.at_ < 12
theorem blks_all : ∀ (ps : List PutV) (S : List (List UInt8)) (L : List (Nat × List UInt8)) (f : Int), S.length = 19 → AtsOk ps → (f < 0 ∨ (ps.length : Int) ≤ f) → (Dst.mk S L f false).blks ps = (⟨S, L ++ blkL ps, dec f ps.length, false⟩, 0)
  | [], S, L, f, _, _, _ => by rw [Dst.blks_nil, blkL, List.map_nil, List.append_nil, List.length_nil, dec_zero]
  | p :: ps, S, L, f, h, ha, hf => by
    rw [List.length_cons] at hf
    have hfz : f ≠ 0 := by omega
    have hp := ha p List.mem_cons_self
    obtain ⟨h1, h2⟩ := write_go (S := S) (L := L) (b := p.data) (show 7 + p.at_.toNat < S.length by omega) hfz
    rw [show (((7 + p.at_.toNat : Nat)) : Int) = 7 + p.at_ by omega] at h1 h2
    rw [Dst.blks_go h2, h1, blks_all ps S _ (dec f 1) h (fun x hx => ha x (List.mem_cons_of_mem _ hx)) (by unfold dec; split <;> omega), dec_dec _ _ _ (by omega), List.length_cons, blkL_cons, List.append_assoc, Nat.add_comm 1]
    rfl
theorem blks_cut : ∀ (ps : List PutV) (S : List (List UInt8)) (L : List (Nat × List UInt8)) (f : Nat), S.length = 19 → AtsOk ps → f < ps.length → (Dst.mk S L (f : Int) false).blks ps = (⟨S, L ++ blkL (ps.take f), 0, true⟩, 20)
  | [], S, L, f, _, _, hf => by simp at hf
  | p :: ps, S, L, 0, h, ha, hf => by
    have hp := ha p List.mem_cons_self
    obtain ⟨h1, h2⟩ := write_stop (S := S) (L := L) (b := p.data) (show 7 + p.at_.toNat < S.length by omega)
    rw [show (((7 + p.at_.toNat : Nat)) : Int) = 7 + p.at_ by omega] at h1 h2
    show (Dst.mk S L 0 false).blks _ = _
    rw [Dst.blks_no (by rw [h2]; decide), h1, h2, List.take_zero, blkL, List.map_nil, List.append_nil]
  | p :: ps, S, L, f + 1, h, ha, hf => by
    rw [List.length_cons] at hf
    have hp := ha p List.mem_cons_self
    obtain ⟨h1, h2⟩ := write_go (S := S) (L := L) (b := p.data) (f := ((f + 1 : Nat) : Int)) (show 7 + p.at_.toNat < S.length by omega) (by omega)
    rw [show (((7 + p.at_.toNat : Nat)) : Int) = 7 + p.at_ by omega] at h1 h2
    rw [Dst.blks_go h2, h1, show dec ((f + 1 : Nat) : Int) 1 = (f : Int) by unfold dec; rw [if_neg (by omega)]; omega, blks_cut ps S _ f h (fun x hx => ha x (List.mem_cons_of_mem _ hx)) (by omega), List.take_succ_cons, blkL_cons, List.append_assoc]
    rfl
theorem setLab_all {S : List (List UInt8)} {f : Int} {l : Lab} (h : S.length = 19) (hf : f < 0 ∨ 2 ≤ f) : (Dst.mk S [] f false).setLab l = (⟨S.set 0 (labEnc l), [], dec f 2, false⟩, 0) := by
  obtain ⟨w1, w2⟩ := write_go (S := S) (L := []) (b := labEnc l) (show 0 < S.length by omega) (show f ≠ 0 by omega)
  have hz : dec f 1 ≠ 0 := by unfold dec; split <;> omega
  obtain ⟨g1, g2⟩ := flush_go (S := S) (L := [(0, labEnc l)]) hz
  rw [dec_dec _ _ _ (by omega)] at g1
  have w1' : (Dst.mk S [] f false).write 0 (labEnc l) = ⟨S, [] ++ [(0, labEnc l)], dec f 1, false⟩ := w1
  rw [setLab_go w2, w1', List.nil_append, g1, g2]
  rfl
theorem carry_all {S : List (List UInt8)} {f : Int} {ps : List PutV} {l : Lab} (h : S.length = 19) (ha : AtsOk ps) (hf : f < 0 ∨ (ps.length : Int) + 3 ≤ f) : (Dst.mk S [] f false).carry ps l = (⟨(doneS S (blkL ps)).set 0 (labEnc l), [], dec f (ps.length + 3), false⟩, 0) := by
  have hb := blks_all ps S [] f h ha (by omega)
  have hz : dec f ps.length ≠ 0 := by unfold dec; split <;> omega
  obtain ⟨f1, f2⟩ := flush_go (S := S) (L := blkL ps) hz
  rw [dec_dec _ _ _ (by omega)] at f1
  rw [List.nil_append] at hb
  rw [Dst.carry, hb]
  simp only []
  rw [if_pos trivial, carryEnd_go f2, f1, setLab_all (by rw [doneS_length]; exact h) (by unfold dec; split <;> omega), dec_dec _ _ _ (by omega)]
/-- The sectors behind an Apply that went through. -/
def appS (S : List (List UInt8)) (e q : UInt32) (ps : List PutV) (l : Lab) : List (List UInt8) := (doneS (putS S 1 e q ps) (blkL ps)).set 0 (labEnc l)
theorem goodB_ats' {ps : List PutV} (h : goodB ps = true) : AtsOk ps := (goodB_at h).2.2.1
theorem apply_all {S : List (List UInt8)} {f : Int} {L : Lab} {e q : UInt32} {ps : List PutV} {d : UInt16} (h : S.length = 19) (hg : goodB ps = true) (hl : laterB e q L.e L.s = true) (hf : f < 0 ∨ 2 * (ps.length : Int) + 6 ≤ f) :
    (Dst.mk S [] f false).nApply L e q ps d = (⟨appS S e q ps (carryL L e q ps d), [], dec f (2 * ps.length + 6), false⟩, 0) := by
  have hp := put_all (S := S) (fr := 1) (f := f) (e := e) (q := q) (by omega) hg (by omega)
  have hp' : (Dst.mk S [] f false).walPut 1 e q ps = (⟨putS S 1 e q ps, [], dec f (ps.length + 3), false⟩, 0) := hp
  rw [nApply_go hg hl (by rw [hp']), hp']
  simp only []
  rw [carry_all (by rw [putS_length]; exact h) (goodB_ats' hg) (by unfold dec; split <;> omega), dec_dec _ _ _ (by omega), show ps.length + 3 + (ps.length + 3) = 2 * ps.length + 6 by omega]
  rfl
theorem appS_length (S : List (List UInt8)) (e q : UInt32) (ps : List PutV) (l : Lab) : (appS S e q ps l).length = S.length := by rw [appS, List.length_set, doneS_length, putS_length]
theorem getD_set_same {S : List (List UInt8)} {i : Nat} {b : List UInt8} (h : i < S.length) : (S.set i b).getD i [] = b := by simp [List.getD_eq_getElem?_getD, h]
theorem getD_set_other {S : List (List UInt8)} {i j : Nat} {b : List UInt8} (h : i ≠ j) : (S.set i b).getD j [] = S.getD j [] := by simp [List.getD_eq_getElem?_getD, List.getElem?_set_ne h]
theorem done_low : ∀ (ps : List PutV) (S : List (List UInt8)) (j : Nat), j < 7 → (doneS S (blkL ps)).getD j [] = S.getD j []
  | [], S, j, _ => rfl
  | p :: ps, S, j, h => by
    show (doneS (S.set (7 + p.at_.toNat) p.data) (blkL ps)).getD j [] = _
    rw [done_low ps _ j h, getD_set_other (by omega)]
/-- What the blocks hold behind puts. -/
def wupd (F : Nat → List UInt8) : List PutV → Nat → List UInt8
  | [] => F
  | p :: ps => wupd (fun b => if p.at_.toNat = b then p.data else F b) ps
theorem wupd_congr : ∀ (ps : List PutV) (F G : Nat → List UInt8) (b : Nat), F b = G b → wupd F ps b = wupd G ps b
  | [], F, G, b, h => h
  | p :: ps, F, G, b, h => wupd_congr ps _ _ b (by show (if p.at_.toNat = b then p.data else F b) = (if p.at_.toNat = b then p.data else G b); rw [h])
theorem done_blk : ∀ (ps : List PutV) (S : List (List UInt8)) (b : Nat), S.length = 19 → AtsOk ps → b < 12 → (doneS S (blkL ps)).getD (7 + b) [] = wupd (fun b => S.getD (7 + b) []) ps b
  | [], S, b, _, _, _ => rfl
  | p :: ps, S, b, h, ha, hb => by
    have hp := ha p List.mem_cons_self
    show (doneS (S.set (7 + p.at_.toNat) p.data) (blkL ps)).getD (7 + b) [] = wupd _ ps b
    rw [done_blk ps _ b (by rw [List.length_set]; exact h) (fun x hx => ha x (List.mem_cons_of_mem _ hx)) hb]
    apply wupd_congr
    show (S.set (7 + p.at_.toNat) p.data).getD (7 + b) [] = (if p.at_.toNat = b then p.data else S.getD (7 + b) [])
    by_cases hpb : p.at_.toNat = b
    · rw [if_pos hpb, hpb, getD_set_same (by omega)]
    · rw [if_neg hpb, getD_set_other (by omega)]
theorem appS_lab {S : List (List UInt8)} {e q : UInt32} {ps : List PutV} {l : Lab} (h : S.length = 19) : (appS S e q ps l).getD 0 [] = labEnc l := getD_set_same (by rw [doneS_length, putS_length]; omega)
theorem appS_mid {S : List (List UInt8)} {e q : UInt32} {ps : List PutV} {l : Lab} {j : Nat} (h0 : 0 < j) (h7 : j < 7) : (appS S e q ps l).getD j [] = (putS S 1 e q ps).getD j [] := by
  rw [appS, getD_set_other (by omega), done_low _ _ _ h7]
theorem appS_hdr {S : List (List UInt8)} {e q : UInt32} {ps : List PutV} {l : Lab} (h : S.length = 19) : (appS S e q ps l).getD 1 [] = hdrS e q ps := by
  rw [appS_mid (by decide) (by decide), putS_hdr (by omega)]
theorem appS_blk {S : List (List UInt8)} {e q : UInt32} {ps : List PutV} {l : Lab} {b : Nat} (h : S.length = 19) (hg : goodB ps = true) (hb : b < 12) : (appS S e q ps l).getD (7 + b) [] = wupd (fun b => S.getD (7 + b) []) ps b := by
  rw [appS, getD_set_other (by omega), done_blk _ _ _ (by rw [putS_length]; exact h) (goodB_ats' hg) hb]
  apply wupd_congr
  exact putS_out (by omega) (.inr (by have := (goodB_at hg).2.1; omega))
theorem appS_get {S : List (List UInt8)} {f : Int} {e q : UInt32} {ps : List PutV} {l : Lab} (h : S.length = 19) (hg : goodB ps = true) : (Dst.mk (appS S e q ps l) [] f false).walGet 1 = (⟨e, q, ps⟩, 0) := by
  have h5 := (goodB_at hg).2.1
  obtain ⟨r', h1, _, _, _, h5'⟩ := get_hdr (S := appS S e q ps l) (fr := 1) (f := f) (e := e) (q := q) (ps := ps) (by rw [appS_length, h]; decide) hg (appS_hdr h)
  rw [← h5' (fun i hi => by rw [appS_mid (by omega) (by omega), show 1 + 1 + i = 1 + 1 + i from rfl]; exact putS_img (by omega) hi)]
  exact h1
theorem read_up {S : List (List UInt8)} {f : Int} {i : Nat} (h : i < S.length) : (Dst.mk S [] f false).readB (i : Int) = S.getD i [] ∧ (Dst.mk S [] f false).readE (i : Int) = 0 := by
  obtain ⟨h1, h2⟩ := read_live S [] f i h
  exact ⟨by rw [h1, nowS_nil], h2⟩
theorem later_self (e q : UInt32) : laterB e q e q = false := by simp [laterB]
theorem nextU_ge (n q : UInt32) : (q + 1).toNat ≤ (nextU n q).toNat ∧ n.toNat ≤ (nextU n q).toNat := by
  rw [nextU]
  split
  · exact ⟨Nat.le_refl _, by assumption⟩
  · rename_i h
    exact ⟨by omega, Nat.le_refl _⟩
/-- A disk on which nothing stands. -/
theorem zero_form : formB (List.replicate 32 0) = false := by decide +kernel
theorem new_get : (Dst.new 19).walGet 1 = (Rec.no, 11) := by
  have h := read_up (S := List.replicate 19 (List.replicate 32 0)) (f := -1) (i := 1) (by decide)
  exact walGet_c (x := List.replicate 32 0) (by decide) h.2 (by rw [show (Dst.new 19).readB 1 = _ from h.1]; rfl) (by rw [zero_form]; decide)
theorem new_open : (Dst.new 19).nOpen = (Dst.new 19, 0, zLab) := by
  have h := read_up (S := List.replicate 19 (List.replicate 32 0)) (f := -1) (i := 0) (by decide)
  refine nOpen_form rfl h.2 ?_ (by rw [new_get])
  rw [show (Dst.new 19).readB 0 = List.replicate 32 0 from h.1.trans rfl, labDec, if_pos rfl]
end Go.Proofs.Ytcmfkdfegfablaa


/- The walk of wal.Put. -/
namespace Go.Proofs.Ytcmfkdfegfablaa
open Go.RowKit
set_option linter.unusedVariables false
set_option linter.unusedSimpArgs false

set_option maxRecDepth 100000 in
set_option maxHeartbeats 8000000 in
theorem walPut_calls (w : World) (g gs : Nat) (lv : Value) (s : Dst) (fr : Int) (e q : UInt32) (ps : List PutV) (A : Option Addr) (n c m : Nat) (hl : ps.length = n) (hd : DAt 92 w g gs lv s) (hok : DOk (-1) m s) (hm : m ≤ 990)
    (hkr : ∀ w', Chg (footD g gs lv) w w' → Rd w' A (ps.flatMap putC)) (ho : PutsOk ps) :
    Calls Try.prog 39 #[.pointer (some ⟨g, 0, none⟩), .int .i64 fr, .agg #[vu32 e, vu32 q, .slice A n c]] w (DPost 92 w g gs lv (s.walPut fr e q ps).1 (.int .i64 (s.walPut fr e q ps).2)) := by
  subst hl
  have HO := Lib.hid ho
  obtain ⟨bx, hbx⟩ : ∃ bx, [vu32 e, vu32 q, .slice A ps.length c] = bx := ⟨_, rfl⟩
  have HBX := Lib.hid hbx
  have D2 : Hid (bx[2]? = some (.slice A ps.length c)) := by rw [← hbx]; exact (rfl : _ = _)
  have HBL : Hid (bx.length = 3) := by rw [← hbx]; exact (rfl : _ = _)
  rw [show (#[vu32 e, vu32 q, .slice A ps.length c] : Array Value) = bx.toArray by rw [← hbx]]
  clear hbx ho
  have HW := Lib.hid (DGo.refl hd)
  have HKR := Lib.hid hkr
  have HOK := Lib.hid hok
  clear hd hkr hok
  go_enter Try.func39, Try.ntmps39
  go_wp2_with fail
  refine calls_at fun w1 hw1 => ?_
  have X1 : Hid (Bk w1 w.heap.size bx) := by show Bk _ _ _; rw [← hw1]; exact Bk.new w bx _
  have G1 : Hid (DGo 92 w w1 g gs lv lv s) := by show DGo _ _ _ _ _ _ _ _; rw [← hw1]; exact HW.out.chgN ((Chg.refl _).alloc _)
  clear hw1
  refine (may_calls w1 g gs lv s fr G1.out.at_).mono ?_
  rintro en w' ⟨rfl, rfl⟩
  by_cases hmay : mayB s.S.length fr = true
  case neg =>
    have HF := Lib.hid (Dst.walPut_no (e := e) (q := q) (ps := ps) (fun h => hmay h.1))
    rw [Bool.eq_false_iff.2 hmay]
    clear hmay
    go_wp2_with fail
    (try simp only [Exit.inBlock, Exit.then])
    go_ret
    rw [HF.out]
    exact G1.out.fin _
  have hfr := mayB_at hmay
  obtain ⟨f, hf⟩ := Int.eq_ofNat_of_zero_le hfr.1
  have HS : Hid (f + 6 ≤ s.S.length) := by show _ ≤ _; omega
  have HSL : Hid (s.S.length ≤ 1024) := G1.out.at_.sl
  have HMAY := Lib.hid hmay
  rw [hmay]
  clear hmay hfr
  subst hf
  have d2 := X1.out.cell D2.out
  go_wp2_with fail
  have HR1 := Lib.hid (HKR.out w1 G1.out.ch)
  refine (good_calls ps A ps.length c w1 rfl HR1.out HO.out).mono ?_
  rintro en w2 ⟨rfl, hb⟩
  have X2 := Lib.hid (X1.out.below hb)
  have G2 := Lib.hid (G1.out.below hb)
  clear hb d2
  by_cases hgood : goodB ps = true
  case neg =>
    have HF := Lib.hid (Dst.walPut_no (s := s) (fr := (f : Int)) (e := e) (q := q) (ps := ps) (fun h => hgood h.2))
    rw [Bool.eq_false_iff.2 hgood]
    clear hgood
    go_wp2_with fail
    (try simp only [Exit.inBlock, Exit.then])
    go_ret
    rw [HF.out]
    exact G2.out.fin _
  have HG := Lib.hid (goodB_at hgood)
  have HF := Lib.hid (Dst.walPut_yes (e := e) (q := q) HMAY.out hgood)
  rw [hgood]
  clear hgood
  have h5 : ps.length ≤ 5 := HG.out.2.1
  have d2 := X2.out.cell D2.out
  go_wp2_with fail
  clear d2
  have HX2 : Hid (∀ w', Chg (footD g gs lv) w2 w' → Bk w' w.heap.size bx) := fun w' hc => X2.out.chg hc (fun hj => by have := DiskAt.lt HW.out.at_ _ hj; omega)
  have H0 : Hid (PutLoop 92 (-1) m w2 g gs lv s f ps (.int .i64 0) w2) := ⟨0, lv, s, Nat.zero_le _, rfl, .refl G2.out.at_, by simp, HOK.out, rfl⟩
  go_loopw [27] (fun v27 wr => PutLoop 92 (-1) m w2 g gs lv s f ps v27 wr) (fun v27 _ => ps.length - (intOf v27).toNat)
  case atStart => exact H0.out
  case round =>
    obtain ⟨k, lv3, t, hk, rfl, hgo, him, hok3, hsl3⟩ := hrel
    have G3 := Lib.hid hgo
    have HIM := Lib.hid him
    have K3 := Lib.hid hok3
    have HS3 := Lib.hid hsl3
    clear hgo him hok3 hsl3 H0
    by_cases hlt : k < ps.length
    · have hki : (k : Int) < (ps.length : Int) := by omega
      have hrr := HKR.out wr (G2.out.trans G3.out).ch
      obtain ⟨ad, hA⟩ := puts_some hrr hlt
      subst hA
      have hpr := put_rd hrr HO.out hlt
      have hpo := HO.out _ (List.getElem_mem hlt)
      have him := HIM.out
      rw [List.drop_eq_getElem_cons hlt] at him
      obtain ⟨p, hp⟩ : ∃ p, ps[k] = p := ⟨_, rfl⟩
      rw [hp] at hpr hpo him
      have HPR := Lib.hid hpr
      have HIM2 := Lib.hid him
      have HPD := Lib.hid hpo.1
      have HPL := Lib.hid (putC_len hpo.1)
      clear hp hpr hpo hrr him HIM
      go_wp2_with (first
        | (refine wpList_ldr2 rfl 54 (.tmp 30) rfl (ad.add (k * 33)) 33 (putC p) rfl HPR.out (by kernel_rfl) (by kernel_rfl) HPL.out ?_)
        | (refine wpList_al rfl 54 rfl (.int .i64 0 :: bts (List.replicate 32 0)) (by kernel_rfl) ?_))
      intro g5 w3 hg hb hc hs
      subst hg
      have G4 := Lib.hid (G3.out.chgN hc)
      have K4 := Lib.hid hb
      clear hb hs hc
      go_wp2_with (refine wpList_st rfl 54 (.tmp 8) (.tmp 31) rfl wr.heap.size 0 33 (.int .i64 0 :: bts (List.replicate 32 0)) (putC p) rfl rfl K4.out (by kernel_rfl) HPL.out (by decide) (one_put p) ?_)
      intro w4 hb hc
      rw [splice_whole _ _ (by rw [HPL.out]; rfl)] at hb
      have G5 : Hid (DGo 92 w2 w4 g gs lv lv3 t) := ⟨DiskAt.chg G4.out.at_ hc (fun j hj he => by have := DiskAt.lt G3.out.at_ j hj; omega), G4.out.ft, G4.out.ch.then_ hc (fun j hj hlt => by have := G3.out.ch.size; omega)⟩
      have KP := Lib.hid hb
      have HSR := Lib.hid HS.out
      have h1024 := HSL.out
      have hfs := HS.out
      clear hb hc K4
      go_wp2_with (refine wpList_ld rfl 35 _ rfl wr.heap.size 1 32 (putC p) (bts p.data) rfl KP.out rfl (by kernel_rfl) (by rw [HPL.out]; decide) (by show ((bts p.data)).take 32 = _; rw [List.take_of_length_le (by rw [bts_length, HPD.out]; exact Nat.le_refl _)]) ?_)
      rw [show ((f : Int) + 1 + (k : Int)) = (f : Int) + 1 + k from rfl]
      refine (diskWrite_at w4 g gs lv3 t ((f : Int) + 1 + k) p.data G5.out.at_ HPD.out (by have := K3.out.ll; omega) K3.out.f1 K3.out.f2).mono ?_
      intro en w5 hp
      obtain ⟨rfl, lv5, hgo⟩ := G5.out.post hp
      have G6 := Lib.hid hgo
      clear hp hgo
      by_cases he : t.writeE ((f : Int) + 1 + k) = 0
      · have HN := Lib.hid (Dst.imgs_go (p := p) (ps := ps.drop (k + 1)) he)
        rw [he]
        go_wp2_with fail
        go_roundw
        case rel => exact ⟨k + 1, lv5, _, by omega, by go_num, G6.out, by rw [HIM2.out, HN.out]; congr 1, K3.out.write (by decide) _ _, by rw [Dst.write_S]; exact HS3.out⟩
        case measure => simp [intOf]; omega
      · have HN := Lib.hid (Dst.imgs_no (p := p) (ps := ps.drop (k + 1)) he)
        obtain ⟨z, hz⟩ : ∃ z, t.writeE ((f : Int) + 1 + k) = z := ⟨_, rfl⟩
        have HZ := Lib.hid hz
        rw [hz] at he ⊢
        clear hz
        go_wp2_with fail
        (try simp only [Exit.inBlock, Exit.then])
        go_ret
        rw [HF.out, HIM2.out, HN.out, HZ.out]
        simp only []
        rw [if_neg he]
        exact (G2.out.trans G6.out).fin _
    · have hke : k = ps.length := by omega
      subst hke
      have hki : ¬ (((ps.length : Nat) : Int) < (ps.length : Int)) := by omega
      have HI : Hid (s.imgs ((f : Int) + 1) ps = (t, 0)) := by
        show _ = _
        rw [HIM.out, List.drop_length]
        rfl
      go_wp2_with fail
      refine (diskFlush_at wr g gs lv3 t G3.out.at_ K3.out.f1 K3.out.f2).mono ?_
      intro en w4 hp
      obtain ⟨rfl, lv4, hgo⟩ := G3.out.post hp
      have G4 := Lib.hid hgo
      have K4 := Lib.hid (K3.out.flush (by decide))
      clear hp hgo K3 HIM
      have HF2 : Hid (s.walPut f e q ps = t.walEnd f (hdrS e q ps)) := by
        show _ = _
        rw [HF.out, HI.out]
        rfl
      by_cases he : t.flushE = 0
      case neg =>
        have HN := Lib.hid (walEnd_a (fr := (f : Int)) (h := hdrS e q ps) he)
        obtain ⟨z, hz⟩ : ∃ z, t.flushE = z := ⟨_, rfl⟩
        have HZ := Lib.hid hz
        rw [hz] at he ⊢
        clear hz
        go_wp2_with fail
        (try simp only [Exit.inBlock, Exit.then])
        go_ret
        rw [HF2.out, HN.out, HZ.out]
        exact (G2.out.trans G4.out).fin _
      have HE := Lib.hid he
      obtain ⟨t2, ht2⟩ : ∃ t2, t.flush = t2 := ⟨_, rfl⟩
      have HT2 := Lib.hid ht2
      rw [he]
      rw [ht2] at G4 K4
      have HB4 := Lib.hid (HX2.out w4 G4.out.ch)
      clear he ht2
      have hbx := HBX.out
      go_wp2_with (refine wpList_ld rfl 25 _ rfl w.heap.size 0 3 bx bx rfl HB4.out rfl (by kernel_rfl) (by rw [HBL.out]; decide) (by rw [List.drop_zero, List.take_of_length_le (by rw [HBL.out]; exact Nat.le_refl _)]) ?_)
      rw [show bx.toArray = #[vu32 e, vu32 q, .slice A ps.length c] by rw [← HBX.out]]
      have HR4 := Lib.hid (HKR.out w4 (G2.out.trans G4.out).ch)
      refine (header_calls e q ps A ps.length c w4 rfl (by omega) HR4.out HO.out (fun p hp => by have := HG.out.2.2.1 p hp; omega)).mono ?_
      rintro en w5 ⟨rfl, hb5⟩
      have HB5 := Lib.hid hb5
      obtain ⟨vv, hvv⟩ : ∃ vv, bts (hdrS e q ps) = vv := ⟨_, rfl⟩
      have HVV := Lib.hid hvv
      have HVL : Hid (vv.length = 32) := by show _ = _; rw [← hvv, bts_length, hdrS_length e q ps (by omega)]
      have HVO : Hid (∀ u ∈ vv, u.oneCell' = true) := by rw [← hvv]; exact one_bts _
      rw [hvv]
      clear hvv hb5 hbx
      go_wp2_with (refine wpList_al rfl 35 rfl (bts (List.replicate 32 0)) (by kernel_rfl) ?_)
      intro g6 w6 hg hb hc hs
      subst hg
      have HB6 : Hid (Below w4.heap.size w4 w6) := HB5.out.trans (hc.below HB5.out.size (fun _ _ => id))
      have HK6 := Lib.hid hb
      clear hb hc hs
      go_wp2_with (refine wpList_st rfl 35 (.tmp 11) (.tmp 52) rfl w5.heap.size 0 32 (bts (List.replicate 32 0)) vv rfl rfl HK6.out (by kernel_rfl) HVL.out (by decide) HVO.out ?_)
      intro w7 hb hc
      rw [splice_whole _ _ (by rw [HVL.out]; rfl)] at hb
      have G7 : Hid (DGo 92 w2 w7 g gs lv lv4 t2) := G4.out.below (HB6.out.trans (hc.below HB6.out.size (fun j hj he => by have := HB5.out.size; omega)))
      have HK7 := Lib.hid hb
      clear hb hc HB6 HB5 HK6
      go_wp2_with (refine wpList_ld rfl 35 _ rfl w5.heap.size 0 32 vv vv rfl HK7.out rfl (by kernel_rfl) (by rw [HVL.out]; decide) (by rw [List.drop_zero, List.take_of_length_le (by rw [HVL.out]; exact Nat.le_refl _)]) ?_)
      rw [← HVV.out]
      refine (diskWrite_at w7 g gs lv4 t2 f (hdrS e q ps) G7.out.at_ (hdrS_length e q ps (by omega)) (by have := K4.out.ll; omega) K4.out.f1 K4.out.f2).mono ?_
      intro en w8 hp
      obtain ⟨rfl, lv8, hgo⟩ := G7.out.post hp
      have G8 := Lib.hid hgo
      have K8 := Lib.hid (K4.out.write (by decide) f (hdrS e q ps))
      clear hp hgo K4 HK7 HVV HVL HVO
      by_cases he : t2.writeE f = 0
      case neg =>
        have HN := Lib.hid (walEnd_b (h := hdrS e q ps) HE.out (by rw [HT2.out]; exact he))
        rw [HT2.out] at HN
        obtain ⟨z, hz⟩ : ∃ z, t2.writeE f = z := ⟨_, rfl⟩
        have HZ := Lib.hid hz
        rw [hz] at he ⊢
        clear hz
        go_wp2_with fail
        (try simp only [Exit.inBlock, Exit.then])
        go_ret
        rw [HF2.out, HN.out, HZ.out]
        exact (G2.out.trans G8.out).fin _
      have HN := Lib.hid (walEnd_c (h := hdrS e q ps) HE.out (by rw [HT2.out]; exact he))
      rw [HT2.out] at HN
      rw [he]
      clear he
      go_wp2_with fail
      refine (diskFlush_at w8 g gs lv8 _ G8.out.at_ K8.out.f1 K8.out.f2).mono ?_
      intro en w9 hp
      obtain ⟨rfl, lv9, hgo⟩ := G8.out.post hp
      have G9 := Lib.hid hgo
      clear hp hgo
      go_wp2_with fail
      (try simp only [Exit.inBlock, Exit.then])
      go_ret
      rw [HF2.out, HN.out]
      exact (G2.out.trans G9.out).fin _
end Go.Proofs.Ytcmfkdfegfablaa


/- The walk of wal.Get. -/
namespace Go.Proofs.Ytcmfkdfegfablaa
open Go.RowKit
set_option linter.unusedVariables false
set_option linter.unusedSimpArgs false

def zR : List Value := [vu32 0, vu32 0, .slice none 0 0]
theorem one_zR : ∀ u ∈ zR, u.oneCell' = true := by
  intro u hu
  simp only [zR, List.mem_cons, List.not_mem_nil, or_false] at hu
  rcases hu with rfl | rfl | rfl <;> rfl
theorem one_rec (e q : UInt32) (A : Option Addr) (n c : Nat) : ∀ u ∈ [vu32 e, vu32 q, .slice A n c], u.oneCell' = true := by
  intro u hu
  simp only [List.mem_cons, List.not_mem_nil, or_false] at hu
  rcases hu with rfl | rfl | rfl <;> rfl
theorem no_post {w w' : World} (hb : Below w.heap.size w w') (er : Int) : GetPost w Rec.no er (.returned (.tuple #[.agg zR.toArray, .int .i64 er])) w' :=
  ⟨none, 0, rfl, fun _ _ _ _ => Rd.nil _ _, Nat.le_refl _, by decide, hb⟩
theorem infoPut3 : (Try.prog.info? 54).map (fun i => (i.zero, i.size, i.bytes)) = some (some zPut, 33, 40) := by kernel_rfl
/-- A row of puts, its own block known. -/
def OwnP (base n : Nat) (ps : List PutV) (m : Nat) (u : Value) : Fact := fun w v => w.ownsRow base 54 33 v n (ps.flatMap putC) ∧ (v.ownBlock = u.ownBlock ∨ ∃ j, v.ownBlock = some j ∧ m ≤ j)
theorem OwnP.lasts {base n m : Nat} {ps : List PutV} {u : Value} : ∀ w w' v, Chg NoS w w' → OwnP base n ps m u w v → OwnP base n ps m u w' v := fun _ _ _ h ho => ⟨own_chg ho.1 h (fun _ _ => id), ho.2⟩
def LvP (u : Value) : Nat → Prop := fun j => u.ownBlock = some j
def BkF (g : Nat) (vs : List Value) : Fact := fun w _ => Bk w g vs
theorem BkF.lasts {g : Nat} {vs : List Value} : ∀ w w' v, Chg NoS w w' → BkF g vs w v → BkF g vs w' v := fun _ _ _ h hb => hb.chg h id
theorem flat_snoc (ps : List PutV) (p : PutV) : (ps ++ [p]).flatMap putC = ps.flatMap putC ++ putC p := by
  rw [List.flatMap_append, List.flatMap_cons, List.flatMap_nil, List.append_nil]
theorem puts_length {ps : List PutV} (h : PutsOk ps) : (ps.flatMap putC).length = ps.length * 33 := flat_length putC 33 ps (fun p hp => putC_len (h p hp).1)
theorem splice_mid (A B C U : List Value) (h : U.length = B.length) : splice (A ++ B ++ C) A.length U = A ++ U ++ C := by
  unfold splice
  rw [List.append_assoc, List.take_append_of_le_length (Nat.le_refl _), List.take_length, List.drop_append, List.drop_append, show A.length + U.length - A.length = U.length by omega, h, List.drop_of_length_le (by omega : A.length ≤ A.length + B.length), List.nil_append, List.drop_length, Nat.sub_self, List.drop_zero, List.nil_append, List.append_assoc]
theorem splice_put {ps : List PutV} (h : PutsOk ps) {k : Nat} (hk : k < ps.length) (d : List UInt8) (hd : d.length = 32) (r : List Value) :
    splice (ps.flatMap putC ++ r) (k * 33 + 1) (bts d) = (ps.set k ⟨ps[k].at_, d⟩).flatMap putC ++ r := by
  have hl : ((ps.take k).flatMap putC ++ [Value.int .i64 ps[k].at_]).length = k * 33 + 1 := by
    rw [List.length_append, puts_length (fun p hp => h p (List.mem_of_mem_take hp)), List.length_take, Nat.min_eq_left (Nat.le_of_lt hk)]
    rfl
  have h1 : ps.flatMap putC ++ r = ((ps.take k).flatMap putC ++ [Value.int .i64 ps[k].at_]) ++ bts ps[k].data ++ ((ps.drop (k + 1)).flatMap putC ++ r) := by
    have : ps = ps.take k ++ ps[k] :: ps.drop (k + 1) := by rw [← List.drop_eq_getElem_cons hk, List.take_append_drop]
    conv => lhs; rw [this]
    rw [List.flatMap_append, List.flatMap_cons]
    show _ ++ ((Value.int .i64 ps[k].at_ :: bts ps[k].data) ++ _) ++ r = _
    simp
  have h2 : (ps.set k ⟨ps[k].at_, d⟩).flatMap putC ++ r = ((ps.take k).flatMap putC ++ [Value.int .i64 ps[k].at_]) ++ bts d ++ ((ps.drop (k + 1)).flatMap putC ++ r) := by
    rw [List.set_eq_take_append_cons_drop, if_pos hk, List.flatMap_append, List.flatMap_cons]
    show _ ++ ((Value.int .i64 ps[k].at_ :: bts d) ++ _) ++ r = _
    simp
  rw [h1, h2, ← hl, splice_mid _ _ _ _ (by rw [bts_length, bts_length, hd, (h _ (List.getElem_mem hk)).1])]
/-- The data of the first k puts. -/
def datK (D : Nat → List UInt8) (k : Nat) : Nat → List UInt8 := fun i => if i < k then D i else List.replicate 32 0
theorem datK_len {D : Nat → List UInt8} (h : ∀ i, (D i).length = 32) (k i : Nat) : (datK D k i).length = 32 := by
  unfold datK
  split
  · exact h i
  · exact List.length_replicate
theorem datK_zero (D : Nat → List UInt8) : datK D 0 = zdat := by
  funext i
  rfl
theorem putsK_set {x : List UInt8} {D : Nat → List UInt8} {n k : Nat} (hk : k < n) (h : k < (putsK x (datK D k) n).length) : (putsK x (datK D k) n).set k ⟨((putsK x (datK D k) n)[k]).at_, D k⟩ = putsK x (datK D (k + 1)) n := by
  have h0 := putsK_get (x := x) (D := datK D k) hk
  rw [List.getElem?_eq_getElem h] at h0
  rw [Option.some.inj h0]
  apply List.ext_getElem?
  intro i
  by_cases hi : i < n
  · rw [putsK_get hi, List.getElem?_set]
    by_cases hik : k = i
    · subst hik
      rw [if_pos rfl, if_pos h]
      simp [datK]
    · rw [if_neg hik, putsK_get hi]
      congr 2
      unfold datK
      by_cases hlt : i < k
      · rw [if_pos hlt, if_pos (by omega)]
      · rw [if_neg hlt, if_neg (by omega)]
  · rw [List.getElem?_eq_none (by rw [List.length_set, putsK_length]; omega), List.getElem?_eq_none (by rw [putsK_length]; omega)]
theorem putsK_full {x : List UInt8} {D : Nat → List UInt8} {n : Nat} : putsK x (datK D n) n = putsK x D n := putsK_congr (fun i hi => by unfold datK; rw [if_pos hi])
/-- The loop that gathers the places. -/
def GetRel (wf : World) (gq : Nat) (x : List UInt8) (n : Nat) (v : Value) (wr : World) : Prop :=
  ∃ (k : Nat) (u : Value), k ≤ n ∧ v = .int .i64 k ∧ Bk wr gq [vu32 (eOf x), vu32 (qOf x), u] ∧ wr.ownsRow (gq + 1) 54 33 u k ((putsK x zdat k).flatMap putC) ∧ Below wf.heap.size wf wr ∧ gq + 1 ≤ wr.heap.size
/-- The loop that reads the images. -/
def GetRel2 (wf : World) (gq gp : Nat) (x : List UInt8) (D : Nat → List UInt8) (n c : Nat) (rest : List Value) (v : Value) (wr : World) : Prop :=
  ∃ k : Nat, k ≤ n ∧ v = .int .i64 k ∧ Bk wr gq [vu32 (eOf x), vu32 (qOf x), .slice (some ⟨gp, 0, none⟩) n c] ∧ Bk wr gp ((putsK x (datK D k) n).flatMap putC ++ rest) ∧ Below wf.heap.size wf wr
set_option maxRecDepth 100000 in
set_option maxHeartbeats 16000000 in
theorem walGet_calls (w : World) (g gs : Nat) (lv : Value) (s : Dst) (fr : Int) (hd : DAt 92 w g gs lv s) :
    Calls Try.prog 32 #[.pointer (some ⟨g, 0, none⟩), .int .i64 fr] w (GetPost w (s.walGet fr).1 (s.walGet fr).2) := by
  have HW := Lib.hid hd
  have HD32 : Hid (∀ i, (s.readB i).length = 32) := hd.readB_len
  clear hd
  go_enter Try.func32, Try.ntmps32
  go_wp2_with (refine wpList_al rfl 25 rfl zR (by kernel_rfl) ?_)
  intro g0 w1 hg hb hc hs
  subst hg
  have K1 := Lib.hid hb
  have E1 : Hid (Below w.heap.size w w1) := hc.below (Nat.le_refl _) (fun _ _ => id)
  have S1 : Hid (w1.heap.size = w.heap.size + 1) := hs
  clear hb hc hs
  go_wp2_with fail
  refine (may_calls w1 g gs lv s fr (DiskAt.below HW.out E1.out)).mono ?_
  rintro en w' ⟨rfl, rfl⟩
  by_cases hmay : mayB s.S.length fr = true
  case neg =>
    have HF := Lib.hid (walGet_a hmay)
    rw [Bool.eq_false_iff.2 hmay]
    clear hmay
    go_wp2_with (first
      | (refine wpList_bld rfl 25 [] rfl zR [] zR (by kernel_rfl) (by kernel_rfl) trivial rfl ?_)
      | (refine wpList_st rfl 25 (.tmp 4) (.tmp 18) rfl w.heap.size 0 3 zR zR rfl rfl K1.out (by kernel_rfl) rfl (by decide) one_zR ?_))
    intro wz hbz hcz
    rw [splice_whole zR zR rfl] at hbz
    have HEZ : Hid (Below w.heap.size w wz) := E1.out.trans (hcz.below E1.out.size (fun k hk he => by omega))
    have HBZ := Lib.hid hbz
    clear hbz hcz
    go_wp2_with fail
    (try simp only [Exit.inBlock, Exit.then])
    refine bodyPost_ret (res_cell_tmp rfl _ _ w.heap.size 3 zR rfl HBZ.out (by kernel_rfl) (by kernel_rfl) rfl) rfl ?_
    rw [HF.out]
    exact no_post HEZ.out _
  have hfr := mayB_at hmay
  obtain ⟨f, hf⟩ := Int.eq_ofNat_of_zero_le hfr.1
  have HS : Hid (f + 6 ≤ s.S.length) := by show _ ≤ _; omega
  have HSL : Hid (s.S.length ≤ 1024) := HW.out.sl
  have HMAY := Lib.hid hmay
  rw [hmay]
  clear hmay hfr
  subst hf
  go_wp2_with fail
  refine (diskRead_at w1 g gs lv s (f : Int) (DiskAt.below HW.out E1.out)).mono ?_
  rintro en w2 ⟨rfl, hb⟩
  have K2 := Lib.hid (K1.out.below hb)
  have E2 : Hid (Below w.heap.size w w2) := E1.out.trans (hb.mono E1.out.size)
  clear hb
  obtain ⟨x, hx⟩ : ∃ x, s.readB (f : Int) = x := ⟨_, rfl⟩
  have HX := Lib.hid hx
  have HXL : Hid (x.length = 32) := by show _ = _; rw [← hx]; exact HD32.out _
  obtain ⟨vx, hvx⟩ : ∃ vx, bts x = vx := ⟨_, rfl⟩
  have HVX := Lib.hid hvx
  have HVL : Hid (vx.length = 32) := by show _ = _; rw [← hvx, bts_length, HXL.out]
  have HVO : Hid (∀ u ∈ vx, u.oneCell' = true) := by rw [← hvx]; exact one_bts _
  obtain ⟨z, hz⟩ : ∃ z, s.readE (f : Int) = z := ⟨_, rfl⟩
  have HZ := Lib.hid hz
  rw [hx, hvx, hz]
  clear hx hvx hz
  go_wp2_with (refine wpList_al rfl 35 rfl (bts (List.replicate 32 0)) (by kernel_rfl) ?_)
  intro g6 w3 hg hb hc hs
  have HG6 : Hid (w.heap.size + 1 ≤ g6) := by show _ ≤ _; have := S1.out; have := E2.out.size; have := K2.out.lt; omega
  have L3 := Lib.hid hb
  have K3 := Lib.hid (K2.out.chg hc id)
  have E3 : Hid (Below w.heap.size w w3) := E2.out.trans (hc.below E2.out.size (fun _ _ => id))
  clear hg hb hc hs
  go_wp2_with (refine wpList_st rfl 35 (.tmp 6) (.tmp 23) rfl g6 0 32 (bts (List.replicate 32 0)) vx rfl rfl L3.out (by kernel_rfl) HVL.out (by decide) HVO.out ?_)
  intro w4 hb hc
  rw [splice_whole _ _ (by rw [HVL.out]; rfl)] at hb
  have L4 := Lib.hid hb
  have K4 : Hid (Bk w4 w.heap.size zR) := K3.out.chg hc (by have := HG6.out; omega)
  have E4 : Hid (Below w.heap.size w w4) := E3.out.trans (hc.below E3.out.size (fun k hk he => by have := HG6.out; omega))
  clear hb hc
  by_cases hez : z = 0
  case neg =>
    have HF : Hid (s.walGet (f : Int) = (Rec.no, z)) := by
      show _ = _
      rw [← HZ.out]
      exact walGet_b HMAY.out (by rw [HZ.out]; exact hez)
    go_wp2_with (first
      | (refine wpList_bld rfl 25 [] rfl zR [] zR (by kernel_rfl) (by kernel_rfl) trivial rfl ?_)
      | (refine wpList_st rfl 25 (.tmp 4) (.tmp 27) rfl w.heap.size 0 3 zR zR rfl rfl K4.out (by kernel_rfl) rfl (by decide) one_zR ?_))
    intro wz hbz hcz
    rw [splice_whole zR zR rfl] at hbz
    have HEZ : Hid (Below w.heap.size w wz) := E4.out.trans (hcz.below E4.out.size (fun k hk he => by omega))
    have HBZ := Lib.hid hbz
    clear hbz hcz
    go_wp2_with fail
    (try simp only [Exit.inBlock, Exit.then])
    refine bodyPost_ret (res_cell_tmp rfl _ _ w.heap.size 3 zR rfl HBZ.out (by kernel_rfl) (by kernel_rfl) rfl) rfl ?_
    rw [HF.out]
    exact no_post HEZ.out _
  subst hez
  go_wp2_with (refine wpList_ld rfl 35 _ rfl g6 0 32 vx vx rfl L4.out rfl (by kernel_rfl) (by rw [HVL.out]; decide) (by rw [List.drop_zero, List.take_of_length_le (by rw [HVL.out]; exact Nat.le_refl _)]) ?_)
  rw [← HVX.out]
  refine (sealDecode_calls x w4 HXL.out).mono ?_
  rintro en w5 ⟨rfl, hb⟩
  have K5 := Lib.hid (K4.out.below hb)
  have L5 : Hid (Bk w5 g6 vx) := L4.out.below hb
  have E5 : Hid (Below w.heap.size w w5) := E4.out.trans (hb.mono E4.out.size)
  clear hb
  obtain ⟨er, her⟩ : ∃ er, (decR x).2 = er := ⟨_, rfl⟩
  have HER := Lib.hid her
  obtain ⟨vr, hvr⟩ : ∃ vr, bts (decR x).1 = vr := ⟨_, rfl⟩
  have HVR := Lib.hid hvr
  have HRL : Hid (vr.length = 30) := by
    show _ = _
    rw [← hvr, bts_length]
    by_cases h : (decR x).2 = 0
    · rw [(decR_ok h).1, List.length_cons, bodyOf_length HXL.out]
    · rw [(decR_err h).1, List.length_replicate]
  have HRO : Hid (∀ u ∈ vr, u.oneCell' = true) := by rw [← hvr]; exact one_bts _
  rw [her, hvr]
  clear her hvr
  go_wp2_with (refine wpList_al rfl 99 rfl (zb 30) (by kernel_rfl) ?_)
  intro g8 w6 hg hb hc hs
  have HG8 : Hid (g6 < g8) := by show _ < _; have := L5.out.lt; omega
  have M6 := Lib.hid hb
  have K6 := Lib.hid (K5.out.chg hc id)
  have L6 := Lib.hid (L5.out.chg hc id)
  have E6 : Hid (Below w.heap.size w w6) := E5.out.trans (hc.below E5.out.size (fun _ _ => id))
  clear hg hb hc hs
  go_wp2_with (refine wpList_st rfl 99 (.tmp 8) (.tmp 32) rfl g8 0 30 (zb 30) vr rfl rfl M6.out (by kernel_rfl) HRL.out (by decide) HRO.out ?_)
  intro w7 hb hc
  rw [splice_whole _ _ (by rw [HRL.out]; rfl)] at hb
  have M7 := Lib.hid hb
  have K7 : Hid (Bk w7 w.heap.size zR) := K6.out.chg hc (by have := HG8.out; have := HG6.out; omega)
  have L7 : Hid (Bk w7 g6 vx) := L6.out.chg hc (by have := HG8.out; omega)
  have E7 : Hid (Below w.heap.size w w7) := E6.out.trans (hc.below E6.out.size (fun k hk he => by have := HG8.out; have := HG6.out; omega))
  have S7 : Hid (g8 < w7.heap.size) := hb.lt
  clear hb hc K6 L6 M6 E6 K5 L5 E5 K4 L4 E4 K3 L3 E3 K2 E2 K1
  have NOF : ¬ formB x = true → Hid (s.walGet (f : Int) = (Rec.no, 11)) := fun h => walGet_c HMAY.out HZ.out HX.out h
  by_cases hdec : er = 0
  case neg =>
    have HF := NOF (fun h => hdec (by rw [← HER.out]; exact (formB_iff.1 h).1))
    have hm0 := hdec
    go_wp2_with (first
      | (refine wpList_bld rfl 25 [] rfl zR [] zR (by kernel_rfl) (by kernel_rfl) trivial rfl ?_)
      | (refine wpList_st rfl 25 (.tmp 4) (.tmp 47) rfl w.heap.size 0 3 zR zR rfl rfl K7.out (by kernel_rfl) rfl (by decide) one_zR ?_))
    intro wz hbz hcz
    rw [splice_whole zR zR rfl] at hbz
    have HEZ : Hid (Below w.heap.size w wz) := E7.out.trans (hcz.below E7.out.size (fun k hk he => by omega))
    have HBZ := Lib.hid hbz
    clear hbz hcz
    go_wp2_with fail
    (try simp only [Exit.inBlock, Exit.then])
    refine bodyPost_ret (res_cell_tmp rfl _ _ w.heap.size 3 zR rfl HBZ.out (by kernel_rfl) (by kernel_rfl) rfl) rfl ?_
    rw [HF.out]
    exact no_post HEZ.out _
  subst hdec
  have hok := decR_ok HER.out
  have hbl := bodyOf_length HXL.out
  have HVB : Hid (vr = vu8 (x.getD 0 0) :: bts (bodyOf x)) := by
    show _ = _
    rw [← HVR.out, hok.1]
    rfl
  have HBL := Lib.hid hbl
  have HOK := Lib.hid hok.2
  clear hok hbl
  have c0 : w7.cell? ⟨g8, 0, none⟩ = some (.int .u8 ((x.getD 0 0).toNat : Nat)) := M7.out.cell (by rw [HVB.out]; rfl)
  by_cases hm : x.getD 0 0 = 0x57
  case neg =>
    have HF := NOF (fun h => hm (formB_iff.1 h).2.1)
    have hm1 : ¬ (((x.getD 0 0).toNat : Nat) : Int) = 87 := fun h => hm (UInt8.toNat_inj.1 (by show (x.getD 0 0).toNat = 87; omega))
    go_wp2_with (first
      | (refine wpList_bld rfl 25 [] rfl zR [] zR (by kernel_rfl) (by kernel_rfl) trivial rfl ?_)
      | (refine wpList_st rfl 25 (.tmp 4) (.tmp 47) rfl w.heap.size 0 3 zR zR rfl rfl K7.out (by kernel_rfl) rfl (by decide) one_zR ?_))
    intro wz hbz hcz
    rw [splice_whole zR zR rfl] at hbz
    have HEZ : Hid (Below w.heap.size w wz) := E7.out.trans (hcz.below E7.out.size (fun k hk he => by omega))
    have HBZ := Lib.hid hbz
    clear hbz hcz
    go_wp2_with fail
    (try simp only [Exit.inBlock, Exit.then])
    refine bodyPost_ret (res_cell_tmp rfl _ _ w.heap.size 3 zR rfl HBZ.out (by kernel_rfl) (by kernel_rfl) rfl) rfl ?_
    rw [HF.out]
    exact no_post HEZ.out _
  have HM := Lib.hid hm
  rw [hm] at c0
  have c0' : w7.cell? ⟨g8, 0, none⟩ = some (.int .u8 87) := c0
  clear c0
  have c9 : w7.cell? ⟨g8, 9, none⟩ = some (.int .u8 ((nOf x : Nat) : Int)) := M7.out.cell (by
    rw [HVB.out, List.getElem?_cons_succ]
    exact bts_get (by rw [HBL.out]; decide))
  obtain ⟨n, hn⟩ : ∃ n, nOf x = n := ⟨_, rfl⟩
  have HN := Lib.hid hn
  rw [hn] at c9
  clear hn hm
  by_cases hn5 : n ≤ 5
  case neg =>
    have HF := NOF (fun h => hn5 (by rw [← HN.out]; exact (formB_iff.1 h).2.2.1))
    have hn6 : (5 : Int) < (n : Int) := by omega
    go_wp2_with (first
      | (refine wpList_bld rfl 25 [] rfl zR [] zR (by kernel_rfl) (by kernel_rfl) trivial rfl ?_)
      | (refine wpList_st rfl 25 (.tmp 4) (.tmp 47) rfl w.heap.size 0 3 zR zR rfl rfl K7.out (by kernel_rfl) rfl (by decide) one_zR ?_))
    intro wz hbz hcz
    rw [splice_whole zR zR rfl] at hbz
    have HEZ : Hid (Below w.heap.size w wz) := E7.out.trans (hcz.below E7.out.size (fun k hk he => by omega))
    have HBZ := Lib.hid hbz
    clear hbz hcz
    go_wp2_with fail
    (try simp only [Exit.inBlock, Exit.then])
    refine bodyPost_ret (res_cell_tmp rfl _ _ w.heap.size 3 zR rfl HBZ.out (by kernel_rfl) (by kernel_rfl) rfl) rfl ?_
    rw [HF.out]
    exact no_post HEZ.out _
  have hn6 : ¬ (5 : Int) < (n : Int) := by omega
  have HN5 := Lib.hid hn5
  have L4a : Hid (((bodyOf x).take 4).length = 4) := by show _ = _; rw [List.length_take, HBL.out]; rfl
  have L4b : Hid ((((bodyOf x).drop 4).take 4).length = 4) := by show _ = _; rw [List.length_take, List.length_drop, HBL.out]; rfl
  have R4a : Hid (∀ w', Bk w' g8 vr → Rd w' (some ⟨g8, 1, none⟩) (bts ((bodyOf x).take 4))) := fun w' h => by
    have := h.rd_at 1 4
    rwa [HVB.out, List.drop_succ_cons, List.drop_zero, bts_take] at this
  have R4b : Hid (∀ w', Bk w' g8 vr → Rd w' (some ⟨g8, 5, none⟩) (bts (((bodyOf x).drop 4).take 4))) := fun w' h => by
    have := h.rd_at 5 4
    rwa [HVB.out, List.drop_succ_cons, bts_drop, bts_take] at this
  go_wp2_with fail
  clear c0' c9 hn6
  apply wp_region_rel 8 (Chg NoS) [(Veq _), (Veq _), (Veq _), (Veq _), (Veq _), (Veq _), (Veq _), (PtrAt NoS w7.heap.size zR)] [[], [0], [1], [], [3], [4], [2, 5], []] [48, 49, 50, 51, 52, 53, 54, 9] (by kernel_rfl) (by kernel_rfl) rfl rfl rfl Chg.refl (fun _ _ _ => Chg.trans) ⟨Veq.lasts, Veq.lasts, Veq.lasts, Veq.lasts, Veq.lasts, Veq.lasts, Veq.lasts, PtrAt.lasts, trivial⟩ ?aops ?afin
  case aops =>
    refine ⟨?ao0, ?ao1, ?ao2, ?ao3, ?ao4, ?ao5, ?ao6, ?ao7, trivial⟩
    case ao0 =>
      intro a wx hE hin
      have i8 : a.eval (.tmp 8) = .pointer (some ⟨g8, 0, none⟩) := hin 8 rfl
      clear hin
      have hcst : ∀ v, a.eval (.const v) = v := fun _ => rfl
      have hfnc : ∀ f, a.eval (.func f) = .func (.func f) #[] #[] := fun _ => rfl
      refine want_none rfl ?_
      unfold Oper.wp
      generalize a.eval = ρ at *
      go_simp
      try go_bits
      first | exact rel_val (Chg.refl _) | (go_simp; exact rel_val (Chg.refl _))
    case ao1 =>
      rintro a wx hE hin (h0 : a.eval (.tmp 48) = _)
      clear hin
      have hcst : ∀ v, a.eval (.const v) = v := fun _ => rfl
      have hfnc : ∀ f, a.eval (.func f) = .func (.func f) #[] #[] := fun _ => rfl
      refine want_none rfl ?_
      unfold Oper.wp
      generalize a.eval = ρ at *
      go_simp
      try go_bits
      first | exact rel_val (Chg.refl _) | (go_simp; exact rel_val (Chg.refl _))
    case ao2 =>
      rintro a wx hE hin (h1 : a.eval (.tmp 49) = _)
      clear hin
      have hcst : ∀ v, a.eval (.const v) = v := fun _ => rfl
      have hfnc : ∀ f, a.eval (.func f) = .func (.func f) #[] #[] := fun _ => rfl
      refine want_none rfl ?_
      unfold Oper.wp
      generalize a.eval = ρ at *
      go_simp
      refine (walNumber_calls ((bodyOf x).take 4) (some ⟨g8, 1, none⟩) 29 wx L4a.out (R4a.out wx (M7.out.drew.chg hE id))).mono ?_
      rintro e w' ⟨rfl, hb⟩
      exact rel_val (.of_below hb)
    case ao3 =>
      intro a wx hE hin
      have i8 : a.eval (.tmp 8) = .pointer (some ⟨g8, 0, none⟩) := hin 8 rfl
      clear hin
      have hcst : ∀ v, a.eval (.const v) = v := fun _ => rfl
      have hfnc : ∀ f, a.eval (.func f) = .func (.func f) #[] #[] := fun _ => rfl
      refine want_none rfl ?_
      unfold Oper.wp
      generalize a.eval = ρ at *
      go_simp
      try go_bits
      first | exact rel_val (Chg.refl _) | (go_simp; exact rel_val (Chg.refl _))
    case ao4 =>
      rintro a wx hE hin (h3 : a.eval (.tmp 51) = _)
      clear hin
      have hcst : ∀ v, a.eval (.const v) = v := fun _ => rfl
      have hfnc : ∀ f, a.eval (.func f) = .func (.func f) #[] #[] := fun _ => rfl
      refine want_none rfl ?_
      unfold Oper.wp
      generalize a.eval = ρ at *
      go_simp
      try go_bits
      first | exact rel_val (Chg.refl _) | (go_simp; exact rel_val (Chg.refl _))
    case ao5 =>
      rintro a wx hE hin (h4 : a.eval (.tmp 52) = _)
      clear hin
      have hcst : ∀ v, a.eval (.const v) = v := fun _ => rfl
      have hfnc : ∀ f, a.eval (.func f) = .func (.func f) #[] #[] := fun _ => rfl
      refine want_none rfl ?_
      unfold Oper.wp
      generalize a.eval = ρ at *
      go_simp
      refine (walNumber_calls (((bodyOf x).drop 4).take 4) (some ⟨g8, 5, none⟩) 25 wx L4b.out (R4b.out wx (M7.out.drew.chg hE id))).mono ?_
      rintro e w' ⟨rfl, hb⟩
      exact rel_val (.of_below hb)
    case ao6 =>
      rintro a wx hE hin (h2 : a.eval (.tmp 50) = _) (h5 : a.eval (.tmp 53) = _)
      clear hin
      have hcst : ∀ v, a.eval (.const v) = v := fun _ => rfl
      have hfnc : ∀ f, a.eval (.func f) = .func (.func f) #[] #[] := fun _ => rfl
      refine want_none rfl ?_
      exact wp_bld 25 [(0, .tmp 50), (1, .tmp 53)] rfl zR [(0, [.int .u32 (num ((bodyOf x).take 4) : Nat)]), (1, [.int .u32 (num (((bodyOf x).drop 4).take 4) : Nat)])] [.int .u32 (num ((bodyOf x).take 4) : Nat), .int .u32 (num (((bodyOf x).drop 4).take 4) : Nat), .slice none 0 0] (by kernel_rfl) (by kernel_rfl) ⟨by rw [h2]; rfl, ⟨1, rfl, by kernel_rfl, by decide⟩, by rw [h5]; rfl, ⟨1, rfl, by kernel_rfl, by decide⟩, trivial⟩ rfl (rel_val (Chg.refl _))
    case ao7 =>
      intro a wx hE hin
      clear hin
      have hcst : ∀ v, a.eval (.const v) = v := fun _ => rfl
      have hfnc : ∀ f, a.eval (.func f) = .func (.func f) #[] #[] := fun _ => rfl
      refine want_none rfl ?_
      exact wp_al 25 rfl zR (by kernel_rfl) ⟨_, rfl, ⟨wx.heap.size, rfl, hE.size, id, Bk.new _ _ _⟩, (Chg.refl _).alloc _⟩
  case afin =>
    intro wx hE
    rintro _ rfl _ rfl _ rfl _ rfl _ rfl _ rfl _ rfl _ ⟨gq, rfl, p9, n9, b9⟩
    simp only [FinOk, List.take_succ_cons, List.take_zero, List.take_nil, List.drop_succ_cons, List.drop_zero, List.drop_nil, Act.put, List.setIfInBounds_toArray, List.set_cons_succ, List.set_cons_zero]
    have N8 : Hid (Bk wx gq zR) := b9
    have HG9 : Hid (w7.heap.size ≤ gq) := p9
    have E8 : Hid (Below w7.heap.size w7 wx) := hE.undrew.below (Nat.le_refl _) (fun _ _ => id)
    clear hE b9 p9 n9
    rw [vu32_num L4a.out, vu32_num L4b.out]
    go_wp2_with (refine wpList_st rfl 25 (.tmp 9) (.tmp 54) rfl gq 0 3 zR [vu32 (eOf x), vu32 (qOf x), .slice none 0 0] rfl rfl N8.out (by kernel_rfl) rfl (by decide) (one_rec _ _ _ _ _) ?_)
    intro w9 hb hc
    rw [splice_whole zR [vu32 (eOf x), vu32 (qOf x), .slice none 0 0] rfl] at hb
    have N9 := Lib.hid hb
    have E9 : Hid (Below w7.heap.size w7 w9) := E8.out.trans (hc.below E8.out.size (fun k hk he => by have := HG9.out; omega))
    have M9 := Lib.hid (M7.out.below E9.out)
    have c9 : w9.cell? ⟨g8, 9, none⟩ = some (.int .u8 ((n : Nat) : Int)) := M9.out.cell (by
      rw [HVB.out, List.getElem?_cons_succ, ← HN.out]
      exact bts_get (by rw [HBL.out]; decide))
    have H0 : Hid (GetRel w7 gq x n (.int .i64 0) w9) := ⟨0, .slice none 0 0, Nat.zero_le _, rfl, N9.out, ⟨rfl, .inl ⟨rfl, rfl⟩⟩, E9.out, N9.out.lt⟩
    clear hb hc N8 E8
    go_wp2_with fail
    clear c9
    go_loopw [59] (fun v59 wr => GetRel w7 gq x n v59 wr) (fun v59 _ => n - (intOf v59).toNat)
    case atStart => exact H0.out
    case round =>
      obtain ⟨k, u, hk, rfl, hn9, ho, he7, hsz⟩ := hrel
      have NR := Lib.hid hn9
      have OR := Lib.hid ho
      have ER := Lib.hid he7
      have SR := Lib.hid hsz
      have MR := Lib.hid (M7.out.below he7)
      clear hn9 ho he7 hsz H0
      by_cases hlt : k < n
      · have hki : (k : Int) < (n : Int) := by omega
        have hk9 : (9 : Int) + (k : Int) < 29 := by have := HN5.out; omega
        have hk0 : (0 : Int) ≤ 9 + (k : Int) := by omega
        go_wp2_with fail
        have N9u : ¬ LvP u gq := fun h => by have := (OR.out.lt _ h).1; omega
        have N8u : ¬ LvP u g8 := fun h => by have := (OR.out.lt _ h).1; have := HG9.out; have := S7.out; omega
        have HNX : Hid (∀ q, wr.heap.size ≤ q → ¬ LvP u q) := fun q hq h => by have := (OR.out.lt _ h).2; omega
        obtain ⟨y, hy⟩ : ∃ y, ((bodyOf x).getD (9 + k) 0).toNat = y := ⟨_, rfl⟩
        have hy256 : y < 256 := by rw [← hy]; exact ((bodyOf x).getD (9 + k) 0).toNat_lt
        have HAT : Hid (atOf x k = (y : Int)) := by show _ = _; rw [atOf, hy]
        have HCK : Hid (vr[1 + (9 + k)]? = some (.int .u8 (y : Int))) := by
          show _ = _
          rw [← hy, HVB.out, Nat.add_comm 1, List.getElem?_cons_succ]
          exact bts_get (by rw [HBL.out]; have := HN5.out; omega)
        clear hy
        apply wp_region_relt 11 10 72 (OwnP (gq + 1) (k + 1) (putsK x zdat (k + 1)) gq u) (Chg (LvP u)) (Chg NoS) (Chg (LvP u)) [(Veq _), (Veq _), (Veq _), (Veq _), (Veq _), (Veq _), (Veq _), (Veq _), (Veq _), (RowAt (LvP u) 1 (putC ⟨atOf x k, zdat k⟩)), (fun _ _ => True)] [[], [0], [], [2], [], [3, 4], [5], [6], [7], [8], [1, 9]] [62, 63, 64, 65, 66, 67, 68, 69, 70, 71, 72] (by kernel_rfl) (by kernel_rfl) rfl rfl rfl (by kernel_rfl) Chg.refl (fun _ _ _ => Chg.trans) (fun _ _ _ => Chg.trans) (fun _ _ h => h.mono (fun _ hk => hk.elim)) (fun _ _ h => h) ⟨Veq.lasts, Veq.lasts, Veq.lasts, Veq.lasts, Veq.lasts, Veq.lasts, Veq.lasts, Veq.lasts, Veq.lasts, (fun w w' v h => RowAt.lasts w w' v (h.mono (fun _ hk => hk.elim))), (fun _ _ _ _ _ => trivial), trivial⟩ ⟨Veq.lasts, Veq.lasts, Veq.lasts, Veq.lasts, Veq.lasts, Veq.lasts, Veq.lasts, Veq.lasts, Veq.lasts, RowAt.lasts, (fun _ _ _ _ _ => trivial), trivial⟩ OwnP.lasts (fun F h w v => by cases h; trivial) ?bops ?bfin
        case bops =>
          refine ⟨?bo0, ?bo1, ?bo2, ?bo3, ?bo4, ?bo5, ?bo6, ?bo7, ?bo8, ?bo9, ?bo10, trivial⟩
          case bo0 =>
            rw [if_neg (by decide)]
            intro a wx hE hin
            have i9 : a.eval (.tmp 9) = .pointer (some ⟨gq, 0, none⟩) := hin 9 rfl
            clear hin
            have hcst : ∀ v, a.eval (.const v) = v := fun _ => rfl
            have hfnc : ∀ f, a.eval (.func f) = .func (.func f) #[] #[] := fun _ => rfl
            refine want_none rfl ?_
            unfold Oper.wp
            generalize a.eval = ρ at *
            go_simp
            try go_bits
            first | exact rel_val (Chg.refl _) | (go_simp; exact rel_val (Chg.refl _))
          case bo1 =>
            rw [if_neg (by decide)]
            rintro a wx hE hin (h0 : a.eval (.tmp 62) = _)
            clear hin
            have hcst : ∀ v, a.eval (.const v) = v := fun _ => rfl
            have hfnc : ∀ f, a.eval (.func f) = .func (.func f) #[] #[] := fun _ => rfl
            refine want_none rfl ?_
            unfold Oper.wp
            generalize a.eval = ρ at *
            have c := Bk.cell (j := 2) (NR.out.drew.chg hE N9u) rfl
            go_simp
            try go_bits
            first | exact rel_val (Chg.refl _) | (go_simp; exact rel_val (Chg.refl _))
          case bo2 =>
            rw [if_neg (by decide)]
            intro a wx hE hin
            have i10 : a.eval (.tmp 10) = .int .i64 k := hin 10 rfl
            clear hin
            have hcst : ∀ v, a.eval (.const v) = v := fun _ => rfl
            have hfnc : ∀ f, a.eval (.func f) = .func (.func f) #[] #[] := fun _ => rfl
            refine want_none rfl ?_
            unfold Oper.wp
            generalize a.eval = ρ at *
            go_simp
            try go_bits
            first | exact rel_val (Chg.refl _) | (go_simp; exact rel_val (Chg.refl _))
          case bo3 =>
            rw [if_neg (by decide)]
            rintro a wx hE hin (h2 : a.eval (.tmp 64) = _)
            clear hin
            have hcst : ∀ v, a.eval (.const v) = v := fun _ => rfl
            have hfnc : ∀ f, a.eval (.func f) = .func (.func f) #[] #[] := fun _ => rfl
            refine want_none rfl ?_
            unfold Oper.wp
            generalize a.eval = ρ at *
            go_simp
            try go_bits
            first | exact rel_val (Chg.refl _) | (go_simp; exact rel_val (Chg.refl _))
          case bo4 =>
            rw [if_neg (by decide)]
            intro a wx hE hin
            have i8 : a.eval (.tmp 8) = .pointer (some ⟨g8, 0, none⟩) := hin 8 rfl
            clear hin
            have hcst : ∀ v, a.eval (.const v) = v := fun _ => rfl
            have hfnc : ∀ f, a.eval (.func f) = .func (.func f) #[] #[] := fun _ => rfl
            refine want_none rfl ?_
            unfold Oper.wp
            generalize a.eval = ρ at *
            go_simp
            try go_bits
            first | exact rel_val (Chg.refl _) | (go_simp; exact rel_val (Chg.refl _))
          case bo5 =>
            rw [if_neg (by decide)]
            rintro a wx hE hin (h3 : a.eval (.tmp 65) = _) (h4 : a.eval (.tmp 66) = _)
            clear hin
            have hcst : ∀ v, a.eval (.const v) = v := fun _ => rfl
            have hfnc : ∀ f, a.eval (.func f) = .func (.func f) #[] #[] := fun _ => rfl
            refine want_none rfl ?_
            unfold Oper.wp
            generalize a.eval = ρ at *
            go_simp
            try go_bits
            first | exact rel_val (Chg.refl _) | (go_simp; exact rel_val (Chg.refl _))
          case bo6 =>
            rw [if_neg (by decide)]
            rintro a wx hE hin (h5 : a.eval (.tmp 67) = _)
            clear hin
            have hcst : ∀ v, a.eval (.const v) = v := fun _ => rfl
            have hfnc : ∀ f, a.eval (.func f) = .func (.func f) #[] #[] := fun _ => rfl
            refine want_none rfl ?_
            unfold Oper.wp
            generalize a.eval = ρ at *
            have c := Bk.cell (MR.out.drew.chg hE N8u) HCK.out
            go_simp
            try go_bits
            first | exact rel_val (Chg.refl _) | (go_simp; exact rel_val (Chg.refl _))
          case bo7 =>
            rw [if_neg (by decide)]
            rintro a wx hE hin (h6 : a.eval (.tmp 68) = _)
            clear hin
            have hcst : ∀ v, a.eval (.const v) = v := fun _ => rfl
            have hfnc : ∀ f, a.eval (.func f) = .func (.func f) #[] #[] := fun _ => rfl
            refine want_none rfl ?_
            unfold Oper.wp
            generalize a.eval = ρ at *
            go_simp
            try go_bits
            first | exact rel_val (Chg.refl _) | (go_simp; exact rel_val (Chg.refl _))
          case bo8 =>
            rw [if_neg (by decide)]
            rintro a wx hE hin (h7 : a.eval (.tmp 69) = _)
            clear hin
            have hcst : ∀ v, a.eval (.const v) = v := fun _ => rfl
            have hfnc : ∀ f, a.eval (.func f) = .func (.func f) #[] #[] := fun _ => rfl
            refine want_none rfl ?_
            exact wp_bld 54 [(0, .tmp 69)] rfl (.int .i64 0 :: bts (List.replicate 32 0)) [(0, [.int .i64 (atOf x k)])] (putC ⟨atOf x k, zdat k⟩) (by kernel_rfl) (by kernel_rfl) ⟨by rw [h7, HAT.out]; rfl, ⟨1, rfl, by kernel_rfl, by decide⟩, trivial⟩ rfl (rel_val (Chg.refl _))
          case bo9 =>
            rw [if_neg (by decide)]
            rintro a wx hE hin (h8 : a.eval (.tmp 70) = _)
            clear hin
            have hcst : ∀ v, a.eval (.const v) = v := fun _ => rfl
            have hfnc : ∀ f, a.eval (.func f) = .func (.func f) #[] #[] := fun _ => rfl
            refine want_none rfl ?_
            exact wp_bs1 23 54 _ rfl zPut 33 (putC ⟨atOf x k, zdat k⟩) Try.underlying23 infoPut rfl (by decide) (by decide) (by rw [h8]; rfl) rfl ⟨_, rfl, ⟨wx.heap.size, rfl, HNX.out _ hE.size, _, _, heap_alloc_new wx _⟩, (Chg.refl _).alloc _⟩
          case bo10 =>
            rw [if_pos (by decide)]
            rintro a wx hE hin (h1 : a.eval (.tmp 63) = _) ⟨g9s, h9, s9, t9, f9, c9⟩
            clear hin
            have hcst : ∀ v, a.eval (.const v) = v := fun _ => rfl
            have hfnc : ∀ f, a.eval (.func f) = .func (.func f) #[] #[] := fun _ => rfl
            refine step_append_rd _ _ 23 rfl (gq + 1) 54 zPut 33 40 Try.underlying23 infoPut3 rfl (by decide) (by decide) u k ((putsK x zdat k).flatMap putC) h1 (own_chg (own_drew OR.out) hE (fun _ _ => id)) (some ⟨g9s, 0, none⟩) 1 1 (putC ⟨atOf x k, zdat k⟩) h9 rfl (Rd.row (S := NoS) c9) (one_put _) (by have := HN5.out; omega) (Nat.le_trans SR.out hE.size) ?_
            intro v1 w1 ho1 hg1 hat1
            refine ⟨v1, rfl, ?_, ⟨hg1.os, hg1.tape, hg1.output, hg1.size, fun j hj hne => hg1.block j hj (fun he => hne he.symm)⟩⟩
            rw [if_pos rfl]
            refine ⟨?_, hat1.imp id (fun h => ⟨_, h, by have := SR.out; have : wr.heap.size ≤ wx.heap.size := hE.size; omega⟩)⟩
            rw [putsK_succ, flat_snoc]
            exact ho1
        case bfin =>
          intro wx hE
          rintro _ rfl u rfl _ rfl _ rfl _ rfl _ rfl _ rfl _ rfl _ rfl _ ⟨g9, rfl, s9, t9, f9, c9⟩ vsp _ hsp
          simp only [FinOk, List.take_succ_cons, List.take_zero, List.take_nil, List.drop_succ_cons, List.drop_zero, List.drop_nil, Act.put, List.setIfInBounds_toArray, List.set_cons_succ, List.set_cons_zero]
          simp only [Act.put, List.setIfInBounds_toArray, List.set_cons_succ, List.set_cons_zero] at hsp
          have hsp' : OwnP (gq + 1) (k + 1) (putsK x zdat (k + 1)) gq u wx vsp := hsp
          clear hsp
          obtain ⟨ho3, hat3⟩ := hsp'
          obtain ⟨A2, c2, rfl, _, _, _⟩ := own_rd ho3
          have NX : Hid (Bk wx gq [vu32 (eOf x), vu32 (qOf x), u]) := NR.out.drew.chg hE N9u
          have OX := Lib.hid ho3
          have EX : Hid (Below w7.heap.size w7 wx) := ER.out.trans (hE.undrew.below ER.out.size (fun j hj he => by have := (OR.out.lt j he).1; have := HG9.out; omega))
          have SX : Hid (gq + 1 ≤ wx.heap.size) := Nat.le_trans SR.out hE.size
          clear ho3 hat3 hE c9
          go_wp2_with (refine wpList_st rfl 23 (.tmp 73) (.tmp 72) rfl gq 2 1 [vu32 (eOf x), vu32 (qOf x), u] [.slice A2 (k + 1) c2] rfl rfl NX.out (by kernel_rfl) rfl (by simp) (fun u hu => by obtain rfl := List.mem_singleton.1 hu; rfl) ?_)
          intro w4 hb4 hc4
          have hb5 : Bk w4 gq [vu32 (eOf x), vu32 (qOf x), .slice A2 (k + 1) c2] := hb4
          have OY : Hid (w4.ownsRow (gq + 1) 54 33 (.slice A2 (k + 1) c2) (k + 1) ((putsK x zdat (k + 1)).flatMap putC)) := own_chg OX.out hc4 (fun j hj he => by have := (OX.out.lt j hj).1; omega)
          have NY := Lib.hid hb5
          have EY : Hid (Below w7.heap.size w7 w4) := EX.out.trans (hc4.below EX.out.size (fun j hj he => by have := HG9.out; omega))
          have SY : Hid (gq + 1 ≤ w4.heap.size) := Nat.le_trans SX.out hc4.size
          clear hb4 hb5 hc4
          go_wp2_with fail
          go_roundw
          case rel => exact ⟨k + 1, .slice A2 (k + 1) c2, by omega, by go_num, NY.out, OY.out, EY.out, SY.out⟩
          case measure => simp [intOf]; omega
      · have hke : k = n := by omega
        subst hke
        have hki : ¬ ((k : Int) < (k : Int)) := by omega
        obtain ⟨A9, c9, rfl, rd9, hc9, hm9⟩ := own_rd OR.out
        have RD9 := Lib.hid rd9
        have HC9 := Lib.hid hc9
        have HM9 := Lib.hid hm9
        clear rd9 hc9 hm9
        go_wp2_with (refine wpList_ld rfl 25 _ rfl gq 0 3 [vu32 (eOf x), vu32 (qOf x), .slice A9 k c9] [vu32 (eOf x), vu32 (qOf x), .slice A9 k c9] rfl NR.out rfl (by kernel_rfl) (Nat.le_refl 3) rfl ?_)
        have HPO : Hid (PutsOk (putsK x zdat k)) := putsK_ok (fun _ => List.length_replicate)
        refine (header_calls (eOf x) (qOf x) (putsK x zdat k) A9 k c9 wr (putsK_length _ _ _) (by have := HN5.out; omega) RD9.out HPO.out putsK_at).mono ?_
        rintro en w10 ⟨rfl, hb⟩
        have E10 : Hid (Below w7.heap.size w7 w10) := ER.out.trans (hb.mono ER.out.size)
        have OA : Hid (w10.ownsRow (gq + 1) 54 33 (.slice A9 k c9) k ((putsK x zdat k).flatMap putC)) := own_chg OR.out (Chg.of_below (S := NoS) hb) (fun _ _ => id)
        have NA := Lib.hid (NR.out.below hb)
        clear hb
        obtain ⟨hs, hhs⟩ : ∃ hs, hdrS (eOf x) (qOf x) (putsK x zdat k) = hs := ⟨_, rfl⟩
        have HHS := Lib.hid hhs
        have HHL : Hid (hs.length = 32) := by show _ = _; rw [← hhs]; exact hdrS_length _ _ _ (by rw [putsK_length]; have := HN5.out; omega)
        obtain ⟨vh, hvh⟩ : ∃ vh, bts hs = vh := ⟨_, rfl⟩
        have HVH := Lib.hid hvh
        have HVHL : Hid (vh.length = 32) := by show _ = _; rw [← hvh, bts_length, HHL.out]
        have HVHO : Hid (∀ u ∈ vh, u.oneCell' = true) := by rw [← hvh]; exact one_bts _
        have HBK : Hid (hs = x ↔ restB x) := by
          show _ ↔ _
          have h := hdr_back (x := x) (D := zdat) HXL.out HER.out HM.out (by rw [HN.out]; exact HN5.out)
          rw [HN.out, HHS.out] at h
          exact h
        rw [hhs, hvh]
        clear hhs hvh
        go_wp2_with (refine wpList_al rfl 35 rfl (bts (List.replicate 32 0)) (by kernel_rfl) ?_)
        intro gh w11 hg hb hc hs11
        have HGH : Hid (gh = w10.heap.size) := hg
        have PB := Lib.hid hb
        have E11 : Hid (Below w7.heap.size w7 w11) := E10.out.trans (hc.below E10.out.size (fun _ _ => id))
        have OB := Lib.hid (own_chg OA.out hc (fun _ _ => id))
        have NB := Lib.hid (NA.out.chg hc id)
        clear hg hb hc hs11
        go_wp2_with (refine wpList_st rfl 35 (.tmp 11) (.tmp 78) rfl gh 0 32 (bts (List.replicate 32 0)) vh rfl rfl PB.out (by kernel_rfl) HVHL.out (by decide) HVHO.out ?_)
        intro w12 hb hc
        rw [splice_whole _ _ (by rw [HVHL.out]; rfl)] at hb
        have PC := Lib.hid hb
        have E12 : Hid (Below w7.heap.size w7 w12) := E11.out.trans (hc.below E11.out.size (fun j hj he => by have := HGH.out; have := E10.out.size; omega))
        have OC : Hid (w12.ownsRow (gq + 1) 54 33 (.slice A9 k c9) k ((putsK x zdat k).flatMap putC)) := own_chg OB.out hc (fun j hj he => by have h1 := (OA.out.lt _ hj).2; have := HGH.out; omega)
        have NC : Hid (Bk w12 gq [vu32 (eOf x), vu32 (qOf x), .slice A9 k c9]) := NB.out.chg hc (by have := NA.out.lt; have := HGH.out; omega)
        have LC : Hid (Bk w12 g6 vx) := L7.out.below E12.out
        have KC : Hid (Bk w12 w.heap.size zR) := K7.out.below E12.out
        have EC : Hid (Below w.heap.size w w12) := E7.out.trans (E12.out.mono E7.out.size)
        clear hb hc PB OB NB OA NA E11 E10
        by_cases hrest : restB x
        case neg =>
          have HF := NOF (fun h => hrest (formB_iff.1 h).2.2.2.1)
          have hne : ¬ hs = x := fun h => hrest (HBK.out.1 h)
          go_wp2_with (first
            | (refine wpList_ld rfl 35 (.tmp 11) rfl gh 0 32 vh (bts hs) rfl PC.out rfl (by kernel_rfl) (by rw [HVHL.out]; decide) (by rw [List.drop_zero, List.take_of_length_le (by rw [HVHL.out]; exact Nat.le_refl _), HVH.out]) ?_)
            | (refine wpList_ld rfl 35 (.tmp 6) rfl g6 0 32 vx (bts x) rfl LC.out rfl (by kernel_rfl) (by rw [HVL.out]; decide) (by rw [List.drop_zero, List.take_of_length_le (by rw [HVL.out]; exact Nat.le_refl _), HVX.out]) ?_)
            | (refine wpList_eq_bytes rfl true 35 _ (.tmp 80) (.tmp 81) rfl 5 32 (by kernel_rfl) Try.underlying5 (by kernel_rfl) (by kernel_rfl) hs x rfl rfl HHL.out HXL.out true (by rw [decide_eq_false hne]; rfl) ?_)
            | (refine wpList_bld rfl 25 [] rfl zR [] zR (by kernel_rfl) (by kernel_rfl) trivial rfl ?_)
            | (refine wpList_st rfl 25 (.tmp 4) (.tmp 89) rfl w.heap.size 0 3 zR zR rfl rfl KC.out (by kernel_rfl) rfl (by decide) one_zR ?_))
          intro wz hbz hcz
          rw [splice_whole zR zR rfl] at hbz
          have HEZ : Hid (Below w.heap.size w wz) := EC.out.trans (hcz.below EC.out.size (fun k hk he => by omega))
          have HBZ := Lib.hid hbz
          clear hbz hcz
          go_wp2_with fail
          (try simp only [Exit.inBlock, Exit.then])
          refine bodyPost_ret (res_cell_tmp rfl _ _ w.heap.size 3 zR rfl HBZ.out (by kernel_rfl) (by kernel_rfl) rfl) rfl ?_
          rw [HF.out]
          exact no_post HEZ.out _
        have HEQ : Hid (hs = x) := HBK.out.2 hrest
        have HRB := Lib.hid hrest
        clear hrest
        have d2 := NC.out.cell (j := 2) rfl
        go_wp2_with (first
          | (refine wpList_ld rfl 35 (.tmp 11) rfl gh 0 32 vh (bts hs) rfl PC.out rfl (by kernel_rfl) (by rw [HVHL.out]; decide) (by rw [List.drop_zero, List.take_of_length_le (by rw [HVHL.out]; exact Nat.le_refl _), HVH.out]) ?_)
          | (refine wpList_ld rfl 35 (.tmp 6) rfl g6 0 32 vx (bts x) rfl LC.out rfl (by kernel_rfl) (by rw [HVL.out]; decide) (by rw [List.drop_zero, List.take_of_length_le (by rw [HVL.out]; exact Nat.le_refl _), HVX.out]) ?_)
          | (refine wpList_eq_bytes rfl true 35 _ (.tmp 80) (.tmp 81) rfl 5 32 (by kernel_rfl) Try.underlying5 (by kernel_rfl) (by kernel_rfl) hs x rfl rfl HHL.out HXL.out false (by rw [decide_eq_true HEQ.out]; rfl) ?_))
        clear d2
        have RDC : Hid (Rd w12 A9 ((putsK x zdat k).flatMap putC)) := by
          obtain ⟨A', c', hv', hr', _, _⟩ := own_rd OC.out
          injection hv' with h1 _ _
          subst h1
          exact hr'
        refine (good_calls (putsK x zdat k) A9 k c9 w12 (putsK_length _ _ _) RDC.out HPO.out).mono ?_
        rintro en w13 ⟨rfl, hb⟩
        have ED : Hid (Below w7.heap.size w7 w13) := E12.out.trans (hb.mono E12.out.size)
        have KD := Lib.hid (KC.out.below hb)
        have ND := Lib.hid (NC.out.below hb)
        have OD : Hid (w13.ownsRow (gq + 1) 54 33 (.slice A9 k c9) k ((putsK x zdat k).flatMap putC)) := own_chg OC.out (Chg.of_below (S := NoS) hb) (fun _ _ => id)
        have EE : Hid (Below w.heap.size w w13) := E7.out.trans (ED.out.mono E7.out.size)
        clear hb RDC KC NC OC LC PC EC
        by_cases hgood : goodB (putsK x zdat k) = true
        case neg =>
          have HF := NOF (fun h => hgood (by have := (formB_iff.1 h).2.2.2.2; rwa [HN.out] at this))
          rw [Bool.eq_false_iff.2 hgood]
          go_wp2_with (first
            | (refine wpList_bld rfl 25 [] rfl zR [] zR (by kernel_rfl) (by kernel_rfl) trivial rfl ?_)
            | (refine wpList_st rfl 25 (.tmp 4) (.tmp 89) rfl w.heap.size 0 3 zR zR rfl rfl KD.out (by kernel_rfl) rfl (by decide) one_zR ?_))
          intro wz hbz hcz
          rw [splice_whole zR zR rfl] at hbz
          have HEZ : Hid (Below w.heap.size w wz) := EE.out.trans (hcz.below EE.out.size (fun k hk he => by omega))
          have HBZ := Lib.hid hbz
          clear hbz hcz
          go_wp2_with fail
          (try simp only [Exit.inBlock, Exit.then])
          refine bodyPost_ret (res_cell_tmp rfl _ _ w.heap.size 3 zR rfl HBZ.out (by kernel_rfl) (by kernel_rfl) rfl) rfl ?_
          rw [HF.out]
          exact no_post HEZ.out _
        have HF : Hid (s.walGet (f : Int) = (recOf x (fun i => s.readB ((f : Int) + 1 + (i : Nat))), 0)) := walGet_d HMAY.out HZ.out HX.out (formB_iff.2 ⟨HER.out, HM.out, by rw [HN.out]; exact HN5.out, HRB.out, by rw [HN.out]; exact hgood⟩)
        have HK1 : Hid (1 ≤ k) := by have := (goodB_at hgood).1; rw [putsK_length] at this; exact this
        rw [hgood]
        clear hgood
        obtain ⟨D, hD⟩ : ∃ D : Nat → List UInt8, (fun i : Nat => s.readB ((f : Int) + 1 + (i : Nat))) = D := ⟨_, rfl⟩
        have HDE : Hid (∀ i : Nat, s.readB ((f : Int) + 1 + (i : Nat)) = D i) := fun i => by rw [← hD]
        have HDL : Hid (∀ i, (D i).length = 32) := fun i => by rw [← HDE.out i]; exact HD32.out _
        rw [hD] at HF
        clear hD
        obtain ⟨gp, cp, rest, hv, hbp, hob⟩ := own_bkr OD.out HK1.out
        have HGP : Hid (gq + 1 ≤ gp) := (OD.out.lt _ hob).1
        injection hv with h1 _ h3
        subst h1 h3
        clear hob
        have BP : Hid (Bk w13 gp ((putsK x (datK D 0) k).flatMap putC ++ rest)) := by show Bk _ _ _; rw [datK_zero]; exact hbp
        have H1 : Hid (GetRel2 w7 gq gp x D k c9 rest (.int .i64 0) w13) := ⟨0, Nat.zero_le _, rfl, ND.out, BP.out, ED.out⟩
        have d2 := ND.out.cell (j := 2) rfl
        clear hbp
        go_wp2_with fail
        clear d2
        go_loopw [93] (fun v93 wr => GetRel2 w7 gq gp x D k c9 rest v93 wr) (fun v93 _ => k - (intOf v93).toNat)
        case atStart => exact H1.out
        case round =>
          obtain ⟨j, hj, rfl, hn9, hbp, he7⟩ := hrel
          have NS := Lib.hid hn9
          have BS := Lib.hid hbp
          have ES := Lib.hid he7
          have EA : Hid (Below w.heap.size w wr) := E7.out.trans (he7.mono E7.out.size)
          have KS := Lib.hid (K7.out.below he7)
          clear hn9 hbp he7 H1
          by_cases hlt : j < k
          · have hki : (j : Int) < (k : Int) := by omega
            go_wp2_with fail
            have N9p : ¬ gq = gp := by have := HGP.out; omega
            have FTP : ∀ q, footD g gs lv q → ¬ q = gp := fun q hq he => by have := DiskAt.lt HW.out q hq; have := HGP.out; have := HG9.out; have := K7.out.lt; omega
            have HRE : Hid (s.readE ((f : Int) + 1 + (j : Int)) = 0) := readE_next HMAY.out HZ.out (by have := HN5.out; omega)
            have HPK : Hid (PutsOk (putsK x (datK D j) k)) := putsK_ok (datK_len HDL.out j)
            have hsr := HS.out
            have h1024 := HSL.out
            have hn5' := HN5.out
            apply wp_region_relt 15 14 109 (BkF gp ((putsK x (datK D (j + 1)) k).flatMap putC ++ rest)) (Chg (· = gp)) (Chg NoS) (Chg (· = gp)) [(Veq _), (Veq _), (Veq _), (Veq _), (Veq _), (Veq _), (Veq _), (Veq _), (Veq _), (Veq _), (Veq _), (Veq _), (Veq _), (Veq _), (fun _ _ => True)] [[], [0], [], [], [], [4], [], [5, 6], [3, 7], [8], [9], [9], [1, 2], [12], [10, 13]] [97, 98, 99, 100, 101, 102, 103, 104, 105, 96, 106, 107, 108, 109] (by kernel_rfl) (by kernel_rfl) rfl rfl rfl (by kernel_rfl) Chg.refl (fun _ _ _ => Chg.trans) (fun _ _ _ => Chg.trans) (fun _ _ h => h.mono (fun _ hk => hk.elim)) (fun _ _ h => h) ⟨Veq.lasts, Veq.lasts, Veq.lasts, Veq.lasts, Veq.lasts, Veq.lasts, Veq.lasts, Veq.lasts, Veq.lasts, Veq.lasts, Veq.lasts, Veq.lasts, Veq.lasts, Veq.lasts, (fun _ _ _ _ _ => trivial), trivial⟩ ⟨Veq.lasts, Veq.lasts, Veq.lasts, Veq.lasts, Veq.lasts, Veq.lasts, Veq.lasts, Veq.lasts, Veq.lasts, Veq.lasts, Veq.lasts, Veq.lasts, Veq.lasts, Veq.lasts, (fun _ _ _ _ _ => trivial), trivial⟩ BkF.lasts (fun F h w v => by cases h; trivial) ?cops ?cfin
            case cops =>
              refine ⟨?co0, ?co1, ?co2, ?co3, ?co4, ?co5, ?co6, ?co7, ?co8, ?co9, ?co10, ?co11, ?co12, ?co13, ?co14, trivial⟩
              case co0 =>
                rw [if_neg (by decide)]
                intro a wx hE hin
                have i9 : a.eval (.tmp 9) = .pointer (some ⟨gq, 0, none⟩) := hin 9 rfl
                clear hin
                have hcst : ∀ v, a.eval (.const v) = v := fun _ => rfl
                have hfnc : ∀ f, a.eval (.func f) = .func (.func f) #[] #[] := fun _ => rfl
                refine want_none rfl ?_
                unfold Oper.wp
                generalize a.eval = ρ at *
                go_simp
                try go_bits
                first | exact rel_val (Chg.refl _) | (go_simp; exact rel_val (Chg.refl _))
              case co1 =>
                rw [if_neg (by decide)]
                rintro a wx hE hin (h0 : a.eval (.tmp 97) = _)
                clear hin
                have hcst : ∀ v, a.eval (.const v) = v := fun _ => rfl
                have hfnc : ∀ f, a.eval (.func f) = .func (.func f) #[] #[] := fun _ => rfl
                refine want_none rfl ?_
                unfold Oper.wp
                generalize a.eval = ρ at *
                have c := Bk.cell (j := 2) (NS.out.drew.chg hE N9p) rfl
                go_simp
                try go_bits
                first | exact rel_val (Chg.refl _) | (go_simp; exact rel_val (Chg.refl _))
              case co2 =>
                rw [if_neg (by decide)]
                intro a wx hE hin
                have i13 : a.eval (.tmp 13) = .int .i64 j := hin 13 rfl
                clear hin
                have hcst : ∀ v, a.eval (.const v) = v := fun _ => rfl
                have hfnc : ∀ f, a.eval (.func f) = .func (.func f) #[] #[] := fun _ => rfl
                refine want_none rfl ?_
                unfold Oper.wp
                generalize a.eval = ρ at *
                go_simp
                try go_bits
                first | exact rel_val (Chg.refl _) | (go_simp; exact rel_val (Chg.refl _))
              case co3 =>
                rw [if_neg (by decide)]
                intro a wx hE hin
                have i0 : a.eval (.tmp 0) = .pointer (some ⟨g, 0, none⟩) := hin 0 rfl
                clear hin
                have hcst : ∀ v, a.eval (.const v) = v := fun _ => rfl
                have hfnc : ∀ f, a.eval (.func f) = .func (.func f) #[] #[] := fun _ => rfl
                refine want_none rfl ?_
                unfold Oper.wp
                generalize a.eval = ρ at *
                go_simp
                try go_bits
                first | exact rel_val (Chg.refl _) | (go_simp; exact rel_val (Chg.refl _))
              case co4 =>
                rw [if_neg (by decide)]
                intro a wx hE hin
                have i1 : a.eval (.tmp 1) = .int .i64 (f : Int) := hin 1 rfl
                clear hin
                have hcst : ∀ v, a.eval (.const v) = v := fun _ => rfl
                have hfnc : ∀ f, a.eval (.func f) = .func (.func f) #[] #[] := fun _ => rfl
                refine want_none rfl ?_
                unfold Oper.wp
                generalize a.eval = ρ at *
                go_simp
                try go_bits
                first | exact rel_val (Chg.refl _) | (go_simp; exact rel_val (Chg.refl _))
              case co5 =>
                rw [if_neg (by decide)]
                rintro a wx hE hin (h4 : a.eval (.tmp 101) = _)
                clear hin
                have hcst : ∀ v, a.eval (.const v) = v := fun _ => rfl
                have hfnc : ∀ f, a.eval (.func f) = .func (.func f) #[] #[] := fun _ => rfl
                refine want_none rfl ?_
                unfold Oper.wp
                generalize a.eval = ρ at *
                go_simp
                try go_bits
                first | exact rel_val (Chg.refl _) | (go_simp; exact rel_val (Chg.refl _))
              case co6 =>
                rw [if_neg (by decide)]
                intro a wx hE hin
                have i13 : a.eval (.tmp 13) = .int .i64 j := hin 13 rfl
                clear hin
                have hcst : ∀ v, a.eval (.const v) = v := fun _ => rfl
                have hfnc : ∀ f, a.eval (.func f) = .func (.func f) #[] #[] := fun _ => rfl
                refine want_none rfl ?_
                unfold Oper.wp
                generalize a.eval = ρ at *
                go_simp
                try go_bits
                first | exact rel_val (Chg.refl _) | (go_simp; exact rel_val (Chg.refl _))
              case co7 =>
                rw [if_neg (by decide)]
                rintro a wx hE hin (h5 : a.eval (.tmp 102) = _) (h6 : a.eval (.tmp 103) = _)
                clear hin
                have hcst : ∀ v, a.eval (.const v) = v := fun _ => rfl
                have hfnc : ∀ f, a.eval (.func f) = .func (.func f) #[] #[] := fun _ => rfl
                refine want_none rfl ?_
                unfold Oper.wp
                generalize a.eval = ρ at *
                go_simp
                try go_bits
                first | exact rel_val (Chg.refl _) | (go_simp; exact rel_val (Chg.refl _))
              case co8 =>
                rw [if_neg (by decide)]
                rintro a wx hE hin (h3 : a.eval (.tmp 100) = _) (h7 : a.eval (.tmp 104) = _)
                clear hin
                have hcst : ∀ v, a.eval (.const v) = v := fun _ => rfl
                have hfnc : ∀ f, a.eval (.func f) = .func (.func f) #[] #[] := fun _ => rfl
                refine want_none rfl ?_
                unfold Oper.wp
                generalize a.eval = ρ at *
                go_simp
                refine (diskRead_at wx g gs lv s ((f : Int) + 1 + (j : Int)) (DiskAt.chg (DiskAt.drew (DiskAt.below HW.out EA.out)) hE FTP)).mono ?_
                rintro e w' ⟨rfl, hb⟩
                rw [HRE.out, HDE.out j]
                exact rel_val (.of_below hb)
              case co9 =>
                rw [if_neg (by decide)]
                rintro a wx hE hin (h8 : a.eval (.tmp 105) = _)
                clear hin
                have hcst : ∀ v, a.eval (.const v) = v := fun _ => rfl
                have hfnc : ∀ f, a.eval (.func f) = .func (.func f) #[] #[] := fun _ => rfl
                refine want_none rfl ?_
                unfold Oper.wp
                generalize a.eval = ρ at *
                go_simp
                try go_bits
                first | exact rel_val (Chg.refl _) | (go_simp; exact rel_val (Chg.refl _))
              case co10 =>
                rw [if_neg (by decide)]
                rintro a wx hE hin (h9 : a.eval (.tmp 96) = _)
                clear hin
                have hcst : ∀ v, a.eval (.const v) = v := fun _ => rfl
                have hfnc : ∀ f, a.eval (.func f) = .func (.func f) #[] #[] := fun _ => rfl
                refine want_none rfl ?_
                unfold Oper.wp
                generalize a.eval = ρ at *
                go_simp
                try go_bits
                first | exact rel_val (Chg.refl _) | (go_simp; exact rel_val (Chg.refl _))
              case co11 =>
                rw [if_neg (by decide)]
                rintro a wx hE hin (h9 : a.eval (.tmp 96) = _)
                clear hin
                have hcst : ∀ v, a.eval (.const v) = v := fun _ => rfl
                have hfnc : ∀ f, a.eval (.func f) = .func (.func f) #[] #[] := fun _ => rfl
                refine want_none rfl ?_
                unfold Oper.wp
                generalize a.eval = ρ at *
                go_simp
                try go_bits
                first | exact rel_val (Chg.refl _) | (go_simp; exact rel_val (Chg.refl _))
              case co12 =>
                rw [if_neg (by decide)]
                rintro a wx hE hin (h1 : a.eval (.tmp 98) = _) (h2 : a.eval (.tmp 99) = _)
                clear hin
                have hcst : ∀ v, a.eval (.const v) = v := fun _ => rfl
                have hfnc : ∀ f, a.eval (.func f) = .func (.func f) #[] #[] := fun _ => rfl
                refine want_none rfl ?_
                unfold Oper.wp
                generalize a.eval = ρ at *
                go_simp
                try go_bits
                first | exact rel_val (Chg.refl _) | (go_simp; exact rel_val (Chg.refl _))
              case co13 =>
                rw [if_neg (by decide)]
                rintro a wx hE hin (h12 : a.eval (.tmp 108) = _)
                clear hin
                have hcst : ∀ v, a.eval (.const v) = v := fun _ => rfl
                have hfnc : ∀ f, a.eval (.func f) = .func (.func f) #[] #[] := fun _ => rfl
                refine want_none rfl ?_
                unfold Oper.wp
                generalize a.eval = ρ at *
                go_simp
                try go_bits
                first | exact rel_val (Chg.refl _) | (go_simp; exact rel_val (Chg.refl _))
              case co14 =>
                rw [if_pos (by decide)]
                rintro a wx hE hin (h10 : a.eval (.tmp 106) = _) (h13 : a.eval (.tmp 109) = _)
                clear hin
                have hcst : ∀ v, a.eval (.const v) = v := fun _ => rfl
                have hfnc : ∀ f, a.eval (.func f) = .func (.func f) #[] #[] := fun _ => rfl
                refine wp_st 35 _ _ rfl gp (j * 33 + 1) ((putsK x (datK D j) k).flatMap putC ++ rest) (bts (D j)) (by rw [h13]) (by rw [h10]; rfl) (BS.out.drew.chg hE id) (by rw [bts_length, HDL.out]; kernel_rfl) (by rw [bts_length, HDL.out, List.length_append, puts_length HPK.out, putsK_length]; omega) (one_bts _) ?_
                intro w2 hb2 hc2
                rw [splice_put HPK.out (by rw [putsK_length]; exact hlt) (D j) (HDL.out j), putsK_set hlt] at hb2
                exact ⟨_, rfl, hb2, hc2⟩
            case cfin =>
              intro wx hE
              rintro _ rfl _ rfl _ rfl _ rfl _ rfl _ rfl _ rfl _ rfl _ rfl _ rfl _ rfl _ rfl _ rfl _ rfl _ hsp
              simp only [FinOk, List.take_succ_cons, List.take_zero, List.take_nil, List.drop_succ_cons, List.drop_zero, List.drop_nil, Act.put, List.setIfInBounds_toArray, List.set_cons_succ, List.set_cons_zero]
              have BX : Hid (Bk wx gp ((putsK x (datK D (j + 1)) k).flatMap putC ++ rest)) := hsp
              have NX : Hid (Bk wx gq [vu32 (eOf x), vu32 (qOf x), .slice (some ⟨gp, 0, none⟩) k c9]) := NS.out.drew.chg hE N9p
              have EX : Hid (Below w7.heap.size w7 wx) := ES.out.trans (hE.undrew.below ES.out.size (fun j hj he => by have := HGP.out; have := HG9.out; omega))
              clear hsp hE
              go_wp2_with fail
              go_roundw
              case rel => exact ⟨j + 1, by omega, by go_num, NX.out, BX.out, EX.out⟩
              case measure => simp [intOf]; omega
          · have hke : j = k := by omega
            subst hke
            have hki : ¬ ((j : Int) < (j : Int)) := by omega
            go_wp2_with (first
              | (refine wpList_ld rfl 25 _ rfl gq 0 3 [vu32 (eOf x), vu32 (qOf x), .slice (some ⟨gp, 0, none⟩) j c9] [vu32 (eOf x), vu32 (qOf x), .slice (some ⟨gp, 0, none⟩) j c9] rfl NS.out rfl (by kernel_rfl) (Nat.le_refl 3) rfl ?_)
              | (refine wpList_st rfl 25 (.tmp 4) (.tmp 115) rfl w.heap.size 0 3 zR [vu32 (eOf x), vu32 (qOf x), .slice (some ⟨gp, 0, none⟩) j c9] rfl rfl KS.out (by kernel_rfl) rfl (by decide) (one_rec _ _ _ _ _) ?_))
            intro wz hbz hcz
            rw [splice_whole zR [vu32 (eOf x), vu32 (qOf x), .slice (some ⟨gp, 0, none⟩) j c9] rfl] at hbz
            have HEZ : Hid (Below w.heap.size w wz) := EA.out.trans (hcz.below EA.out.size (fun k hk he => by omega))
            have HBZ := Lib.hid hbz
            have BZ : Hid (Bk wz gp ((putsK x (datK D j) j).flatMap putC ++ rest)) := BS.out.chg hcz (by have := HGP.out; have := HG9.out; have := K7.out.lt; omega)
            clear hbz hcz
            go_wp2_with fail
            (try simp only [Exit.inBlock, Exit.then])
            refine bodyPost_ret (res_cell_tmp rfl _ _ w.heap.size 3 _ rfl HBZ.out (by kernel_rfl) (by kernel_rfl) rfl) rfl ?_
            rw [HF.out]
            refine ⟨some ⟨gp, 0, none⟩, c9, ?_, ?_, ?_, HM9.out, HEZ.out⟩
            · show _ = Ending.returned (.tuple #[.agg #[vu32 (eOf x), vu32 (qOf x), .slice (some ⟨gp, 0, none⟩) (putsK x D (nOf x)).length c9], .int .i64 0])
              rw [putsK_length, HN.out]
              rfl
            · intro T w99 hc99 hT99
              show Rd w99 _ ((putsK x D (nOf x)).flatMap putC)
              have := (BZ.out.chg hc99 (fun hh => by have h1 := hT99 _ hh; have h2 := HGP.out; have h3 := HG9.out; have h4 := K7.out.lt; omega)).rd_at 0 ((putsK x (datK D j) j).flatMap putC).length
              rw [List.drop_zero, List.take_append_of_le_length (Nat.le_refl _), List.take_length, putsK_full] at this
              rw [HN.out]
              exact this
            · show (putsK x D (nOf x)).length ≤ _
              rw [putsK_length, HN.out]
              exact HC9.out

end Go.Proofs.Ytcmfkdfegfablaa


/- Small laws for walks of whole statements with disks. -/
namespace Go.Proofs.Ytcmfkdfegfablaa
open Go.RowKit
set_option linter.unusedVariables false
set_option linter.unusedSimpArgs false

theorem NewPost.bel {w w' : World} {n : Nat} {e : Ending} (h : NewPost w n e w') : Below w.heap.size w w' := by
  obtain ⟨_, _, _, _, _, _, _, h5⟩ := h
  exact h5
theorem DPost.chgF {wT : TypeId} {w w' : World} {g gs : Nat} {lv : Value} {s' : Dst} {r : Value} {e : Ending} (h : DPost wT w g gs lv s' r e w') : Chg (footD g gs lv) w w' := by
  obtain ⟨_, _, _, _, h3⟩ := h
  exact h3
theorem DSes.post2 {wT : TypeId} {w0 w w' : World} {g gs : Nat} {lv : Value} {s s' : Dst} (h : DSes wT w0 w g gs lv s) {r : Value} {e : Ending} (hp : DPost wT w g gs lv s' r e w') : e = .returned r ∧ ∃ lv', DSes wT w0 w' g gs lv' s' ∧ ∀ j, footD g gs lv' j → footD g gs lv j ∨ w.heap.size ≤ j := by
  obtain ⟨he, lv', h1, h2, h3⟩ := hp
  refine ⟨he, lv', ⟨h1, fun j hj => ?_, h.bel.trans (h3.below h.bel.size (fun k hk hf => by have := h.fr k hf; omega))⟩, h2⟩
  rcases h2 j hj with h4 | h4
  · exact h.fr j h4
  · exact Nat.le_trans h.bel.size h4
theorem DSes.new2 {wT : TypeId} {w0 w w' : World} {n : Nat} {e : Ending} (h2 : n ≤ 1024) (hb : Below w0.heap.size w0 w) (h : NewPost w n e w') : ∃ g gs, e = .returned (.tuple #[.pointer (some ⟨g, 0, none⟩), .int .i64 0]) ∧ DSes wT w0 w' g gs (.slice none 0 0) (Dst.new n) ∧ ∀ j, footD g gs (.slice none 0 0) j → w.heap.size ≤ j := by
  obtain ⟨g, gs, rfl, h3, h4, h5⟩ := h.at_ (wT := wT) h2
  exact ⟨g, gs, rfl, ⟨h3, fun j hj => Nat.le_trans hb.size (h4 j hj), hb.trans (h5.mono hb.size)⟩, h4⟩
theorem run_bs2' {P : Program} (w : World) (t elem : TypeId) (z : Value) (n : Nat) (v u : Value) (us ts : List Value) (hu : P.underlying t = some (.slice elem)) (hinfo : (P.info? elem).map (fun i => (i.zero, i.size)) = some (some z, n))
    (hz : z.cells.size = n) (hn : 0 < n) (hn2 : n ≤ 1000) (hx : v.cells.toList = us) (hl : us.length = n) (hy : u.cells.toList = ts) (hl2 : ts.length = n) :
    (Instr.buildSlice t 2 #[(0, v), (1, u)]).run P w = .ok (.slice (some ⟨w.heap.size, 0, none⟩) 2 2) (w.alloc (.cells (us ++ ts).toArray elem)) := by
  obtain ⟨i0, hi, hzz⟩ := Option.map_eq_some_iff.1 hinfo
  simp only [Prod.mk.injEq] at hzz
  obtain ⟨hz0, hz1⟩ := hzz
  have hbig : ¬ (2 * n > 2 ^ 24) := by omega
  have hne : ¬ (2 * n = 0) := by omega
  obtain ⟨zs, hzs⟩ : ∃ zs : List Value, zs.toArray = (Array.range (2 * n)).map (z.cells[· % z.cells.size]!) := ⟨_, Array.toArray_toList⟩
  have hzl : zs.length = 2 * n := by
    have := congrArg Array.size hzs
    simpa using this
  have hf : Instr.fill (fun i => some (i * n, n)) zs.toArray [(0, v), (1, u)] = some (us ++ ts).toArray := by
    rw [fill_step (place := fun i => some (i * n, n)) (off := 0) hx (by simp [hl]) (by omega), fill_step (place := fun i => some (i * n, n)) (off := n) hy (by simp [hl2]) (by rw [length_splice _ _ _ (by omega)]; omega), Instr.fill]
    congr 2
    simp only [splice, List.take_zero, List.nil_append, Nat.zero_add]
    rw [List.take_append_of_le_length (by omega), List.take_of_length_le (by omega), List.drop_append, List.drop_eq_nil_of_le (show us.length ≤ n + ts.length by omega), List.nil_append, List.drop_drop, List.drop_eq_nil_of_le (by omega), List.append_nil]
  rw [hzs] at hf
  simp only [Instr.buildSlice, Sem.run_bind, run_underlying hu, Result.andThen_ok, sizeOf, typeInfo, run_program, hi, Sem.run_pure, hz1, if_neg hbig, if_neg hne, zeroValue, hz0, hf]
  simp [newRow]
theorem wp_bs2 {P : Program} {o : Oper} {a : Act} {w : World} {K : Act → World → Prop} {Q : Exit → Act → World → Prop} (t elem : TypeId) (x y : Operand) (ho : o.op = .buildSlice t 2 #[(0, x), (1, y)]) (z : Value) (n : Nat) (us ts : List Value) (hu : P.underlying t = some (.slice elem)) (hinfo : (P.info? elem).map (fun i => (i.zero, i.size)) = some (some z, n))
    (hz : z.cells.size = n) (hn : 0 < n) (hn2 : n ≤ 1000) (hx : (a.eval x).cells.toList = us) (hl : us.length = n) (hy : (a.eval y).cells.toList = ts) (hl2 : ts.length = n)
    (h : K (a.put o.dst (.slice (some ⟨w.heap.size, 0, none⟩) 2 2)) (w.alloc (.cells (us ++ ts).toArray elem))) : o.wp P a w K Q := by
  unfold Oper.wp execOp
  simp only [ho, Sem.run_bind, List.map_toArray, List.map_cons, List.map_nil, run_bs2' w t elem z n _ _ us ts hu hinfo hz hn hn2 hx hl hy hl2, Result.andThen_ok]
  exact h
theorem wpList_bs2 {P : Program} {o : Oper} {a : Act} {w : World} {Q : Exit → Act → World → Prop} {ops : Array Oper} {rest : List Oper} (hw : Region.wanted o (yielded ops a.tmps) = true) (t elem : TypeId) (x y : Operand) (ho : o.op = .buildSlice t 2 #[(0, x), (1, y)]) (z : Value) (n : Nat) (us ts : List Value) (hu : P.underlying t = some (.slice elem)) (hinfo : (P.info? elem).map (fun i => (i.zero, i.size)) = some (some z, n))
    (hz : z.cells.size = n) (hn : 0 < n) (hn2 : n ≤ 1000) (hx : (a.eval x).cells.toList = us) (hl : us.length = n) (hy : (a.eval y).cells.toList = ts) (hl2 : ts.length = n)
    (h : ∀ g w', g = w.heap.size → Bk w' g (us ++ ts) → Chg NoS w w' → wpList P ops Q rest (a.put o.dst (.slice (some ⟨g, 0, none⟩) 2 2)) w') : wpList P ops Q (o :: rest) a w :=
  wpl hw fun K hK => wp_bs2 t elem x y ho z n us ts hu hinfo hz hn hn2 hx hl hy hl2 (hK _ _ (h _ _ rfl (Bk.new w (us ++ ts) elem) ((Chg.refl w).alloc _)))
end Go.Proofs.Ytcmfkdfegfablaa


/- A node: Label, Block, later, SetLabel. -/
namespace Go.Proofs.Ytcmfkdfegfablaa
open Go.RowKit
set_option linter.unusedVariables false
set_option linter.unusedSimpArgs false

def NdC (g : Nat) (L : Lab) : List Value := .pointer (some ⟨g, 0, none⟩) :: labC L
theorem one_NdC (g : Nat) (L : Lab) : ∀ u ∈ NdC g L, u.oneCell' = true := by
  intro u hu
  rcases List.mem_cons.1 hu with rfl | hu
  · rfl
  · exact one_lab L u hu
/-- What an operation of a node leaves. -/
def NPost (w : World) (g gs : Nat) (lv : Value) (h : Nat) (t : Dst) (L : Lab) (r : Value) (e : Ending) (w' : World) : Prop :=
  e = .returned r ∧ ∃ lv', DAt 92 w' g gs lv' t ∧ Bk w' h (NdC g L) ∧ (∀ j, footD g gs lv' j → footD g gs lv j ∨ w.heap.size ≤ j) ∧ Chg (fun j => footD g gs lv j ∨ j = h) w w'
theorem DGo.nfin {w w' : World} {g gs h : Nat} {lv lv1 : Value} {t : Dst} {L : Lab} (hd : DGo 92 w w' g gs lv lv1 t) (hb : Bk w h (NdC g L)) (hf : ¬ footD g gs lv h) (r : Value) : NPost w g gs lv h t L r (.returned r) w' :=
  ⟨rfl, lv1, hd.at_, hb.chg hd.ch hf, hd.ft, hd.ch.mono fun _ hj => .inl hj⟩
/-! ### Label -/
set_option maxRecDepth 100000 in
set_option maxHeartbeats 2000000 in
theorem ndLabel_calls (w : World) (g h : Nat) (L : Lab) (hb : Bk w h (NdC g L)) : Calls Try.prog 15 #[.pointer (some ⟨h, 0, none⟩)] w fun e w' => e = .returned (.agg (labC L).toArray) ∧ Below w.heap.size w w' := by
  have HB := Lib.hid hb
  clear hb
  go_enter Try.func15, Try.ntmps15
  go_wp2_with (refine wpList_al rfl 40 rfl (labC zLab) (by kernel_rfl) ?_)
  intro g2 w1 hg hb hc hs
  subst hg
  have K1 := Lib.hid hb
  have HB1 := Lib.hid (HB.out.chg hc id)
  have E1 : Hid (Below w.heap.size w w1) := hc.below (Nat.le_refl _) (fun _ _ => id)
  clear hb hc hs
  go_wp2_with (first
    | (refine wpList_ld rfl 40 (.tmp 8) rfl h 1 5 (NdC g L) (labC L) rfl HB1.out (by kernel_rfl) (by kernel_rfl) (Nat.le_refl 6) rfl ?_)
    | (refine wpList_st rfl 40 (.tmp 2) (.tmp 9) rfl w.heap.size 0 5 (labC zLab) (labC L) rfl rfl K1.out (by kernel_rfl) rfl (by decide) (one_lab L) ?_))
  intro w2 hb hc
  rw [splice_whole (labC zLab) (labC L) rfl] at hb
  have K2 := Lib.hid hb
  have E2 : Hid (Below w.heap.size w w2) := E1.out.trans (hc.below E1.out.size (fun j hj he => by omega))
  clear hb hc K1
  go_wp2_with fail
  (try simp only [Exit.inBlock, Exit.then])
  refine bodyPost_ret (res_cell rfl _ _ w.heap.size 5 _ rfl K2.out (by kernel_rfl) (by kernel_rfl) rfl) rfl ?_
  exact ⟨rfl, E2.out⟩
set_option maxRecDepth 100000 in
set_option maxHeartbeats 2000000 in
theorem ndLabel_nil (w : World) : Calls Try.prog 15 #[.pointer none] w fun e w' => e = .returned (.agg (labC zLab).toArray) ∧ Below w.heap.size w w' := by
  go_enter Try.func15, Try.ntmps15
  go_wp2_with (refine wpList_al rfl 40 rfl (labC zLab) (by kernel_rfl) ?_)
  intro g2 w1 hg hb hc hs
  subst hg
  have K1 := Lib.hid hb
  have E1 : Hid (Below w.heap.size w w1) := hc.below (Nat.le_refl _) (fun _ _ => id)
  clear hb hc hs
  go_wp2_with (first
    | (refine wpList_bld rfl 40 [] rfl (labC zLab) [] (labC zLab) (by kernel_rfl) (by kernel_rfl) trivial rfl ?_)
    | (refine wpList_st rfl 40 (.tmp 2) (.tmp 5) rfl w.heap.size 0 5 (labC zLab) (labC zLab) rfl rfl K1.out (by kernel_rfl) rfl (by decide) (one_lab zLab) ?_))
  intro w2 hb hc
  rw [splice_whole (labC zLab) (labC zLab) rfl] at hb
  have K2 := Lib.hid hb
  have E2 : Hid (Below w.heap.size w w2) := E1.out.trans (hc.below E1.out.size (fun j hj he => by omega))
  clear hb hc K1
  go_wp2_with fail
  (try simp only [Exit.inBlock, Exit.then])
  refine bodyPost_ret (res_cell rfl _ _ w.heap.size 5 _ rfl K2.out (by kernel_rfl) (by kernel_rfl) rfl) rfl ?_
  exact ⟨rfl, E2.out⟩
/-! ### Block -/
def BlkPost (w : World) (b : List UInt8) (z : Int) (e : Ending) (w' : World) : Prop := e = .returned (.tuple #[.agg (bts b).toArray, .int .i64 z]) ∧ Below w.heap.size w w'
set_option maxRecDepth 100000 in
set_option maxHeartbeats 4000000 in
theorem ndBlock_out (w : World) (p : Value) (i : Int) (hp : p = .pointer none ∨ (∃ h, p = .pointer (some ⟨h, 0, none⟩)) ∧ (i < 0 ∨ 12 ≤ i)) : Calls Try.prog 14 #[p, .int .i64 i] w (BlkPost w (List.replicate 32 0) 1) := by
  rcases hp with rfl | ⟨⟨h, rfl⟩, hi | hi⟩
  case inr.inr => have n1 : ¬ i < 0 := by omega
                  have n2 : (12 : Int) ≤ i := hi
                  clear hi
                  go_enter Try.func14, Try.ntmps14
                  go_wp2_with (refine wpList_al rfl 35 rfl (bts (List.replicate 32 0)) (by kernel_rfl) ?_)
                  intro g4 w1 hg hb hc hs
                  subst hg
                  have K1 := Lib.hid hb
                  have E1 : Hid (Below w.heap.size w w1) := hc.below (Nat.le_refl _) (fun _ _ => id)
                  clear hb hc hs
                  go_wp2_with (first
                    | (refine wpList_bld rfl 35 [] rfl (bts (List.replicate 32 0)) [] (bts (List.replicate 32 0)) (by kernel_rfl) (by kernel_rfl) trivial rfl ?_)
                    | (refine wpList_st rfl 35 (.tmp 4) (.tmp 16) rfl w.heap.size 0 32 (bts (List.replicate 32 0)) (bts (List.replicate 32 0)) rfl rfl K1.out (by kernel_rfl) (by decide) (by decide) (one_bts _) ?_))
                  intro w2 hb hc
                  rw [splice_whole _ _ (by rfl)] at hb
                  have K2 := Lib.hid hb
                  have E2 : Hid (Below w.heap.size w w2) := E1.out.trans (hc.below E1.out.size (fun j hj he => by omega))
                  clear hb hc K1
                  go_wp2_with fail
                  (try simp only [Exit.inBlock, Exit.then])
                  refine bodyPost_ret (res_cell_tmp rfl _ _ w.heap.size 32 _ rfl K2.out (by kernel_rfl) (by kernel_rfl) rfl) rfl ?_
                  exact ⟨rfl, E2.out⟩
  all_goals
    go_enter Try.func14, Try.ntmps14
    go_wp2_with (refine wpList_al rfl 35 rfl (bts (List.replicate 32 0)) (by kernel_rfl) ?_)
    intro g4 w1 hg hb hc hs
    subst hg
    have K1 := Lib.hid hb
    have E1 : Hid (Below w.heap.size w w1) := hc.below (Nat.le_refl _) (fun _ _ => id)
    clear hb hc hs
    go_wp2_with (first
      | (refine wpList_bld rfl 35 [] rfl (bts (List.replicate 32 0)) [] (bts (List.replicate 32 0)) (by kernel_rfl) (by kernel_rfl) trivial rfl ?_)
      | (refine wpList_st rfl 35 (.tmp 4) (.tmp 16) rfl w.heap.size 0 32 (bts (List.replicate 32 0)) (bts (List.replicate 32 0)) rfl rfl K1.out (by kernel_rfl) (by decide) (by decide) (one_bts _) ?_))
    intro w2 hb hc
    rw [splice_whole _ _ (by rfl)] at hb
    have K2 := Lib.hid hb
    have E2 : Hid (Below w.heap.size w w2) := E1.out.trans (hc.below E1.out.size (fun j hj he => by omega))
    clear hb hc K1
    go_wp2_with fail
    (try simp only [Exit.inBlock, Exit.then])
    refine bodyPost_ret (res_cell_tmp rfl _ _ w.heap.size 32 _ rfl K2.out (by kernel_rfl) (by kernel_rfl) rfl) rfl ?_
    exact ⟨rfl, E2.out⟩
set_option maxRecDepth 100000 in
set_option maxHeartbeats 4000000 in
theorem ndBlock_calls (w : World) (g gs : Nat) (lv : Value) (h : Nat) (t : Dst) (L : Lab) (i : Int) (hd : DAt 92 w g gs lv t) (hb : Bk w h (NdC g L)) (h0 : 0 ≤ i) (h12 : i < 12) : Calls Try.prog 14 #[.pointer (some ⟨h, 0, none⟩), .int .i64 i] w (BlkPost w (t.readB (7 + i)) (t.readE (7 + i))) := by
  have n1 : ¬ i < 0 := by omega
  have n2 : ¬ (12 : Int) ≤ i := by omega
  have n3 : -9223372036854775808 ≤ 7 + i := by omega
  have n4 : 7 + i ≤ 9223372036854775807 := by omega
  have HB := Lib.hid hb
  have HD := Lib.hid hd
  clear hb hd h0 h12
  go_enter Try.func14, Try.ntmps14
  go_wp2_with (refine wpList_al rfl 35 rfl (bts (List.replicate 32 0)) (by kernel_rfl) ?_)
  intro g4 w1 hg hb hc hs
  subst hg
  have K1 := Lib.hid hb
  have E1 : Hid (Below w.heap.size w w1) := hc.below (Nat.le_refl _) (fun _ _ => id)
  have c0 : w1.cell? ⟨h, 0, none⟩ = some (.pointer (some ⟨g, 0, none⟩)) := (HB.out.chg hc id).cell rfl
  have HD1 : Hid (DAt 92 w1 g gs lv t) := DiskAt.below HD.out E1.out
  clear hb hc hs
  go_wp2_with fail
  clear c0
  refine (diskRead_at w1 g gs lv t (7 + i) HD1.out).mono ?_
  rintro en w2 ⟨rfl, hb⟩
  have K2 := Lib.hid (K1.out.below hb)
  have E2 : Hid (Below w.heap.size w w2) := E1.out.trans (hb.mono E1.out.size)
  have HL : Hid ((t.readB (7 + i)).length = 32) := DAt.readB_len HD.out (7 + i)
  obtain ⟨vb, hvb⟩ : ∃ vb, bts (t.readB (7 + i)) = vb := ⟨_, rfl⟩
  have HVB := Lib.hid hvb
  have HVL : Hid (vb.length = 32) := by show _ = _; rw [← hvb, bts_length, HL.out]
  have HVO : Hid (∀ u ∈ vb, u.oneCell' = true) := by rw [← hvb]; exact one_bts _
  rw [hvb]
  clear hb hvb K1
  go_wp2_with (refine wpList_st rfl 35 (.tmp 4) (.tmp 24) rfl w.heap.size 0 32 (bts (List.replicate 32 0)) vb rfl rfl K2.out (by kernel_rfl) HVL.out (by decide) HVO.out ?_)
  intro w3 hb hc
  rw [splice_whole _ _ (by rw [HVL.out]; rfl)] at hb
  have K3 := Lib.hid hb
  have E3 : Hid (Below w.heap.size w w3) := E2.out.trans (hc.below E2.out.size (fun j hj he => by omega))
  clear hb hc K2
  go_wp2_with fail
  (try simp only [Exit.inBlock, Exit.then])
  refine bodyPost_ret (res_cell_tmp rfl _ _ w.heap.size 32 _ rfl K3.out (by kernel_rfl) (by kernel_rfl) HVL.out) rfl ?_
  exact ⟨by rw [← HVB.out]; rfl, E3.out⟩
/-! ### later -/
set_option maxRecDepth 100000 in
set_option maxHeartbeats 2000000 in
theorem ndLater_calls (w : World) (g h : Nat) (L : Lab) (hb : Bk w h (NdC g L)) (e q : UInt32) (v : Value) : Calls Try.prog 33 #[.pointer (some ⟨h, 0, none⟩), .agg #[vu32 e, vu32 q, v]] w fun en w' => en = .returned (.bool (laterB e q L.e L.s)) ∧ Below w.heap.size w w' := by
  have HB := Lib.hid hb
  clear hb
  obtain ⟨bx, hbx⟩ : ∃ bx, [vu32 e, vu32 q, v] = bx := ⟨_, rfl⟩
  have D0 : Hid (bx[0]? = some (vu32 e)) := by rw [← hbx]; exact (rfl : _ = _)
  have D1 : Hid (bx[1]? = some (vu32 q)) := by rw [← hbx]; exact (rfl : _ = _)
  rw [show (#[vu32 e, vu32 q, v] : Array Value) = bx.toArray by rw [← hbx]]
  clear hbx
  go_enter Try.func33, Try.ntmps33
  go_wp2_with fail
  refine code_at fun w1 hw1 => ?_
  have X1 : Hid (Bk w1 w.heap.size bx) := by rw [← hw1]; exact Bk.new w bx _
  have E1 : Hid (Below w.heap.size w w1) := by rw [← hw1]; exact (Below.refl _ _).alloc (Nat.le_refl _) _
  have HB1 := Lib.hid (HB.out.below E1.out)
  clear hw1
  apply wp_region_rel 15 (Chg NoS) [(Veq _), (Veq _), (Veq _), (Veq _), (Veq _), (Veq _), (Veq _), (Veq _), (Veq _), (Veq _), (Veq _), (Veq _), (Veq _), (Veq _), (Veq _)] [[], [0], [], [2], [], [4], [5], [6], [7], [], [9], [10], [11], [12], [1, 3, 8, 13]] [5, 6, 7, 8, 9, 10, 11, 12, 13, 14, 15, 16, 17, 18, 19] (by kernel_rfl) (by kernel_rfl) rfl rfl rfl Chg.refl (fun _ _ _ => Chg.trans) ⟨Veq.lasts, Veq.lasts, Veq.lasts, Veq.lasts, Veq.lasts, Veq.lasts, Veq.lasts, Veq.lasts, Veq.lasts, Veq.lasts, Veq.lasts, Veq.lasts, Veq.lasts, Veq.lasts, Veq.lasts, trivial⟩ ?aops ?afin
  case aops =>
    refine ⟨?ao0, ?ao1, ?ao2, ?ao3, ?ao4, ?ao5, ?ao6, ?ao7, ?ao8, ?ao9, ?ao10, ?ao11, ?ao12, ?ao13, ?ao14, trivial⟩
    case ao0 =>
      intro a wx hE hin
      have i3 : a.eval (.tmp 3) = .pointer (some ⟨w.heap.size, 0, none⟩) := hin 3 rfl
      clear hin
      have hcst : ∀ v, a.eval (.const v) = v := fun _ => rfl
      have hfnc : ∀ f, a.eval (.func f) = .func (.func f) #[] #[] := fun _ => rfl
      refine want_none rfl ?_
      unfold Oper.wp
      generalize a.eval = ρ at *
      go_simp
      try go_bits
      first | exact rel_val (Chg.refl _) | (go_simp; exact rel_val (Chg.refl _))
    case ao1 =>
      rintro a wx hE hin (h0 : a.eval (.tmp 5) = _)
      clear hin
      have hcst : ∀ v, a.eval (.const v) = v := fun _ => rfl
      have hfnc : ∀ f, a.eval (.func f) = .func (.func f) #[] #[] := fun _ => rfl
      refine want_none rfl ?_
      unfold Oper.wp
      generalize a.eval = ρ at *
      have c := Bk.cell (X1.out.drew.chg hE id) D0.out
      go_simp
      try go_bits
      first | exact rel_val (Chg.refl _) | (go_simp; exact rel_val (Chg.refl _))
    case ao2 =>
      intro a wx hE hin
      have i3 : a.eval (.tmp 3) = .pointer (some ⟨w.heap.size, 0, none⟩) := hin 3 rfl
      clear hin
      have hcst : ∀ v, a.eval (.const v) = v := fun _ => rfl
      have hfnc : ∀ f, a.eval (.func f) = .func (.func f) #[] #[] := fun _ => rfl
      refine want_none rfl ?_
      unfold Oper.wp
      generalize a.eval = ρ at *
      go_simp
      try go_bits
      first | exact rel_val (Chg.refl _) | (go_simp; exact rel_val (Chg.refl _))
    case ao3 =>
      rintro a wx hE hin (h2 : a.eval (.tmp 7) = _)
      clear hin
      have hcst : ∀ v, a.eval (.const v) = v := fun _ => rfl
      have hfnc : ∀ f, a.eval (.func f) = .func (.func f) #[] #[] := fun _ => rfl
      refine want_none rfl ?_
      unfold Oper.wp
      generalize a.eval = ρ at *
      have c := Bk.cell (X1.out.drew.chg hE id) D1.out
      go_simp
      try go_bits
      first | exact rel_val (Chg.refl _) | (go_simp; exact rel_val (Chg.refl _))
    case ao4 =>
      intro a wx hE hin
      have i0 : a.eval (.tmp 0) = .pointer (some ⟨h, 0, none⟩) := hin 0 rfl
      clear hin
      have hcst : ∀ v, a.eval (.const v) = v := fun _ => rfl
      have hfnc : ∀ f, a.eval (.func f) = .func (.func f) #[] #[] := fun _ => rfl
      refine want_none rfl ?_
      unfold Oper.wp
      generalize a.eval = ρ at *
      go_simp
      try go_bits
      first | exact rel_val (Chg.refl _) | (go_simp; exact rel_val (Chg.refl _))
    case ao5 =>
      rintro a wx hE hin (h4 : a.eval (.tmp 9) = _)
      clear hin
      have hcst : ∀ v, a.eval (.const v) = v := fun _ => rfl
      have hfnc : ∀ f, a.eval (.func f) = .func (.func f) #[] #[] := fun _ => rfl
      refine want_none rfl ?_
      unfold Oper.wp
      generalize a.eval = ρ at *
      go_simp
      try go_bits
      first | exact rel_val (Chg.refl _) | (go_simp; exact rel_val (Chg.refl _))
    case ao6 =>
      rintro a wx hE hin (h5 : a.eval (.tmp 10) = _)
      clear hin
      have hcst : ∀ v, a.eval (.const v) = v := fun _ => rfl
      have hfnc : ∀ f, a.eval (.func f) = .func (.func f) #[] #[] := fun _ => rfl
      refine want_none rfl ?_
      unfold Oper.wp
      generalize a.eval = ρ at *
      go_simp
      try go_bits
      first | exact rel_val (Chg.refl _) | (go_simp; exact rel_val (Chg.refl _))
    case ao7 =>
      rintro a wx hE hin (h6 : a.eval (.tmp 11) = _)
      clear hin
      have hcst : ∀ v, a.eval (.const v) = v := fun _ => rfl
      have hfnc : ∀ f, a.eval (.func f) = .func (.func f) #[] #[] := fun _ => rfl
      refine want_none rfl ?_
      unfold Oper.wp
      generalize a.eval = ρ at *
      go_simp
      try go_bits
      first | exact rel_val (Chg.refl _) | (go_simp; exact rel_val (Chg.refl _))
    case ao8 =>
      rintro a wx hE hin (h7 : a.eval (.tmp 12) = _)
      clear hin
      have hcst : ∀ v, a.eval (.const v) = v := fun _ => rfl
      have hfnc : ∀ f, a.eval (.func f) = .func (.func f) #[] #[] := fun _ => rfl
      refine want_none rfl ?_
      unfold Oper.wp
      generalize a.eval = ρ at *
      have c := Bk.cell (j := 1) (HB1.out.drew.chg hE id) rfl
      go_simp
      try go_bits
      first | exact rel_val (Chg.refl _) | (go_simp; exact rel_val (Chg.refl _))
    case ao9 =>
      intro a wx hE hin
      have i0 : a.eval (.tmp 0) = .pointer (some ⟨h, 0, none⟩) := hin 0 rfl
      clear hin
      have hcst : ∀ v, a.eval (.const v) = v := fun _ => rfl
      have hfnc : ∀ f, a.eval (.func f) = .func (.func f) #[] #[] := fun _ => rfl
      refine want_none rfl ?_
      unfold Oper.wp
      generalize a.eval = ρ at *
      go_simp
      try go_bits
      first | exact rel_val (Chg.refl _) | (go_simp; exact rel_val (Chg.refl _))
    case ao10 =>
      rintro a wx hE hin (h9 : a.eval (.tmp 14) = _)
      clear hin
      have hcst : ∀ v, a.eval (.const v) = v := fun _ => rfl
      have hfnc : ∀ f, a.eval (.func f) = .func (.func f) #[] #[] := fun _ => rfl
      refine want_none rfl ?_
      unfold Oper.wp
      generalize a.eval = ρ at *
      go_simp
      try go_bits
      first | exact rel_val (Chg.refl _) | (go_simp; exact rel_val (Chg.refl _))
    case ao11 =>
      rintro a wx hE hin (h10 : a.eval (.tmp 15) = _)
      clear hin
      have hcst : ∀ v, a.eval (.const v) = v := fun _ => rfl
      have hfnc : ∀ f, a.eval (.func f) = .func (.func f) #[] #[] := fun _ => rfl
      refine want_none rfl ?_
      unfold Oper.wp
      generalize a.eval = ρ at *
      go_simp
      try go_bits
      first | exact rel_val (Chg.refl _) | (go_simp; exact rel_val (Chg.refl _))
    case ao12 =>
      rintro a wx hE hin (h11 : a.eval (.tmp 16) = _)
      clear hin
      have hcst : ∀ v, a.eval (.const v) = v := fun _ => rfl
      have hfnc : ∀ f, a.eval (.func f) = .func (.func f) #[] #[] := fun _ => rfl
      refine want_none rfl ?_
      unfold Oper.wp
      generalize a.eval = ρ at *
      go_simp
      try go_bits
      first | exact rel_val (Chg.refl _) | (go_simp; exact rel_val (Chg.refl _))
    case ao13 =>
      rintro a wx hE hin (h12 : a.eval (.tmp 17) = _)
      clear hin
      have hcst : ∀ v, a.eval (.const v) = v := fun _ => rfl
      have hfnc : ∀ f, a.eval (.func f) = .func (.func f) #[] #[] := fun _ => rfl
      refine want_none rfl ?_
      unfold Oper.wp
      generalize a.eval = ρ at *
      have c := Bk.cell (j := 2) (HB1.out.drew.chg hE id) rfl
      go_simp
      try go_bits
      first | exact rel_val (Chg.refl _) | (go_simp; exact rel_val (Chg.refl _))
    case ao14 =>
      rintro a wx hE hin (h1 : a.eval (.tmp 6) = _) (h3 : a.eval (.tmp 8) = _) (h8 : a.eval (.tmp 13) = _) (h13 : a.eval (.tmp 18) = _)
      clear hin
      have hcst : ∀ v, a.eval (.const v) = v := fun _ => rfl
      have hfnc : ∀ f, a.eval (.func f) = .func (.func f) #[] #[] := fun _ => rfl
      refine want_none rfl ?_
      unfold Oper.wp
      generalize a.eval = ρ at *
      go_simp
      go_simp
      refine (later_calls e q L.e L.s wx).mono ?_
      rintro en w' ⟨rfl, rfl⟩
      exact rel_val (Chg.refl _)
  case afin =>
    intro wx hE
    rintro _ rfl _ rfl _ rfl _ rfl _ rfl _ rfl _ rfl _ rfl _ rfl _ rfl _ rfl _ rfl _ rfl _ rfl _ rfl
    simp only [FinOk, List.take_succ_cons, List.take_zero, List.take_nil, List.drop_succ_cons, List.drop_zero, List.drop_nil, Act.put, List.setIfInBounds_toArray, List.set_cons_succ, List.set_cons_zero]
    have EX : Hid (Below w.heap.size w wx) := E1.out.trans (hE.undrew.below E1.out.size (fun _ _ => id))
    clear hE
    go_wp2_with fail
    (try simp only [Exit.inBlock, Exit.then])
    go_ret
    exact ⟨rfl, EX.out⟩
end Go.Proofs.Ytcmfkdfegfablaa


/- A node: SetLabel. -/
namespace Go.Proofs.Ytcmfkdfegfablaa
open Go.RowKit
set_option linter.unusedVariables false
set_option linter.unusedSimpArgs false

set_option maxRecDepth 100000 in
set_option maxHeartbeats 2000000 in
theorem ndSetLabel_nil (w : World) (l : Lab) : Calls Try.prog 16 #[.pointer none, .agg (labC l).toArray] w fun e w' => e = .returned (.int .i64 1) ∧ Below w.heap.size w w' := by
  obtain ⟨bx, hbx⟩ : ∃ bx, labC l = bx := ⟨_, rfl⟩
  rw [hbx]
  clear hbx
  go_enter Try.func16, Try.ntmps16
  go_wp2_with fail
  (try simp only [Exit.inBlock, Exit.then])
  go_ret
  exact ⟨rfl, (Below.refl _ _).alloc (Nat.le_refl _) _⟩
set_option maxRecDepth 100000 in
set_option maxHeartbeats 8000000 in
theorem ndSetLabel_calls (w : World) (g gs : Nat) (lv : Value) (h : Nat) (s : Dst) (L l : Lab) (m : Nat) (hd : DAt 92 w g gs lv s) (hb : Bk w h (NdC g L)) (hf : ¬ footD g gs lv h) (hok : DOk (-1) m s) (hm : m ≤ 990) :
    Calls Try.prog 16 #[.pointer (some ⟨h, 0, none⟩), .agg (labC l).toArray] w (NPost w g gs lv h (s.setLab l).1 (labAfter L l (s.setLab l).2) (.int .i64 (s.setLab l).2)) := by
  have HW := Lib.hid (DGo.refl hd)
  have HB := Lib.hid hb
  have HFH := Lib.hid hf
  have HOK := Lib.hid hok
  have HHL : Hid (h < w.heap.size) := hb.lt
  clear hd hb hf hok
  obtain ⟨bx, hbx⟩ : ∃ bx, labC l = bx := ⟨_, rfl⟩
  have HBX := Lib.hid hbx
  have HBL : Hid (bx.length = 5) := by show _ = _; rw [← hbx]; rfl
  rw [hbx]
  clear hbx
  have HH : Hid (∀ w', Chg (footD g gs lv) w w' → Bk w' h (NdC g L)) := fun w' hc => HB.out.chg hc HFH.out
  go_enter Try.func16, Try.ntmps16
  go_wp2_with fail
  refine code_at fun w1 hw1 => ?_
  have X1 : Hid (Bk w1 w.heap.size bx) := by rw [← hw1]; exact Bk.new w bx _
  have G1 : Hid (DGo 92 w w1 g gs lv lv s) := by rw [← hw1]; exact HW.out.chgN ((Chg.refl _).alloc _)
  clear hw1
  have HX : Hid (∀ w', Chg (footD g gs lv) w1 w' → Bk w' w.heap.size bx) := fun w' hc => X1.out.chg hc (fun hj => by have := DiskAt.lt HW.out.at_ _ hj; omega)
  have HB1 := Lib.hid (HH.out w1 G1.out.ch)
  have G0 := Lib.hid (DGo.refl G1.out.at_)
  apply wp_region_rel 6 (Chg NoS) [(Veq _), (Veq _), (Veq _), (Veq _), (Veq (.agg bx.toArray)), (Veq _)] [[], [0], [1], [2], [], [4]] [9, 10, 11, 12, 13, 14] (by kernel_rfl) (by kernel_rfl) rfl rfl rfl Chg.refl (fun _ _ _ => Chg.trans) ⟨Veq.lasts, Veq.lasts, Veq.lasts, Veq.lasts, Veq.lasts, Veq.lasts, trivial⟩ ?aops ?afin
  case aops =>
    refine ⟨?ao0, ?ao1, ?ao2, ?ao3, ?ao4, ?ao5, trivial⟩
    case ao0 =>
      intro a wx hE hin
      have i0 : a.eval (.tmp 0) = .pointer (some ⟨h, 0, none⟩) := hin 0 rfl
      clear hin
      have hcst : ∀ v, a.eval (.const v) = v := fun _ => rfl
      have hfnc : ∀ f, a.eval (.func f) = .func (.func f) #[] #[] := fun _ => rfl
      refine want_none rfl ?_
      unfold Oper.wp
      generalize a.eval = ρ at *
      go_simp
      try go_bits
      first | exact rel_val (Chg.refl _) | (go_simp; exact rel_val (Chg.refl _))
    case ao1 =>
      rintro a wx hE hin (h0 : a.eval (.tmp 9) = _)
      clear hin
      have hcst : ∀ v, a.eval (.const v) = v := fun _ => rfl
      have hfnc : ∀ f, a.eval (.func f) = .func (.func f) #[] #[] := fun _ => rfl
      refine want_none rfl ?_
      unfold Oper.wp
      generalize a.eval = ρ at *
      go_simp
      try go_bits
      first | exact rel_val (Chg.refl _) | (go_simp; exact rel_val (Chg.refl _))
    case ao2 =>
      rintro a wx hE hin (h1 : a.eval (.tmp 10) = _)
      clear hin
      have hcst : ∀ v, a.eval (.const v) = v := fun _ => rfl
      have hfnc : ∀ f, a.eval (.func f) = .func (.func f) #[] #[] := fun _ => rfl
      refine want_none rfl ?_
      unfold Oper.wp
      generalize a.eval = ρ at *
      go_simp
      try go_bits
      first | exact rel_val (Chg.refl _) | (go_simp; exact rel_val (Chg.refl _))
    case ao3 =>
      rintro a wx hE hin (h2 : a.eval (.tmp 11) = _)
      clear hin
      have hcst : ∀ v, a.eval (.const v) = v := fun _ => rfl
      have hfnc : ∀ f, a.eval (.func f) = .func (.func f) #[] #[] := fun _ => rfl
      refine want_none rfl ?_
      unfold Oper.wp
      generalize a.eval = ρ at *
      have c := Bk.cell (j := 0) (HB1.out.drew.chg hE id) rfl
      go_simp
      try go_bits
      first | exact rel_val (Chg.refl _) | (go_simp; exact rel_val (Chg.refl _))
    case ao4 =>
      intro a wx hE hin
      have i3 : a.eval (.tmp 3) = .pointer (some ⟨w.heap.size, 0, none⟩) := hin 3 rfl
      clear hin
      have hcst : ∀ v, a.eval (.const v) = v := fun _ => rfl
      have hfnc : ∀ f, a.eval (.func f) = .func (.func f) #[] #[] := fun _ => rfl
      refine want_none rfl ?_
      exact wp_ld 40 _ rfl w.heap.size 0 5 bx bx i3 (X1.out.drew.chg hE id) (by kernel_rfl) (by kernel_rfl) (by rw [HBL.out]; decide) (by rw [List.drop_zero, List.take_of_length_le (by rw [HBL.out]; exact Nat.le_refl _)]) (rel_val (Chg.refl _))
    case ao5 =>
      rintro a wx hE hin (h4 : a.eval (.tmp 13) = _)
      clear hin
      have hcst : ∀ v, a.eval (.const v) = v := fun _ => rfl
      have hfnc : ∀ f, a.eval (.func f) = .func (.func f) #[] #[] := fun _ => rfl
      refine want_none rfl ?_
      unfold Oper.wp
      generalize a.eval = ρ at *
      go_simp
      go_simp
      rw [← HBX.out]
      refine (labEncode_calls l wx).mono ?_
      rintro en w' ⟨rfl, hb⟩
      exact rel_val (.of_below hb)
  case afin =>
    intro wx hE
    rintro _ rfl _ rfl _ rfl _ rfl _ rfl _ rfl
    simp only [FinOk, List.take_succ_cons, List.take_zero, List.take_nil, List.drop_succ_cons, List.drop_zero, List.drop_nil, Act.put, List.setIfInBounds_toArray, List.set_cons_succ, List.set_cons_zero]
    have G2 : Hid (DGo 92 w1 wx g gs lv lv s) := G0.out.chgN hE.undrew
    clear hE
    go_wp2_with fail
    refine (diskWrite_at wx g gs lv s 0 (labEnc l) G2.out.at_ (labEnc_length l) (by have := HOK.out.ll; omega) HOK.out.f1 HOK.out.f2).mono ?_
    intro en w3 hp
    obtain ⟨rfl, lv3, hgo⟩ := G2.out.post hp
    have G3 := Lib.hid hgo
    have K3 := Lib.hid (HOK.out.write (by decide) 0 (labEnc l))
    clear hp hgo
    by_cases he : s.writeE 0 = 0
    case neg =>
      have HF := Lib.hid (setLab_no (l := l) he)
      obtain ⟨z, hz⟩ : ∃ z, s.writeE 0 = z := ⟨_, rfl⟩
      have HZ := Lib.hid hz
      have HE := Lib.hid he
      rw [hz] at he ⊢
      clear hz
      go_wp2_with fail
      (try simp only [Exit.inBlock, Exit.then])
      go_ret
      rw [HF.out]
      simp only []
      rw [labAfter, if_neg HE.out, HZ.out]
      exact (G1.out.trans G3.out).nfin HB.out HFH.out _
    have HF := Lib.hid (setLab_go (l := l) he)
    rw [he]
    clear he
    have c0 : w3.cell? ⟨h, 0, none⟩ = some (.pointer (some ⟨g, 0, none⟩)) := (HH.out w3 (G1.out.trans G3.out).ch).cell rfl
    go_wp2_with fail
    clear c0
    refine (diskFlush_at w3 g gs lv3 _ G3.out.at_ K3.out.f1 K3.out.f2).mono ?_
    intro en w4 hp
    obtain ⟨rfl, lv4, hgo⟩ := G3.out.post hp
    have G4 := Lib.hid hgo
    have X4 := Lib.hid (HX.out w4 G4.out.ch)
    clear hp hgo
    by_cases he : (s.write 0 (labEnc l)).flushE = 0
    case neg =>
      obtain ⟨z, hz⟩ : ∃ z, (s.write 0 (labEnc l)).flushE = z := ⟨_, rfl⟩
      have HZ := Lib.hid hz
      rw [hz] at he ⊢
      have HE := Lib.hid he
      clear hz
      go_wp2_with fail
      (try simp only [Exit.inBlock, Exit.then])
      go_ret
      rw [HF.out]
      simp only []
      rw [HZ.out, labAfter, if_neg HE.out]
      exact (G1.out.trans G4.out).nfin HB.out HFH.out _
    rw [he]
    have HE := Lib.hid he
    clear he
    have HB4 := Lib.hid (HH.out w4 (G1.out.trans G4.out).ch)
    go_wp2_with (first
      | (refine wpList_ld rfl 40 (.tmp 3) rfl w.heap.size 0 5 bx bx rfl X4.out (by kernel_rfl) (by kernel_rfl) (by rw [HBL.out]; decide) (by rw [List.drop_zero, List.take_of_length_le (by rw [HBL.out]; exact Nat.le_refl _)]) ?_)
      | (refine wpList_st rfl 40 (.tmp 30) (.tmp 28) rfl h 1 5 (NdC g L) bx rfl rfl HB4.out (by kernel_rfl) HBL.out (Nat.le_refl 6) (by rw [← HBX.out]; exact one_lab l) ?_))
    intro w5 hb hc
    have HB5 : Hid (Bk w5 h (NdC g l)) := by rw [← HBX.out] at hb; exact hb
    have D5 : Hid (DAt 92 w5 g gs lv4 (s.write 0 (labEnc l)).flush) := DiskAt.chg G4.out.at_ hc (fun j hj he => by subst he; exact ((G1.out.trans G4.out).ft _ hj).elim HFH.out (fun h1 => by have := HHL.out; omega))
    have C5 : Hid (Chg (fun j => footD g gs lv j ∨ j = h) w w5) := ((G1.out.trans G4.out).ch.mono fun _ hj => .inl hj).trans (hc.mono fun _ hj => .inr hj)
    clear hb hc X4 HB4
    go_wp2_with fail
    (try simp only [Exit.inBlock, Exit.then])
    go_ret
    rw [HF.out]
    simp only []
    rw [HE.out, labAfter, if_pos rfl]
    exact ⟨rfl, lv4, D5.out, HB5.out, (G1.out.trans G4.out).ft, C5.out⟩
end Go.Proofs.Ytcmfkdfegfablaa


/- A node: carry. -/
namespace Go.Proofs.Ytcmfkdfegfablaa
open Go.RowKit
set_option linter.unusedVariables false
set_option linter.unusedSimpArgs false

theorem DGo.npost {w w1 w' : World} {g gs h : Nat} {lv lv1 : Value} {s t : Dst} {L : Lab} {r : Value} {e : Ending} (hd : DGo 92 w w1 g gs lv lv1 s) (hp : NPost w1 g gs lv1 h t L r e w') : NPost w g gs lv h t L r e w' := by
  obtain ⟨h1, lv', h2, h3, h4, h5⟩ := hp
  have hsz := hd.ch.size
  refine ⟨h1, lv', h2, h3, fun j hj => (h4 j hj).elim (hd.ft j) (fun hh => .inr (by omega)), (hd.ch.mono fun _ hj => .inl hj).then_ h5 (fun j hj hlt => ?_)⟩
  rcases hj with hj | hj
  · rcases hd.ft j hj with hh | hh
    · exact .inl hh
    · omega
  · exact .inr hj
theorem vu16_of (n : Nat) (h : n < 65536) : (.int .u16 (n : Nat) : Value) = vu16 (UInt16.ofNat n) := by
  rw [vu16, UInt16.toNat_ofNat_of_lt' (by show n < 65536; exact h)]
theorem u32_max (n q : UInt32) : Value.int .u32 (if (n.toNat : Int) < (((q.toNat : Int) + 1) % 4294967296) then (((q.toNat : Int) + 1) % 4294967296) else (n.toNat : Int)) = vu32 (nextU n q) := by
  have h1 : (((q.toNat : Int) + 1) % 4294967296) = ((q + 1).toNat : Int) := by rw [UInt32.toNat_add]; rfl
  rw [h1, nextU, vu32]
  by_cases h : n.toNat ≤ (q + 1).toNat
  · rw [if_pos h]
    congr 1
    split <;> omega
  · rw [if_neg h, if_neg (by omega)]
def CarRel (w1 : World) (g gs : Nat) (lv : Value) (s : Dst) (m : Nat) (ps : List PutV) (v14 : Value) (wr : World) : Prop := ∃ (k : Nat) (lv' : Value) (t : Dst) (u : World), u = wr ∧ k ≤ ps.length ∧ v14 = .int .i64 k ∧ DGo 92 w1 u g gs lv lv' t ∧ s.blks ps = t.blks (ps.drop k) ∧ DOk (-1) (m + k) t
set_option maxRecDepth 100000 in
set_option maxHeartbeats 8000000 in
theorem ndCarry_calls (w : World) (g gs : Nat) (lv : Value) (h : Nat) (s : Dst) (L : Lab) (m : Nat) (e q : UInt32) (ps : List PutV) (A : Option Addr) (n c : Nat) (dd : UInt16) (hd : DAt 92 w g gs lv s) (hb : Bk w h (NdC g L)) (hf : ¬ footD g gs lv h) (hok : DOk (-1) m s) (hm : m ≤ 900)
    (hl : ps.length = n) (h5 : n ≤ 50) (hkr : ∀ w', Chg (footD g gs lv) w w' → Rd w' A (ps.flatMap putC)) (ho : PutsOk ps) (ha : ∀ p ∈ ps, 0 ≤ p.at_ ∧ p.at_ < 256) :
    Calls Try.prog 34 #[.pointer (some ⟨h, 0, none⟩), .agg #[vu32 e, vu32 q, .slice A n c], vu16 dd] w (NPost w g gs lv h (s.carry ps (carryL L e q ps dd)).1 (labAfter L (carryL L e q ps dd) (s.carry ps (carryL L e q ps dd)).2) (.int .i64 (s.carry ps (carryL L e q ps dd)).2)) := by
  subst hl
  have HW := Lib.hid (DGo.refl hd)
  have HB := Lib.hid hb
  have HFH := Lib.hid hf
  have HOK := Lib.hid hok
  have HKR := Lib.hid hkr
  have HO := Lib.hid ho
  have HA := Lib.hid ha
  have HL5 := Lib.hid h5
  clear hd hb hf hok hkr ho ha
  obtain ⟨bx, hbx⟩ : ∃ bx, [vu32 e, vu32 q, .slice A ps.length c] = bx := ⟨_, rfl⟩
  have D0 : Hid (bx[0]? = some (vu32 e)) := by rw [← hbx]; exact (rfl : _ = _)
  have D1 : Hid (bx[1]? = some (vu32 q)) := by rw [← hbx]; exact (rfl : _ = _)
  have D2 : Hid (bx[2]? = some (.slice A ps.length c)) := by rw [← hbx]; exact (rfl : _ = _)
  rw [show (#[vu32 e, vu32 q, .slice A ps.length c] : Array Value) = bx.toArray by rw [← hbx]]
  clear hbx
  have HH : Hid (∀ w', Chg (footD g gs lv) w w' → Bk w' h (NdC g L)) := fun w' hc => HB.out.chg hc HFH.out
  go_enter Try.func34, Try.ntmps34
  have d2 := (Bk.new w bx 25).cell D2.out
  go_wp2_with fail
  refine code_at fun w1 hw1 => ?_
  have X1 : Hid (Bk w1 w.heap.size bx) := by rw [← hw1]; exact Bk.new w bx _
  have G1 : Hid (DGo 92 w w1 g gs lv lv s) := by rw [← hw1]; exact HW.out.chgN ((Chg.refl _).alloc _)
  clear hw1 d2
  have HX : Hid (∀ w', Chg (footD g gs lv) w1 w' → Bk w' w.heap.size bx) := fun w' hc => X1.out.chg hc (fun hj => by have := DiskAt.lt HW.out.at_ _ hj; omega)
  have H0 : Hid (CarRel w1 g gs lv s m ps (.int .i64 0) w1) := ⟨0, lv, s, _, rfl, Nat.zero_le _, rfl, .refl G1.out.at_, by simp, HOK.out⟩
  go_loopw [14] (fun v14 wr => CarRel w1 g gs lv s m ps v14 wr) (fun v14 _ => ps.length - (intOf v14).toNat)
  case atStart => exact H0.out
  case round =>
    obtain ⟨k, lv3, t, u, rfl, hk, rfl, hgo, him, hok3⟩ := hrel
    have G3 := Lib.hid hgo
    have HIM := Lib.hid him
    have K3 := Lib.hid hok3
    clear hgo him hok3 H0
    by_cases hlt : k < ps.length
    · have hki : (k : Int) < (ps.length : Int) := by omega
      have hrr := HKR.out u (G1.out.trans G3.out).ch
      obtain ⟨ad, hA⟩ := puts_some hrr hlt
      subst hA
      have hpr := put_rd hrr HO.out hlt
      have hpo := HO.out _ (List.getElem_mem hlt)
      have hpa := HA.out _ (List.getElem_mem hlt)
      have him := HIM.out
      rw [List.drop_eq_getElem_cons hlt] at him
      obtain ⟨p, hp⟩ : ∃ p, ps[k]'hlt = p := ⟨_, rfl⟩
      rw [hp] at hpr hpo him hpa
      have HPR := Lib.hid hpr
      have HIM2 := Lib.hid him
      have HPD := Lib.hid hpo.1
      have HPL := Lib.hid (putC_len hpo.1)
      have n3 : -9223372036854775808 ≤ 7 + p.at_ := by omega
      have n4 : 7 + p.at_ ≤ 9223372036854775807 := by omega
      have HK50 : Hid (k ≤ 50) := by have := HL5.out; show _ ≤ _; omega
      clear hp hpr hpo hrr him HIM hpa
      go_wp2_with (first
        | (refine wpList_ldr2 rfl 54 (.tmp 16) rfl (ad.add (k * 33)) 33 (putC p) rfl HPR.out (by kernel_rfl) (by kernel_rfl) HPL.out ?_)
        | (refine wpList_al rfl 54 rfl (.int .i64 0 :: bts (List.replicate 32 0)) (by kernel_rfl) ?_))
      intro g5 w3 hg hb hc hs
      subst hg
      have G4 := Lib.hid (G3.out.chgN hc)
      have K4 := Lib.hid hb
      clear hb hs hc
      go_wp2_with (refine wpList_st rfl 54 (.tmp 8) (.tmp 17) rfl u.heap.size 0 33 (.int .i64 0 :: bts (List.replicate 32 0)) (putC p) rfl rfl K4.out (by kernel_rfl) HPL.out (by decide) (one_put p) ?_)
      intro w4 hb hc
      rw [splice_whole _ _ (by rw [HPL.out]; rfl)] at hb
      have G5 : Hid (DGo 92 w1 w4 g gs lv lv3 t) := ⟨DiskAt.chg G4.out.at_ hc (fun j hj he => by have := DiskAt.lt G3.out.at_ j hj; omega), G4.out.ft, G4.out.ch.then_ hc (fun j hj hlt => by have := G3.out.ch.size; omega)⟩
      have KP := Lib.hid hb
      have HB4 := Lib.hid (HH.out w4 (G1.out.trans G5.out).ch)
      clear hb hc K4 G4
      go_wp2_with fail
      apply wp_region_rel 9 (Chg NoS) [(Veq _), (Veq _), (Veq _), (Veq _), (Veq _), (Veq _), (Veq _), (Veq _), (Veq _)] [[], [0], [1], [2], [], [4], [5], [], [7]] [18, 19, 20, 21, 22, 23, 24, 25, 26] (by kernel_rfl) (by kernel_rfl) rfl rfl rfl Chg.refl (fun _ _ _ => Chg.trans) ⟨Veq.lasts, Veq.lasts, Veq.lasts, Veq.lasts, Veq.lasts, Veq.lasts, Veq.lasts, Veq.lasts, Veq.lasts, trivial⟩ ?aops ?afin
      case aops =>
        refine ⟨?ao0, ?ao1, ?ao2, ?ao3, ?ao4, ?ao5, ?ao6, ?ao7, ?ao8, trivial⟩
        case ao0 =>
          intro a wx hE hin
          have i0 : a.eval (.tmp 0) = .pointer (some ⟨h, 0, none⟩) := hin 0 rfl
          clear hin
          have hcst : ∀ v, a.eval (.const v) = v := fun _ => rfl
          have hfnc : ∀ f, a.eval (.func f) = .func (.func f) #[] #[] := fun _ => rfl
          refine want_none rfl ?_
          unfold Oper.wp
          generalize a.eval = ρ at *
          go_simp
          try go_bits
          first | exact rel_val (Chg.refl _) | (go_simp; exact rel_val (Chg.refl _))
        case ao1 =>
          rintro a wx hE hin (h0 : a.eval (.tmp 18) = _)
          clear hin
          have hcst : ∀ v, a.eval (.const v) = v := fun _ => rfl
          have hfnc : ∀ f, a.eval (.func f) = .func (.func f) #[] #[] := fun _ => rfl
          refine want_none rfl ?_
          unfold Oper.wp
          generalize a.eval = ρ at *
          go_simp
          try go_bits
          first | exact rel_val (Chg.refl _) | (go_simp; exact rel_val (Chg.refl _))
        case ao2 =>
          rintro a wx hE hin (h1 : a.eval (.tmp 19) = _)
          clear hin
          have hcst : ∀ v, a.eval (.const v) = v := fun _ => rfl
          have hfnc : ∀ f, a.eval (.func f) = .func (.func f) #[] #[] := fun _ => rfl
          refine want_none rfl ?_
          unfold Oper.wp
          generalize a.eval = ρ at *
          go_simp
          try go_bits
          first | exact rel_val (Chg.refl _) | (go_simp; exact rel_val (Chg.refl _))
        case ao3 =>
          rintro a wx hE hin (h2 : a.eval (.tmp 20) = _)
          clear hin
          have hcst : ∀ v, a.eval (.const v) = v := fun _ => rfl
          have hfnc : ∀ f, a.eval (.func f) = .func (.func f) #[] #[] := fun _ => rfl
          refine want_none rfl ?_
          unfold Oper.wp
          generalize a.eval = ρ at *
          have c := Bk.cell (j := 0) (HB4.out.drew.chg hE id) rfl
          go_simp
          try go_bits
          first | exact rel_val (Chg.refl _) | (go_simp; exact rel_val (Chg.refl _))
        case ao4 =>
          intro a wx hE hin
          have i8 : a.eval (.tmp 8) = .pointer (some ⟨u.heap.size, 0, none⟩) := hin 8 rfl
          clear hin
          have hcst : ∀ v, a.eval (.const v) = v := fun _ => rfl
          have hfnc : ∀ f, a.eval (.func f) = .func (.func f) #[] #[] := fun _ => rfl
          refine want_none rfl ?_
          unfold Oper.wp
          generalize a.eval = ρ at *
          go_simp
          try go_bits
          first | exact rel_val (Chg.refl _) | (go_simp; exact rel_val (Chg.refl _))
        case ao5 =>
          rintro a wx hE hin (h4 : a.eval (.tmp 22) = _)
          clear hin
          have hcst : ∀ v, a.eval (.const v) = v := fun _ => rfl
          have hfnc : ∀ f, a.eval (.func f) = .func (.func f) #[] #[] := fun _ => rfl
          refine want_none rfl ?_
          unfold Oper.wp
          generalize a.eval = ρ at *
          have c := Bk.cell (j := 0) (KP.out.drew.chg hE id) rfl
          go_simp
          try go_bits
          first | exact rel_val (Chg.refl _) | (go_simp; exact rel_val (Chg.refl _))
        case ao6 =>
          rintro a wx hE hin (h5 : a.eval (.tmp 23) = _)
          clear hin
          have hcst : ∀ v, a.eval (.const v) = v := fun _ => rfl
          have hfnc : ∀ f, a.eval (.func f) = .func (.func f) #[] #[] := fun _ => rfl
          refine want_none rfl ?_
          unfold Oper.wp
          generalize a.eval = ρ at *
          go_simp
          try go_bits
          first | exact rel_val (Chg.refl _) | (go_simp; exact rel_val (Chg.refl _))
        case ao7 =>
          intro a wx hE hin
          have i8 : a.eval (.tmp 8) = .pointer (some ⟨u.heap.size, 0, none⟩) := hin 8 rfl
          clear hin
          have hcst : ∀ v, a.eval (.const v) = v := fun _ => rfl
          have hfnc : ∀ f, a.eval (.func f) = .func (.func f) #[] #[] := fun _ => rfl
          refine want_none rfl ?_
          unfold Oper.wp
          generalize a.eval = ρ at *
          go_simp
          try go_bits
          first | exact rel_val (Chg.refl _) | (go_simp; exact rel_val (Chg.refl _))
        case ao8 =>
          rintro a wx hE hin (h7 : a.eval (.tmp 25) = _)
          clear hin
          have hcst : ∀ v, a.eval (.const v) = v := fun _ => rfl
          have hfnc : ∀ f, a.eval (.func f) = .func (.func f) #[] #[] := fun _ => rfl
          refine want_none rfl ?_
          exact wp_ld 35 _ rfl u.heap.size 1 32 (putC p) (bts p.data) h7 (KP.out.drew.chg hE id) (by kernel_rfl) (by kernel_rfl) (by rw [HPL.out]; decide) (by show ((bts p.data)).take 32 = _; rw [List.take_of_length_le (by rw [bts_length, HPD.out]; exact Nat.le_refl _)]) (rel_val (Chg.refl _))
      case afin =>
        intro wx hE
        rintro _ rfl _ rfl _ rfl _ rfl _ rfl _ rfl _ rfl _ rfl _ rfl
        simp only [FinOk, List.take_succ_cons, List.take_zero, List.take_nil, List.drop_succ_cons, List.drop_zero, List.drop_nil, Act.put, List.setIfInBounds_toArray, List.set_cons_succ, List.set_cons_zero]
        have G6 : Hid (DGo 92 w1 wx g gs lv lv3 t) := G5.out.chgN hE.undrew
        clear hE
        go_wp2_with fail
        refine (diskWrite_at wx g gs lv3 t (7 + p.at_) p.data G6.out.at_ HPD.out (by have := K3.out.ll; have := HK50.out; omega) K3.out.f1 K3.out.f2).mono ?_
        intro en w5 hp
        obtain ⟨rfl, lv5, hgo⟩ := G6.out.post hp
        have G7 := Lib.hid hgo
        clear hp hgo G6 G5 KP
        by_cases he : t.writeE (7 + p.at_) = 0
        · have HN := Lib.hid (Dst.blks_go (ps := ps.drop (k + 1)) he)
          rw [he]
          clear he
          go_wp2_with fail
          go_roundw
          case rel => exact ⟨k + 1, lv5, _, _, rfl, by omega, by go_num, G7.out, by rw [HIM2.out, HN.out], K3.out.write (by decide) _ _⟩
          case measure => simp [intOf]; omega
        · have HN := Lib.hid (Dst.blks_no (ps := ps.drop (k + 1)) he)
          obtain ⟨z, hz⟩ : ∃ z, t.writeE (7 + p.at_) = z := ⟨_, rfl⟩
          have HZ := Lib.hid hz
          rw [hz] at he ⊢
          have HE := Lib.hid he
          clear hz
          have HF : Hid (s.carry ps (carryL L e q ps dd) = (t.write (7 + p.at_) p.data, z)) := by
            show _ = _
            rw [Dst.carry, HIM2.out, HN.out]
            simp only []
            rw [HZ.out, if_neg HE.out]
          go_wp2_with fail
          (try simp only [Exit.inBlock, Exit.then])
          go_ret
          rw [HF.out]
          simp only []
          rw [labAfter, if_neg HE.out]
          exact (G1.out.trans G7.out).nfin HB.out HFH.out _
    · have hke : k = ps.length := by omega
      subst hke
      have hki : ¬ (((ps.length : Nat) : Int) < (ps.length : Int)) := by omega
      have HI : Hid (s.blks ps = (t, 0)) := by
        show _ = _
        rw [HIM.out, List.drop_length]
        rfl
      have c0 : u.cell? ⟨h, 0, none⟩ = some (.pointer (some ⟨g, 0, none⟩)) := (HH.out u (G1.out.trans G3.out).ch).cell rfl
      clear HIM hk hlt
      go_wp2_with fail
      clear c0
      refine (diskFlush_at u g gs lv3 t G3.out.at_ K3.out.f1 K3.out.f2).mono ?_
      intro en w4 hp
      obtain ⟨rfl, lv4, hgo⟩ := G3.out.post hp
      have G4 := Lib.hid hgo
      have K4 := Lib.hid (K3.out.flush (by decide))
      clear hp hgo K3
      have HF2 : Hid (s.carry ps (carryL L e q ps dd) = t.carryEnd (carryL L e q ps dd)) := by
        show _ = _
        rw [Dst.carry, HI.out]
        rfl
      by_cases he : t.flushE = 0
      case neg =>
        have HN := Lib.hid (carryEnd_no (l := carryL L e q ps dd) he)
        obtain ⟨z, hz⟩ : ∃ z, t.flushE = z := ⟨_, rfl⟩
        have HZ := Lib.hid hz
        rw [hz] at he ⊢
        have HE := Lib.hid he
        clear hz
        go_wp2_with fail
        (try simp only [Exit.inBlock, Exit.then])
        go_ret
        rw [HF2.out, HN.out]
        simp only []
        rw [HZ.out, labAfter, if_neg HE.out]
        exact (G1.out.trans G4.out).nfin HB.out HFH.out _
      have HN := Lib.hid (carryEnd_go (l := carryL L e q ps dd) he)
      rw [he]
      clear he
      have X4 := Lib.hid (HX.out w4 G4.out.ch)
      have HB4 := Lib.hid (HH.out w4 (G1.out.trans G4.out).ch)
      have HR4 := Lib.hid (HKR.out w4 (G1.out.trans G4.out).ch)
      go_wp2_with fail
      apply wp_region_rel 19 (Chg NoS) [(Veq _), (Veq _), (Veq _), (Veq _), (Veq _), (Veq _), (Veq _), (Veq _), (Veq _), (Veq _), (Veq _), (Veq _), (Veq _), (Veq (vu32 (nextU L.n q))), (Veq _), (Veq _), (Veq _), (Veq _), (Veq (.agg (labC (carryL L e q ps dd)).toArray))] [[], [], [1], [], [3], [], [5], [6], [7], [8], [], [10], [11], [9, 12], [], [], [15], [16], [2, 4, 13, 14, 17]] [40, 41, 42, 43, 44, 45, 46, 47, 48, 49, 50, 51, 52, 53, 54, 55, 56, 57, 58] (by kernel_rfl) (by kernel_rfl) rfl rfl rfl Chg.refl (fun _ _ _ => Chg.trans) ⟨Veq.lasts, Veq.lasts, Veq.lasts, Veq.lasts, Veq.lasts, Veq.lasts, Veq.lasts, Veq.lasts, Veq.lasts, Veq.lasts, Veq.lasts, Veq.lasts, Veq.lasts, Veq.lasts, Veq.lasts, Veq.lasts, Veq.lasts, Veq.lasts, Veq.lasts, trivial⟩ ?bops ?bfin
      case bops =>
        refine ⟨?bo0, ?bo1, ?bo2, ?bo3, ?bo4, ?bo5, ?bo6, ?bo7, ?bo8, ?bo9, ?bo10, ?bo11, ?bo12, ?bo13, ?bo14, ?bo15, ?bo16, ?bo17, ?bo18, trivial⟩
        case bo0 =>
          intro a wx hE hin
          have i0 : a.eval (.tmp 0) = .pointer (some ⟨h, 0, none⟩) := hin 0 rfl
          clear hin
          have hcst : ∀ v, a.eval (.const v) = v := fun _ => rfl
          have hfnc : ∀ f, a.eval (.func f) = .func (.func f) #[] #[] := fun _ => rfl
          refine want_none rfl ?_
          unfold Oper.wp
          generalize a.eval = ρ at *
          go_simp
          try go_bits
          first | exact rel_val (Chg.refl _) | (go_simp; exact rel_val (Chg.refl _))
        case bo1 =>
          intro a wx hE hin
          have i4 : a.eval (.tmp 4) = .pointer (some ⟨w.heap.size, 0, none⟩) := hin 4 rfl
          clear hin
          have hcst : ∀ v, a.eval (.const v) = v := fun _ => rfl
          have hfnc : ∀ f, a.eval (.func f) = .func (.func f) #[] #[] := fun _ => rfl
          refine want_none rfl ?_
          unfold Oper.wp
          generalize a.eval = ρ at *
          go_simp
          try go_bits
          first | exact rel_val (Chg.refl _) | (go_simp; exact rel_val (Chg.refl _))
        case bo2 =>
          rintro a wx hE hin (h1 : a.eval (.tmp 41) = _)
          clear hin
          have hcst : ∀ v, a.eval (.const v) = v := fun _ => rfl
          have hfnc : ∀ f, a.eval (.func f) = .func (.func f) #[] #[] := fun _ => rfl
          refine want_none rfl ?_
          unfold Oper.wp
          generalize a.eval = ρ at *
          have c := Bk.cell (X4.out.drew.chg hE id) D0.out
          go_simp
          try go_bits
          first | exact rel_val (Chg.refl _) | (go_simp; exact rel_val (Chg.refl _))
        case bo3 =>
          intro a wx hE hin
          have i4 : a.eval (.tmp 4) = .pointer (some ⟨w.heap.size, 0, none⟩) := hin 4 rfl
          clear hin
          have hcst : ∀ v, a.eval (.const v) = v := fun _ => rfl
          have hfnc : ∀ f, a.eval (.func f) = .func (.func f) #[] #[] := fun _ => rfl
          refine want_none rfl ?_
          unfold Oper.wp
          generalize a.eval = ρ at *
          go_simp
          try go_bits
          first | exact rel_val (Chg.refl _) | (go_simp; exact rel_val (Chg.refl _))
        case bo4 =>
          rintro a wx hE hin (h3 : a.eval (.tmp 43) = _)
          clear hin
          have hcst : ∀ v, a.eval (.const v) = v := fun _ => rfl
          have hfnc : ∀ f, a.eval (.func f) = .func (.func f) #[] #[] := fun _ => rfl
          refine want_none rfl ?_
          unfold Oper.wp
          generalize a.eval = ρ at *
          have c := Bk.cell (X4.out.drew.chg hE id) D1.out
          go_simp
          try go_bits
          first | exact rel_val (Chg.refl _) | (go_simp; exact rel_val (Chg.refl _))
        case bo5 =>
          intro a wx hE hin
          have i0 : a.eval (.tmp 0) = .pointer (some ⟨h, 0, none⟩) := hin 0 rfl
          clear hin
          have hcst : ∀ v, a.eval (.const v) = v := fun _ => rfl
          have hfnc : ∀ f, a.eval (.func f) = .func (.func f) #[] #[] := fun _ => rfl
          refine want_none rfl ?_
          unfold Oper.wp
          generalize a.eval = ρ at *
          go_simp
          try go_bits
          first | exact rel_val (Chg.refl _) | (go_simp; exact rel_val (Chg.refl _))
        case bo6 =>
          rintro a wx hE hin (h5 : a.eval (.tmp 45) = _)
          clear hin
          have hcst : ∀ v, a.eval (.const v) = v := fun _ => rfl
          have hfnc : ∀ f, a.eval (.func f) = .func (.func f) #[] #[] := fun _ => rfl
          refine want_none rfl ?_
          unfold Oper.wp
          generalize a.eval = ρ at *
          go_simp
          try go_bits
          first | exact rel_val (Chg.refl _) | (go_simp; exact rel_val (Chg.refl _))
        case bo7 =>
          rintro a wx hE hin (h6 : a.eval (.tmp 46) = _)
          clear hin
          have hcst : ∀ v, a.eval (.const v) = v := fun _ => rfl
          have hfnc : ∀ f, a.eval (.func f) = .func (.func f) #[] #[] := fun _ => rfl
          refine want_none rfl ?_
          unfold Oper.wp
          generalize a.eval = ρ at *
          go_simp
          try go_bits
          first | exact rel_val (Chg.refl _) | (go_simp; exact rel_val (Chg.refl _))
        case bo8 =>
          rintro a wx hE hin (h7 : a.eval (.tmp 47) = _)
          clear hin
          have hcst : ∀ v, a.eval (.const v) = v := fun _ => rfl
          have hfnc : ∀ f, a.eval (.func f) = .func (.func f) #[] #[] := fun _ => rfl
          refine want_none rfl ?_
          unfold Oper.wp
          generalize a.eval = ρ at *
          go_simp
          try go_bits
          first | exact rel_val (Chg.refl _) | (go_simp; exact rel_val (Chg.refl _))
        case bo9 =>
          rintro a wx hE hin (h8 : a.eval (.tmp 48) = _)
          clear hin
          have hcst : ∀ v, a.eval (.const v) = v := fun _ => rfl
          have hfnc : ∀ f, a.eval (.func f) = .func (.func f) #[] #[] := fun _ => rfl
          refine want_none rfl ?_
          unfold Oper.wp
          generalize a.eval = ρ at *
          have c := Bk.cell (j := 3) (HB4.out.drew.chg hE id) rfl
          go_simp
          try go_bits
          first | exact rel_val (Chg.refl _) | (go_simp; exact rel_val (Chg.refl _))
        case bo10 =>
          intro a wx hE hin
          have i4 : a.eval (.tmp 4) = .pointer (some ⟨w.heap.size, 0, none⟩) := hin 4 rfl
          clear hin
          have hcst : ∀ v, a.eval (.const v) = v := fun _ => rfl
          have hfnc : ∀ f, a.eval (.func f) = .func (.func f) #[] #[] := fun _ => rfl
          refine want_none rfl ?_
          unfold Oper.wp
          generalize a.eval = ρ at *
          go_simp
          try go_bits
          first | exact rel_val (Chg.refl _) | (go_simp; exact rel_val (Chg.refl _))
        case bo11 =>
          rintro a wx hE hin (h10 : a.eval (.tmp 50) = _)
          clear hin
          have hcst : ∀ v, a.eval (.const v) = v := fun _ => rfl
          have hfnc : ∀ f, a.eval (.func f) = .func (.func f) #[] #[] := fun _ => rfl
          refine want_none rfl ?_
          unfold Oper.wp
          generalize a.eval = ρ at *
          have c := Bk.cell (X4.out.drew.chg hE id) D1.out
          go_simp
          try go_bits
          first | exact rel_val (Chg.refl _) | (go_simp; exact rel_val (Chg.refl _))
        case bo12 =>
          rintro a wx hE hin (h11 : a.eval (.tmp 51) = _)
          clear hin
          have hcst : ∀ v, a.eval (.const v) = v := fun _ => rfl
          have hfnc : ∀ f, a.eval (.func f) = .func (.func f) #[] #[] := fun _ => rfl
          refine want_none rfl ?_
          unfold Oper.wp
          generalize a.eval = ρ at *
          go_simp
          try go_bits
          first | exact rel_val (Chg.refl _) | (go_simp; exact rel_val (Chg.refl _))
        case bo13 =>
          rintro a wx hE hin (h9 : a.eval (.tmp 49) = _) (h12 : a.eval (.tmp 52) = _)
          clear hin
          have hcst : ∀ v, a.eval (.const v) = v := fun _ => rfl
          have hfnc : ∀ f, a.eval (.func f) = .func (.func f) #[] #[] := fun _ => rfl
          refine want_none rfl ?_
          unfold Oper.wp
          generalize a.eval = ρ at *
          go_simp
          try go_bits
          exact ⟨_, rfl, u32_max L.n q, Chg.refl _⟩
        case bo14 =>
          intro a wx hE hin
          have i2 : a.eval (.tmp 2) = vu16 dd := hin 2 rfl
          clear hin
          have hcst : ∀ v, a.eval (.const v) = v := fun _ => rfl
          have hfnc : ∀ f, a.eval (.func f) = .func (.func f) #[] #[] := fun _ => rfl
          refine want_none rfl ?_
          unfold Oper.wp
          generalize a.eval = ρ at *
          go_simp
          try go_bits
          first | exact rel_val (Chg.refl _) | (go_simp; exact rel_val (Chg.refl _))
        case bo15 =>
          intro a wx hE hin
          have i4 : a.eval (.tmp 4) = .pointer (some ⟨w.heap.size, 0, none⟩) := hin 4 rfl
          clear hin
          have hcst : ∀ v, a.eval (.const v) = v := fun _ => rfl
          have hfnc : ∀ f, a.eval (.func f) = .func (.func f) #[] #[] := fun _ => rfl
          refine want_none rfl ?_
          unfold Oper.wp
          generalize a.eval = ρ at *
          go_simp
          try go_bits
          first | exact rel_val (Chg.refl _) | (go_simp; exact rel_val (Chg.refl _))
        case bo16 =>
          rintro a wx hE hin (h15 : a.eval (.tmp 55) = _)
          clear hin
          have hcst : ∀ v, a.eval (.const v) = v := fun _ => rfl
          have hfnc : ∀ f, a.eval (.func f) = .func (.func f) #[] #[] := fun _ => rfl
          refine want_none rfl ?_
          unfold Oper.wp
          generalize a.eval = ρ at *
          have c := Bk.cell (X4.out.drew.chg hE id) D2.out
          go_simp
          try go_bits
          first | exact rel_val (Chg.refl _) | (go_simp; exact rel_val (Chg.refl _))
        case bo17 =>
          rintro a wx hE hin (h16 : a.eval (.tmp 56) = _)
          clear hin
          have hcst : ∀ v, a.eval (.const v) = v := fun _ => rfl
          have hfnc : ∀ f, a.eval (.func f) = .func (.func f) #[] #[] := fun _ => rfl
          refine want_none rfl ?_
          unfold Oper.wp
          generalize a.eval = ρ at *
          go_simp
          go_simp
          refine (bits_calls ps A ps.length c wx rfl (by have := HL5.out; omega) (HR4.out.chg hE.undrew) HO.out).mono ?_
          rintro en w' ⟨rfl, hb⟩
          exact rel_val (.of_below hb)
        case bo18 =>
          rintro a wx hE hin (h2 : a.eval (.tmp 42) = _) (h4 : a.eval (.tmp 44) = _) (h13 : a.eval (.tmp 53) = _) (h14 : a.eval (.tmp 54) = _) (h17 : a.eval (.tmp 57) = _)
          clear hin
          have hcst : ∀ v, a.eval (.const v) = v := fun _ => rfl
          have hfnc : ∀ f, a.eval (.func f) = .func (.func f) #[] #[] := fun _ => rfl
          refine want_none rfl ?_
          exact wp_bld 40 [(0, .tmp 42), (1, .tmp 44), (2, .tmp 53), (3, .tmp 54), (4, .tmp 57)] rfl (labC zLab) [(0, [vu32 e]), (1, [vu32 q]), (2, [vu32 (nextU L.n q)]), (3, [vu16 dd]), (4, [vu16 (UInt16.ofNat (bitsN ps))])] (labC (carryL L e q ps dd)) (by kernel_rfl) (by kernel_rfl) ⟨by rw [h2]; rfl, ⟨1, rfl, by kernel_rfl, by decide⟩, by rw [h4]; rfl, ⟨1, rfl, by kernel_rfl, by decide⟩, by rw [h13]; rfl, ⟨1, rfl, by kernel_rfl, by decide⟩, by rw [h14]; rfl, ⟨1, rfl, by kernel_rfl, by decide⟩, by rw [h17, vu16_of _ (by have := bitsN_lt ps; omega)]; rfl, ⟨1, rfl, by kernel_rfl, by decide⟩, trivial⟩ rfl (rel_val (Chg.refl _))
      case bfin =>
        intro wx hE
        rintro _ rfl _ rfl _ rfl _ rfl _ rfl _ rfl _ rfl _ rfl _ rfl _ rfl _ rfl _ rfl _ rfl _ rfl _ rfl _ rfl _ rfl _ rfl _ rfl
        simp only [FinOk, List.take_succ_cons, List.take_zero, List.take_nil, List.drop_succ_cons, List.drop_zero, List.drop_nil, Act.put, List.setIfInBounds_toArray, List.set_cons_succ, List.set_cons_zero]
        have G6 : Hid (DGo 92 w1 wx g gs lv lv4 t.flush) := G4.out.chgN hE.undrew
        clear hE
        go_wp2_with fail
        refine (ndSetLabel_calls wx g gs lv4 h t.flush L (carryL L e q ps dd) (m + ps.length) G6.out.at_ (HH.out wx (G1.out.trans G6.out).ch) (fun hj => ((G1.out.trans G6.out).ft _ hj).elim HFH.out (fun h1 => by have := HB.out.lt; omega)) K4.out (by have := HL5.out; omega)).mono ?_
        intro en w7 hp
        have HP := Lib.hid ((G1.out.trans G6.out).npost hp)
        rw [← HN.out, ← HF2.out] at HP
        obtain ⟨rfl, _⟩ := hp
        go_wp2_with fail
        (try simp only [Exit.inBlock, Exit.then])
        go_ret
        have hq := HP.out
        rw [← HN.out, ← HF2.out] at hq
        rw [← HN.out, ← HF2.out]
        exact hq
end Go.Proofs.Ytcmfkdfegfablaa


/- A node: Apply. -/
namespace Go.Proofs.Ytcmfkdfegfablaa
open Go.RowKit
set_option linter.unusedVariables false
set_option linter.unusedSimpArgs false

set_option maxRecDepth 100000 in
set_option maxHeartbeats 2000000 in
theorem ndApply_nil (w : World) (cs : Array Value) (d : UInt16) : Calls Try.prog 17 #[.pointer none, .agg cs, vu16 d] w fun e w' => e = .returned (.int .i64 1) ∧ Below w.heap.size w w' := by
  go_enter Try.func17, Try.ntmps17
  go_wp2_with fail
  (try simp only [Exit.inBlock, Exit.then])
  go_ret
  refine ⟨rfl, ?_⟩
  first | exact Below.refl _ _ | exact (Below.refl _ _).alloc (Nat.le_refl _) _
set_option maxRecDepth 100000 in
set_option maxHeartbeats 8000000 in
theorem ndApply_calls (w : World) (g gs : Nat) (lv : Value) (h : Nat) (s : Dst) (L : Lab) (m : Nat) (e q : UInt32) (ps : List PutV) (A : Option Addr) (n c : Nat) (dd : UInt16) (hd : DAt 92 w g gs lv s) (hb : Bk w h (NdC g L)) (hf : ¬ footD g gs lv h) (hok : DOk (-1) m s) (hm : m ≤ 900)
    (hl : ps.length = n) (hkr : ∀ w', Chg (footD g gs lv) w w' → Rd w' A (ps.flatMap putC)) (ho : PutsOk ps) (hok2 : goodB ps = true → (s.walPut 1 e q ps).2 = 0 → DOk (-1) m (s.walPut 1 e q ps).1) :
    Calls Try.prog 17 #[.pointer (some ⟨h, 0, none⟩), .agg #[vu32 e, vu32 q, .slice A n c], vu16 dd] w (NPost w g gs lv h (s.nApply L e q ps dd).1 (labAfter L (carryL L e q ps dd) (s.nApply L e q ps dd).2) (.int .i64 (s.nApply L e q ps dd).2)) := by
  subst hl
  have HW := Lib.hid (DGo.refl hd)
  have HB := Lib.hid hb
  have HFH := Lib.hid hf
  have HOK := Lib.hid hok
  have HOK2 := Lib.hid hok2
  have HKR := Lib.hid hkr
  have HO := Lib.hid ho
  clear hd hb hf hok hkr ho hok2
  obtain ⟨bx, hbx⟩ : ∃ bx, [vu32 e, vu32 q, .slice A ps.length c] = bx := ⟨_, rfl⟩
  have HBX := Lib.hid hbx
  have D2 : Hid (bx[2]? = some (.slice A ps.length c)) := by rw [← hbx]; exact (rfl : _ = _)
  have HBL : Hid (bx.length = 3) := by rw [← hbx]; exact (rfl : _ = _)
  rw [show (#[vu32 e, vu32 q, .slice A ps.length c] : Array Value) = bx.toArray by rw [← hbx]]
  clear hbx
  have HH : Hid (∀ w', Chg (footD g gs lv) w w' → Bk w' h (NdC g L)) := fun w' hc => HB.out.chg hc HFH.out
  go_enter Try.func17, Try.ntmps17
  have d2 := (Bk.new w bx 25).cell D2.out
  go_wp2_with fail
  refine calls_at fun w1 hw1 => ?_
  have X1 : Hid (Bk w1 w.heap.size bx) := by rw [← hw1]; exact Bk.new w bx _
  have G1 : Hid (DGo 92 w w1 g gs lv lv s) := by rw [← hw1]; exact HW.out.chgN ((Chg.refl _).alloc _)
  clear hw1 d2
  have HX : Hid (∀ w', Chg (footD g gs lv) w1 w' → Bk w' w.heap.size bx) := fun w' hc => X1.out.chg hc (fun hj => by have := DiskAt.lt HW.out.at_ _ hj; omega)
  refine (good_calls ps A ps.length c w1 rfl (HKR.out w1 G1.out.ch) HO.out).mono ?_
  rintro en w2 ⟨rfl, hb⟩
  have X2 := Lib.hid (X1.out.below hb)
  have G2 := Lib.hid (G1.out.below hb)
  have C2 : Hid (Chg (footD g gs lv) w1 w2) := (Chg.of_below (S := NoS) hb).mono (fun _ hj => hj.elim)
  have S2 : Hid (w1.heap.size ≤ w2.heap.size) := hb.size
  clear hb
  by_cases hgood : goodB ps = true
  case neg =>
    have HF := Lib.hid (nApply_bad (s := s) (L := L) (e := e) (q := q) (d := dd) hgood)
    rw [Bool.eq_false_iff.2 hgood]
    clear hgood
    go_wp2_with fail
    (try simp only [Exit.inBlock, Exit.then])
    go_ret
    rw [HF.out]
    exact G2.out.nfin HB.out HFH.out _
  have HG := Lib.hid hgood
  rw [hgood]
  clear hgood
  go_wp2_with (refine wpList_ld rfl 25 (.tmp 4) rfl w.heap.size 0 3 bx bx rfl X2.out (by kernel_rfl) (by kernel_rfl) (by rw [HBL.out]; decide) (by rw [List.drop_zero, List.take_of_length_le (by rw [HBL.out]; exact Nat.le_refl _)]) ?_)
  rw [show bx.toArray = #[vu32 e, vu32 q, .slice A ps.length c] by rw [← HBX.out]]
  refine (ndLater_calls w2 g h L (HH.out w2 G2.out.ch) e q (.slice A ps.length c)).mono ?_
  rintro en w3 ⟨rfl, hb⟩
  have X3 := Lib.hid (X2.out.below hb)
  have G3 := Lib.hid (G2.out.below hb)
  have C3 : Hid (Chg (footD g gs lv) w1 w3) := C2.out.trans ((Chg.of_below (S := NoS) hb).mono (fun _ hj => hj.elim))
  clear hb X2 G2 C2 S2
  by_cases hlat : laterB e q L.e L.s = true
  case neg =>
    have HF := Lib.hid (nApply_old (s := s) (d := dd) HG.out hlat)
    rw [Bool.eq_false_iff.2 hlat]
    clear hlat
    go_wp2_with fail
    (try simp only [Exit.inBlock, Exit.then])
    go_ret
    rw [HF.out]
    exact G3.out.nfin HB.out HFH.out _
  have HLT := Lib.hid hlat
  rw [hlat]
  clear hlat
  have HB3 := Lib.hid (HH.out w3 G3.out.ch)
  go_wp2_with fail
  apply wp_region_rel 5 (Chg NoS) [(Veq _), (Veq _), (Veq _), (Veq _), (Veq (.agg bx.toArray))] [[], [0], [1], [2], []] [22, 23, 24, 25, 26] (by kernel_rfl) (by kernel_rfl) rfl rfl rfl Chg.refl (fun _ _ _ => Chg.trans) ⟨Veq.lasts, Veq.lasts, Veq.lasts, Veq.lasts, Veq.lasts, trivial⟩ ?aops ?afin
  case aops =>
    refine ⟨?ao0, ?ao1, ?ao2, ?ao3, ?ao4, trivial⟩
    case ao0 =>
      intro a wx hE hin
      have i0 : a.eval (.tmp 0) = .pointer (some ⟨h, 0, none⟩) := hin 0 rfl
      clear hin
      have hcst : ∀ v, a.eval (.const v) = v := fun _ => rfl
      have hfnc : ∀ f, a.eval (.func f) = .func (.func f) #[] #[] := fun _ => rfl
      refine want_none rfl ?_
      unfold Oper.wp
      generalize a.eval = ρ at *
      go_simp
      try go_bits
      first | exact rel_val (Chg.refl _) | (go_simp; exact rel_val (Chg.refl _))
    case ao1 =>
      rintro a wx hE hin (h0 : a.eval (.tmp 22) = _)
      clear hin
      have hcst : ∀ v, a.eval (.const v) = v := fun _ => rfl
      have hfnc : ∀ f, a.eval (.func f) = .func (.func f) #[] #[] := fun _ => rfl
      refine want_none rfl ?_
      unfold Oper.wp
      generalize a.eval = ρ at *
      go_simp
      try go_bits
      first | exact rel_val (Chg.refl _) | (go_simp; exact rel_val (Chg.refl _))
    case ao2 =>
      rintro a wx hE hin (h1 : a.eval (.tmp 23) = _)
      clear hin
      have hcst : ∀ v, a.eval (.const v) = v := fun _ => rfl
      have hfnc : ∀ f, a.eval (.func f) = .func (.func f) #[] #[] := fun _ => rfl
      refine want_none rfl ?_
      unfold Oper.wp
      generalize a.eval = ρ at *
      go_simp
      try go_bits
      first | exact rel_val (Chg.refl _) | (go_simp; exact rel_val (Chg.refl _))
    case ao3 =>
      rintro a wx hE hin (h2 : a.eval (.tmp 24) = _)
      clear hin
      have hcst : ∀ v, a.eval (.const v) = v := fun _ => rfl
      have hfnc : ∀ f, a.eval (.func f) = .func (.func f) #[] #[] := fun _ => rfl
      refine want_none rfl ?_
      unfold Oper.wp
      generalize a.eval = ρ at *
      have c := Bk.cell (j := 0) (HB3.out.drew.chg hE id) rfl
      go_simp
      try go_bits
      first | exact rel_val (Chg.refl _) | (go_simp; exact rel_val (Chg.refl _))
    case ao4 =>
      intro a wx hE hin
      have i4 : a.eval (.tmp 4) = .pointer (some ⟨w.heap.size, 0, none⟩) := hin 4 rfl
      clear hin
      have hcst : ∀ v, a.eval (.const v) = v := fun _ => rfl
      have hfnc : ∀ f, a.eval (.func f) = .func (.func f) #[] #[] := fun _ => rfl
      refine want_none rfl ?_
      exact wp_ld 25 _ rfl w.heap.size 0 3 bx bx i4 (X3.out.drew.chg hE id) (by kernel_rfl) (by kernel_rfl) (by rw [HBL.out]; decide) (by rw [List.drop_zero, List.take_of_length_le (by rw [HBL.out]; exact Nat.le_refl _)]) (rel_val (Chg.refl _))
  case afin =>
    intro wx hE
    rintro _ rfl _ rfl _ rfl _ rfl _ rfl
    simp only [FinOk, List.take_succ_cons, List.take_zero, List.take_nil, List.drop_succ_cons, List.drop_zero, List.drop_nil, Act.put, List.setIfInBounds_toArray, List.set_cons_succ, List.set_cons_zero]
    have G4 : Hid (DGo 92 w3 wx g gs lv lv s) := (DGo.refl G3.out.at_).chgN hE.undrew
    clear hE
    go_wp2_with fail
    rw [show bx.toArray = #[vu32 e, vu32 q, .slice A ps.length c] by rw [← HBX.out]]
    refine (walPut_calls wx g gs lv s 1 e q ps A ps.length c m rfl G4.out.at_ HOK.out (by omega) (fun w' hc => HKR.out w' ((G3.out.trans G4.out).ch.trans hc)) HO.out).mono ?_
    intro en w5 hp
    obtain ⟨rfl, lv5, hgo⟩ := G4.out.post hp
    have G5 := Lib.hid hgo
    clear hp hgo G4
    by_cases he : (s.walPut 1 e q ps).2 = 0
    case neg =>
      have HF := Lib.hid (nApply_put (d := dd) HG.out HLT.out he)
      have HE := Lib.hid he
      obtain ⟨z, hz⟩ : ∃ z, (s.walPut 1 e q ps).2 = z := ⟨_, rfl⟩
      have HZ := Lib.hid hz
      rw [hz] at he ⊢
      clear hz
      go_wp2_with fail
      (try simp only [Exit.inBlock, Exit.then])
      go_ret
      rw [HF.out, labAfter, if_neg HE.out, HZ.out]
      exact (G3.out.trans G5.out).nfin HB.out HFH.out _
    have HF := Lib.hid (nApply_go (d := dd) HG.out HLT.out he)
    have HOK3 := Lib.hid (HOK2.out HG.out he)
    rw [he]
    clear he
    have X5 := Lib.hid (HX.out w5 (C3.out.trans G5.out.ch))
    go_wp2_with (refine wpList_ld rfl 25 (.tmp 4) rfl w.heap.size 0 3 bx bx rfl X5.out (by kernel_rfl) (by kernel_rfl) (by rw [HBL.out]; decide) (by rw [List.drop_zero, List.take_of_length_le (by rw [HBL.out]; exact Nat.le_refl _)]) ?_)
    rw [show bx.toArray = #[vu32 e, vu32 q, .slice A ps.length c] by rw [← HBX.out]]
    have hgd := goodB_at HG.out
    refine (ndCarry_calls w5 g gs lv5 h (s.walPut 1 e q ps).1 L m e q ps A ps.length c dd G5.out.at_ (HH.out w5 (G3.out.trans G5.out).ch) (fun hj => ((G3.out.trans G5.out).ft _ hj).elim HFH.out (fun h1 => by have := HB.out.lt; omega)) HOK3.out hm rfl (by have := hgd.2.1; omega)
      (fun w' hc => HKR.out w' ((G3.out.trans G5.out).ch.then_ hc (fun j hj hlt => ((G3.out.trans G5.out).ft _ hj).elim id (fun h1 => by omega)))) HO.out (fun p hp => by have := hgd.2.2.1 p hp; omega)).mono ?_
    intro en w7 hp
    have HP := Lib.hid ((G3.out.trans G5.out).npost hp)
    rw [← HF.out] at HP
    obtain ⟨rfl, _⟩ := hp
    go_wp2_with fail
    (try simp only [Exit.inBlock, Exit.then])
    go_ret
    have hq := HP.out
    rw [← HF.out] at hq
    rw [← HF.out]
    exact hq
end Go.Proofs.Ytcmfkdfegfablaa


/- The label of a label's sector. -/
namespace Go.Proofs.Ytcmfkdfegfablaa
open Go.RowKit
set_option linter.unusedVariables false
set_option linter.unusedSimpArgs false

theorem body_of_sec (m : UInt8) (b : List UInt8) (h : b.length = 29) : bodyOf (secOf m b) = b := by
  rw [bodyOf, secOf, List.cons_append, List.drop_succ_cons, List.drop_zero, List.take_append_of_le_length (by omega), List.take_of_length_le (by omega)]
theorem decR_sec (m : UInt8) (b : List UInt8) (h : b.length = 29) (hm : m ≠ 0) : decR (secOf m b) = (m :: b, 0) := by
  have h0 : (secOf m b).getD 0 0 = m := rfl
  rw [decR, h0, body_of_sec m b h, if_neg]
  rintro (hh | hh)
  · exact hm hh
  · exact hh rfl
theorem le4 (n : Nat) : le n 4 = [UInt8.ofNat n, UInt8.ofNat (n / 256), UInt8.ofNat (n / 256 / 256), UInt8.ofNat (n / 256 / 256 / 256)] := rfl
theorem le2 (n : Nat) : le n 2 = [UInt8.ofNat n, UInt8.ofNat (n / 256)] := rfl
theorem body_list (l : Lab) : padB (bodyB l) = le l.e.toNat 4 ++ (le l.s.toNat 4 ++ (le l.n.toNat 4 ++ (le l.d.toNat 2 ++ (le l.la.toNat 2 ++ List.replicate 13 0)))) := by
  rw [padB, bodyB_length, bodyB]
  simp [List.append_assoc]
theorem labOf_body (l : Lab) : labOf (padB (bodyB l)) = l := by
  have h0 : ((padB (bodyB l)).drop 0).take 4 = le l.e.toNat 4 := by rw [body_list]; rfl
  have h1 : ((padB (bodyB l)).drop 4).take 4 = le l.s.toNat 4 := by rw [body_list]; rfl
  have h2 : ((padB (bodyB l)).drop 8).take 4 = le l.n.toNat 4 := by rw [body_list]; rfl
  have h3 : ((padB (bodyB l)).drop 12).take 2 = le l.d.toNat 2 := by rw [body_list]; rfl
  have h4 : ((padB (bodyB l)).drop 14).take 2 = le l.la.toNat 2 := by rw [body_list]; rfl
  rw [labOf, h0, h1, h2, h3, h4, num_le 4 _ (by have := l.e.toNat_lt; omega), num_le 4 _ (by have := l.s.toNat_lt; omega), num_le 4 _ (by have := l.n.toNat_lt; omega), num_le 2 _ (by have := l.d.toNat_lt; omega), num_le 2 _ (by have := l.la.toNat_lt; omega)]
  simp
theorem enc_not_zero (l : Lab) : labEnc l ≠ List.replicate 32 0 := by
  intro h
  have h1 : (labEnc l).getD 0 0 = 76 := rfl
  rw [h] at h1
  exact absurd h1 (by decide)
theorem lab_back (l : Lab) : labDec (labEnc l) = (l, 0) := by
  have hp : (padB (bodyB l)).length = 29 := padB_length (by rw [bodyB_length]; decide)
  have hd : decR (labEnc l) = (76 :: padB (bodyB l), 0) := decR_sec 76 _ hp (by decide)
  have hb : bodyOf (labEnc l) = padB (bodyB l) := body_of_sec 76 _ hp
  rw [labDec, if_neg (enc_not_zero l), hd, hb, labOf_body, if_neg]
  rintro (hh | hh)
  · exact hh rfl
  · exact hh rfl
end Go.Proofs.Ytcmfkdfegfablaa


/- A node: Open, New. -/
namespace Go.Proofs.Ytcmfkdfegfablaa
open Go.RowKit
set_option linter.unusedVariables false
set_option linter.unusedSimpArgs false

def RdX (base : Nat) (w : World) (A : Option Addr) (ys : List Value) : Prop := ∀ (T : Nat → Prop) (w'' : World), Chg T w w'' → (∀ j, T j → j < base) → Rd w'' A ys
theorem RdX.below {base : Nat} {w w' : World} {A : Option Addr} {ys : List Value} (h : RdX base w A ys) (hb : Below w.heap.size w w') : RdX base w' A ys := fun T w'' hc hT => h T w'' (((Chg.of_below (S := NoS) hb).mono (fun _ hj => hj.elim)).trans hc) hT
theorem get_good {s : Dst} {fr : Int} (h : (s.walGet fr).2 = 0) (hl : ∀ i, (s.readB i).length = 32) : goodB (s.walGet fr).1.ps = true ∧ PutsOk (s.walGet fr).1.ps := by
  by_cases h1 : mayB s.S.length fr = true
  case neg => rw [walGet_a h1] at h; exact absurd h (by decide)
  by_cases h2 : s.readE fr = 0
  case neg => rw [walGet_b h1 h2] at h; exact absurd h h2
  by_cases h3 : formB (s.readB fr) = true
  case neg => rw [walGet_c h1 h2 rfl h3] at h; exact absurd h (by decide)
  rw [walGet_d h1 h2 rfl h3]
  refine ⟨?_, putsK_ok (fun i => hl _)⟩
  have hf := (formB_iff.1 h3).2.2.2.2
  show goodB (putsK _ _ _) = true
  rw [goodB_ats (qs := putsK (s.readB fr) zdat (nOf (s.readB fr))) (by rw [putsK_ats, putsK_ats])]
  exact hf
/-- What an opening leaves. -/
def OPost (w : World) (g gs : Nat) (lv : Value) (t : Dst) (z : Int) (L : Lab) (e : Ending) (w' : World) : Prop :=
  ∃ lv', DAt 92 w' g gs lv' t ∧ (∀ j, footD g gs lv' j → footD g gs lv j ∨ w.heap.size ≤ j) ∧ Chg (footD g gs lv) w w' ∧
    (if z = 0 then ∃ h, e = .returned (.tuple #[.pointer (some ⟨h, 0, none⟩), .int .i64 0]) ∧ Bk w' h (NdC g L) ∧ w.heap.size ≤ h ∧ ¬ footD g gs lv' h else e = .returned (.tuple #[.pointer none, .int .i64 z]))
theorem OPost.no {w w' : World} {g gs : Nat} {lv : Value} {s : Dst} {z : Int} {L : Lab} (hd : DAt 92 w g gs lv s) (hb : Below w.heap.size w w') (hz : ¬ z = 0) : OPost w g gs lv s z L (.returned (.tuple #[.pointer none, .int .i64 z])) w' :=
  ⟨lv, DiskAt.below hd hb, fun _ hj => .inl hj, (Chg.of_below (S := NoS) hb).mono (fun _ hj => hj.elim), by rw [if_neg hz]⟩
theorem OPost.yes {w w' : World} {g gs h : Nat} {lv : Value} {s : Dst} {L : Lab} (hd : DAt 92 w g gs lv s) (hb : Below w.heap.size w w') (hk : Bk w' h (NdC g L)) (hh : w.heap.size ≤ h) : OPost w g gs lv s 0 L (.returned (.tuple #[.pointer (some ⟨h, 0, none⟩), .int .i64 0])) w' :=
  ⟨lv, DiskAt.below hd hb, fun _ hj => .inl hj, (Chg.of_below (S := NoS) hb).mono (fun _ hj => hj.elim), by rw [if_pos rfl]; exact ⟨h, rfl, hk, hh, fun hj => by have := DiskAt.lt hd _ hj; omega⟩⟩
set_option maxRecDepth 100000 in
set_option maxHeartbeats 2000000 in
theorem ndOpen_nil (w : World) : Calls Try.prog 12 #[.pointer none] w fun e w' => e = .returned (.tuple #[.pointer none, .int .i64 1]) ∧ Below w.heap.size w w' := by
  go_enter Try.func12, Try.ntmps12
  go_wp2_with fail
  refine (diskLen_nil w).mono ?_
  rintro en w' ⟨rfl, rfl⟩
  go_wp2_with fail
  (try simp only [Exit.inBlock, Exit.then])
  go_ret2
  exact ⟨rfl, Below.refl _ _⟩
set_option maxRecDepth 100000 in
set_option maxHeartbeats 8000000 in
theorem ndOpen_calls (w : World) (g gs : Nat) (lv : Value) (s : Dst) (m : Nat) (hd : DAt 92 w g gs lv s) (hok : DOk (-1) m s) (hm : m ≤ 900) :
    Calls Try.prog 12 #[.pointer (some ⟨g, 0, none⟩)] w (OPost w g gs lv s.nOpen.1 s.nOpen.2.1 s.nOpen.2.2) := by
  have HD := Lib.hid hd
  have HOK := Lib.hid hok
  clear hd hok
  go_enter Try.func12, Try.ntmps12
  go_wp2_with fail
  refine (diskLen_at w g gs lv s HD.out).mono ?_
  rintro en w' ⟨rfl, rfl⟩
  by_cases hlen : s.S.length = 19
  case neg =>
    have HF := Lib.hid (nOpen_len hlen)
    have hli : ¬ ((s.S.length : Int) = 19) := by omega
    clear hlen
    go_wp2_with fail
    (try simp only [Exit.inBlock, Exit.then])
    go_ret2
    rw [HF.out]
    exact OPost.no HD.out (Below.refl _ _) (by show ¬ ((1 : Int) = 0); decide)
  have HLEN := Lib.hid hlen
  rw [hlen]
  clear hlen
  go_wp2_with fail
  refine (diskRead_at w g gs lv s 0 HD.out).mono ?_
  rintro en w1 ⟨rfl, hb⟩
  have Ew1 : Hid (Below w.heap.size w w1) := hb
  have HXL : Hid ((s.readB 0).length = 32) := DAt.readB_len HD.out 0
  obtain ⟨x, hx⟩ : ∃ x, s.readB 0 = x := ⟨_, rfl⟩
  have HX := Lib.hid hx
  rw [hx] at HXL ⊢
  obtain ⟨vb, hvb⟩ : ∃ vb, bts x = vb := ⟨_, rfl⟩
  have HVB := Lib.hid hvb
  have HVL : Hid (vb.length = 32) := by show _ = _; rw [← hvb, bts_length, HXL.out]
  have HVO : Hid (∀ u ∈ vb, u.oneCell' = true) := by rw [← hvb]; exact one_bts _
  rw [hvb]
  clear hb hx hvb
  go_wp2_with (refine wpList_al rfl 35 rfl (bts (List.replicate 32 0)) (by kernel_rfl) ?_)
  intro ga z1 hg hb hc hs
  have HQa : Hid (Below w1.heap.size w1 z1) := hc.below (Nat.le_refl _) (fun _ _ => id)
  have HGa : Hid (ga = w1.heap.size) := hg
  have KZa := Lib.hid hb
  clear hg hb hc hs
  go_wp2_with (refine wpList_st rfl 35 (.tmp 4) (.tmp 16) rfl ga 0 32 (bts (List.replicate 32 0)) vb rfl rfl KZa.out (by kernel_rfl) HVL.out (by decide) HVO.out ?_)
  intro z2 hbk hc
  rw [splice_whole _ _ (by rw [HVL.out]; rfl)] at hbk
  have hb : Below w1.heap.size w1 z2 := HQa.out.trans (hc.below HQa.out.size (fun q hq he => by have := HGa.out; omega))
  have Ez2 : Hid (Below w.heap.size w z2) := Ew1.out.trans (hb.mono Ew1.out.size)
  clear Ew1
  have Kaz2 : Hid (Bk z2 ga vb) := hbk
  have Kaz2 : Hid (Bk z2 ga vb) := hbk
  clear hbk hb hc KZa HQa HGa
  by_cases hre : s.readE 0 = 0
  case neg =>
    have HF := Lib.hid (nOpen_read HLEN.out hre)
    obtain ⟨z, hz⟩ : ∃ z, s.readE 0 = z := ⟨_, rfl⟩
    have HZ := Lib.hid hz
    rw [hz] at hre ⊢
    have HRE := Lib.hid hre
    clear hz
    go_wp2_with fail
    (try simp only [Exit.inBlock, Exit.then])
    go_ret2
    rw [HF.out, HZ.out]
    exact OPost.no HD.out Ez2.out HRE.out
  have HRE := Lib.hid hre
  rw [hre]
  clear hre
  go_wp2_with (refine wpList_ld rfl 35 (.tmp 4) rfl ga 0 32 vb vb rfl Kaz2.out (by kernel_rfl) (by kernel_rfl) (by rw [HVL.out]; decide) (by rw [List.drop_zero, List.take_of_length_le (by rw [HVL.out]; exact Nat.le_refl _)]) ?_)
  rw [← HVB.out]
  have hxl := HXL.out
  refine (labDecode_calls x z2 HXL.out).mono ?_
  rintro en z3 ⟨rfl, hb⟩
  obtain ⟨L, hL⟩ : ∃ L, (labDec x).1 = L := ⟨_, rfl⟩
  obtain ⟨z, hz⟩ : ∃ z, (labDec x).2 = z := ⟨_, rfl⟩
  have HLD : Hid (labDec x = (L, z)) := by show _ = _; rw [← hL, ← hz]
  rw [hL, hz]
  clear hL hz hxl
  have Ez3 : Hid (Below w.heap.size w z3) := Ez2.out.trans (hb.mono Ez2.out.size)
  have Kaz3 : Hid (Bk z3 ga vb) := Kaz2.out.below hb
  clear Ez2 Kaz2
  clear hb
  go_wp2_with (refine wpList_al rfl 40 rfl (labC zLab) (by kernel_rfl) ?_)
  intro gb z4 hg hb hc hs
  have HQb : Hid (Below z3.heap.size z3 z4) := hc.below (Nat.le_refl _) (fun _ _ => id)
  have HGb : Hid (gb = z3.heap.size) := hg
  have KZb := Lib.hid hb
  clear hg hb hc hs
  go_wp2_with (refine wpList_st rfl 40 (.tmp 6) (.tmp 24) rfl gb 0 5 (labC zLab) (labC L) rfl rfl KZb.out (by kernel_rfl) rfl (by decide) (one_lab L) ?_)
  intro z5 hbk hc
  rw [splice_whole (labC zLab) (labC L) rfl] at hbk
  have hb : Below z3.heap.size z3 z5 := HQb.out.trans (hc.below HQb.out.size (fun q hq he => by have := HGb.out; omega))
  have Ez5 : Hid (Below w.heap.size w z5) := Ez3.out.trans (hb.mono Ez3.out.size)
  clear Ez3
  have Kbz5 : Hid (Bk z5 gb (labC L)) := hbk
  have Kbz5 : Hid (Bk z5 gb (labC L)) := hbk
  clear hbk hb hc KZb HQb HGb
  by_cases hz : z = 0
  case neg =>
    have HF := Lib.hid (nOpen_lab HLEN.out HRE.out (by rw [HX.out]; exact HLD.out) hz)
    have HZ := Lib.hid hz
    go_wp2_with fail
    (try simp only [Exit.inBlock, Exit.then])
    go_ret2
    rw [HF.out]
    exact OPost.no HD.out Ez5.out HZ.out
  subst hz
  go_wp2_with (first
    | (refine wpList_ld rfl 40 (.tmp 6) rfl gb 0 5 (labC L) (labC L) rfl Kbz5.out (by kernel_rfl) (by kernel_rfl) (Nat.le_refl 5) rfl ?_)
    | (refine wpList_bld rfl 78 [(0, .tmp 29), (1, .tmp 30)] rfl (.pointer none :: labC zLab) [(0, [.pointer (some ⟨g, 0, none⟩)]), (1, labC L)] (NdC g L) (by kernel_rfl) (by kernel_rfl) ⟨rfl, ⟨1, rfl, by kernel_rfl, by decide⟩, rfl, ⟨5, rfl, by kernel_rfl, by decide⟩, trivial⟩ rfl ?_))
  refine calls_at fun z6 hw => ?_
  have hb : Below z5.heap.size z5 z6 := by rw [← hw]; exact (Below.refl _ _).alloc (Nat.le_refl _) _
  have hkn : Bk z6 z5.heap.size (NdC g L) := by rw [← hw]; exact Bk.new _ _ _
  have HNH : Hid (w.heap.size ≤ z5.heap.size) := Ez5.out.size
  clear hw
  obtain ⟨h, hh⟩ : ∃ h, z5.heap.size = h := ⟨_, rfl⟩
  have Ez6 : Hid (Below w.heap.size w z6) := Ez5.out.trans (hb.mono Ez5.out.size)
  have Kbz6 : Hid (Bk z6 gb (labC L)) := Kbz5.out.below hb
  clear Ez5 Kbz5
  rw [hh] at hkn HNH ⊢
  have Knz6 : Hid (Bk z6 h (NdC g L)) := hkn
  clear hb hkn hh
  have HGW : Hid (w.heap.size ≤ z6.heap.size) := Ez6.out.size
  refine (walGet_calls z6 g gs lv s 1 (DiskAt.below HD.out Ez6.out)).mono ?_
  intro en z7 hp
  obtain ⟨r, hr⟩ : ∃ r, (s.walGet 1).1 = r := ⟨_, rfl⟩
  obtain ⟨er, her⟩ : ∃ er, (s.walGet 1).2 = er := ⟨_, rfl⟩
  have HRR := Lib.hid hr
  have HER := Lib.hid her
  rw [hr, her] at hp
  clear hr her
  obtain ⟨A, c, rfl, hR, hnc, hcm, hb⟩ := hp
  have HRW : Hid (RdX z6.heap.size z7 A (r.ps.flatMap putC)) := hR
  have Ez7 : Hid (Below w.heap.size w z7) := Ez6.out.trans (hb.mono Ez6.out.size)
  have Kbz7 : Hid (Bk z7 gb (labC L)) := Kbz6.out.below hb
  have Knz7 : Hid (Bk z7 h (NdC g L)) := Knz6.out.below hb
  clear Ez6 Kbz6 Knz6
  clear hb hR
  go_wp2_with (refine wpList_al rfl 25 rfl zR (by kernel_rfl) ?_)
  intro gr z8 hg hb hc hs
  have HQr : Hid (Below z7.heap.size z7 z8) := hc.below (Nat.le_refl _) (fun _ _ => id)
  have HGr : Hid (gr = z7.heap.size) := hg
  have KZr := Lib.hid hb
  clear hg hb hc hs
  go_wp2_with (refine wpList_st rfl 25 (.tmp 8) (.tmp 36) rfl gr 0 3 zR [vu32 r.e, vu32 r.q, .slice A r.ps.length c] rfl rfl KZr.out (by kernel_rfl) rfl (by decide) (one_rec _ _ _ _ _) ?_)
  intro z9 hbk hc
  rw [splice_whole zR [vu32 r.e, vu32 r.q, .slice A r.ps.length c] rfl] at hbk
  have hb : Below z7.heap.size z7 z9 := HQr.out.trans (hc.below HQr.out.size (fun q hq he => by have := HGr.out; omega))
  have Abr : Hid (gb < gr) := by show _ < _; have := Kbz7.out.lt; have := HGr.out; omega
  have Anr : Hid (h < gr) := by show _ < _; have := Knz7.out.lt; have := HGr.out; omega
  have Ez9 : Hid (Below w.heap.size w z9) := Ez7.out.trans (hb.mono Ez7.out.size)
  have Kbz9 : Hid (Bk z9 gb (labC L)) := Kbz7.out.below hb
  have Knz9 : Hid (Bk z9 h (NdC g L)) := Knz7.out.below hb
  clear Ez7 Kbz7 Knz7
  have Yrwz9 : Hid (RdX z6.heap.size z9 A (r.ps.flatMap putC)) := HRW.out.below hb
  clear HRW
  have Krz9 : Hid (Bk z9 gr [vu32 r.e, vu32 r.q, .slice A r.ps.length c]) := hbk
  have Krz9 : Hid (Bk z9 gr [vu32 r.e, vu32 r.q, .slice A r.ps.length c]) := hbk
  clear hbk hb hc KZr HQr HGr
  by_cases h11 : er = 11
  case pos =>
    have HF := Lib.hid (nOpen_form HLEN.out HRE.out (by rw [HX.out]; exact HLD.out) (by rw [HER.out]; exact h11))
    subst h11
    go_wp2_with fail
    (try simp only [Exit.inBlock, Exit.then])
    go_ret2
    rw [HF.out]
    exact OPost.yes HD.out Ez9.out Knz9.out HNH.out
  by_cases h0 : er = 0
  case neg =>
    have HF := Lib.hid (nOpen_get HLEN.out HRE.out (by rw [HX.out]; exact HLD.out) (by rw [HER.out]; exact h11) (by rw [HER.out]; exact h0))
    have HZ := Lib.hid h0
    go_wp2_with fail
    (try simp only [Exit.inBlock, Exit.then])
    go_ret2
    rw [HF.out, HER.out]
    exact OPost.no HD.out Ez9.out HZ.out
  subst h0
  clear h11
  have HGT : Hid (s.walGet 1 = (r, 0)) := by show _ = _; rw [← HRR.out, ← HER.out]
  have hgo := get_good HER.out (fun i => DAt.readB_len HD.out i)
  rw [HRR.out] at hgo
  have HGD := Lib.hid hgo.1
  have HPO := Lib.hid hgo.2
  clear hgo
  go_wp2_with (refine wpList_ld rfl 25 (.tmp 8) rfl gr 0 3 [vu32 r.e, vu32 r.q, .slice A r.ps.length c] [vu32 r.e, vu32 r.q, .slice A r.ps.length c] rfl Krz9.out (by kernel_rfl) (by kernel_rfl) (Nat.le_refl 3) rfl ?_)
  refine (ndLater_calls z9 g h L Knz9.out r.e r.q (.slice A r.ps.length c)).mono ?_
  rintro en z10 ⟨rfl, hb⟩
  have Ez10 : Hid (Below w.heap.size w z10) := Ez9.out.trans (hb.mono Ez9.out.size)
  have Kbz10 : Hid (Bk z10 gb (labC L)) := Kbz9.out.below hb
  have Knz10 : Hid (Bk z10 h (NdC g L)) := Knz9.out.below hb
  have Krz10 : Hid (Bk z10 gr [vu32 r.e, vu32 r.q, .slice A r.ps.length c]) := Krz9.out.below hb
  clear Ez9 Kbz9 Knz9 Krz9
  have Yrwz10 : Hid (RdX z6.heap.size z10 A (r.ps.flatMap putC)) := Yrwz9.out.below hb
  clear Yrwz9
  clear hb
  by_cases hlat : laterB r.e r.q L.e L.s = true
  case neg =>
    have HF := Lib.hid (nOpen_old HLEN.out HRE.out (by rw [HX.out]; exact HLD.out) HGT.out hlat)
    rw [Bool.eq_false_iff.2 hlat]
    clear hlat
    go_wp2_with fail
    (try simp only [Exit.inBlock, Exit.then])
    go_ret2
    rw [HF.out]
    exact OPost.yes HD.out Ez10.out Knz10.out HNH.out
  have HF := Lib.hid (nOpen_go HLEN.out HRE.out (by rw [HX.out]; exact HLD.out) HGT.out hlat)
  rw [hlat]
  clear hlat
  have b3 := Kbz10.out.cell (j := 3) rfl
  go_wp2_with (refine wpList_ld rfl 25 (.tmp 8) rfl gr 0 3 [vu32 r.e, vu32 r.q, .slice A r.ps.length c] [vu32 r.e, vu32 r.q, .slice A r.ps.length c] rfl Krz10.out (by kernel_rfl) (by kernel_rfl) (Nat.le_refl 3) rfl ?_)
  clear b3
  have hgd := goodB_at HGD.out
  refine (ndCarry_calls z10 g gs lv h s L m r.e r.q r.ps A r.ps.length c L.d (DiskAt.below HD.out Ez10.out) Knz10.out (fun hj => by have := DiskAt.lt HD.out _ hj; have := HNH.out; omega) HOK.out hm rfl (by have := hgd.2.1; omega)
    (fun w' hc => Yrwz10.out _ w' hc (fun j hj => by have := DiskAt.lt HD.out _ hj; have := HGW.out; omega)) HPO.out (fun p hp => by have := hgd.2.2.1 p hp; omega)).mono ?_
  intro en w9 hp
  obtain ⟨rfl, lv9, hd9, hk9, hf9, hc9⟩ := hp
  have HSZ : Hid (w.heap.size ≤ z10.heap.size) := Ez10.out.size
  have HC9 : Hid (Chg (footD g gs lv) w w9) := ((Chg.of_below (S := NoS) Ez10.out).mono (fun _ hj => hj.elim)).then_ hc9 (fun j hj hlt => hj.elim id (fun he => by have := HNH.out; omega))
  have HD9 := Lib.hid hd9
  have HK9 := Lib.hid hk9
  have HF9 : Hid (∀ j, footD g gs lv9 j → footD g gs lv j ∨ w.heap.size ≤ j) := fun j hj => (hf9 j hj).imp id (fun hh => by have := HSZ.out; omega)
  have HN9 : Hid (¬ footD g gs lv9 h) := fun hj => (hf9 h hj).elim (fun hh => by have := DiskAt.lt HD.out _ hh; have := HNH.out; omega) (fun hh => by have := Knz10.out.lt; omega)
  clear hd9 hk9 hf9 hc9 hgd
  obtain ⟨cc, hcc⟩ : ∃ cc, s.carry r.ps (carryL L r.e r.q r.ps L.d) = cc := ⟨_, rfl⟩
  rw [hcc] at HF HD9 HK9 ⊢
  clear hcc
  by_cases hz : cc.2 = 0
  case neg =>
    obtain ⟨z, hzz⟩ : ∃ z, cc.2 = z := ⟨_, rfl⟩
    have HZ := Lib.hid hz
    have HZZ := Lib.hid hzz
    rw [hzz] at hz ⊢
    clear hzz
    go_wp2_with fail
    (try simp only [Exit.inBlock, Exit.then])
    go_ret2
    rw [HF.out]
    exact ⟨lv9, HD9.out, HF9.out, HC9.out, by rw [if_neg HZ.out, HZZ.out]; rfl⟩
  have HZ := Lib.hid hz
  rw [hz]
  clear hz
  go_wp2_with fail
  (try simp only [Exit.inBlock, Exit.then])
  go_ret2
  rw [HF.out]
  refine ⟨lv9, HD9.out, HF9.out, HC9.out, ?_⟩
  show (if cc.2 = 0 then _ else _)
  rw [if_pos HZ.out]
  have hk := HK9.out
  rw [labAfter, if_pos HZ.out] at hk
  exact ⟨h, rfl, hk, HNH.out, HN9.out⟩
end Go.Proofs.Ytcmfkdfegfablaa


/- A node on a disk that is up: its operations, through calls. -/
namespace Go.Proofs.Ytcmfkdfegfablaa
open Go.RowKit
set_option linter.unusedVariables false
set_option linter.unusedSimpArgs false

def UpD (S : List (List UInt8)) : Dst := ⟨S, [], -1, false⟩
def S0 : List (List UInt8) := List.replicate 19 (List.replicate 32 0)
theorem S0_len : S0.length = 19 := rfl
theorem new_up : Dst.new 19 = UpD S0 := rfl
theorem dec_up (k : Nat) : dec (-1) k = -1 := by unfold dec; rw [if_pos (by decide)]
theorem ok_up (S : List (List UInt8)) : DOk (-1) 0 (UpD S) := ⟨Nat.zero_le _, Int.le_refl _, by show (-1 : Int) ≤ _; decide⟩
theorem put_up_ok {S : List (List UInt8)} {e q : UInt32} {ps : List PutV} (h : S.length = 19) (hg : goodB ps = true) : DOk (-1) 0 ((UpD S).walPut 1 e q ps).1 := by
  have hp := put_all (S := S) (fr := 1) (f := -1) (e := e) (q := q) (by omega) hg (.inl (by decide))
  have hp' : (UpD S).walPut 1 e q ps = (⟨putS S 1 e q ps, [], dec (-1) (ps.length + 3), false⟩, 0) := hp
  rw [hp', dec_up]
  exact ok_up _
theorem up_apply {S : List (List UInt8)} {L : Lab} {e q : UInt32} {ps : List PutV} {d : UInt16} (h : S.length = 19) (hg : goodB ps = true) (hl : laterB e q L.e L.s = true) : (UpD S).nApply L e q ps d = (UpD (appS S e q ps (carryL L e q ps d)), 0) := by
  have := apply_all (S := S) (f := -1) (d := d) h hg hl (.inl (by decide))
  rw [dec_up] at this
  exact this
theorem up_setLab {S : List (List UInt8)} {l : Lab} (h : S.length = 19) : (UpD S).setLab l = (UpD (S.set 0 (labEnc l)), 0) := by
  have := setLab_all (S := S) (f := -1) (l := l) h (.inl (by decide))
  rw [dec_up] at this
  exact this
theorem up_up (S : List (List UInt8)) (ks : List UInt8) : (UpD S).up ks = UpD S := rfl
theorem up_block {S : List (List UInt8)} (h : S.length = 19) {b : Nat} (hb : b < 12) : (UpD S).readB (7 + (b : Int)) = S.getD (7 + b) [] ∧ (UpD S).readE (7 + (b : Int)) = 0 := by
  have := read_up (S := S) (f := -1) (i := 7 + b) (by omega)
  rw [show (((7 + b : Nat)) : Int) = 7 + (b : Int) by omega] at this
  exact this
theorem up_open {S : List (List UInt8)} {L : Lab} {r : Rec} (h : S.length = 19) (h0 : S.getD 0 [] = labEnc L) (hg : (UpD S).walGet 1 = (r, 0)) (hl : ¬ laterB r.e r.q L.e L.s = true) : (UpD S).nOpen = (UpD S, 0, L) := by
  have hr := read_up (S := S) (f := -1) (i := 0) (by omega)
  exact nOpen_old (r := r) h hr.2 (by rw [show (UpD S).readB 0 = _ from hr.1, h0, lab_back]) hg hl
theorem open_new : (UpD S0).nOpen = (UpD S0, 0, zLab) := new_open
theorem labAfter_zero (L l : Lab) : labAfter L l 0 = l := rfl
theorem labAfter_not {L l : Lab} {z : Int} (h : ¬ z = 0) : labAfter L l z = L := if_neg h
/-- The sectors behind a label that was set. -/
theorem set_len (S : List (List UInt8)) (l : Lab) : (S.set 0 (labEnc l)).length = S.length := List.length_set
theorem set_lab {S : List (List UInt8)} {l : Lab} (h : S.length = 19) : (S.set 0 (labEnc l)).getD 0 [] = labEnc l := getD_set_same (by omega)
theorem set_other {S : List (List UInt8)} {l : Lab} {j : Nat} (h : 0 < j) : (S.set 0 (labEnc l)).getD j [] = S.getD j [] := getD_set_other (by omega)
/-- What is got of the log stands in its six sectors alone. -/
theorem get_same {S T : List (List UInt8)} (hS : S.length = 19) (hT : T.length = 19) (h : ∀ j, 1 ≤ j → j < 7 → S.getD j [] = T.getD j []) : (UpD S).walGet 1 = (UpD T).walGet 1 := by
  have e1 : ∀ i : Nat, 1 ≤ i → i < 7 → (UpD S).readB (i : Int) = (UpD T).readB (i : Int) := fun i h1 h2 => by
    rw [(read_up (S := S) (f := -1) (i := i) (by omega)).1 |> (fun x => (x : (UpD S).readB (i : Int) = _)), (read_up (S := T) (f := -1) (i := i) (by omega)).1 |> (fun x => (x : (UpD T).readB (i : Int) = _)), h i h1 h2]
  have hm1 : mayB (UpD S).S.length 1 = true := by show mayB S.length 1 = true; rw [hS]; decide
  have hm2 : mayB (UpD T).S.length 1 = true := by show mayB T.length 1 = true; rw [hT]; decide
  have r1 : (UpD S).readE 1 = 0 := (read_up (S := S) (f := -1) (i := 1) (by omega)).2
  have r2 : (UpD T).readE 1 = 0 := (read_up (S := T) (f := -1) (i := 1) (by omega)).2
  have ex := e1 1 (by decide) (by decide)
  have ex' : (UpD S).readB 1 = (UpD T).readB 1 := ex
  by_cases hf : formB ((UpD T).readB 1) = true
  · rw [walGet_d hm1 r1 ex' hf, walGet_d hm2 r2 rfl hf]
    have hn : nOf ((UpD T).readB 1) ≤ 5 := (formB_iff.1 hf).2.2.1
    simp only [recOf]
    rw [putsK_congr (fun i hi => ?_)]
    have := e1 (2 + i) (by omega) (by omega)
    rw [show (((2 + i : Nat)) : Int) = 1 + 1 + (i : Int) by omega] at this
    exact this
  · rw [walGet_c hm1 r1 ex' hf, walGet_c hm2 r2 rfl hf]
/-! ### through calls -/
theorem DSes.onto {w0 w w' : World} {g gs x : Nat} {lv lv' : Value} {s t : Dst} (h : DSes 92 w0 w g gs lv s) (hd : DAt 92 w' g gs lv' t) (hft : ∀ j, footD g gs lv' j → footD g gs lv j ∨ w.heap.size ≤ j) (hch : Chg (fun j => footD g gs lv j ∨ j = x) w w') (hx : w0.heap.size ≤ x) : DSes 92 w0 w' g gs lv' t :=
  ⟨hd, fun j hj => (hft j hj).elim (h.fr j) (fun hh => Nat.le_trans h.bel.size hh), h.bel.trans (hch.below h.bel.size (fun k hk hf => hf.elim (fun hf => by have := h.fr k hf; omega) (fun hf => by omega)))⟩
theorem NPost.chg {w w' : World} {g gs h : Nat} {lv : Value} {t : Dst} {L : Lab} {r : Value} {e : Ending} (hp : NPost w g gs lv h t L r e w') : Chg (fun j => footD g gs lv j ∨ j = h) w w' := by
  obtain ⟨_, _, _, _, _, h5⟩ := hp
  exact h5
theorem DSes.npost {w0 w w' : World} {g gs h : Nat} {lv : Value} {s t : Dst} {L : Lab} {r : Value} {e : Ending} (hs : DSes 92 w0 w g gs lv s) (hp : NPost w g gs lv h t L r e w') (hh : w0.heap.size ≤ h) : e = .returned r ∧ ∃ lv', DSes 92 w0 w' g gs lv' t ∧ Bk w' h (NdC g L) ∧ ∀ j, footD g gs lv' j → footD g gs lv j ∨ w.heap.size ≤ j := by
  obtain ⟨h1, lv', h2, h3, h4, h5⟩ := hp
  exact ⟨h1, lv', hs.onto h2 h4 h5 hh, h3, h4⟩
theorem DSes.opost {w0 w w' : World} {g gs : Nat} {lv : Value} {s t : Dst} {L : Lab} {e : Ending} (hs : DSes 92 w0 w g gs lv s) (hp : OPost w g gs lv t 0 L e w') : ∃ h lv', e = .returned (.tuple #[.pointer (some ⟨h, 0, none⟩), .int .i64 0]) ∧ DSes 92 w0 w' g gs lv' t ∧ Bk w' h (NdC g L) ∧ w.heap.size ≤ h ∧ ¬ footD g gs lv' h ∧ (∀ j, footD g gs lv' j → footD g gs lv j ∨ w.heap.size ≤ j) ∧ Chg (footD g gs lv) w w' := by
  obtain ⟨lv', h2, h4, h5, h6⟩ := hp
  rw [if_pos rfl] at h6
  obtain ⟨h, h7, h8, h9, h10⟩ := h6
  exact ⟨h, lv', h7, hs.onto (x := w.heap.size) h2 h4 (h5.mono fun _ hj => .inl hj) hs.bel.size, h8, h9, h10, h4, h5⟩
set_option maxRecDepth 100000 in
set_option maxHeartbeats 2000000 in
theorem ndNew_calls (w0 w : World) (hb : Below w0.heap.size w0 w) : Calls Try.prog 18 #[] w fun e w' => ∃ g gs, e = .returned (.pointer (some ⟨g, 0, none⟩)) ∧ DSes 92 w0 w' g gs (.slice none 0 0) (UpD S0) ∧ (∀ j, footD g gs (.slice none 0 0) j → w.heap.size ≤ j) ∧ Below w.heap.size w w' := by
  go_enter Try.func18, Try.ntmps18
  go_wp2_with fail
  refine (diskNew_yes 19 w (by decide) (by decide)).mono ?_
  intro en w1 hp
  have hbel := hp.bel
  obtain ⟨g, gs, rfl, hd, hfe⟩ := DSes.new2 (wT := 92) (by decide) hb hp
  have HD := Lib.hid hd
  have HFE := Lib.hid hfe
  have HBE := Lib.hid hbel
  clear hp hd hfe hbel
  go_wp2_with fail
  (try simp only [Exit.inBlock, Exit.then])
  go_ret
  exact ⟨g, gs, rfl, HD.out, HFE.out, HBE.out⟩
end Go.Proofs.Ytcmfkdfegfablaa


/- Labels, held against each other. -/
namespace Go.Proofs.Ytcmfkdfegfablaa
open Go.RowKit
set_option linter.unusedVariables false
set_option linter.unusedSimpArgs false

theorem run_equalIn_struct {P : Program} {w : World} (d : Nat) (t : TypeId) (fs : Array Field) (ht : P.underlying t = some (.struct fs)) (hst : P.stoodInHeld t = false) (xs ys : List Value) (R : Field → Bool)
    (hf : ∀ f ∈ fs.toList, f.name ≠ "_" ∧ ∃ k a b, P.underlying f.type = some (.int k) ∧ xs[f.offset]? = some (.int k a) ∧ ys[f.offset]? = some (.int k b) ∧ R f = (a == b)) :
    (Op.equalIn (d + 2) t (.agg xs.toArray) (.agg ys.toArray)).run P w = .ok (fs.toList.all R) w := by
  have loop : ∀ (L : List Field), (∀ f ∈ L, f ∈ fs.toList) → (forIn L ((none : Option Bool), ()) fun (f : Field) __s =>
        if f.name ≠ "_" then do
          let a ← part f.type xs.toArray f.offset
          let b ← part f.type ys.toArray f.offset
          let r ← Op.equalIn (d + 1) f.type a b
          if (!r) = true then pure (ForInStep.done (some false, ())) else pure (ForInStep.yield (none, ()))
        else pure (ForInStep.yield (none, ()))).run P w =
      .ok (if L.all R = true then (none, ()) else (some false, ())) w := by
    intro L
    induction L with
    | nil => intro _; simp
    | cons f L ih =>
      intro hL
      obtain ⟨hn, k, a, b, hu, hx, hy, hR⟩ := hf f (hL f List.mem_cons_self)
      have key : (Op.equalIn (d + 1) f.type (.int k a) (.int k b)).run P w = .ok (a == b) w := by simp [Op.equalIn, run_underlying hu]
      have hx' : xs.toArray[f.offset]? = some (.int k a) := by simpa using hx
      have hy' : ys.toArray[f.offset]? = some (.int k b) := by simpa using hy
      rw [List.forIn_cons, if_pos hn]
      simp only [Sem.run_bind, run_part_int hu _ _ _ hx', run_part_int hu _ _ _ hy', key, Result.andThen_ok]
      cases hab : (a == b) with
      | true =>
        simp only [Bool.not_true, Bool.false_eq_true, if_false, Sem.run_pure, Result.andThen_ok]
        rw [ih (fun g hg => hL g (List.mem_cons_of_mem _ hg))]
        simp [hR, hab]
      | false =>
        simp only [Bool.not_false, if_true, Sem.run_pure, Result.andThen_ok]
        simp [hR, hab]
  rw [Op.equalIn.eq_def]
  simp only [Sem.run_bind, run_underlying ht, Result.andThen_ok, run_program, hst, Sem.run_pure]
  rw [if_neg (by decide), ← Array.forIn_toList, Sem.run_bind, loop fs.toList (fun f h => h)]
  cases h : fs.toList.all R <;> simp
/-- Two labels are alike. -/
theorem run_eq_lab {w : World} (d : Nat) (k l : Lab) : (Op.equalIn (d + 2) 40 (.agg (labC k).toArray) (.agg (labC l).toArray)).run Try.prog w = .ok (decide (k = l)) w := by
  rw [run_equalIn_struct (P := Try.prog) d 40 _ Try.underlying40 (by kernel_rfl) (labC k) (labC l) (fun f =>
    if f.offset = 0 then ((k.e.toNat : Int) == (l.e.toNat : Int)) else if f.offset = 1 then ((k.s.toNat : Int) == (l.s.toNat : Int)) else if f.offset = 2 then ((k.n.toNat : Int) == (l.n.toNat : Int)) else if f.offset = 3 then ((k.d.toNat : Int) == (l.d.toNat : Int)) else ((k.la.toNat : Int) == (l.la.toNat : Int))) ?_]
  · congr 1
    rw [Bool.eq_iff_iff, decide_eq_true_iff]
    constructor
    · intro h
      simp only [List.all_cons, List.all_nil, Bool.and_true, Bool.and_eq_true] at h
      obtain ⟨h0, h1, h2, h3, h4⟩ := h
      have g0 : ((k.e.toNat : Int) == (l.e.toNat : Int)) = true := h0
      have g1 : ((k.s.toNat : Int) == (l.s.toNat : Int)) = true := h1
      have g2 : ((k.n.toNat : Int) == (l.n.toNat : Int)) = true := h2
      have g3 : ((k.d.toNat : Int) == (l.d.toNat : Int)) = true := h3
      have g4 : ((k.la.toNat : Int) == (l.la.toNat : Int)) = true := h4
      rw [beq_iff_eq] at g0 g1 g2 g3 g4
      have e0 := UInt32.toNat_inj.1 (show k.e.toNat = l.e.toNat by omega)
      have e1 := UInt32.toNat_inj.1 (show k.s.toNat = l.s.toNat by omega)
      have e2 := UInt32.toNat_inj.1 (show k.n.toNat = l.n.toNat by omega)
      have e3 := UInt16.toNat_inj.1 (show k.d.toNat = l.d.toNat by omega)
      have e4 := UInt16.toNat_inj.1 (show k.la.toNat = l.la.toNat by omega)
      cases k
      cases l
      simp_all
    · rintro rfl
      simp
  · intro f hf
    simp only [List.mem_cons, List.not_mem_nil, or_false] at hf
    rcases hf with rfl | rfl | rfl | rfl | rfl
    · exact ⟨by decide, .u32, _, _, Try.underlying22, rfl, rfl, rfl⟩
    · exact ⟨by decide, .u32, _, _, Try.underlying22, rfl, rfl, rfl⟩
    · exact ⟨by decide, .u32, _, _, Try.underlying22, rfl, rfl, rfl⟩
    · exact ⟨by decide, .u16, _, _, Try.underlying38, rfl, rfl, rfl⟩
    · exact ⟨by decide, .u16, _, _, Try.underlying38, rfl, rfl, rfl⟩
/-- '==' and '!=' of labels as an operation. -/
theorem wp_eq_lab {w : World} {o : Oper} {a : Act} {K : Act → World → Prop} {Q : Exit → Act → World → Prop} (neg : Bool) (ty : TypeId) (x y : Operand) (ho : o.op = .binOp (if neg then .neq else .eql) 40 x y ty)
    (k l : Lab) (hx : a.eval x = .agg (labC k).toArray) (hy : a.eval y = .agg (labC l).toArray)
    (h : K (a.put o.dst (.bool (neg ^^ decide (k = l)))) w) : o.wp Try.prog a w K Q := by
  have hm : Try.prog.eqGuardType Try.prog.depth 40 = false := by kernel_rfl
  have h1 : (binOp .eql 40 (.agg (labC k).toArray) (.agg (labC l).toArray)).run Try.prog w = .ok (.bool (decide (k = l))) w := by
    rw [run_eql_struct, run_eq_lab 9998]
    rfl
  have h2 : (binOp .neq 40 (.agg (labC k).toArray) (.agg (labC l).toArray)).run Try.prog w = .ok (.bool (!decide (k = l))) w := by
    rw [run_neq_struct, run_eq_lab 9998]
    rfl
  unfold Oper.wp execOp
  cases neg
  · simp only [ho, Bool.false_eq_true, if_false, hx, hy, Sem.run_bind, run_eqGuard_agg w _ _ _ _ _ _ hm, Result.andThen_ok, h1, Sem.run_pure]
    rw [Oper.upon_value]
    simpa using h
  · simp only [ho, if_true, hx, hy, Sem.run_bind, run_eqGuard_agg w _ _ _ _ _ _ hm, Result.andThen_ok, h2, Sem.run_pure]
    rw [Oper.upon_value]
    simpa using h
theorem wpList_eq_lab {o : Oper} {a : Act} {w : World} {Q : Exit → Act → World → Prop} {ops : Array Oper} {rest : List Oper} (hw : Region.wanted o (yielded ops a.tmps) = true) (neg : Bool) (ty : TypeId) (x y : Operand) (ho : o.op = .binOp (if neg then .neq else .eql) 40 x y ty)
    (k l : Lab) (hx : a.eval x = .agg (labC k).toArray) (hy : a.eval y = .agg (labC l).toArray) (r : Bool) (hr : (neg ^^ decide (k = l)) = r)
    (h : wpList Try.prog ops Q rest (a.put o.dst (.bool r)) w) : wpList Try.prog ops Q (o :: rest) a w := by
  subst hr
  exact wpl hw fun K hK => wp_eq_lab neg ty x y ho k l hx hy (hK _ _ h)
end Go.Proofs.Ytcmfkdfegfablaa


/- law09's own trial. -/
namespace Go.Proofs.Ytcmfkdfegfablaa
open Go.RowKit
set_option linter.unusedVariables false
set_option linter.unusedSimpArgs false

theorem wpList_bs1 {P : Program} {o : Oper} {a : Act} {w : World} {Q : Exit → Act → World → Prop} {ops : Array Oper} {rest : List Oper} (hw : Region.wanted o (yielded ops a.tmps) = true) (t elem : TypeId) (x : Operand) (ho : o.op = .buildSlice t 1 #[(0, x)]) (z : Value) (n : Nat) (us : List Value) (hu : P.underlying t = some (.slice elem)) (hinfo : (P.info? elem).map (fun i => (i.zero, i.size)) = some (some z, n))
    (hz : z.cells.size = n) (hn : 0 < n) (hn2 : n ≤ 1000) (hx : (a.eval x).cells.toList = us) (hl : us.length = n)
    (h : ∀ g w', g = w.heap.size → Bk w' g us → Chg NoS w w' → wpList P ops Q rest (a.put o.dst (.slice (some ⟨g, 0, none⟩) 1 1)) w') : wpList P ops Q (o :: rest) a w :=
  wpl hw fun K hK => wp_bs1 t elem x ho z n us hu hinfo hz hn hn2 hx hl (hK _ _ (h _ _ rfl (Bk.new w us elem) ((Chg.refl w).alloc _)))
def np3 : PutV := ⟨3, List.replicate 32 7⟩
def nps : List PutV := [np3]
theorem nwFlat : nps.flatMap putC = putC np3 := by simp [nps]
theorem nwPuts : PutsOk nps := by
  intro p hp
  obtain rfl := List.mem_singleton.1 hp
  exact ⟨rfl, by decide, by decide⟩
theorem nwGood : goodB nps = true := by decide +kernel
def nwL : Lab := carryL zLab 1 5 nps 9
def nwS : List (List UInt8) := appS S0 1 5 nps nwL
theorem nwLen : nwS.length = 19 := by rw [nwS, appS_length]; rfl
theorem nwA1 : (UpD S0).nApply zLab 1 5 nps 9 = (UpD nwS, 0) := up_apply S0_len nwGood (by decide +kernel)
theorem nwLA : labAfter zLab (carryL zLab 1 5 nps 9) (UpD nwS, (0 : Int)).2 = nwL := rfl
theorem nwLater : ¬ laterB 1 5 nwL.e nwL.s = true := by decide +kernel
theorem nwA2 : (UpD nwS).nApply nwL 1 5 nps 9 = (UpD nwS, 23) := nApply_old nwGood nwLater
theorem nwLB : labAfter nwL (carryL nwL 1 5 nps 9) (UpD nwS, (23 : Int)).2 = nwL := rfl
theorem nwOp : (UpD nwS).nOpen = (UpD nwS, 0, nwL) := up_open (r := ⟨1, 5, nps⟩) nwLen (appS_lab S0_len) (appS_get S0_len nwGood) nwLater
theorem nwB0 : nwS.getD (7 + 3) [] = List.replicate 32 7 := by rw [nwS, appS_blk S0_len nwGood (by decide)]; rfl
theorem nwB1 : (UpD nwS).readB (7 + 3) = List.replicate 32 7 := (up_block nwLen (b := 3) (by decide)).1.trans nwB0
theorem nwB2 : (UpD nwS).readE (7 + 3) = 0 := (up_block nwLen (b := 3) (by decide)).2
theorem nw32 : (bts (List.replicate 32 7)).length = 32 := rfl
theorem nw32z : (bts (List.replicate 32 0)).length = 32 := rfl
theorem nwEq : (false ^^ decide (nwL = Lab.mk 1 5 6 9 8)) = true := by decide +kernel
set_option maxRecDepth 100000 in
set_option maxHeartbeats 8000000 in
theorem wakes9_calls (w : World) : Calls Try.prog 11 #[] w fun e w' => e = .returned (.bool true) ∧ Below w.heap.size w w' := by
  go_enter Try.func11, Try.ntmps11
  go_wp2_with fail
  refine (ndNew_calls w w (Below.refl _ _)).mono ?_
  rintro en w1 ⟨gd, gsd, rfl, hd, hfe, hb⟩
  have Ew1 : Hid (Below w.heap.size w w1) := hb
  have Ddw1 : Hid (DSes 92 w w1 gd gsd (.slice none 0 0) (UpD S0)) := hd
  clear hb hd hfe
  go_wp2_with fail
  have HSZn : Hid (w.heap.size ≤ w1.heap.size) := Ew1.out.size
  refine (ndOpen_calls w1 gd gsd (.slice none 0 0) (UpD S0) 0 Ddw1.out.at_ (ok_up _) (by decide)).mono ?_
  intro en w2 hp
  rw [open_new] at hp
  obtain ⟨hn, lvdw2, rfl, hd, hk, hge, hnf, hft, hch⟩ := DSes.opost Ddw1.out hp
  have Ddw2 : Hid (DSes 92 w w2 gd gsd lvdw2 (UpD S0)) := hd
  have Ew2 : Hid (Below w.heap.size w w2) := hd.bel
  have Knw2 : Hid (Bk w2 hn (NdC gd zLab)) := hk
  have Fdn : Hid (¬ footD gd gsd lvdw2 hn) := hnf
  have NHn : Hid (w.heap.size ≤ hn) := by show _ ≤ _; have := HSZn.out; omega
  clear hp hd hk hge hnf hft hch Ddw1 Ew1
  go_wp2_with fail
  refine (fill_calls 7 w2).mono ?_
  rintro en w3 ⟨rfl, hb⟩
  have Ew3 : Hid (Below w.heap.size w w3) := Ew2.out.trans (hb.mono Ew2.out.size)
  have Knw3 : Hid (Bk w3 hn (NdC gd zLab)) := Knw2.out.below hb
  have Ddw3 : Hid (DSes 92 w w3 gd gsd lvdw2 (UpD S0)) := Ddw2.out.below hb
  clear Ew2 Knw2 Ddw2
  clear hb
  go_wp2_with (first
    | (refine wpList_bld rfl 54 [(0, .const (.int .i64 3)), (1, .tmp 27)] rfl (.int .i64 0 :: bts (List.replicate 32 0)) [(0, [.int .i64 3]), (1, bts (List.replicate 32 7))] (putC np3) (by kernel_rfl) (by kernel_rfl) ⟨rfl, ⟨1, rfl, by kernel_rfl, by decide⟩, rfl, ⟨32, by rw [bts_length, List.length_replicate], by kernel_rfl, by decide⟩, trivial⟩ rfl ?_)
    | (refine wpList_bs1 rfl 23 54 (.tmp 28) rfl zPut 33 (putC np3) Try.underlying23 infoPut rfl (by decide) (by decide) rfl rfl ?_))
  intro gr w4 hg hbk hc
  have hb : Below w3.heap.size w3 w4 := hc.below (Nat.le_refl _) (fun _ _ => id)
  have Fdr : Hid (¬ footD gd gsd lvdw2 gr) := fun hj => by have := DiskAt.lt Ddw3.out.at_ _ hj; omega
  have Anr : Hid (hn < gr) := by show _ < _; have := Knw3.out.lt; omega
  have Ew4 : Hid (Below w.heap.size w w4) := Ew3.out.trans (hb.mono Ew3.out.size)
  have Knw4 : Hid (Bk w4 hn (NdC gd zLab)) := Knw3.out.below hb
  have Ddw4 : Hid (DSes 92 w w4 gd gsd lvdw2 (UpD S0)) := Ddw3.out.below hb
  clear Ew3 Knw3 Ddw3
  have Krw4 : Hid (Bk w4 gr (putC np3)) := hbk
  clear hbk hb hc hg
  go_wp2_with (first
    | (refine wpList_bld rfl 25 [(0, .const (.int .u32 1)), (1, .const (.int .u32 5)), (2, .tmp 29)] rfl zR [(0, [vu32 1]), (1, [vu32 5]), (2, [.slice (some ⟨gr, 0, none⟩) 1 1])] [vu32 1, vu32 5, .slice (some ⟨gr, 0, none⟩) 1 1] (by kernel_rfl) (by kernel_rfl) ⟨rfl, ⟨1, rfl, by kernel_rfl, by decide⟩, rfl, ⟨1, rfl, by kernel_rfl, by decide⟩, rfl, ⟨1, rfl, by kernel_rfl, by decide⟩, trivial⟩ rfl ?_)
    | (refine wpList_al rfl 25 rfl zR (by kernel_rfl) ?_))
  intro gb w5 hg hb hc hs
  have HQb : Hid (Below w4.heap.size w4 w5) := hc.below (Nat.le_refl _) (fun _ _ => id)
  have HGb : Hid (gb = w4.heap.size) := hg
  have KZb := Lib.hid hb
  clear hg hb hc hs
  go_wp2_with (refine wpList_st rfl 25 (.tmp 4) (.tmp 30) rfl gb 0 3 zR [vu32 1, vu32 5, .slice (some ⟨gr, 0, none⟩) 1 1] rfl rfl KZb.out (by kernel_rfl) rfl (by decide) (one_rec _ _ _ _ _) ?_)
  intro w6 hbk hc
  rw [splice_whole zR [vu32 1, vu32 5, .slice (some ⟨gr, 0, none⟩) 1 1] rfl] at hbk
  have hb : Below w4.heap.size w4 w6 := HQb.out.trans (hc.below HQb.out.size (fun q hq he => by have := HGb.out; omega))
  have Fdb : Hid (¬ footD gd gsd lvdw2 gb) := fun hj => by have := DiskAt.lt Ddw4.out.at_ _ hj; have := HGb.out; omega
  have Anb : Hid (hn < gb) := by show _ < _; have := Knw4.out.lt; have := HGb.out; omega
  have Arb : Hid (gr < gb) := by show _ < _; have := Krw4.out.lt; have := HGb.out; omega
  have Ew6 : Hid (Below w.heap.size w w6) := Ew4.out.trans (hb.mono Ew4.out.size)
  have Knw6 : Hid (Bk w6 hn (NdC gd zLab)) := Knw4.out.below hb
  have Krw6 : Hid (Bk w6 gr (putC np3)) := Krw4.out.below hb
  have Ddw6 : Hid (DSes 92 w w6 gd gsd lvdw2 (UpD S0)) := Ddw4.out.below hb
  clear Ew4 Knw4 Krw4 Ddw4
  have Kbw6 : Hid (Bk w6 gb [vu32 1, vu32 5, .slice (some ⟨gr, 0, none⟩) 1 1]) := hbk
  have Kbw6 : Hid (Bk w6 gb [vu32 1, vu32 5, .slice (some ⟨gr, 0, none⟩) 1 1]) := hbk
  clear hbk hb hc KZb HQb HGb
  go_wp2_with (refine wpList_ld rfl 25 (.tmp 4) rfl gb 0 3 [vu32 1, vu32 5, .slice (some ⟨gr, 0, none⟩) 1 1] [vu32 1, vu32 5, .slice (some ⟨gr, 0, none⟩) 1 1] rfl Kbw6.out (by kernel_rfl) (by kernel_rfl) (Nat.le_refl 3) rfl ?_)
  refine (ndApply_calls w6 gd gsd lvdw2 hn (UpD S0) zLab 0 1 5 nps (some ⟨gr, 0, none⟩) 1 1 9 Ddw6.out.at_ Knw6.out Fdn.out (ok_up _) (by decide) rfl (fun w' hc => by have h := (Krw6.out.chg hc Fdr.out).rd; rwa [← nwFlat] at h) nwPuts (fun hg _ => put_up_ok S0_len hg)).mono ?_
  intro en w7 hp
  rw [nwA1, nwLA] at hp
  have hch := NPost.chg hp
  obtain ⟨rfl, lvdw7, hd, hk, hft⟩ := DSes.npost Ddw6.out hp NHn.out
  have Ddw7 : Hid (DSes 92 w w7 gd gsd lvdw7 (UpD nwS)) := hd
  have Ew7 : Hid (Below w.heap.size w w7) := hd.bel
  have Krw7 : Hid (Bk w7 gr (putC np3)) := Krw6.out.chg hch (fun hj => hj.elim Fdr.out (fun he => by have := Anr.out; omega))
  have Fdr : Hid (¬ footD gd gsd lvdw7 gr) := fun hj => (hft _ hj).elim Fdr.out (fun h => by have := Krw6.out.lt; omega)
  have Kbw7 : Hid (Bk w7 gb [vu32 1, vu32 5, .slice (some ⟨gr, 0, none⟩) 1 1]) := Kbw6.out.chg hch (fun hj => hj.elim Fdb.out (fun he => by have := Anb.out; omega))
  have Fdb : Hid (¬ footD gd gsd lvdw7 gb) := fun hj => (hft _ hj).elim Fdb.out (fun h => by have := Kbw6.out.lt; omega)
  have Knw7 : Hid (Bk w7 hn (NdC gd nwL)) := hk
  have Fdn : Hid (¬ footD gd gsd lvdw7 hn) := fun hj => (hft _ hj).elim Fdn.out (fun h => by have := Knw6.out.lt; omega)
  clear hp hd hk hft hch Knw6 Krw6 Kbw6 Ddw6 Ew6
  go_wp2_with (refine wpList_ld rfl 25 (.tmp 4) rfl gb 0 3 [vu32 1, vu32 5, .slice (some ⟨gr, 0, none⟩) 1 1] [vu32 1, vu32 5, .slice (some ⟨gr, 0, none⟩) 1 1] rfl Kbw7.out (by kernel_rfl) (by kernel_rfl) (Nat.le_refl 3) rfl ?_)
  refine (ndApply_calls w7 gd gsd lvdw7 hn (UpD nwS) nwL 0 1 5 nps (some ⟨gr, 0, none⟩) 1 1 9 Ddw7.out.at_ Knw7.out Fdn.out (ok_up _) (by decide) rfl (fun w' hc => by have h := (Krw7.out.chg hc Fdr.out).rd; rwa [← nwFlat] at h) nwPuts (fun hg _ => put_up_ok nwLen hg)).mono ?_
  intro en w8 hp
  rw [nwA2, nwLB] at hp
  have hch := NPost.chg hp
  obtain ⟨rfl, lvdw8, hd, hk, hft⟩ := DSes.npost Ddw7.out hp NHn.out
  have Ddw8 : Hid (DSes 92 w w8 gd gsd lvdw8 (UpD nwS)) := hd
  have Ew8 : Hid (Below w.heap.size w w8) := hd.bel
  have Krw8 : Hid (Bk w8 gr (putC np3)) := Krw7.out.chg hch (fun hj => hj.elim Fdr.out (fun he => by have := Anr.out; omega))
  have Fdr : Hid (¬ footD gd gsd lvdw8 gr) := fun hj => (hft _ hj).elim Fdr.out (fun h => by have := Krw7.out.lt; omega)
  have Kbw8 : Hid (Bk w8 gb [vu32 1, vu32 5, .slice (some ⟨gr, 0, none⟩) 1 1]) := Kbw7.out.chg hch (fun hj => hj.elim Fdb.out (fun he => by have := Anb.out; omega))
  have Fdb : Hid (¬ footD gd gsd lvdw8 gb) := fun hj => (hft _ hj).elim Fdb.out (fun h => by have := Kbw7.out.lt; omega)
  have Knw8 : Hid (Bk w8 hn (NdC gd nwL)) := hk
  have Fdn : Hid (¬ footD gd gsd lvdw8 hn) := fun hj => (hft _ hj).elim Fdn.out (fun h => by have := Knw7.out.lt; omega)
  clear hp hd hk hft hch Knw7 Krw7 Kbw7 Ddw7 Ew7
  go_wp2_with fail
  refine (diskUp_at w8 gd gsd lvdw8 (UpD nwS) none 0 0 [] Ddw8.out.at_ rfl (fun w' _ => Rd.nil _ _)).mono ?_
  intro en w9 hp
  have hch := DPost.chgF hp
  obtain ⟨rfl, lvdw9, hd, hft⟩ := DSes.post2 Ddw8.out hp
  have Ddw9 : Hid (DSes 92 w w9 gd gsd lvdw9 (UpD nwS)) := hd
  have Ew9 : Hid (Below w.heap.size w w9) := hd.bel
  have Knw9 : Hid (Bk w9 hn (NdC gd nwL)) := Knw8.out.chg hch Fdn.out
  have Fdn : Hid (¬ footD gd gsd lvdw9 hn) := fun hj => (hft _ hj).elim Fdn.out (fun h => by have := Knw8.out.lt; omega)
  have Krw9 : Hid (Bk w9 gr (putC np3)) := Krw8.out.chg hch Fdr.out
  have Fdr : Hid (¬ footD gd gsd lvdw9 gr) := fun hj => (hft _ hj).elim Fdr.out (fun h => by have := Krw8.out.lt; omega)
  have Kbw9 : Hid (Bk w9 gb [vu32 1, vu32 5, .slice (some ⟨gr, 0, none⟩) 1 1]) := Kbw8.out.chg hch Fdb.out
  have Fdb : Hid (¬ footD gd gsd lvdw9 gb) := fun hj => (hft _ hj).elim Fdb.out (fun h => by have := Kbw8.out.lt; omega)
  clear hp hd hft hch Knw8 Krw8 Kbw8 Ddw8 Ew8
  go_wp2_with fail
  clear Krw9 Kbw9
  have HSZm : Hid (w.heap.size ≤ w9.heap.size) := Ew9.out.size
  refine (ndOpen_calls w9 gd gsd lvdw9 (UpD nwS) 0 Ddw9.out.at_ (ok_up _) (by decide)).mono ?_
  intro en w10 hp
  rw [nwOp] at hp
  obtain ⟨hm, lvdw10, rfl, hd, hk, hge, hnf, hft, hch⟩ := DSes.opost Ddw9.out hp
  have Anm : Hid (hn < hm) := by show _ < _; have := Knw9.out.lt; omega
  have Ddw10 : Hid (DSes 92 w w10 gd gsd lvdw10 (UpD nwS)) := hd
  have Ew10 : Hid (Below w.heap.size w w10) := hd.bel
  have Knw10 : Hid (Bk w10 hn (NdC gd nwL)) := Knw9.out.chg hch Fdn.out
  have Fdn : Hid (¬ footD gd gsd lvdw10 hn) := fun hj => (hft _ hj).elim Fdn.out (fun h => by have := Knw9.out.lt; omega)
  have Kmw10 : Hid (Bk w10 hm (NdC gd nwL)) := hk
  have Fdm : Hid (¬ footD gd gsd lvdw10 hm) := hnf
  have NHm : Hid (w.heap.size ≤ hm) := by show _ ≤ _; have := HSZm.out; omega
  clear hp hd hk hge hnf hft hch Knw9 Ddw9 Ew9
  go_wp2_with fail
  clear Knw10
  refine (ndBlock_calls w10 gd gsd lvdw10 hm (UpD nwS) nwL 3 Ddw10.out.at_ Kmw10.out (by decide) (by decide)).mono ?_
  rintro en w11 ⟨rfl, hb⟩
  have Ew11 : Hid (Below w.heap.size w w11) := Ew10.out.trans (hb.mono Ew10.out.size)
  have Kmw11 : Hid (Bk w11 hm (NdC gd nwL)) := Kmw10.out.below hb
  have Ddw11 : Hid (DSes 92 w w11 gd gsd lvdw10 (UpD nwS)) := Ddw10.out.below hb
  clear Ew10 Kmw10 Ddw10
  clear hb
  rw [nwB1, nwB2]
  go_wp2_with (refine wpList_al rfl 35 rfl (bts (List.replicate 32 0)) (by kernel_rfl) ?_)
  intro ga w12 hg hb hc hs
  have HQa : Hid (Below w11.heap.size w11 w12) := hc.below (Nat.le_refl _) (fun _ _ => id)
  have HGa : Hid (ga = w11.heap.size) := hg
  have KZa := Lib.hid hb
  clear hg hb hc hs
  go_wp2_with (refine wpList_st rfl 35 (.tmp 7) (.tmp 57) rfl ga 0 32 (bts (List.replicate 32 0)) (bts (List.replicate 32 7)) rfl rfl KZa.out (by kernel_rfl) nw32 (by decide) (one_bts _) ?_)
  intro w13 hbk hc
  rw [splice_whole _ _ (by rfl)] at hbk
  have hb : Below w11.heap.size w11 w13 := HQa.out.trans (hc.below HQa.out.size (fun q hq he => by have := HGa.out; omega))
  have Ama : Hid (hm < ga) := by show _ < _; have := Kmw11.out.lt; have := HGa.out; omega
  have Ew13 : Hid (Below w.heap.size w w13) := Ew11.out.trans (hb.mono Ew11.out.size)
  have Kmw13 : Hid (Bk w13 hm (NdC gd nwL)) := Kmw11.out.below hb
  have Ddw13 : Hid (DSes 92 w w13 gd gsd lvdw10 (UpD nwS)) := Ddw11.out.below hb
  clear Ew11 Kmw11 Ddw11
  have Kaw13 : Hid (Bk w13 ga (bts (List.replicate 32 7))) := hbk
  have Kaw13 : Hid (Bk w13 ga (bts (List.replicate 32 7))) := hbk
  clear hbk hb hc KZa HQa HGa
  go_wp2_with fail
  refine (ndBlock_out w13 (.pointer (some ⟨hm, 0, none⟩)) 12 (.inr ⟨⟨hm, rfl⟩, .inr (by decide)⟩)).mono ?_
  rintro en w14 ⟨rfl, hb⟩
  have Ew14 : Hid (Below w.heap.size w w14) := Ew13.out.trans (hb.mono Ew13.out.size)
  have Kmw14 : Hid (Bk w14 hm (NdC gd nwL)) := Kmw13.out.below hb
  have Kaw14 : Hid (Bk w14 ga (bts (List.replicate 32 7))) := Kaw13.out.below hb
  have Ddw14 : Hid (DSes 92 w w14 gd gsd lvdw10 (UpD nwS)) := Ddw13.out.below hb
  clear Ew13 Kmw13 Kaw13 Ddw13
  clear hb
  go_wp2_with (refine wpList_al rfl 35 rfl (bts (List.replicate 32 0)) (by kernel_rfl) ?_)
  intro gc w15 hg hb hc hs
  have HQc : Hid (Below w14.heap.size w14 w15) := hc.below (Nat.le_refl _) (fun _ _ => id)
  have HGc : Hid (gc = w14.heap.size) := hg
  have KZc := Lib.hid hb
  clear hg hb hc hs
  go_wp2_with (refine wpList_st rfl 35 (.tmp 9) (.tmp 62) rfl gc 0 32 (bts (List.replicate 32 0)) (bts (List.replicate 32 0)) rfl rfl KZc.out (by kernel_rfl) nw32z (by decide) (one_bts _) ?_)
  intro w16 hbk hc
  rw [splice_whole _ _ (by rfl)] at hbk
  have hb : Below w14.heap.size w14 w16 := HQc.out.trans (hc.below HQc.out.size (fun q hq he => by have := HGc.out; omega))
  have Amc : Hid (hm < gc) := by show _ < _; have := Kmw14.out.lt; have := HGc.out; omega
  have Aac : Hid (ga < gc) := by show _ < _; have := Kaw14.out.lt; have := HGc.out; omega
  have Ew16 : Hid (Below w.heap.size w w16) := Ew14.out.trans (hb.mono Ew14.out.size)
  have Kmw16 : Hid (Bk w16 hm (NdC gd nwL)) := Kmw14.out.below hb
  have Kaw16 : Hid (Bk w16 ga (bts (List.replicate 32 7))) := Kaw14.out.below hb
  have Ddw16 : Hid (DSes 92 w w16 gd gsd lvdw10 (UpD nwS)) := Ddw14.out.below hb
  clear Ew14 Kmw14 Kaw14 Ddw14
  have Kcw16 : Hid (Bk w16 gc (bts (List.replicate 32 0))) := hbk
  have Kcw16 : Hid (Bk w16 gc (bts (List.replicate 32 0))) := hbk
  clear hbk hb hc KZc HQc HGc
  go_wp2_with fail
  apply wp_region_rel 17 (Chg NoS) [(Veq _), (Veq _), (Veq _), (Veq _), (Veq _), (Veq _), (Veq _), (Veq _), (Veq _), (Veq (.bool true)), (Veq _), (Veq _), (Veq _), (Veq _), (Veq (.agg (labC (Lab.mk 1 5 6 9 8)).toArray)), (Veq (.bool true)), (Veq _)] [[], [0], [1], [2], [2, 3], [2, 4], [5], [6], [6], [6, 7, 8], [6, 9], [10], [11], [11, 12], [11], [11, 13, 14], [11, 15]] [64, 65, 66, 67, 68, 69, 70, 71, 72, 73, 74, 75, 76, 77, 78, 79, 80] (by kernel_rfl) (by kernel_rfl) rfl rfl rfl Chg.refl (fun _ _ _ => Chg.trans) ⟨Veq.lasts, Veq.lasts, Veq.lasts, Veq.lasts, Veq.lasts, Veq.lasts, Veq.lasts, Veq.lasts, Veq.lasts, Veq.lasts, Veq.lasts, Veq.lasts, Veq.lasts, Veq.lasts, Veq.lasts, Veq.lasts, Veq.lasts, trivial⟩ ?aops ?afin
  case aops =>
    refine ⟨?ao0, ?ao1, ?ao2, ?ao3, ?ao4, ?ao5, ?ao6, ?ao7, ?ao8, ?ao9, ?ao10, ?ao11, ?ao12, ?ao13, ?ao14, ?ao15, ?ao16, trivial⟩
    case ao0 =>
      intro a wx hE hin
      have i8 : a.eval (.tmp 8) = .int .i64 0 := hin 8 rfl
      clear hin
      have hcst : ∀ v, a.eval (.const v) = v := fun _ => rfl
      have hfnc : ∀ f, a.eval (.func f) = .func (.func f) #[] #[] := fun _ => rfl
      refine want_none rfl ?_
      unfold Oper.wp
      generalize a.eval = ρ at *
      go_simp
      try go_bits
      first | exact rel_val (Chg.refl _) | (go_simp; exact rel_val (Chg.refl _))
    case ao1 =>
      rintro a wx hE hin (h0 : a.eval (.tmp 64) = _)
      clear hin
      have hcst : ∀ v, a.eval (.const v) = v := fun _ => rfl
      have hfnc : ∀ f, a.eval (.func f) = .func (.func f) #[] #[] := fun _ => rfl
      refine want_none rfl ?_
      unfold Oper.wp
      generalize a.eval = ρ at *
      go_simp
      try go_bits
      first | exact rel_val (Chg.refl _) | (go_simp; exact rel_val (Chg.refl _))
    case ao2 =>
      rintro a wx hE hin (h1 : a.eval (.tmp 65) = _)
      clear hin
      have hcst : ∀ v, a.eval (.const v) = v := fun _ => rfl
      have hfnc : ∀ f, a.eval (.func f) = .func (.func f) #[] #[] := fun _ => rfl
      refine want_none rfl ?_
      unfold Oper.wp
      generalize a.eval = ρ at *
      go_simp
      try go_bits
      first | exact rel_val (Chg.refl _) | (go_simp; exact rel_val (Chg.refl _))
    case ao3 =>
      rintro a wx hE hin (h2 : a.eval (.tmp 66) = _)
      have i10 : a.eval (.tmp 10) = .int .i64 1 := hin 10 rfl
      clear hin
      have hcst : ∀ v, a.eval (.const v) = v := fun _ => rfl
      have hfnc : ∀ f, a.eval (.func f) = .func (.func f) #[] #[] := fun _ => rfl
      refine want_yes rfl rfl h2 ?_
      unfold Oper.wp
      generalize a.eval = ρ at *
      go_simp
      try go_bits
      first | exact rel_val (Chg.refl _) | (go_simp; exact rel_val (Chg.refl _))
    case ao4 =>
      rintro a wx hE hin (h2 : a.eval (.tmp 66) = _) (h3 : a.eval (.tmp 67) = _)
      clear hin
      have hcst : ∀ v, a.eval (.const v) = v := fun _ => rfl
      have hfnc : ∀ f, a.eval (.func f) = .func (.func f) #[] #[] := fun _ => rfl
      refine want_yes rfl rfl h2 ?_
      unfold Oper.wp
      generalize a.eval = ρ at *
      go_simp
      try go_bits
      first | exact rel_val (Chg.refl _) | (go_simp; exact rel_val (Chg.refl _))
    case ao5 =>
      rintro a wx hE hin (h2 : a.eval (.tmp 66) = _) (h4 : a.eval (.tmp 68) = _)
      clear hin
      have hcst : ∀ v, a.eval (.const v) = v := fun _ => rfl
      have hfnc : ∀ f, a.eval (.func f) = .func (.func f) #[] #[] := fun _ => rfl
      refine want_none rfl ?_
      unfold Oper.wp
      generalize a.eval = ρ at *
      go_simp
      try go_bits
      first | exact rel_val (Chg.refl _) | (go_simp; exact rel_val (Chg.refl _))
    case ao6 =>
      rintro a wx hE hin (h5 : a.eval (.tmp 69) = _)
      clear hin
      have hcst : ∀ v, a.eval (.const v) = v := fun _ => rfl
      have hfnc : ∀ f, a.eval (.func f) = .func (.func f) #[] #[] := fun _ => rfl
      refine want_none rfl ?_
      unfold Oper.wp
      generalize a.eval = ρ at *
      go_simp
      try go_bits
      first | exact rel_val (Chg.refl _) | (go_simp; exact rel_val (Chg.refl _))
    case ao7 =>
      rintro a wx hE hin (h6 : a.eval (.tmp 70) = _)
      have i7 : a.eval (.tmp 7) = .pointer (some ⟨ga, 0, none⟩) := hin 7 rfl
      clear hin
      have hcst : ∀ v, a.eval (.const v) = v := fun _ => rfl
      have hfnc : ∀ f, a.eval (.func f) = .func (.func f) #[] #[] := fun _ => rfl
      refine want_yes rfl rfl h6 ?_
      exact wp_ld 35 _ rfl ga 0 32 (bts (List.replicate 32 7)) (bts (List.replicate 32 7)) i7 (Kaw16.out.drew.chg hE id) (by kernel_rfl) (by kernel_rfl) (by decide) rfl (rel_val (Chg.refl _))
    case ao8 =>
      rintro a wx hE hin (h6 : a.eval (.tmp 70) = _)
      clear hin
      have hcst : ∀ v, a.eval (.const v) = v := fun _ => rfl
      have hfnc : ∀ f, a.eval (.func f) = .func (.func f) #[] #[] := fun _ => rfl
      refine want_yes rfl rfl h6 ?_
      unfold Oper.wp
      generalize a.eval = ρ at *
      go_simp
      go_simp
      refine (fill_calls 7 wx).mono ?_
      rintro e w' ⟨rfl, hb⟩
      exact rel_val (.of_below hb)
    case ao9 =>
      rintro a wx hE hin (h6 : a.eval (.tmp 70) = _) (h7 : a.eval (.tmp 71) = _) (h8 : a.eval (.tmp 72) = _)
      clear hin
      have hcst : ∀ v, a.eval (.const v) = v := fun _ => rfl
      have hfnc : ∀ f, a.eval (.func f) = .func (.func f) #[] #[] := fun _ => rfl
      refine want_yes rfl rfl h6 ?_
      exact wp_eq_bytes false 35 35 _ _ rfl 5 32 Try.underlying35 Try.underlying5 (by kernel_rfl) (by kernel_rfl) (List.replicate 32 7) (List.replicate 32 7) h7 h8 (by decide) (by decide) (by rw [show (false ^^ decide ((List.replicate 32 (7 : UInt8)) = List.replicate 32 7)) = true by decide]; exact rel_val (Chg.refl _))
    case ao10 =>
      rintro a wx hE hin (h6 : a.eval (.tmp 70) = _) (h9 : a.eval (.tmp 73) = _)
      clear hin
      have hcst : ∀ v, a.eval (.const v) = v := fun _ => rfl
      have hfnc : ∀ f, a.eval (.func f) = .func (.func f) #[] #[] := fun _ => rfl
      refine want_none rfl ?_
      unfold Oper.wp
      generalize a.eval = ρ at *
      go_simp
      try go_bits
      first | exact rel_val (Chg.refl _) | (go_simp; exact rel_val (Chg.refl _))
    case ao11 =>
      rintro a wx hE hin (h10 : a.eval (.tmp 74) = _)
      clear hin
      have hcst : ∀ v, a.eval (.const v) = v := fun _ => rfl
      have hfnc : ∀ f, a.eval (.func f) = .func (.func f) #[] #[] := fun _ => rfl
      refine want_none rfl ?_
      unfold Oper.wp
      generalize a.eval = ρ at *
      go_simp
      try go_bits
      first | exact rel_val (Chg.refl _) | (go_simp; exact rel_val (Chg.refl _))
    case ao12 =>
      rintro a wx hE hin (h11 : a.eval (.tmp 75) = _)
      have i5 : a.eval (.tmp 5) = .pointer (some ⟨hm, 0, none⟩) := hin 5 rfl
      clear hin
      have hcst : ∀ v, a.eval (.const v) = v := fun _ => rfl
      have hfnc : ∀ f, a.eval (.func f) = .func (.func f) #[] #[] := fun _ => rfl
      refine want_yes rfl rfl h11 ?_
      unfold Oper.wp
      generalize a.eval = ρ at *
      go_simp
      try go_bits
      first | exact rel_val (Chg.refl _) | (go_simp; exact rel_val (Chg.refl _))
    case ao13 =>
      rintro a wx hE hin (h11 : a.eval (.tmp 75) = _) (h12 : a.eval (.tmp 76) = _)
      clear hin
      have hcst : ∀ v, a.eval (.const v) = v := fun _ => rfl
      have hfnc : ∀ f, a.eval (.func f) = .func (.func f) #[] #[] := fun _ => rfl
      refine want_yes rfl rfl h11 ?_
      unfold Oper.wp
      generalize a.eval = ρ at *
      go_simp
      go_simp
      refine (ndLabel_calls wx gd hm nwL (Kmw16.out.drew.chg hE id)).mono ?_
      rintro e w' ⟨rfl, hb⟩
      exact rel_val (.of_below hb)
    case ao14 =>
      rintro a wx hE hin (h11 : a.eval (.tmp 75) = _)
      clear hin
      have hcst : ∀ v, a.eval (.const v) = v := fun _ => rfl
      have hfnc : ∀ f, a.eval (.func f) = .func (.func f) #[] #[] := fun _ => rfl
      refine want_yes rfl rfl h11 ?_
      exact wp_bld 40 [(0, .const (.int .u32 1)), (1, .const (.int .u32 5)), (2, .const (.int .u32 6)), (3, .const (.int .u16 9)), (4, .const (.int .u16 8))] rfl (labC zLab) [(0, [vu32 1]), (1, [vu32 5]), (2, [vu32 6]), (3, [vu16 9]), (4, [vu16 8])] (labC (Lab.mk 1 5 6 9 8)) (by kernel_rfl) (by kernel_rfl) ⟨rfl, ⟨1, rfl, by kernel_rfl, by decide⟩, rfl, ⟨1, rfl, by kernel_rfl, by decide⟩, rfl, ⟨1, rfl, by kernel_rfl, by decide⟩, rfl, ⟨1, rfl, by kernel_rfl, by decide⟩, rfl, ⟨1, rfl, by kernel_rfl, by decide⟩, trivial⟩ rfl (rel_val (Chg.refl _))
    case ao15 =>
      rintro a wx hE hin (h11 : a.eval (.tmp 75) = _) (h13 : a.eval (.tmp 77) = _) (h14 : a.eval (.tmp 78) = _)
      clear hin
      have hcst : ∀ v, a.eval (.const v) = v := fun _ => rfl
      have hfnc : ∀ f, a.eval (.func f) = .func (.func f) #[] #[] := fun _ => rfl
      refine want_yes rfl rfl h11 ?_
      exact wp_eq_lab false 40 _ _ rfl nwL (Lab.mk 1 5 6 9 8) h13 h14 (by rw [nwEq]; exact rel_val (Chg.refl _))
    case ao16 =>
      rintro a wx hE hin (h11 : a.eval (.tmp 75) = _) (h15 : a.eval (.tmp 79) = _)
      clear hin
      have hcst : ∀ v, a.eval (.const v) = v := fun _ => rfl
      have hfnc : ∀ f, a.eval (.func f) = .func (.func f) #[] #[] := fun _ => rfl
      refine want_none rfl ?_
      unfold Oper.wp
      generalize a.eval = ρ at *
      go_simp
      try go_bits
      first | exact rel_val (Chg.refl _) | (go_simp; exact rel_val (Chg.refl _))
  case afin =>
    intro wx hE
    rintro _ rfl _ rfl _ rfl _ rfl _ rfl _ rfl _ rfl _ rfl _ rfl _ rfl _ rfl _ rfl _ rfl _ rfl _ rfl _ rfl _ rfl
    simp only [FinOk, List.take_succ_cons, List.take_zero, List.take_nil, List.drop_succ_cons, List.drop_zero, List.drop_nil, Act.put, List.setIfInBounds_toArray, List.set_cons_succ, List.set_cons_zero]
    have HE : Hid (Below w.heap.size w wx) := Ew16.out.trans ((hE.undrew).below (B := w.heap.size) Ew16.out.size (fun _ _ => id))
    clear hE
    go_wp2_with fail
    (try simp only [Exit.inBlock, Exit.then])
    go_ret
    exact ⟨rfl, HE.out⟩
end Go.Proofs.Ytcmfkdfegfablaa


/- Records, how they are read out of the arguments. -/
namespace Go.Proofs.Ytcmfkdfegfablaa
open Go.ChangeShapes Go.WideShapes Go.RowKit Go.Deep
set_option linter.unusedVariables false
set_option linter.unusedSimpArgs false

/-- A record among the arguments. -/
structure RecV where
  e : UInt32
  q : UInt32
  A : Option Addr
  n : Nat
  c : Nat
  ps : List PutV
def recC (r : RecV) : List Value := [vu32 r.e, vu32 r.q, .slice r.A r.n r.c]
structure RecOk (W : World) (r : RecV) : Prop where
  len : r.ps.length = r.n
  cap : r.n ≤ r.c
  max : r.c ≤ 9223372036854775807
  rd : Rd W r.A (r.ps.flatMap putC)
  ok : PutsOk r.ps
theorem RecOk.below {w w' : World} {r : RecV} (h : RecOk w r) (hb : Below w.heap.size w w') : RecOk w' r := ⟨h.len, h.cap, h.max, h.rd.below hb, h.ok⟩
theorem one_recC (r : RecV) : ∀ u ∈ recC r, u.oneCell' = true := one_rec _ _ _ _ _
section
variable {H : Type} {enc : TypeId × Value → H} {W : World} {P : Program}
theorem TC.u32w {t : TypeId} {cs : List Value} (h : TC enc P W t cs) (ht : P.underlying t = some (.int .u32)) : ∃ x : UInt32, cs = [vu32 x] := by
  obtain ⟨n, rfl, hw⟩ := h.int ht
  have hb : 0 ≤ n ∧ n ≤ 4294967295 := by
    simp [Lit.wf, IntKind.min, IntKind.max, IntKind.signed, IntKind.bits] at hw
    omega
  refine ⟨UInt32.ofNat n.toNat, ?_⟩
  rw [vu32, UInt32.toNat_ofNat_of_lt' (by show n.toNat < 4294967296; omega)]
  congr 2
  omega
theorem recCells : Try.prog.cellsOf 25 = 3 := by kernel_rfl
set_option maxRecDepth 100000 in
theorem TC.rec {cs : List Value} (h : TC enc Try.prog W 25 cs) : ∃ r, cs = recC r ∧ RecOk W r := by
  obtain ⟨hl, hf⟩ := h.struct Try.underlying25
  rw [recCells] at hl
  match cs, hl with
  | [a, b, c], _ =>
    have f0 : TC enc Try.prog W 22 (([a, b, c].drop 0).take (Try.prog.cellsOf 22)) := hf 0 _ rfl
    have f1 : TC enc Try.prog W 22 (([a, b, c].drop 1).take (Try.prog.cellsOf 22)) := hf 1 _ rfl
    have f2 : TC enc Try.prog W 23 (([a, b, c].drop 2).take (Try.prog.cellsOf 23)) := hf 2 _ rfl
    rw [show Try.prog.cellsOf 22 = 1 by kernel_rfl] at f0 f1
    rw [show Try.prog.cellsOf 23 = 1 by kernel_rfl] at f2
    obtain ⟨x0, hx0⟩ := f0.u32w Try.underlying22
    obtain ⟨x1, hx1⟩ := f1.u32w Try.underlying22
    obtain ⟨A, n, c3, ps, hx3, hl3, hc3, hm3, hr3, ho3⟩ := f2.puts
    simp at hx0 hx1 hx3
    exact ⟨⟨x0, x1, A, n, c3, ps⟩, by simp [recC, hx0, hx1, hx3], ⟨hl3, hc3, hm3, hr3, ho3⟩⟩
end
/-- Get's answer is the record. -/
theorem put_len {ps : List PutV} {n c : Nat} (h : ps.length = n) (hc : n ≤ c) (hm : c ≤ 9223372036854775807) : (ps.length : Int) ≤ 9223372036854775807 := by omega
end Go.Proofs.Ytcmfkdfegfablaa
