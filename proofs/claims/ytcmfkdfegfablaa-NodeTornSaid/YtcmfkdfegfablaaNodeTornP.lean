
import Derived.Test.YtcmfkdfegfablaaNodeWant

/- A cut Apply, a cut opening: what a node's disk holds behind an Up. -/
namespace Go.Proofs.Ytcmfkdfegfablaa
open Go.RowKit
set_option linter.unusedVariables false
set_option linter.unusedSimpArgs false

/-- The label, the blocks; the log tells nothing that is later. -/
structure StA (S : List (List UInt8)) (L : Lab) (B : Nat → List UInt8) : Prop where
  len : S.length = 19
  lab : S.getD 0 [] = labEnc L
  hdr : formB (S.getD 1 []) = true → ¬ laterB (eOf (S.getD 1 [])) (qOf (S.getD 1 [])) L.e L.s = true
  blk : ∀ b, b < 12 → S.getD (7 + b) [] = B b
/-- The label as it was, the log tells the record, each block is as it was or as the record has it. -/
structure StM (S : List (List UInt8)) (L : Lab) (B : Nat → List UInt8) (q : UInt32) (ps : List PutV) : Prop where
  len : S.length = 19
  lab : S.getD 0 [] = labEnc L
  hdr : S.getD 1 [] = hdrS 2 q ps
  img : ∀ i, i < ps.length → S.getD (2 + i) [] = dat ps i
  blk : ∀ b, b < 12 → S.getD (7 + b) [] = B b ∨ S.getD (7 + b) [] = wupd B ps b
theorem wupd_twice {B F : Nat → List UInt8} {ps : List PutV} (ha : AtsOk ps) (hn : (ps.map (·.at_)).Nodup) {b : Nat} (h : F b = B b ∨ F b = wupd B ps b) : wupd F ps b = wupd B ps b := by
  by_cases hb : ∃ p ∈ ps, p.at_.toNat = b
  · obtain ⟨p, hp, rfl⟩ := hb
    obtain ⟨k, hk, rfl⟩ := List.mem_iff_getElem.1 hp
    rw [wupd_at ps F ha hn k hk, wupd_at ps B ha hn k hk]
  · have h0 : ∀ p ∈ ps, p.at_.toNat ≠ b := fun p hp he => hb ⟨p, hp, he⟩
    rw [wupd_not ps F b h0, wupd_not ps B b h0]
    rcases h with h | h
    · exact h
    · rwa [wupd_not ps B b h0] at h
theorem up_len (S : List (List UInt8)) (ks : List UInt8) : ∀ (M : List ((Nat × List UInt8) × Nat)) (S : List (List UInt8)), (M.foldl (fun s p => if ks.getD p.2 0 % 2 = 1 then s.set p.1.1 p.1.2 else s) S).length = S.length
  | [], S => rfl
  | p :: M, S => by
    rw [List.foldl_cons, up_len S ks M]
    split
    · exact List.length_set
    · rfl
theorem blkL_mem {ps : List PutV} {j : Nat} {x : List UInt8} (h : (j, x) ∈ blkL ps) : ∃ p ∈ ps, j = 7 + p.at_.toNat ∧ x = p.data := by
  obtain ⟨p, hp, he⟩ := List.mem_map.1 h
  injection he with h1 h2
  exact ⟨p, hp, h1.symm, h2.symm⟩
theorem eOf_hdr {e q : UInt32} {ps : List PutV} (hg : goodB ps = true) : eOf (hdrS e q ps) = e := (rec_hdr (e := e) (q := q) (D := zdat) hg).1
theorem qOf_hdr {e q : UInt32} {ps : List PutV} (hg : goodB ps = true) : qOf (hdrS e q ps) = q := (rec_hdr (e := e) (q := q) (D := zdat) hg).2.1
section
variable {S : List (List UInt8)} {L : Lab} {B : Nat → List UInt8} {q : UInt32} {ps : List PutV}
/-- A disk of a label of the record's own number. -/
theorem StA.of {l : Lab} (hg : goodB ps = true) (h1 : S.length = 19) (h2 : S.getD 0 [] = labEnc l) (h3 : S.getD 1 [] = hdrS 2 q ps) (he : l.e = 2) (hs : l.s = q) (h4 : ∀ b, b < 12 → S.getD (7 + b) [] = B b) : StA S l B :=
  ⟨h1, h2, fun _ => by rw [h3, eOf_hdr hg, qOf_hdr hg, he, hs, later_self]; decide, h4⟩
/-- What lies in the blocks alone may go through or not. -/
theorem StM.up (h : StM S L B q ps) (hg : goodB ps = true) (k : Nat) (ks : List UInt8) : StM (upS S (blkL (ps.take k)) ks) L B q ps := by
  have ha := goodB_ats' hg
  have hn := (goodB_at hg).2.2.2
  have low : ∀ j, j < 7 → (upS S (blkL (ps.take k)) ks).getD j [] = S.getD j [] := fun j hj => up_out fun b hb => by
    obtain ⟨p, _, h1, _⟩ := blkL_mem hb
    omega
  have h5 := (goodB_at hg).2.1
  refine ⟨by rw [upS_length]; exact h.len, by rw [low 0 (by decide)]; exact h.lab, by rw [low 1 (by decide)]; exact h.hdr, fun i hi => by rw [low (2 + i) (by omega)]; exact h.img i hi, fun b hb => ?_⟩
  rcases up_or S (blkL (ps.take k)) ks (7 + b) with h1 | ⟨x, hx, h1⟩
  · rw [h1]
    exact h.blk b hb
  · obtain ⟨p, hp, h2, h3⟩ := blkL_mem hx
    obtain ⟨i, hi, rfl⟩ := List.mem_iff_getElem.1 (List.mem_of_mem_take hp)
    refine .inr ?_
    rw [h1, h3, show b = ps[i].at_.toNat by omega, wupd_at ps B ha hn i hi]
theorem StM.done (h : StM S L B q ps) (hg : goodB ps = true) : StM (doneS S (blkL ps)) L B q ps ∧ ∀ b, b < 12 → (doneS S (blkL ps)).getD (7 + b) [] = wupd B ps b := by
  have ha := goodB_ats' hg
  have hn := (goodB_at hg).2.2.2
  have h5 := (goodB_at hg).2.1
  have hb : ∀ b, b < 12 → (doneS S (blkL ps)).getD (7 + b) [] = wupd B ps b := fun b hb => by
    rw [done_blk ps S b h.len ha hb]
    exact wupd_twice (F := fun b => S.getD (7 + b) []) ha hn (h.blk b hb)
  exact ⟨⟨by rw [doneS_length]; exact h.len, by rw [done_low _ _ _ (by decide)]; exact h.lab, by rw [done_low _ _ _ (by decide)]; exact h.hdr, fun i hi => by rw [done_low _ _ _ (by omega)]; exact h.img i hi, fun b hb' => .inr (hb b hb')⟩, hb⟩
theorem StM.set (h : StM S L B q ps) (hg : goodB ps = true) (hb : ∀ b, b < 12 → S.getD (7 + b) [] = wupd B ps b) (d : UInt16) : StA (S.set 0 (labEnc (carryL L 2 q ps d))) (carryL L 2 q ps d) (wupd B ps) :=
  StA.of hg (by rw [set_len]; exact h.len) (set_lab h.len) (by rw [set_other (by decide)]; exact h.hdr) rfl rfl (fun b hb' => by rw [set_other (by omega)]; exact hb b hb')
/-- The carry, cut anywhere or not. -/
theorem carry_torn (h : StM S L B q ps) (hg : goodB ps = true) (f : Nat) (d : UInt16) : ∃ t z, (Dst.mk S [] (f : Int) false).carry ps (carryL L 2 q ps d) = (t, z) ∧ (z = 0 ∨ z = 20) ∧ t.S.length = 19 ∧
    ∀ ks, ∃ S', t.up ks = UpD S' ∧ (StA S' (carryL L 2 q ps d) (wupd B ps) ∨ (z = 20 ∧ StM S' L B q ps)) := by
  have ha := goodB_ats' hg
  have h5 := (goodB_at hg).2.1
  have hl := h.len
  obtain ⟨hM, hD⟩ := h.done hg
  have hST := hM.set hg hD d
  have hDl : (doneS S (blkL ps)).length = 19 := hM.len
  by_cases c1 : f < ps.length
  · refine ⟨_, 20, by rw [Dst.carry, blks_cut ps S [] f hl ha c1]; simp only []; rw [if_neg (by decide)], .inr rfl, hl, fun ks => ⟨_, rfl, .inr ⟨rfl, ?_⟩⟩⟩
    rw [List.nil_append]
    exact h.up hg f ks
  by_cases c4 : ps.length + 3 ≤ f
  · exact ⟨_, 0, carry_all hl ha (.inr (by omega)), .inl rfl, by show (List.set _ _ _).length = 19; rw [List.length_set]; exact hDl, fun ks => ⟨_, rfl, .inl hST⟩⟩
  have hb := blks_all ps S [] (f : Int) hl ha (.inr (by omega))
  rw [List.nil_append] at hb
  by_cases c2 : f = ps.length
  · have hz : dec (f : Int) ps.length = 0 := by unfold dec; rw [if_neg (by omega)]; omega
    obtain ⟨f1, f2⟩ := flush_stop (S := S) (L := blkL ps)
    refine ⟨_, 20, by rw [Dst.carry, hb, hz]; simp only []; rw [if_pos trivial, carryEnd_no (by rw [f2]; decide), f1, f2], .inr rfl, hl, fun ks => ⟨_, rfl, .inr ⟨rfl, ?_⟩⟩⟩
    have := h.up hg ps.length ks
    rwa [List.take_length] at this
  have hz : dec (f : Int) ps.length ≠ 0 := by unfold dec; split <;> omega
  obtain ⟨f1, f2⟩ := flush_go (S := S) (L := blkL ps) hz
  rw [dec_dec _ _ _ (by omega)] at f1
  by_cases c3 : f = ps.length + 1
  · have hz2 : dec (f : Int) (ps.length + 1) = 0 := by unfold dec; rw [if_neg (by omega)]; omega
    rw [hz2] at f1
    obtain ⟨w1, w2⟩ := write_stop (S := doneS S (blkL ps)) (L := []) (b := labEnc (carryL L 2 q ps d)) (show 0 < (doneS S (blkL ps)).length by omega)
    have w1' : (Dst.mk (doneS S (blkL ps)) [] 0 false).write 0 (labEnc (carryL L 2 q ps d)) = ⟨doneS S (blkL ps), [], 0, true⟩ := w1
    have w2' : (Dst.mk (doneS S (blkL ps)) [] 0 false).writeE 0 = 20 := w2
    exact ⟨⟨doneS S (blkL ps), [], 0, true⟩, 20, by rw [Dst.carry, hb]; simp only []; rw [if_pos trivial, carryEnd_go f2, f1, setLab_no (by rw [w2']; decide), w1', w2'], .inr rfl, hDl, fun ks => ⟨_, rfl, .inr ⟨rfl, hM⟩⟩⟩
  · have c5 : f = ps.length + 2 := by omega
    have hz2 : dec (f : Int) (ps.length + 1) ≠ 0 := by unfold dec; split <;> omega
    obtain ⟨w1, w2⟩ := write_go (S := doneS S (blkL ps)) (L := []) (b := labEnc (carryL L 2 q ps d)) (show 0 < (doneS S (blkL ps)).length by omega) hz2
    rw [dec_dec _ _ _ (by omega)] at w1
    have hz3 : dec (f : Int) (ps.length + 1 + 1) = 0 := by unfold dec; rw [if_neg (by omega)]; omega
    rw [hz3] at w1
    obtain ⟨g1, g2⟩ := flush_stop (S := doneS S (blkL ps)) (L := [(0, labEnc (carryL L 2 q ps d))])
    have w1' : (Dst.mk (doneS S (blkL ps)) [] (dec (f : Int) (ps.length + 1)) false).write 0 (labEnc (carryL L 2 q ps d)) = ⟨doneS S (blkL ps), [] ++ [(0, labEnc (carryL L 2 q ps d))], 0, false⟩ := w1
    refine ⟨_, 20, by rw [Dst.carry, hb]; simp only []; rw [if_pos trivial, carryEnd_go f2, f1, setLab_go w2, w1', List.nil_append, g1, g2], .inr rfl, hDl, fun ks => ⟨_, rfl, ?_⟩⟩
    show StA (upS (doneS S (blkL ps)) [(0, labEnc (carryL L 2 q ps d))] ks) _ _ ∨ _
    have hu : upS (doneS S (blkL ps)) [(0, labEnc (carryL L 2 q ps d))] ks = (if ks.getD 0 0 % 2 = 1 then (doneS S (blkL ps)).set 0 (labEnc (carryL L 2 q ps d)) else doneS S (blkL ps)) := rfl
    rw [hu]
    split
    · exact .inl hST
    · exact .inr ⟨rfl, hM⟩
theorem putS_M (h : StA S L B) (hg : goodB ps = true) : StM (putS S 1 2 q ps) L B q ps := by
  have h5 := (goodB_at hg).2.1
  have hl := h.len
  refine ⟨by rw [putS_length]; exact hl, by rw [putS_out (by omega) (.inl (by decide))]; exact h.lab, putS_hdr (by omega), fun i hi => ?_, fun b hb => .inl (by rw [putS_out (by omega) (.inr (by omega))]; exact h.blk b hb)⟩
  rw [show 2 + i = 1 + 1 + i by omega]
  exact putS_img (by omega) hi
theorem StA.img (h : StA S L B) (hg : goodB ps = true) {T : List (List UInt8)} (hT : T.length = S.length) (hj : ∀ j, j < 2 ∨ 7 ≤ j → T.getD j [] = S.getD j []) : StA T L B :=
  ⟨by rw [hT]; exact h.len, by rw [hj 0 (.inl (by decide))]; exact h.lab, by rw [hj 1 (.inl (by decide))]; exact h.hdr, fun b hb => by rw [hj _ (.inr (by omega))]; exact h.blk b hb⟩
/-- Apply, cut anywhere or not. -/
theorem apply_torn (h : StA S L B) (hg : goodB ps = true) (hla : laterB 2 q L.e L.s = true) (f : Nat) (d : UInt16) : ∃ t z, (Dst.mk S [] (f : Int) false).nApply L 2 q ps d = (t, z) ∧ (z = 0 ∨ z = 20) ∧
    ∀ ks, ∃ S', t.up ks = UpD S' ∧ (StA S' (carryL L 2 q ps d) (wupd B ps) ∨ (z = 20 ∧ (StA S' L B ∨ StM S' L B q ps))) := by
  have h5 := (goodB_at hg).2.1
  have hl := h.len
  have hM := putS_M (q := q) h hg
  by_cases c : f < ps.length + 3
  · have hp : (Dst.mk S [] (f : Int) false).walPut 1 2 q ps = (cutD S 1 2 q ps f, 20) := put_cut (S := S) (fr := 1) (by omega) hg c
    refine ⟨_, 20, by rw [nApply_put hg hla (by rw [hp]; exact (by decide : ¬ (20 : Int) = 0)), hp], .inr rfl, fun ks => ?_⟩
    have hup : ∀ (k : Nat), StA (upS S (imgL 2 (ps.take k)) ks) L B := fun k => h.img hg (upS_length _ _ _) fun j hj => up_out fun b hb => by
      have := imgL_mem _ _ _ hb
      have h1 : (ps.take k).length ≤ 5 := Nat.le_trans (by rw [List.length_take]; omega) h5
      have h2 : 2 ≤ j ∧ j < 2 + (ps.take k).length := this
      omega
    have hdn : StA (doneS S (imgL 2 ps)) L B := h.img hg (doneS_length _ _) fun j hj => by
      by_cases hjl : j < S.length
      · rw [← nowS_nil, nowS_done _ _ _ hjl, now_img _ _ _ _ hjl, if_neg (by omega)]
      · rw [List.getD_eq_getElem?_getD, List.getD_eq_getElem?_getD, List.getElem?_eq_none (by rw [doneS_length]; omega), List.getElem?_eq_none (by omega)]
    unfold cutD
    by_cases c1 : f < ps.length
    · rw [if_pos c1]
      exact ⟨_, rfl, .inr ⟨rfl, .inl (hup f)⟩⟩
    rw [if_neg c1]
    by_cases c2 : f = ps.length
    · rw [if_pos c2]
      have := hup ps.length
      rw [List.take_length] at this
      exact ⟨_, rfl, .inr ⟨rfl, .inl this⟩⟩
    rw [if_neg c2]
    by_cases c3 : f = ps.length + 1
    · rw [if_pos c3]
      exact ⟨_, rfl, .inr ⟨rfl, .inl hdn⟩⟩
    rw [if_neg c3]
    refine ⟨_, rfl, .inr ⟨rfl, ?_⟩⟩
    show StA (upS (doneS S (imgL 2 ps)) [(1, hdrS 2 q ps)] ks) _ _ ∨ _
    have hu : upS (doneS S (imgL 2 ps)) [(1, hdrS 2 q ps)] ks = (if ks.getD 0 0 % 2 = 1 then (doneS S (imgL 2 ps)).set 1 (hdrS 2 q ps) else doneS S (imgL 2 ps)) := rfl
    rw [hu]
    split
    · exact .inr hM
    · exact .inl hdn
  · have hp : (Dst.mk S [] (f : Int) false).walPut 1 2 q ps = (⟨putS S 1 2 q ps, [], dec (f : Int) (ps.length + 3), false⟩, 0) := put_all (S := S) (fr := 1) (by omega) hg (.inr (by omega))
    obtain ⟨g, hgf⟩ : ∃ g : Nat, dec (f : Int) (ps.length + 3) = (g : Int) := ⟨f - (ps.length + 3), by unfold dec; rw [if_neg (by omega)]; omega⟩
    rw [hgf] at hp
    obtain ⟨t, z, h1, h2, h3, h4⟩ := carry_torn hM hg g d
    refine ⟨t, z, by rw [nApply_go hg hla (by rw [hp]), hp]; exact h1, h2, fun ks => ?_⟩
    obtain ⟨S', e1, e2⟩ := h4 ks
    exact ⟨S', e1, e2.imp id (fun x => ⟨x.1, .inr x.2⟩)⟩
theorem StA.opens (h : StA S L B) (f : Int) : (Dst.mk S [] f false).nOpen = (Dst.mk S [] f false, 0, L) := by
  have hl := h.len
  have r0 := read_up (S := S) (f := f) (i := 0) (by omega)
  have r1 := read_up (S := S) (f := f) (i := 1) (by omega)
  have r0' : (Dst.mk S [] f false).readB 0 = S.getD 0 [] := r0.1
  have hd : labDec ((Dst.mk S [] f false).readB 0) = (L, 0) := by rw [r0', h.lab, lab_back]
  have hm : mayB (Dst.mk S [] f false).S.length 1 = true := by show mayB S.length 1 = true; rw [hl]; decide
  by_cases hf : formB (S.getD 1 []) = true
  · exact nOpen_old hl r0.2 hd (walGet_d hm r1.2 r1.1 hf) (h.hdr hf)
  · exact nOpen_form hl r0.2 hd (by rw [walGet_c hm r1.2 r1.1 hf])
theorem StM.opens (h : StM S L B q ps) (hg : goodB ps = true) (hla : laterB 2 q L.e L.s = true) (f : Int) : (Dst.mk S [] f false).nOpen = (((Dst.mk S [] f false).carry ps (carryL L 2 q ps L.d)).1, ((Dst.mk S [] f false).carry ps (carryL L 2 q ps L.d)).2, carryL L 2 q ps L.d) := by
  have hl := h.len
  have r0 := read_up (S := S) (f := f) (i := 0) (by omega)
  have r0' : (Dst.mk S [] f false).readB 0 = S.getD 0 [] := r0.1
  have hd : labDec ((Dst.mk S [] f false).readB 0) = (L, 0) := by rw [r0', h.lab, lab_back]
  obtain ⟨r, hr, _, _, _, h4⟩ := get_hdr (S := S) (fr := 1) (f := f) (e := 2) (q := q) (ps := ps) (by omega) hg h.hdr
  have hr' : (Dst.mk S [] f false).walGet 1 = (⟨2, q, ps⟩, 0) := by
    rw [← h4 fun i hi => by rw [show 1 + 1 + i = 2 + i by omega]; exact h.img i hi]
    exact hr
  exact nOpen_go hl r0.2 hd hr' hla
/-- What a disk may hold behind a cut Apply (er: its answer) and an Up. -/
def StT (S : List (List UInt8)) (L : Lab) (B : Nat → List UInt8) (q : UInt32) (ps : List PutV) (d : UInt16) (er : Int) : Prop :=
  StA S (carryL L 2 q ps d) (wupd B ps) ∨ (er = 20 ∧ (StA S L B ∨ StM S L B q ps ∨ StA S (carryL L 2 q ps L.d) (wupd B ps)))
theorem StT.len {d : UInt16} {er : Int} (h : StT S L B q ps d er) : S.length = 19 := by
  rcases h with h | ⟨_, h | h | h⟩ <;> exact h.len
/-- An opening that is cut, and an Up. -/
theorem open_torn {d : UInt16} {er : Int} (h : StT S L B q ps d er) (hg : goodB ps = true) (hla : laterB 2 q L.e L.s = true) (f : Nat) : ∃ t z l, (Dst.mk S [] (f : Int) false).nOpen = (t, z, l) ∧ ∀ ks, ∃ S', t.up ks = UpD S' ∧ StT S' L B q ps d er := by
  rcases h with h | ⟨he, h | h | h⟩
  · exact ⟨_, _, _, h.opens f, fun ks => ⟨_, rfl, .inl h⟩⟩
  · exact ⟨_, _, _, h.opens f, fun ks => ⟨_, rfl, .inr ⟨he, .inl h⟩⟩⟩
  · obtain ⟨t, z, h1, h2, h3, h4⟩ := carry_torn h hg f L.d
    refine ⟨t, z, carryL L 2 q ps L.d, by rw [h.opens hg hla, h1], fun ks => ?_⟩
    obtain ⟨S', e1, e2⟩ := h4 ks
    exact ⟨S', e1, .inr ⟨he, e2.elim (fun x => .inr (.inr x)) (fun x => .inr (.inl x.2))⟩⟩
  · exact ⟨_, _, _, h.opens f, fun ks => ⟨_, rfl, .inr ⟨he, .inr (.inr h)⟩⟩⟩
/-- An opening that is not cut. -/
theorem open_whole {d : UInt16} {er : Int} (h : StT S L B q ps d er) (hg : goodB ps = true) (hla : laterB 2 q L.e L.s = true) : ∃ T l, (UpD S).nOpen = (UpD T, 0, l) ∧ T.length = 19 ∧
    ((er = 20 ∧ l = L ∧ ∀ b, b < 12 → T.getD (7 + b) [] = B b) ∨ ((l = carryL L 2 q ps L.d ∨ l = carryL L 2 q ps d) ∧ ∀ b, b < 12 → T.getD (7 + b) [] = wupd B ps b)) := by
  rcases h with h | ⟨he, h | h | h⟩
  · exact ⟨_, _, h.opens (-1), h.len, .inr ⟨.inr rfl, h.blk⟩⟩
  · exact ⟨_, _, h.opens (-1), h.len, .inl ⟨he, rfl, h.blk⟩⟩
  · have hc := carry_all (S := S) (f := -1) (l := carryL L 2 q ps L.d) h.len (goodB_ats' hg) (.inl (by decide))
    rw [dec_up] at hc
    obtain ⟨hM, hD⟩ := h.done hg
    have hST := hM.set hg hD L.d
    have ho : (UpD S).nOpen = _ := h.opens hg hla (-1)
    rw [hc] at ho
    exact ⟨_, _, ho, hST.len, .inr ⟨.inl rfl, hST.blk⟩⟩
  · exact ⟨_, _, h.opens (-1), h.len, .inr ⟨.inl rfl, h.blk⟩⟩
end
/-- A new node's disk with a label. -/
theorem stA_new (l : Lab) : StA (S0.set 0 (labEnc l)) l (fun _ => List.replicate 32 0) := by
  refine ⟨by rw [set_len]; rfl, set_lab S0_len, fun h => ?_, fun b hb => ?_⟩
  · rw [set_other (by decide)] at h
    exact absurd h (by decide +kernel)
  · rw [set_other (by omega), S0, List.getD_eq_getElem?_getD, List.getElem?_replicate, if_pos (by omega)]
    rfl
/-- An Apply that went through. -/
theorem stA_app {S : List (List UInt8)} {L : Lab} {B : Nat → List UInt8} {q : UInt32} {ps : List PutV} {d : UInt16} (h : StA S L B) (hg : goodB ps = true) : StA (appS S 2 q ps (carryL L 2 q ps d)) (carryL L 2 q ps d) (wupd B ps) :=
  StA.of hg (by rw [appS_length]; exact h.len) (appS_lab h.len) (appS_hdr h.len) rfl rfl (fun b hb => by rw [appS_blk h.len hg hb]; exact wupd_congr ps _ _ b (h.blk b hb))
end Go.Proofs.Ytcmfkdfegfablaa
