/- Texts of this seat, merged: WalGetP, WalLive, WalGet, WalGetR. -/
import Derived.Test.YtchcnkobgdbdkaaLd
import Derived.Test.YtchcnkobgdbdkaaLb
import Derived.Test.YtchcnkobgdbdkaaLa

/- What wal's Get tells of a disk's state, in plain Lean. -/
namespace Go.Proofs.Ytchcnkobgdbdkaa
open Go.RowKit
set_option linter.unusedVariables false
set_option linter.unusedSimpArgs false

/-- A record: its epoch, its number, its puts. -/
structure Rec where
  e : UInt32
  q : UInt32
  ps : List PutV
def Rec.no : Rec := ⟨0, 0, []⟩
theorem le_num : ∀ (l : List UInt8), le (num l) l.length = l
  | [] => rfl
  | b :: l => by
    have h2 := b.toNat_lt
    rw [List.length_cons, le, num]
    have h3 : (b.toNat + 256 * num l) / 256 = num l := by omega
    rw [h3, le_num l]
    congr 1
    apply UInt8.toNat_inj.1
    rw [UInt8.toNat_ofNat']
    show (b.toNat + 256 * num l) % 256 = b.toNat
    omega
theorem num_u32 {l : List UInt8} (h : l.length = 4) : (UInt32.ofNat (num l)).toNat = num l := by
  have := num_lt l
  rw [h] at this
  rw [UInt32.toNat_ofNat']
  exact Nat.mod_eq_of_lt (by simpa using this)
theorem vu32_num {l : List UInt8} (h : l.length = 4) : (.int .u32 (num l : Nat) : Value) = vu32 (UInt32.ofNat (num l)) := by
  unfold vu32
  rw [num_u32 h]
def nOf (x : List UInt8) : Nat := ((bodyOf x).getD 8 0).toNat
def atOf (x : List UInt8) (i : Nat) : Int := (((bodyOf x).getD (9 + i) 0).toNat : Nat)
def putsK (x : List UInt8) (D : Nat → List UInt8) (k : Nat) : List PutV := (List.range k).map fun i => ⟨atOf x i, D i⟩
def eOf (x : List UInt8) : UInt32 := UInt32.ofNat (num ((bodyOf x).take 4))
def qOf (x : List UInt8) : UInt32 := UInt32.ofNat (num (((bodyOf x).drop 4).take 4))
def restB (x : List UInt8) : Prop := (bodyOf x).drop (9 + nOf x) = List.replicate (20 - nOf x) 0
def zdat : Nat → List UInt8 := fun _ => List.replicate 32 0
def formB (x : List UInt8) : Bool := decide ((decR x).2 = 0 ∧ x.getD 0 0 = 0x57 ∧ nOf x ≤ 5 ∧ (bodyOf x).drop (9 + nOf x) = List.replicate (20 - nOf x) 0 ∧ goodB (putsK x zdat (nOf x)) = true)
theorem formB_iff {x : List UInt8} : formB x = true ↔ ((decR x).2 = 0 ∧ x.getD 0 0 = 0x57 ∧ nOf x ≤ 5 ∧ restB x ∧ goodB (putsK x zdat (nOf x)) = true) := decide_eq_true_iff
theorem putsK_length (x : List UInt8) (D : Nat → List UInt8) (k : Nat) : (putsK x D k).length = k := by simp [putsK]
theorem putsK_zero (x : List UInt8) (D : Nat → List UInt8) : putsK x D 0 = [] := rfl
theorem putsK_succ (x : List UInt8) (D : Nat → List UInt8) (k : Nat) : putsK x D (k + 1) = putsK x D k ++ [⟨atOf x k, D k⟩] := by
  rw [putsK, List.range_succ, List.map_append]
  rfl
theorem putsK_get {x : List UInt8} {D : Nat → List UInt8} {k i : Nat} (h : i < k) : (putsK x D k)[i]? = some ⟨atOf x i, D i⟩ := by
  rw [putsK, List.getElem?_map, List.getElem?_range h]
  rfl
theorem atOf_lt (x : List UInt8) (i : Nat) : 0 ≤ atOf x i ∧ atOf x i < 256 := by
  have := ((bodyOf x).getD (9 + i) 0).toNat_lt
  unfold atOf
  omega
theorem putsK_ok {x : List UInt8} {D : Nat → List UInt8} {k : Nat} (hD : ∀ i, (D i).length = 32) : PutsOk (putsK x D k) := by
  intro p hp
  obtain ⟨i, _, rfl⟩ := List.mem_map.1 hp
  have := atOf_lt x i
  exact ⟨hD i, by show -9223372036854775808 ≤ atOf x i; omega, by show atOf x i ≤ 9223372036854775807; omega⟩
theorem putsK_at {x : List UInt8} {D : Nat → List UInt8} {k : Nat} : ∀ p ∈ putsK x D k, 0 ≤ p.at_ ∧ p.at_ < 256 := by
  intro p hp
  obtain ⟨i, _, rfl⟩ := List.mem_map.1 hp
  exact atOf_lt x i
theorem putsK_ats (x : List UInt8) (D : Nat → List UInt8) (k : Nat) : (putsK x D k).map (·.at_) = (List.range k).map (atOf x) := by
  rw [putsK, List.map_map]
  rfl
theorem putsK_congr {x : List UInt8} {D D' : Nat → List UInt8} {k : Nat} (h : ∀ i, i < k → D i = D' i) : putsK x D k = putsK x D' k := by
  apply List.map_congr_left
  intro i hi
  rw [h i (List.mem_range.1 hi)]
theorem goodB_ats {ps qs : List PutV} (h : ps.map (·.at_) = qs.map (·.at_)) : goodB ps = goodB qs := by
  have hl : ps.length = qs.length := by simpa using congrArg List.length h
  have hm : ∀ {us bs : List PutV}, us.map (·.at_) = bs.map (·.at_) → (∀ p ∈ us, 0 ≤ p.at_ ∧ p.at_ < 12) → (∀ p ∈ bs, 0 ≤ p.at_ ∧ p.at_ < 12) := by
    intro us bs hab hp p hq
    have : p.at_ ∈ us.map (·.at_) := by rw [hab]; exact List.mem_map_of_mem hq
    obtain ⟨r, hr, he⟩ := List.mem_map.1 this
    have := hp r hr
    rw [← he]
    exact this
  have key : ∀ {us bs : List PutV}, us.map (·.at_) = bs.map (·.at_) → goodB us = true → goodB bs = true := by
    intro us bs hab hg
    have hll : us.length = bs.length := by simpa using congrArg List.length hab
    obtain ⟨h1, h2, h3, h4⟩ := goodB_at hg
    exact decide_eq_true ⟨by omega, by omega, hm hab h3, by rw [← hab]; exact h4⟩
  rw [Bool.eq_iff_iff]
  exact ⟨key h, key h.symm⟩
theorem bodyOf_length {x : List UInt8} (h : x.length = 32) : (bodyOf x).length = 29 := by simp [bodyOf, h]
theorem bodyOf_secOf {m : UInt8} {b : List UInt8} (h : b.length = 29) : bodyOf (secOf m b) = b := by
  show ((b ++ _).take 29) = b
  rw [List.take_append_of_le_length (by omega), List.take_of_length_le (by omega)]
theorem hdrB_take {x : List UInt8} {D : Nat → List UInt8} (h : x.length = 32) (hn : nOf x ≤ 5) : hdrB (eOf x) (qOf x) (putsK x D (nOf x)) = (bodyOf x).take (9 + nOf x) := by
  have hl := bodyOf_length h
  have hnn : nOf x = ((bodyOf x).getD 8 0).toNat := rfl
  unfold hdrB
  rw [putsK_length]
  unfold eOf qOf putsK atOf
  generalize nOf x = n at *
  generalize bodyOf x = B at *
  have h1 : (B.take 4).length = 4 := by simp; omega
  have h2 : ((B.drop 4).take 4).length = 4 := by simp; omega
  rw [num_u32 h1, num_u32 h2]
  have e1 : le (num (B.take 4)) 4 = B.take 4 := by have := le_num (B.take 4); rwa [h1] at this
  have e2 : le (num ((B.drop 4).take 4)) 4 = (B.drop 4).take 4 := by have := le_num ((B.drop 4).take 4); rwa [h2] at this
  have e3 : [UInt8.ofNat n] = (B.drop 8).take 1 := by
    have h8 : 8 < B.length := by omega
    rw [hnn, UInt8.ofNat_toNat, List.drop_eq_getElem_cons h8, List.take_succ_cons, List.take_zero, List.getD_eq_getElem?_getD, List.getElem?_eq_getElem h8]
    rfl
  have e4 : ((List.range n).map fun i => (⟨(((B.getD (9 + i) 0).toNat : Nat) : Int), D i⟩ : PutV)).map (fun p => UInt8.ofNat p.at_.toNat) = (B.drop 9).take n := by
    rw [List.map_map]
    apply List.ext_getElem
    · simp; omega
    · intro i h3 h4
      have hi : i < n := by simpa using h3
      have h9 : 9 + i < B.length := by omega
      simp only [List.getElem_map, List.getElem_range, List.getElem_take, List.getElem_drop, Function.comp, Int.toNat_natCast, UInt8.ofNat_toNat]
      rw [List.getD_eq_getElem?_getD, List.getElem?_eq_getElem h9]
      rfl
  rw [e1, e2, e3, e4, show 9 + n = 4 + (4 + (1 + n)) by omega, List.take_add, List.take_add (l := B.drop 4), List.take_add (l := (B.drop 4).drop 4), List.drop_drop, List.drop_drop]
  simp only [List.append_assoc]
theorem decR_ok {x : List UInt8} (h : (decR x).2 = 0) : (decR x).1 = x.getD 0 0 :: bodyOf x ∧ secOf (x.getD 0 0) (bodyOf x) = x := by
  unfold decR at *
  split at h
  · exact absurd h (by decide)
  · rename_i hh
    rw [if_neg hh]
    exact ⟨rfl, Decidable.byContradiction fun hc => hh (.inr hc)⟩
theorem decR_err {x : List UInt8} (h : ¬ (decR x).2 = 0) : (decR x).1 = List.replicate 30 0 ∧ (decR x).2 = 11 := by
  unfold decR at *
  split
  · exact ⟨rfl, rfl⟩
  · rename_i hh
    rw [if_neg hh] at h
    exact absurd rfl h
/-- The program's test of the header is the reference's test of the zeros. -/
theorem hdr_back {x : List UInt8} {D : Nat → List UInt8} (h : x.length = 32) (hd : (decR x).2 = 0) (hm : x.getD 0 0 = 0x57) (hn : nOf x ≤ 5) : hdrS (eOf x) (qOf x) (putsK x D (nOf x)) = x ↔ restB x := by
  have hl := bodyOf_length h
  have hx := (decR_ok hd).2
  rw [hm] at hx
  have hp : padB (hdrB (eOf x) (qOf x) (putsK x D (nOf x))) = (bodyOf x).take (9 + nOf x) ++ List.replicate (20 - nOf x) 0 := by
    rw [padB, hdrB_take h hn]
    congr 2
    simp
    omega
  have hpl : (padB (hdrB (eOf x) (qOf x) (putsK x D (nOf x)))).length = 29 := padB_length (by rw [hdrB_length, putsK_length]; omega)
  constructor
  · intro hh
    have h3 : padB (hdrB (eOf x) (qOf x) (putsK x D (nOf x))) = bodyOf x := by
      rw [← bodyOf_secOf (m := 0x57) hpl]
      exact congrArg bodyOf hh
    rw [hp] at h3
    have h4 := congrArg (List.drop (9 + nOf x)) h3
    rw [List.drop_append_of_le_length (by simp; omega), List.drop_of_length_le (by rw [List.length_take]; omega), List.nil_append] at h4
    exact h4.symm
  · intro hh
    rw [hdrS, hp, ← hh, List.take_append_drop, hx]
theorem rest_at {x : List UInt8} (h : x.length = 32) (hn : nOf x ≤ 5) : restB x ↔ ∀ j, 9 + nOf x ≤ j → j < 29 → (bodyOf x).getD j 0 = 0 := by
  have hl := bodyOf_length h
  unfold restB
  generalize nOf x = n at *
  generalize bodyOf x = B at *
  constructor
  · intro hh j hj hj2
    have := congrArg (fun l => l.getD (j - (9 + n)) 0) hh
    simp only [List.getD_eq_getElem?_getD, List.getElem?_drop] at this
    rw [show 9 + n + (j - (9 + n)) = j by omega] at this
    rw [List.getD_eq_getElem?_getD, this, List.getElem?_replicate]
    split <;> rfl
  · intro hh
    apply List.ext_getElem
    · simp; omega
    · intro i h1 h2
      have hi : i < 20 - n := by simpa using h2
      have := hh (9 + n + i) (by omega) (by omega)
      rw [List.getD_eq_getElem?_getD, List.getElem?_eq_getElem (by omega)] at this
      rw [List.getElem_drop, List.getElem_replicate]
      exact this
def recOf (x : List UInt8) (D : Nat → List UInt8) : Rec := ⟨eOf x, qOf x, putsK x D (nOf x)⟩
def Dst.walGet (s : Dst) (fr : Int) : Rec × Int :=
  if mayB s.S.length fr = true then
    if s.readE fr = 0 then (if formB (s.readB fr) = true then (recOf (s.readB fr) (fun i => s.readB (fr + 1 + (i : Nat))), 0) else (Rec.no, 11)) else (Rec.no, s.readE fr)
  else (Rec.no, 1)
theorem walGet_a {s : Dst} {fr : Int} (h : ¬ mayB s.S.length fr = true) : s.walGet fr = (Rec.no, 1) := if_neg h
theorem walGet_b {s : Dst} {fr : Int} (h : mayB s.S.length fr = true) (h2 : ¬ s.readE fr = 0) : s.walGet fr = (Rec.no, s.readE fr) := by rw [Dst.walGet, if_pos h, if_neg h2]
theorem walGet_c {s : Dst} {fr : Int} {x : List UInt8} (h : mayB s.S.length fr = true) (h2 : s.readE fr = 0) (hx : s.readB fr = x) (h3 : ¬ formB x = true) : s.walGet fr = (Rec.no, 11) := by rw [Dst.walGet, if_pos h, if_pos h2, hx, if_neg h3]
theorem walGet_d {s : Dst} {fr : Int} {x : List UInt8} (h : mayB s.S.length fr = true) (h2 : s.readE fr = 0) (hx : s.readB fr = x) (h3 : formB x = true) : s.walGet fr = (recOf x (fun i => s.readB (fr + 1 + (i : Nat))), 0) := by rw [Dst.walGet, if_pos h, if_pos h2, hx, if_pos h3]
theorem readE_next {s : Dst} {fr : Int} (h : mayB s.S.length fr = true) (h2 : s.readE fr = 0) {i : Nat} (hi : i < 5) : s.readE (fr + 1 + (i : Nat)) = 0 := by
  have h1 := mayB_at h
  unfold Dst.readE Go.Proofs.Ytchcnkobgdbdkaa.readE at *
  rw [if_pos (by omega)] at h2 ⊢
  exact h2
/-- What a Get leaves: the record's struct, its puts to be read. -/
def GetPost (w : World) (r : Rec) (er : Int) (e : Ending) (w' : World) : Prop :=
  ∃ A c, e = .returned (.tuple #[.agg #[vu32 r.e, vu32 r.q, .slice A r.ps.length c], .int .i64 er]) ∧ Rd w' A (r.ps.flatMap putC) ∧ r.ps.length ≤ c ∧ c ≤ 9223372036854775807 ∧ Below w.heap.size w w'
def RGetPost (w : World) (r : Rec) (er : Int) (e : Ending) (w' : World) : Prop :=
  ∃ A c, e = .returned (.agg #[vu32 r.e, vu32 r.q, .slice A r.ps.length c, .int .i64 er]) ∧ Rd w' A (r.ps.flatMap putC) ∧ r.ps.length ≤ c ∧ c ≤ 9223372036854775807 ∧ Below w.heap.size w w'
end Go.Proofs.Ytchcnkobgdbdkaa


/- What Put leaves and Get tells of it, in plain Lean: wholly, and cut at any write or flush. -/
namespace Go.Proofs.Ytchcnkobgdbdkaa
open Go.RowKit
set_option linter.unusedVariables false
set_option linter.unusedSimpArgs false

theorem getD_pre {l r : List UInt8} {i : Nat} (h : i < l.length) : (l ++ r).getD i 0 = l.getD i 0 := by
  rw [List.getD_eq_getElem?_getD, List.getD_eq_getElem?_getD, List.getElem?_append_left h]
/-- A header's bytes. -/
theorem hdr_body {e q : UInt32} {ps : List PutV} (h : ps.length ≤ 5) : bodyOf (hdrS e q ps) = hdrB e q ps ++ List.replicate (20 - ps.length) 0 := by
  have hl := hdrB_length e q ps
  rw [hdrS, bodyOf_secOf (padB_length (by omega)), padB, hl, show 29 - (9 + ps.length) = 20 - ps.length by omega]
theorem hdr_n {e q : UInt32} {ps : List PutV} (h : ps.length ≤ 5) : nOf (hdrS e q ps) = ps.length := by
  have h1 := le_length 4 e.toNat
  have h2 := le_length 4 q.toNat
  rw [nOf, hdr_body h, getD_pre (by rw [hdrB_length]; omega), hdrB, getD_pre (by simp [h1, h2]), List.getD_eq_getElem?_getD, List.getElem?_append_right (by simp [h1, h2])]
  simp [h1, h2]
  omega
theorem hdr_e {e q : UInt32} {ps : List PutV} (h : ps.length ≤ 5) : eOf (hdrS e q ps) = e := by
  have h1 := le_length 4 e.toNat
  have ht : (le e.toNat 4 ++ (le q.toNat 4 ++ [UInt8.ofNat ps.length] ++ ps.map (fun p : PutV => UInt8.ofNat p.at_.toNat) ++ List.replicate (20 - ps.length) 0)).take 4 = le e.toNat 4 := by
    rw [List.take_append_of_le_length (by omega), List.take_of_length_le (by omega)]
  rw [eOf, hdr_body h, hdrB]
  simp only [List.append_assoc] at ht ⊢
  rw [ht, num_le 4 _ (by have := e.toNat_lt; omega), UInt32.ofNat_toNat]
theorem hdr_q {e q : UInt32} {ps : List PutV} (h : ps.length ≤ 5) : qOf (hdrS e q ps) = q := by
  have h1 := le_length 4 e.toNat
  have h2 := le_length 4 q.toNat
  have ht : ((le e.toNat 4 ++ (le q.toNat 4 ++ ([UInt8.ofNat ps.length] ++ (ps.map (fun p : PutV => UInt8.ofNat p.at_.toNat) ++ List.replicate (20 - ps.length) 0)))).drop 4).take 4 = le q.toNat 4 := by
    rw [List.drop_append_of_le_length (by omega), List.drop_of_length_le (by omega), List.nil_append, List.take_append_of_le_length (by omega), List.take_of_length_le (by omega)]
  rw [qOf, hdr_body h, hdrB]
  simp only [List.append_assoc] at ht ⊢
  rw [ht, num_le 4 _ (by have := q.toNat_lt; omega), UInt32.ofNat_toNat]
theorem hdr_at {e q : UInt32} {ps : List PutV} (h : ps.length ≤ 5) (hat : ∀ p ∈ ps, 0 ≤ p.at_ ∧ p.at_ < 256) {i : Nat} (hi : i < ps.length) : atOf (hdrS e q ps) i = ps[i].at_ := by
  have h1 := le_length 4 e.toNat
  have h2 := le_length 4 q.toNat
  have h9 : (le e.toNat 4 ++ le q.toNat 4 ++ [UInt8.ofNat ps.length]).length = 9 := by simp [h1, h2]
  have ha := hat _ (List.getElem_mem hi)
  rw [atOf, hdr_body h, getD_pre (by rw [hdrB_length]; omega), hdrB, List.getD_eq_getElem?_getD, List.getElem?_append_right (by omega), h9, Nat.add_sub_cancel_left, List.getElem?_map, List.getElem?_eq_getElem hi]
  show (((UInt8.ofNat ps[i].at_.toNat).toNat : Nat) : Int) = _
  rw [UInt8.toNat_ofNat']
  show ((ps[i].at_.toNat % 256 : Nat) : Int) = _
  omega
theorem hdr_rest {e q : UInt32} {ps : List PutV} (h : ps.length ≤ 5) : restB (hdrS e q ps) := by
  unfold restB
  rw [hdr_n h, hdr_body h, List.drop_append_of_le_length (by rw [hdrB_length]; omega), List.drop_of_length_le (by rw [hdrB_length]; omega), List.nil_append]
theorem hdr_dec {e q : UInt32} {ps : List PutV} (h : ps.length ≤ 5) : (decR (hdrS e q ps)).2 = 0 := by
  have h0 : (hdrS e q ps).getD 0 0 = 0x57 := rfl
  have hb : secOf 0x57 (bodyOf (hdrS e q ps)) = hdrS e q ps := by
    rw [hdrS, bodyOf_secOf (padB_length (by rw [hdrB_length]; omega))]
  unfold decR
  rw [h0, hb, if_neg (by simp)]
theorem hdr_ats {e q : UInt32} {ps : List PutV} {D : Nat → List UInt8} (h : ps.length ≤ 5) (hat : ∀ p ∈ ps, 0 ≤ p.at_ ∧ p.at_ < 256) : (putsK (hdrS e q ps) D ps.length).map (·.at_) = ps.map (·.at_) := by
  rw [putsK_ats]
  apply List.ext_getElem
  · simp
  · intro i h1 h2
    have hi : i < ps.length := by simpa using h2
    simp only [List.getElem_map, List.getElem_range]
    exact hdr_at h hat hi
theorem hdr_form {e q : UInt32} {ps : List PutV} (hg : goodB ps = true) : formB (hdrS e q ps) = true := by
  obtain ⟨h1, h5, h12, _⟩ := goodB_at hg
  have hat : ∀ p ∈ ps, 0 ≤ p.at_ ∧ p.at_ < 256 := fun p hp => by have := h12 p hp; omega
  refine formB_iff.2 ⟨hdr_dec h5, rfl, by rw [hdr_n h5]; exact h5, hdr_rest h5, ?_⟩
  rw [hdr_n h5, goodB_ats (hdr_ats (D := zdat) h5 hat)]
  exact hg
def dat (ps : List PutV) (i : Nat) : List UInt8 := ((ps[i]?).map (·.data)).getD []
/-- Of a header Get tells the numbers and the places; with the images all. -/
theorem rec_hdr {e q : UInt32} {ps : List PutV} {D : Nat → List UInt8} (hg : goodB ps = true) :
    (recOf (hdrS e q ps) D).e = e ∧ (recOf (hdrS e q ps) D).q = q ∧ (recOf (hdrS e q ps) D).ps.map (·.at_) = ps.map (·.at_) ∧ ((∀ i, i < ps.length → D i = dat ps i) → recOf (hdrS e q ps) D = ⟨e, q, ps⟩) := by
  obtain ⟨h1, h5, h12, _⟩ := goodB_at hg
  have hat : ∀ p ∈ ps, 0 ≤ p.at_ ∧ p.at_ < 256 := fun p hp => by have := h12 p hp; omega
  refine ⟨hdr_e h5, hdr_q h5, ?_, fun hD => ?_⟩
  · show (putsK (hdrS e q ps) D (nOf (hdrS e q ps))).map _ = _
    rw [hdr_n h5, hdr_ats h5 hat]
  · unfold recOf
    rw [hdr_e h5, hdr_q h5, hdr_n h5]
    congr 1
    apply List.ext_getElem
    · rw [putsK_length]
    · intro i h3 h4
      have := putsK_get (x := hdrS e q ps) (D := D) h4
      rw [List.getElem?_eq_getElem h3] at this
      rw [Option.some.inj this, hdr_at h5 hat h4, hD i h4, dat, List.getElem?_eq_getElem h4]
      rfl
/-- The images, as loose writes. -/
def imgL (fr : Nat) : List PutV → List (Nat × List UInt8)
  | [] => []
  | p :: ps => (fr, p.data) :: imgL (fr + 1) ps
theorem imgL_length : ∀ (ps : List PutV) (fr : Nat), (imgL fr ps).length = ps.length
  | [], _ => rfl
  | p :: ps, fr => by rw [imgL, List.length_cons, imgL_length ps, List.length_cons]
theorem imgL_mem : ∀ (ps : List PutV) (fr : Nat) (x : Nat × List UInt8), x ∈ imgL fr ps → fr ≤ x.1 ∧ x.1 < fr + ps.length
  | [], _, _, h => by simp [imgL] at h
  | p :: ps, fr, x, h => by
    rcases List.mem_cons.1 h with rfl | h
    · exact ⟨Nat.le_refl _, by simp⟩
    · have := imgL_mem ps (fr + 1) x h
      rw [List.length_cons]
      omega
theorem now_img : ∀ (ps : List PutV) (fr : Nat) (S : List (List UInt8)) (j : Nat), j < S.length → nowS S (imgL fr ps) j = if fr ≤ j ∧ j < fr + ps.length then dat ps (j - fr) else S.getD j []
  | [], fr, S, j, _ => by
    rw [if_neg (by intro hh; have := hh.1; have h2 := hh.2; rw [List.length_nil] at h2; omega)]
    rfl
  | p :: ps, fr, S, j, hj => by
    rw [imgL, nowS_cons _ _ _ _ hj, now_img ps (fr + 1) _ j (by simpa using hj), List.length_cons]
    by_cases h1 : fr + 1 ≤ j ∧ j < fr + 1 + ps.length
    · rw [if_pos h1, if_pos (by omega), dat, dat, show j - fr = j - (fr + 1) + 1 by omega, List.getElem?_cons_succ]
    · rw [if_neg h1]
      simp only [List.getD_eq_getElem?_getD, List.getElem?_set]
      by_cases h2 : fr = j
      · subst h2
        rw [if_pos rfl, if_pos hj, if_pos (by omega), Nat.sub_self]
        rfl
      · rw [if_neg h2, if_neg (by omega)]
theorem passD_go {f : Int} (h : f ≠ 0) : passD f false = false := by
  unfold passD
  simpa using h
theorem passD_stop {dn : Bool} : passD 0 dn = true := by
  unfold passD
  simp
/-- How a fuse goes down by k. -/
def dec (f : Int) (k : Nat) : Int := if f < 0 then f else f - k
theorem passF_go {f : Int} (h : f ≠ 0) : passF f false = dec f 1 := by
  unfold passF dec
  by_cases h2 : f < 0
  · rw [if_neg (by simp; omega), if_neg (by omega), if_pos h2]
  · rw [if_neg (by simp; omega), if_pos (by omega), if_neg h2]
    rfl
theorem passF_stop {dn : Bool} : passF 0 dn = 0 := by
  unfold passF
  rw [if_pos (.inr rfl)]
theorem write_go {S : List (List UInt8)} {L : List (Nat × List UInt8)} {f : Int} {i : Nat} {b : List UInt8} (h : i < S.length) (hf : f ≠ 0) : (Dst.mk S L f false).write (i : Int) b = ⟨S, L ++ [(i, b)], dec f 1, false⟩ ∧ (Dst.mk S L f false).writeE (i : Int) = 0 := by
  have hh : (Dst.mk S L f false).has (i : Int) := ⟨by omega, by show (i : Int) < (S.length : Int); omega⟩
  constructor
  · rw [Dst.write, if_pos hh]
    show (if passD f false = true then _ else _) = _
    rw [passD_go hf, if_neg (by decide)]
    show Dst.mk S _ (passF f false) false = _
    rw [passF_go hf]
    rfl
  · rw [Dst.writeE, if_pos hh]
    show (if passD f false = true then _ else _) = _
    rw [passD_go hf, if_neg (by decide)]
theorem write_stop {S : List (List UInt8)} {L : List (Nat × List UInt8)} {i : Nat} {b : List UInt8} (h : i < S.length) : (Dst.mk S L 0 false).write (i : Int) b = ⟨S, L, 0, true⟩ ∧ (Dst.mk S L 0 false).writeE (i : Int) = 20 := by
  have hh : (Dst.mk S L 0 false).has (i : Int) := ⟨by omega, by show (i : Int) < (S.length : Int); omega⟩
  constructor
  · rw [Dst.write, if_pos hh]
    show (if passD 0 false = true then _ else _) = _
    rw [passD_stop, if_pos rfl]
    show Dst.mk S L (passF 0 false) true = _
    rw [passF_stop]
  · rw [Dst.writeE, if_pos hh]
    show (if passD 0 false = true then _ else _) = _
    rw [passD_stop, if_pos rfl]
theorem flush_go {S : List (List UInt8)} {L : List (Nat × List UInt8)} {f : Int} (hf : f ≠ 0) : (Dst.mk S L f false).flush = ⟨doneS S L, [], dec f 1, false⟩ ∧ (Dst.mk S L f false).flushE = 0 := by
  constructor
  · rw [Dst.flush]
    show (if passD f false = true then _ else _) = _
    rw [passD_go hf, if_neg (by decide)]
    show Dst.mk _ _ (passF f false) false = _
    rw [passF_go hf]
  · rw [Dst.flushE]
    show (if passD f false = true then _ else _) = _
    rw [passD_go hf, if_neg (by decide)]
theorem flush_stop {S : List (List UInt8)} {L : List (Nat × List UInt8)} : (Dst.mk S L 0 false).flush = ⟨S, L, 0, true⟩ ∧ (Dst.mk S L 0 false).flushE = 20 := by
  constructor
  · rw [Dst.flush]
    show (if passD 0 false = true then _ else _) = _
    rw [passD_stop, if_pos rfl]
    show Dst.mk S L (passF 0 false) true = _
    rw [passF_stop]
  · rw [Dst.flushE]
    show (if passD 0 false = true then _ else _) = _
    rw [passD_stop, if_pos rfl]
theorem dec_dec (f : Int) (j k : Nat) (h : f < 0 ∨ (j : Int) ≤ f) : dec (dec f j) k = dec f (j + k) := by
  unfold dec
  by_cases hf : f < 0
  · simp [hf]
  · rw [if_neg hf]
    rcases h with h | h
    · exact absurd h hf
    · rw [if_neg (by omega), if_neg hf]
      omega
theorem dec_zero (f : Int) : dec f 0 = f := by
  unfold dec
  split
  · rfl
  · simp
/-- The images go through, all of them, -/
theorem imgs_all : ∀ (ps : List PutV) (fr : Nat) (S : List (List UInt8)) (L : List (Nat × List UInt8)) (f : Int), fr + ps.length ≤ S.length → (f < 0 ∨ (ps.length : Int) ≤ f) → (Dst.mk S L f false).imgs (fr : Int) ps = (⟨S, L ++ imgL fr ps, dec f ps.length, false⟩, 0)
  | [], fr, S, L, f, _, _ => by rw [Dst.imgs_nil, imgL, List.append_nil, List.length_nil, dec_zero]
  | p :: ps, fr, S, L, f, h, hf => by
    rw [List.length_cons] at h hf
    have hfz : f ≠ 0 := by omega
    obtain ⟨h1, h2⟩ := write_go (S := S) (L := L) (b := p.data) (show fr < S.length by omega) hfz
    rw [Dst.imgs_go h2, h1, show ((fr : Int) + 1) = ((fr + 1 : Nat) : Int) by omega, imgs_all ps (fr + 1) S _ (dec f 1) (by omega) (by unfold dec; split <;> omega), dec_dec _ _ _ (by omega), List.length_cons, imgL, List.append_assoc, Nat.add_comm 1]
    rfl
/-- or only some. -/
theorem imgs_cut : ∀ (ps : List PutV) (fr : Nat) (S : List (List UInt8)) (L : List (Nat × List UInt8)) (f : Nat), fr + ps.length ≤ S.length → f < ps.length → (Dst.mk S L (f : Int) false).imgs (fr : Int) ps = (⟨S, L ++ imgL fr (ps.take f), 0, true⟩, 20)
  | [], fr, S, L, f, _, hf => by simp at hf
  | p :: ps, fr, S, L, 0, h, hf => by
    rw [List.length_cons] at h
    obtain ⟨h1, h2⟩ := write_stop (S := S) (L := L) (b := p.data) (show fr < S.length by omega)
    show (Dst.mk S L 0 false).imgs (fr : Int) _ = _
    rw [Dst.imgs_no (by rw [h2]; decide), h1, h2, List.take_zero, imgL, List.append_nil]
  | p :: ps, fr, S, L, f + 1, h, hf => by
    rw [List.length_cons] at h hf
    obtain ⟨h1, h2⟩ := write_go (S := S) (L := L) (b := p.data) (f := ((f + 1 : Nat) : Int)) (show fr < S.length by omega) (by omega)
    rw [Dst.imgs_go h2, h1, show ((fr : Int) + 1) = ((fr + 1 : Nat) : Int) by omega, show dec ((f + 1 : Nat) : Int) 1 = (f : Int) by unfold dec; rw [if_neg (by omega)]; omega, imgs_cut ps (fr + 1) S _ f (by omega) (by omega), List.take_succ_cons, imgL, List.append_assoc]
    rfl
theorem mayB_nat {n fr : Nat} (h : fr + 6 ≤ n) : mayB n (fr : Int) = true := decide_eq_true ⟨by omega, by omega⟩
/-- The sectors behind a Put that went through. -/
def putS (S : List (List UInt8)) (fr : Nat) (e q : UInt32) (ps : List PutV) : List (List UInt8) := (doneS S (imgL (fr + 1) ps)).set fr (hdrS e q ps)
theorem putS_length (S : List (List UInt8)) (fr : Nat) (e q : UInt32) (ps : List PutV) : (putS S fr e q ps).length = S.length := by rw [putS, List.length_set, doneS_length]
theorem doneS_nil (S : List (List UInt8)) : doneS S [] = S := rfl
theorem doneS_one (S : List (List UInt8)) (i : Nat) (b : List UInt8) : doneS S [(i, b)] = S.set i b := rfl
theorem put_all {S : List (List UInt8)} {fr : Nat} {f : Int} {e q : UInt32} {ps : List PutV} (h : fr + 6 ≤ S.length) (hg : goodB ps = true) (hf : f < 0 ∨ (ps.length : Int) + 3 ≤ f) : (Dst.mk S [] f false).walPut (fr : Int) e q ps = (⟨putS S fr e q ps, [], dec f (ps.length + 3), false⟩, 0) := by
  obtain ⟨h1, h5, _, _⟩ := goodB_at hg
  have him := imgs_all ps (fr + 1) S [] f (by omega) (by omega)
  rw [show (((fr + 1 : Nat) : Int)) = (fr : Int) + 1 by omega, List.nil_append] at him
  rw [Dst.walPut_yes (mayB_nat h) hg, him]
  simp only []
  rw [if_pos trivial]
  have hz : dec f ps.length ≠ 0 := by unfold dec; split <;> omega
  obtain ⟨f1, f2⟩ := flush_go (S := S) (L := imgL (fr + 1) ps) hz
  rw [dec_dec _ _ _ (by omega)] at f1
  have hz2 : dec f (ps.length + 1) ≠ 0 := by unfold dec; split <;> omega
  obtain ⟨w1, w2⟩ := write_go (S := doneS S (imgL (fr + 1) ps)) (L := []) (b := hdrS e q ps) (show fr < _ by rw [doneS_length]; omega) hz2
  rw [dec_dec _ _ _ (by omega)] at w1
  have hz3 : dec f (ps.length + 1 + 1) ≠ 0 := by unfold dec; split <;> omega
  obtain ⟨g1, g2⟩ := flush_go (S := doneS S (imgL (fr + 1) ps)) (L := [(fr, hdrS e q ps)]) hz3
  rw [dec_dec _ _ _ (by omega)] at g1
  rw [walEnd_c f2 (by rw [f1, w2]), f1, w1, List.nil_append, g1, g2]
  rfl
/-- What a Put that was cut leaves. -/
def cutD (S : List (List UInt8)) (fr : Nat) (e q : UInt32) (ps : List PutV) (f : Nat) : Dst :=
  if f < ps.length then ⟨S, imgL (fr + 1) (ps.take f), 0, true⟩
  else if f = ps.length then ⟨S, imgL (fr + 1) ps, 0, true⟩
  else if f = ps.length + 1 then ⟨doneS S (imgL (fr + 1) ps), [], 0, true⟩
  else ⟨doneS S (imgL (fr + 1) ps), [(fr, hdrS e q ps)], 0, true⟩
theorem put_cut {S : List (List UInt8)} {fr f : Nat} {e q : UInt32} {ps : List PutV} (h : fr + 6 ≤ S.length) (hg : goodB ps = true) (hf : f < ps.length + 3) : (Dst.mk S [] (f : Int) false).walPut (fr : Int) e q ps = (cutD S fr e q ps f, 20) := by
  obtain ⟨h1, h5, _, _⟩ := goodB_at hg
  rw [Dst.walPut_yes (mayB_nat h) hg]
  by_cases hc : f < ps.length
  · have him := imgs_cut ps (fr + 1) S [] f (by omega) hc
    rw [show (((fr + 1 : Nat) : Int)) = (fr : Int) + 1 by omega, List.nil_append] at him
    rw [him]
    simp only []
    rw [if_neg (by decide), cutD, if_pos hc]
  have him := imgs_all ps (fr + 1) S [] f (by omega) (by omega)
  rw [show (((fr + 1 : Nat) : Int)) = (fr : Int) + 1 by omega, List.nil_append] at him
  rw [him]
  simp only []
  rw [if_pos trivial]
  by_cases hc2 : f = ps.length
  · have hz : dec (f : Int) ps.length = 0 := by unfold dec; rw [if_neg (by omega)]; omega
    obtain ⟨f1, f2⟩ := flush_stop (S := S) (L := imgL (fr + 1) ps)
    rw [hz, walEnd_a (by rw [f2]; decide), f1, f2, cutD, if_neg hc, if_pos hc2]
  have hz : dec (f : Int) ps.length ≠ 0 := by unfold dec; split <;> omega
  obtain ⟨f1, f2⟩ := flush_go (S := S) (L := imgL (fr + 1) ps) hz
  rw [dec_dec _ _ _ (by omega)] at f1
  by_cases hc3 : f = ps.length + 1
  · have hz2 : dec (f : Int) (ps.length + 1) = 0 := by unfold dec; rw [if_neg (by omega)]; omega
    rw [hz2] at f1
    obtain ⟨w1, w2⟩ := write_stop (S := doneS S (imgL (fr + 1) ps)) (L := []) (b := hdrS e q ps) (show fr < _ by rw [doneS_length]; omega)
    rw [walEnd_b f2 (by rw [f1, w2]; decide), f1, w1, w2, cutD, if_neg hc, if_neg hc2, if_pos hc3]
  have hz2 : dec (f : Int) (ps.length + 1) ≠ 0 := by unfold dec; split <;> omega
  obtain ⟨w1, w2⟩ := write_go (S := doneS S (imgL (fr + 1) ps)) (L := []) (b := hdrS e q ps) (show fr < _ by rw [doneS_length]; omega) hz2
  rw [dec_dec _ _ _ (by omega)] at w1
  have hz3 : dec (f : Int) (ps.length + 1 + 1) = 0 := by unfold dec; rw [if_neg (by omega)]; omega
  rw [hz3] at w1
  obtain ⟨g1, g2⟩ := flush_stop (S := doneS S (imgL (fr + 1) ps)) (L := [(fr, hdrS e q ps)])
  rw [walEnd_c f2 (by rw [f1, w2]), f1, w1, List.nil_append, g1, g2, cutD, if_neg hc, if_neg hc2, if_neg hc3]
theorem putS_hdr {S : List (List UInt8)} {fr : Nat} {e q : UInt32} {ps : List PutV} (h : fr < S.length) : (putS S fr e q ps).getD fr [] = hdrS e q ps := by
  rw [putS, List.getD_eq_getElem?_getD, List.getElem?_set_self (by rw [doneS_length]; exact h)]
  rfl
theorem putS_img {S : List (List UInt8)} {fr : Nat} {e q : UInt32} {ps : List PutV} {i : Nat} (h : fr + 1 + ps.length ≤ S.length) (hi : i < ps.length) : (putS S fr e q ps).getD (fr + 1 + i) [] = dat ps i := by
  rw [putS, List.getD_eq_getElem?_getD, List.getElem?_set_ne (by omega), ← List.getD_eq_getElem?_getD, ← nowS_nil, nowS_done _ _ _ (by omega), now_img _ _ _ _ (by omega), if_pos (by omega), Nat.add_sub_cancel_left]
theorem putS_out {S : List (List UInt8)} {fr : Nat} {e q : UInt32} {ps : List PutV} {j : Nat} (hj : j < S.length) (h : j < fr ∨ fr + ps.length < j) : (putS S fr e q ps).getD j [] = S.getD j [] := by
  rw [putS, List.getD_eq_getElem?_getD, List.getElem?_set_ne (by omega), ← List.getD_eq_getElem?_getD, ← nowS_nil, nowS_done _ _ _ hj, now_img _ _ _ _ hj, if_neg (by omega)]
/-- What Get tells where a good header stands. -/
theorem get_hdr {S : List (List UInt8)} {fr : Nat} {f : Int} {e q : UInt32} {ps : List PutV} (h : fr + 6 ≤ S.length) (hg : goodB ps = true) (hh : S.getD fr [] = hdrS e q ps) : ∃ r, (Dst.mk S [] f false).walGet (fr : Int) = (r, 0) ∧ r.e = e ∧ r.q = q ∧ r.ps.map (·.at_) = ps.map (·.at_) ∧ ((∀ i, i < ps.length → S.getD (fr + 1 + i) [] = dat ps i) → r = ⟨e, q, ps⟩) := by
  obtain ⟨h1, h5, _, _⟩ := goodB_at hg
  obtain ⟨r1, r2⟩ := read_live S [] f fr (by omega)
  rw [nowS_nil, hh] at r1
  refine ⟨_, walGet_d (mayB_nat h) r2 r1 (hdr_form hg), ?_⟩
  obtain ⟨a1, a2, a3, a4⟩ := rec_hdr (e := e) (q := q) (D := fun i => (Dst.mk S [] f false).readB ((fr : Int) + 1 + (i : Nat))) hg
  refine ⟨a1, a2, a3, fun hD => a4 fun i hi => ?_⟩
  obtain ⟨r3, _⟩ := read_live S [] f (fr + 1 + i) (by omega)
  rw [nowS_nil, hD i hi] at r3
  show (Dst.mk S [] f false).readB ((fr : Int) + 1 + (i : Nat)) = _
  rw [← r3]
  congr 1
theorem fold_or (ks : List UInt8) : ∀ (M : List ((Nat × List UInt8) × Nat)) (S : List (List UInt8)) (j : Nat), (M.foldl (fun s p => if ks.getD p.2 0 % 2 = 1 then s.set p.1.1 p.1.2 else s) S).getD j [] = S.getD j [] ∨ ∃ p ∈ M, p.1.1 = j ∧ (M.foldl (fun s p => if ks.getD p.2 0 % 2 = 1 then s.set p.1.1 p.1.2 else s) S).getD j [] = p.1.2
  | [], S, j => .inl rfl
  | p :: M, S, j => by
    rw [List.foldl_cons]
    rcases fold_or ks M (if ks.getD p.2 0 % 2 = 1 then S.set p.1.1 p.1.2 else S) j with h | ⟨x, hx, h1, h2⟩
    · rw [h]
      split
      · by_cases hj : p.1.1 = j
        · by_cases hl : j < S.length
          · refine .inr ⟨p, List.mem_cons_self, hj, ?_⟩
            rw [hj, List.getD_eq_getElem?_getD, List.getElem?_set_self hl]
            rfl
          · refine .inl ?_
            rw [List.getD_eq_getElem?_getD, List.getD_eq_getElem?_getD, List.getElem?_eq_none (by simpa using Nat.le_of_not_lt hl), List.getElem?_eq_none (by omega)]
        · refine .inl ?_
          rw [List.getD_eq_getElem?_getD, List.getElem?_set_ne hj, ← List.getD_eq_getElem?_getD]
      · exact .inl rfl
    · exact .inr ⟨x, List.mem_cons_of_mem _ hx, h1, h2⟩
theorem up_or (S : List (List UInt8)) (L : List (Nat × List UInt8)) (ks : List UInt8) (j : Nat) : (upS S L ks).getD j [] = S.getD j [] ∨ ∃ b, (j, b) ∈ L ∧ (upS S L ks).getD j [] = b := by
  rcases fold_or ks L.zipIdx S j with h | ⟨p, hp, h1, h2⟩
  · exact .inl h
  · refine .inr ⟨p.1.2, ?_, h2⟩
    have := List.mem_zipIdx' hp
    rw [← h1]
    have h3 := this.2
    show p.1 ∈ L
    rw [h3]
    exact List.getElem_mem _
theorem up_out {S : List (List UInt8)} {L : List (Nat × List UInt8)} {ks : List UInt8} {j : Nat} (h : ∀ b, (j, b) ∉ L) : (upS S L ks).getD j [] = S.getD j [] := by
  rcases up_or S L ks j with h1 | ⟨b, h1, _⟩
  · exact h1
  · exact absurd h1 (h b)
/-- Behind a Put of `was`, a cut Put of `now` and an Up. -/
theorem wal_torn {S : List (List UInt8)} {fr : Nat} {we wq ne nq : UInt32} {wps nps : List PutV} {f : Nat} {ks : List UInt8} (h : fr + 6 ≤ S.length) (hw : goodB wps = true) (hn : goodB nps = true) :
    (Dst.mk S [] (-1) false).walPut (fr : Int) we wq wps = (⟨putS S fr we wq wps, [], -1, false⟩, 0) ∧
    ∃ D er r, (Dst.mk (putS S fr we wq wps) [] (f : Int) false).walPut (fr : Int) ne nq nps = (D, er) ∧ (er = 0 ∨ er = 20) ∧ (er = 0 ↔ nps.length + 3 ≤ f) ∧ (D.up ks).walGet (fr : Int) = (r, 0) ∧ (r = ⟨ne, nq, nps⟩ ∨ (er = 20 ∧ r.e = we ∧ r.q = wq ∧ r.ps.map (·.at_) = wps.map (·.at_))) := by
  obtain ⟨_, h5, _, _⟩ := goodB_at hn
  refine ⟨put_all (f := -1) h hw (by omega), ?_⟩
  have hT : (putS S fr we wq wps).length = S.length := putS_length _ _ _ _ _
  have hT0 : (putS S fr we wq wps).getD fr [] = hdrS we wq wps := putS_hdr (by omega)
  generalize putS S fr we wq wps = T at *
  by_cases hf : nps.length + 3 ≤ f
  · obtain ⟨r, hr, _, _, _, h4⟩ := get_hdr (S := putS T fr ne nq nps) (fr := fr) (f := -1) (e := ne) (q := nq) (ps := nps) (by rw [putS_length]; omega) hn (putS_hdr (by omega))
    refine ⟨_, _, r, put_all (f := (f : Int)) (by omega) hn (by omega), .inl rfl, ⟨fun _ => hf, fun _ => rfl⟩, hr, .inl (h4 fun i hi => putS_img (by omega) hi)⟩
  · refine ⟨cutD T fr ne nq nps f, 20, ?_⟩
    have hcut := put_cut (S := T) (fr := fr) (f := f) (e := ne) (q := nq) (by omega) hn (by omega)
    have old : ∀ (S2 : List (List UInt8)), S2.length = S.length → S2.getD fr [] = hdrS we wq wps → ∃ r, (Dst.mk S2 [] (-1) false).walGet (fr : Int) = (r, 0) ∧ (r = ⟨ne, nq, nps⟩ ∨ ((20 : Int) = 20 ∧ r.e = we ∧ r.q = wq ∧ r.ps.map (·.at_) = wps.map (·.at_))) := fun S2 h1 h2 => by
      obtain ⟨r, hr, a1, a2, a3, _⟩ := get_hdr (f := -1) (by omega) hw h2
      exact ⟨r, hr, .inr ⟨rfl, a1, a2, a3⟩⟩
    have key : ∃ r, ((cutD T fr ne nq nps f).up ks).walGet (fr : Int) = (r, 0) ∧ (r = ⟨ne, nq, nps⟩ ∨ ((20 : Int) = 20 ∧ r.e = we ∧ r.q = wq ∧ r.ps.map (·.at_) = wps.map (·.at_))) := by
      have hno : ∀ ps b, (fr, b) ∉ imgL (fr + 1) ps := fun ps b hm => by have := imgL_mem _ _ _ hm; simp at this; omega
      unfold cutD
      split
      · exact old _ (by rw [upS_length]; exact hT) (by rw [up_out (hno _)]; exact hT0)
      · split
        · exact old _ (by rw [upS_length]; exact hT) (by rw [up_out (hno _)]; exact hT0)
        · have hd0 : (doneS T (imgL (fr + 1) nps)).getD fr [] = hdrS we wq wps := by
            rw [← nowS_nil, nowS_done _ _ _ (by omega), now_img _ _ _ _ (by omega), if_neg (by omega)]
            exact hT0
          split
          · exact old _ (by rw [upS_length, doneS_length]; exact hT) (by rw [up_out (by simp)]; exact hd0)
          · rcases up_or (doneS T (imgL (fr + 1) nps)) [(fr, hdrS ne nq nps)] ks fr with h1 | ⟨b, h1, h2⟩
            · exact old _ (by rw [upS_length, doneS_length]; exact hT) (by rw [h1]; exact hd0)
            · obtain rfl : b = hdrS ne nq nps := by simpa using h1
              obtain ⟨r, hr, _, _, _, h4⟩ := get_hdr (f := -1) (fr := fr) (S := upS (doneS T (imgL (fr + 1) nps)) [(fr, hdrS ne nq nps)] ks) (by rw [upS_length, doneS_length]; omega) hn h2
              refine ⟨r, hr, .inl (h4 fun i hi => ?_)⟩
              rw [up_out (by simp; omega), ← nowS_nil, nowS_done _ _ _ (by omega), now_img _ _ _ _ (by omega), if_pos (by omega), Nat.add_sub_cancel_left]
    obtain ⟨r, h1, h2⟩ := key
    exact ⟨r, hcut, .inr rfl, ⟨fun hh => absurd hh (by decide), fun hh => absurd hh hf⟩, h1, h2⟩
end Go.Proofs.Ytchcnkobgdbdkaa


/- The walk of wal.Get. -/
namespace Go.Proofs.Ytchcnkobgdbdkaa
open Go.RowKit
set_option linter.unusedVariables false
set_option linter.unusedSimpArgs false

def zR : List Value := [vu32 0, vu32 0, .slice none 0 0]
theorem one_zR : ∀ u ∈ zR, u.oneCell' = true := by
  intro u hu
  simp only [zR, List.mem_cons, List.not_mem_nil, or_false] at hu
  rcases hu with rfl | rfl | rfl <;> rfl
theorem one_rec (e q : UInt32) (A : Option Addr) (n c : Nat) : ∀ u ∈ [vu32 e, vu32 q, .slice A n c], u.oneCell' = true := by
  intro u hu
  simp only [List.mem_cons, List.not_mem_nil, or_false] at hu
  rcases hu with rfl | rfl | rfl <;> rfl
theorem no_post {w w' : World} (hb : Below w.heap.size w w') (er : Int) : GetPost w Rec.no er (.returned (.tuple #[.agg zR.toArray, .int .i64 er])) w' :=
  ⟨none, 0, rfl, Rd.nil _ _, Nat.le_refl _, by decide, hb⟩
theorem infoPut3 : (Try.prog.info? 39).map (fun i => (i.zero, i.size, i.bytes)) = some (some zPut, 33, 40) := by kernel_rfl
/-- A row of puts, its own block known. -/
def OwnP (base n : Nat) (ps : List PutV) (m : Nat) (u : Value) : Fact := fun w v => w.ownsRow base 39 33 v n (ps.flatMap putC) ∧ (v.ownBlock = u.ownBlock ∨ ∃ j, v.ownBlock = some j ∧ m ≤ j)
theorem OwnP.lasts {base n m : Nat} {ps : List PutV} {u : Value} : ∀ w w' v, Chg NoS w w' → OwnP base n ps m u w v → OwnP base n ps m u w' v := fun _ _ _ h ho => ⟨own_chg ho.1 h (fun _ _ => id), ho.2⟩
def LvP (u : Value) : Nat → Prop := fun j => u.ownBlock = some j
def BkF (g : Nat) (vs : List Value) : Fact := fun w _ => Bk w g vs
theorem BkF.lasts {g : Nat} {vs : List Value} : ∀ w w' v, Chg NoS w w' → BkF g vs w v → BkF g vs w' v := fun _ _ _ h hb => hb.chg h id
theorem flat_snoc (ps : List PutV) (p : PutV) : (ps ++ [p]).flatMap putC = ps.flatMap putC ++ putC p := by
  rw [List.flatMap_append, List.flatMap_cons, List.flatMap_nil, List.append_nil]
theorem puts_length {ps : List PutV} (h : PutsOk ps) : (ps.flatMap putC).length = ps.length * 33 := flat_length putC 33 ps (fun p hp => putC_len (h p hp).1)
theorem splice_mid (A B C U : List Value) (h : U.length = B.length) : splice (A ++ B ++ C) A.length U = A ++ U ++ C := by
  unfold splice
  rw [List.append_assoc, List.take_append_of_le_length (Nat.le_refl _), List.take_length, List.drop_append, List.drop_append, show A.length + U.length - A.length = U.length by omega, h, List.drop_of_length_le (by omega : A.length ≤ A.length + B.length), List.nil_append, List.drop_length, Nat.sub_self, List.drop_zero, List.nil_append, List.append_assoc]
theorem splice_put {ps : List PutV} (h : PutsOk ps) {k : Nat} (hk : k < ps.length) (d : List UInt8) (hd : d.length = 32) (r : List Value) :
    splice (ps.flatMap putC ++ r) (k * 33 + 1) (bts d) = (ps.set k ⟨ps[k].at_, d⟩).flatMap putC ++ r := by
  have hl : ((ps.take k).flatMap putC ++ [Value.int .i64 ps[k].at_]).length = k * 33 + 1 := by
    rw [List.length_append, puts_length (fun p hp => h p (List.mem_of_mem_take hp)), List.length_take, Nat.min_eq_left (Nat.le_of_lt hk)]
    rfl
  have h1 : ps.flatMap putC ++ r = ((ps.take k).flatMap putC ++ [Value.int .i64 ps[k].at_]) ++ bts ps[k].data ++ ((ps.drop (k + 1)).flatMap putC ++ r) := by
    have : ps = ps.take k ++ ps[k] :: ps.drop (k + 1) := by rw [← List.drop_eq_getElem_cons hk, List.take_append_drop]
    conv => lhs; rw [this]
    rw [List.flatMap_append, List.flatMap_cons]
    show _ ++ ((Value.int .i64 ps[k].at_ :: bts ps[k].data) ++ _) ++ r = _
    simp
  have h2 : (ps.set k ⟨ps[k].at_, d⟩).flatMap putC ++ r = ((ps.take k).flatMap putC ++ [Value.int .i64 ps[k].at_]) ++ bts d ++ ((ps.drop (k + 1)).flatMap putC ++ r) := by
    rw [List.set_eq_take_append_cons_drop, if_pos hk, List.flatMap_append, List.flatMap_cons]
    show _ ++ ((Value.int .i64 ps[k].at_ :: bts d) ++ _) ++ r = _
    simp
  rw [h1, h2, ← hl, splice_mid _ _ _ _ (by rw [bts_length, bts_length, hd, (h _ (List.getElem_mem hk)).1])]
/-- The data of the first k puts. -/
def datK (D : Nat → List UInt8) (k : Nat) : Nat → List UInt8 := fun i => if i < k then D i else List.replicate 32 0
theorem datK_len {D : Nat → List UInt8} (h : ∀ i, (D i).length = 32) (k i : Nat) : (datK D k i).length = 32 := by
  unfold datK
  split
  · exact h i
  · exact List.length_replicate
theorem datK_zero (D : Nat → List UInt8) : datK D 0 = zdat := by
  funext i
  rfl
theorem putsK_set {x : List UInt8} {D : Nat → List UInt8} {n k : Nat} (hk : k < n) (h : k < (putsK x (datK D k) n).length) : (putsK x (datK D k) n).set k ⟨((putsK x (datK D k) n)[k]).at_, D k⟩ = putsK x (datK D (k + 1)) n := by
  have h0 := putsK_get (x := x) (D := datK D k) hk
  rw [List.getElem?_eq_getElem h] at h0
  rw [Option.some.inj h0]
  apply List.ext_getElem?
  intro i
  by_cases hi : i < n
  · rw [putsK_get hi, List.getElem?_set]
    by_cases hik : k = i
    · subst hik
      rw [if_pos rfl, if_pos h]
      simp [datK]
    · rw [if_neg hik, putsK_get hi]
      congr 2
      unfold datK
      by_cases hlt : i < k
      · rw [if_pos hlt, if_pos (by omega)]
      · rw [if_neg hlt, if_neg (by omega)]
  · rw [List.getElem?_eq_none (by rw [List.length_set, putsK_length]; omega), List.getElem?_eq_none (by rw [putsK_length]; omega)]
theorem putsK_full {x : List UInt8} {D : Nat → List UInt8} {n : Nat} : putsK x (datK D n) n = putsK x D n := putsK_congr (fun i hi => by unfold datK; rw [if_pos hi])
/-- The loop that gathers the places. -/
def GetRel (wf : World) (gq : Nat) (x : List UInt8) (n : Nat) (v : Value) (wr : World) : Prop :=
  ∃ (k : Nat) (u : Value), k ≤ n ∧ v = .int .i64 k ∧ Bk wr gq [vu32 (eOf x), vu32 (qOf x), u] ∧ wr.ownsRow (gq + 1) 39 33 u k ((putsK x zdat k).flatMap putC) ∧ Below wf.heap.size wf wr ∧ gq + 1 ≤ wr.heap.size
/-- The loop that reads the images. -/
def GetRel2 (wf : World) (gq gp : Nat) (x : List UInt8) (D : Nat → List UInt8) (n c : Nat) (rest : List Value) (v : Value) (wr : World) : Prop :=
  ∃ k : Nat, k ≤ n ∧ v = .int .i64 k ∧ Bk wr gq [vu32 (eOf x), vu32 (qOf x), .slice (some ⟨gp, 0, none⟩) n c] ∧ Bk wr gp ((putsK x (datK D k) n).flatMap putC ++ rest) ∧ Below wf.heap.size wf wr
set_option maxRecDepth 100000 in
set_option maxHeartbeats 16000000 in
theorem walGet_calls (w : World) (g gs : Nat) (lv : Value) (s : Dst) (fr : Int) (hd : DAt 99 w g gs lv s) :
    Calls Try.prog 10 #[.pointer (some ⟨g, 0, none⟩), .int .i64 fr] w (GetPost w (s.walGet fr).1 (s.walGet fr).2) := by
  have HW := Lib.hid hd
  have HD32 : Hid (∀ i, (s.readB i).length = 32) := hd.readB_len
  clear hd
  go_enter Try.func10, Try.ntmps10
  go_wp2_with (refine wpList_al rfl 25 rfl zR (by kernel_rfl) ?_)
  intro g0 w1 hg hb hc hs
  subst hg
  have K1 := Lib.hid hb
  have E1 : Hid (Below w.heap.size w w1) := hc.below (Nat.le_refl _) (fun _ _ => id)
  have S1 : Hid (w1.heap.size = w.heap.size + 1) := hs
  clear hb hc hs
  go_wp2_with fail
  refine (may_calls w1 g gs lv s fr (DiskAt.below HW.out E1.out)).mono ?_
  rintro en w' ⟨rfl, rfl⟩
  by_cases hmay : mayB s.S.length fr = true
  case neg =>
    have HF := Lib.hid (walGet_a hmay)
    rw [Bool.eq_false_iff.2 hmay]
    clear hmay
    go_wp2_with (first
      | (refine wpList_bld rfl 25 [] rfl zR [] zR (by kernel_rfl) (by kernel_rfl) trivial rfl ?_)
      | (refine wpList_st rfl 25 (.tmp 4) (.tmp 18) rfl w.heap.size 0 3 zR zR rfl rfl K1.out (by kernel_rfl) rfl (by decide) one_zR ?_))
    intro wz hbz hcz
    rw [splice_whole zR zR rfl] at hbz
    have HEZ : Hid (Below w.heap.size w wz) := E1.out.trans (hcz.below E1.out.size (fun k hk he => by omega))
    have HBZ := Lib.hid hbz
    clear hbz hcz
    go_wp2_with fail
    (try simp only [Exit.inBlock, Exit.then])
    refine bodyPost_ret (res_cell_tmp rfl _ _ w.heap.size 3 zR rfl HBZ.out (by kernel_rfl) (by kernel_rfl) rfl) rfl ?_
    rw [HF.out]
    exact no_post HEZ.out _
  have hfr := mayB_at hmay
  obtain ⟨f, hf⟩ := Int.eq_ofNat_of_zero_le hfr.1
  have HS : Hid (f + 6 ≤ s.S.length) := by show _ ≤ _; omega
  have HSL : Hid (s.S.length ≤ 1024) := HW.out.sl
  have HMAY := Lib.hid hmay
  rw [hmay]
  clear hmay hfr
  subst hf
  go_wp2_with fail
  refine (diskRead_at w1 g gs lv s (f : Int) (DiskAt.below HW.out E1.out)).mono ?_
  rintro en w2 ⟨rfl, hb⟩
  have K2 := Lib.hid (K1.out.below hb)
  have E2 : Hid (Below w.heap.size w w2) := E1.out.trans (hb.mono E1.out.size)
  clear hb
  obtain ⟨x, hx⟩ : ∃ x, s.readB (f : Int) = x := ⟨_, rfl⟩
  have HX := Lib.hid hx
  have HXL : Hid (x.length = 32) := by show _ = _; rw [← hx]; exact HD32.out _
  obtain ⟨vx, hvx⟩ : ∃ vx, bts x = vx := ⟨_, rfl⟩
  have HVX := Lib.hid hvx
  have HVL : Hid (vx.length = 32) := by show _ = _; rw [← hvx, bts_length, HXL.out]
  have HVO : Hid (∀ u ∈ vx, u.oneCell' = true) := by rw [← hvx]; exact one_bts _
  obtain ⟨z, hz⟩ : ∃ z, s.readE (f : Int) = z := ⟨_, rfl⟩
  have HZ := Lib.hid hz
  rw [hx, hvx, hz]
  clear hx hvx hz
  go_wp2_with (refine wpList_al rfl 37 rfl (bts (List.replicate 32 0)) (by kernel_rfl) ?_)
  intro g6 w3 hg hb hc hs
  have HG6 : Hid (w.heap.size + 1 ≤ g6) := by show _ ≤ _; have := S1.out; have := E2.out.size; have := K2.out.lt; omega
  have L3 := Lib.hid hb
  have K3 := Lib.hid (K2.out.chg hc id)
  have E3 : Hid (Below w.heap.size w w3) := E2.out.trans (hc.below E2.out.size (fun _ _ => id))
  clear hg hb hc hs
  go_wp2_with (refine wpList_st rfl 37 (.tmp 6) (.tmp 23) rfl g6 0 32 (bts (List.replicate 32 0)) vx rfl rfl L3.out (by kernel_rfl) HVL.out (by decide) HVO.out ?_)
  intro w4 hb hc
  rw [splice_whole _ _ (by rw [HVL.out]; rfl)] at hb
  have L4 := Lib.hid hb
  have K4 : Hid (Bk w4 w.heap.size zR) := K3.out.chg hc (by have := HG6.out; omega)
  have E4 : Hid (Below w.heap.size w w4) := E3.out.trans (hc.below E3.out.size (fun k hk he => by have := HG6.out; omega))
  clear hb hc
  by_cases hez : z = 0
  case neg =>
    have HF : Hid (s.walGet (f : Int) = (Rec.no, z)) := by
      show _ = _
      rw [← HZ.out]
      exact walGet_b HMAY.out (by rw [HZ.out]; exact hez)
    go_wp2_with (first
      | (refine wpList_bld rfl 25 [] rfl zR [] zR (by kernel_rfl) (by kernel_rfl) trivial rfl ?_)
      | (refine wpList_st rfl 25 (.tmp 4) (.tmp 27) rfl w.heap.size 0 3 zR zR rfl rfl K4.out (by kernel_rfl) rfl (by decide) one_zR ?_))
    intro wz hbz hcz
    rw [splice_whole zR zR rfl] at hbz
    have HEZ : Hid (Below w.heap.size w wz) := E4.out.trans (hcz.below E4.out.size (fun k hk he => by omega))
    have HBZ := Lib.hid hbz
    clear hbz hcz
    go_wp2_with fail
    (try simp only [Exit.inBlock, Exit.then])
    refine bodyPost_ret (res_cell_tmp rfl _ _ w.heap.size 3 zR rfl HBZ.out (by kernel_rfl) (by kernel_rfl) rfl) rfl ?_
    rw [HF.out]
    exact no_post HEZ.out _
  subst hez
  go_wp2_with (refine wpList_ld rfl 37 _ rfl g6 0 32 vx vx rfl L4.out rfl (by kernel_rfl) (by rw [HVL.out]; decide) (by rw [List.drop_zero, List.take_of_length_le (by rw [HVL.out]; exact Nat.le_refl _)]) ?_)
  rw [← HVX.out]
  refine (sealDecode_calls x w4 HXL.out).mono ?_
  rintro en w5 ⟨rfl, hb⟩
  have K5 := Lib.hid (K4.out.below hb)
  have L5 : Hid (Bk w5 g6 vx) := L4.out.below hb
  have E5 : Hid (Below w.heap.size w w5) := E4.out.trans (hb.mono E4.out.size)
  clear hb
  obtain ⟨er, her⟩ : ∃ er, (decR x).2 = er := ⟨_, rfl⟩
  have HER := Lib.hid her
  obtain ⟨vr, hvr⟩ : ∃ vr, bts (decR x).1 = vr := ⟨_, rfl⟩
  have HVR := Lib.hid hvr
  have HRL : Hid (vr.length = 30) := by
    show _ = _
    rw [← hvr, bts_length]
    by_cases h : (decR x).2 = 0
    · rw [(decR_ok h).1, List.length_cons, bodyOf_length HXL.out]
    · rw [(decR_err h).1, List.length_replicate]
  have HRO : Hid (∀ u ∈ vr, u.oneCell' = true) := by rw [← hvr]; exact one_bts _
  rw [her, hvr]
  clear her hvr
  go_wp2_with (refine wpList_al rfl 85 rfl (zb 30) (by kernel_rfl) ?_)
  intro g8 w6 hg hb hc hs
  have HG8 : Hid (g6 < g8) := by show _ < _; have := L5.out.lt; omega
  have M6 := Lib.hid hb
  have K6 := Lib.hid (K5.out.chg hc id)
  have L6 := Lib.hid (L5.out.chg hc id)
  have E6 : Hid (Below w.heap.size w w6) := E5.out.trans (hc.below E5.out.size (fun _ _ => id))
  clear hg hb hc hs
  go_wp2_with (refine wpList_st rfl 85 (.tmp 8) (.tmp 32) rfl g8 0 30 (zb 30) vr rfl rfl M6.out (by kernel_rfl) HRL.out (by decide) HRO.out ?_)
  intro w7 hb hc
  rw [splice_whole _ _ (by rw [HRL.out]; rfl)] at hb
  have M7 := Lib.hid hb
  have K7 : Hid (Bk w7 w.heap.size zR) := K6.out.chg hc (by have := HG8.out; have := HG6.out; omega)
  have L7 : Hid (Bk w7 g6 vx) := L6.out.chg hc (by have := HG8.out; omega)
  have E7 : Hid (Below w.heap.size w w7) := E6.out.trans (hc.below E6.out.size (fun k hk he => by have := HG8.out; have := HG6.out; omega))
  have S7 : Hid (g8 < w7.heap.size) := hb.lt
  clear hb hc K6 L6 M6 E6 K5 L5 E5 K4 L4 E4 K3 L3 E3 K2 E2 K1
  have NOF : ¬ formB x = true → Hid (s.walGet (f : Int) = (Rec.no, 11)) := fun h => walGet_c HMAY.out HZ.out HX.out h
  by_cases hdec : er = 0
  case neg =>
    have HF := NOF (fun h => hdec (by rw [← HER.out]; exact (formB_iff.1 h).1))
    have hm0 := hdec
    go_wp2_with (first
      | (refine wpList_bld rfl 25 [] rfl zR [] zR (by kernel_rfl) (by kernel_rfl) trivial rfl ?_)
      | (refine wpList_st rfl 25 (.tmp 4) (.tmp 47) rfl w.heap.size 0 3 zR zR rfl rfl K7.out (by kernel_rfl) rfl (by decide) one_zR ?_))
    intro wz hbz hcz
    rw [splice_whole zR zR rfl] at hbz
    have HEZ : Hid (Below w.heap.size w wz) := E7.out.trans (hcz.below E7.out.size (fun k hk he => by omega))
    have HBZ := Lib.hid hbz
    clear hbz hcz
    go_wp2_with fail
    (try simp only [Exit.inBlock, Exit.then])
    refine bodyPost_ret (res_cell_tmp rfl _ _ w.heap.size 3 zR rfl HBZ.out (by kernel_rfl) (by kernel_rfl) rfl) rfl ?_
    rw [HF.out]
    exact no_post HEZ.out _
  subst hdec
  have hok := decR_ok HER.out
  have hbl := bodyOf_length HXL.out
  have HVB : Hid (vr = vu8 (x.getD 0 0) :: bts (bodyOf x)) := by
    show _ = _
    rw [← HVR.out, hok.1]
    rfl
  have HBL := Lib.hid hbl
  have HOK := Lib.hid hok.2
  clear hok hbl
  have c0 : w7.cell? ⟨g8, 0, none⟩ = some (.int .u8 ((x.getD 0 0).toNat : Nat)) := M7.out.cell (by rw [HVB.out]; rfl)
  by_cases hm : x.getD 0 0 = 0x57
  case neg =>
    have HF := NOF (fun h => hm (formB_iff.1 h).2.1)
    have hm1 : ¬ (((x.getD 0 0).toNat : Nat) : Int) = 87 := fun h => hm (UInt8.toNat_inj.1 (by show (x.getD 0 0).toNat = 87; omega))
    go_wp2_with (first
      | (refine wpList_bld rfl 25 [] rfl zR [] zR (by kernel_rfl) (by kernel_rfl) trivial rfl ?_)
      | (refine wpList_st rfl 25 (.tmp 4) (.tmp 47) rfl w.heap.size 0 3 zR zR rfl rfl K7.out (by kernel_rfl) rfl (by decide) one_zR ?_))
    intro wz hbz hcz
    rw [splice_whole zR zR rfl] at hbz
    have HEZ : Hid (Below w.heap.size w wz) := E7.out.trans (hcz.below E7.out.size (fun k hk he => by omega))
    have HBZ := Lib.hid hbz
    clear hbz hcz
    go_wp2_with fail
    (try simp only [Exit.inBlock, Exit.then])
    refine bodyPost_ret (res_cell_tmp rfl _ _ w.heap.size 3 zR rfl HBZ.out (by kernel_rfl) (by kernel_rfl) rfl) rfl ?_
    rw [HF.out]
    exact no_post HEZ.out _
  have HM := Lib.hid hm
  rw [hm] at c0
  have c0' : w7.cell? ⟨g8, 0, none⟩ = some (.int .u8 87) := c0
  clear c0
  have c9 : w7.cell? ⟨g8, 9, none⟩ = some (.int .u8 ((nOf x : Nat) : Int)) := M7.out.cell (by
    rw [HVB.out, List.getElem?_cons_succ]
    exact bts_get (by rw [HBL.out]; decide))
  obtain ⟨n, hn⟩ : ∃ n, nOf x = n := ⟨_, rfl⟩
  have HN := Lib.hid hn
  rw [hn] at c9
  clear hn hm
  by_cases hn5 : n ≤ 5
  case neg =>
    have HF := NOF (fun h => hn5 (by rw [← HN.out]; exact (formB_iff.1 h).2.2.1))
    have hn6 : (5 : Int) < (n : Int) := by omega
    go_wp2_with (first
      | (refine wpList_bld rfl 25 [] rfl zR [] zR (by kernel_rfl) (by kernel_rfl) trivial rfl ?_)
      | (refine wpList_st rfl 25 (.tmp 4) (.tmp 47) rfl w.heap.size 0 3 zR zR rfl rfl K7.out (by kernel_rfl) rfl (by decide) one_zR ?_))
    intro wz hbz hcz
    rw [splice_whole zR zR rfl] at hbz
    have HEZ : Hid (Below w.heap.size w wz) := E7.out.trans (hcz.below E7.out.size (fun k hk he => by omega))
    have HBZ := Lib.hid hbz
    clear hbz hcz
    go_wp2_with fail
    (try simp only [Exit.inBlock, Exit.then])
    refine bodyPost_ret (res_cell_tmp rfl _ _ w.heap.size 3 zR rfl HBZ.out (by kernel_rfl) (by kernel_rfl) rfl) rfl ?_
    rw [HF.out]
    exact no_post HEZ.out _
  have hn6 : ¬ (5 : Int) < (n : Int) := by omega
  have HN5 := Lib.hid hn5
  have L4a : Hid (((bodyOf x).take 4).length = 4) := by show _ = _; rw [List.length_take, HBL.out]; rfl
  have L4b : Hid ((((bodyOf x).drop 4).take 4).length = 4) := by show _ = _; rw [List.length_take, List.length_drop, HBL.out]; rfl
  have R4a : Hid (∀ w', Bk w' g8 vr → Rd w' (some ⟨g8, 1, none⟩) (bts ((bodyOf x).take 4))) := fun w' h => by
    have := h.rd_at 1 4
    rwa [HVB.out, List.drop_succ_cons, List.drop_zero, bts_take] at this
  have R4b : Hid (∀ w', Bk w' g8 vr → Rd w' (some ⟨g8, 5, none⟩) (bts (((bodyOf x).drop 4).take 4))) := fun w' h => by
    have := h.rd_at 5 4
    rwa [HVB.out, List.drop_succ_cons, bts_drop, bts_take] at this
  go_wp2_with fail
  clear c0' c9 hn6
  apply wp_region_rel 8 (Chg NoS) [(Veq _), (Veq _), (Veq _), (Veq _), (Veq _), (Veq _), (Veq _), (PtrAt NoS w7.heap.size zR)] [[], [0], [1], [], [3], [4], [2, 5], []] [48, 49, 50, 51, 52, 53, 54, 9] (by kernel_rfl) (by kernel_rfl) rfl rfl rfl Chg.refl (fun _ _ _ => Chg.trans) ⟨Veq.lasts, Veq.lasts, Veq.lasts, Veq.lasts, Veq.lasts, Veq.lasts, Veq.lasts, PtrAt.lasts, trivial⟩ ?aops ?afin
  case aops =>
    refine ⟨?ao0, ?ao1, ?ao2, ?ao3, ?ao4, ?ao5, ?ao6, ?ao7, trivial⟩
    case ao0 =>
      intro a wx hE hin
      have i8 : a.eval (.tmp 8) = .pointer (some ⟨g8, 0, none⟩) := hin 8 rfl
      clear hin
      have hcst : ∀ v, a.eval (.const v) = v := fun _ => rfl
      have hfnc : ∀ f, a.eval (.func f) = .func (.func f) #[] #[] := fun _ => rfl
      refine want_none rfl ?_
      unfold Oper.wp
      generalize a.eval = ρ at *
      go_simp
      try go_bits
      first | exact rel_val (Chg.refl _) | (go_simp; exact rel_val (Chg.refl _))
    case ao1 =>
      rintro a wx hE hin (h0 : a.eval (.tmp 48) = _)
      clear hin
      have hcst : ∀ v, a.eval (.const v) = v := fun _ => rfl
      have hfnc : ∀ f, a.eval (.func f) = .func (.func f) #[] #[] := fun _ => rfl
      refine want_none rfl ?_
      unfold Oper.wp
      generalize a.eval = ρ at *
      go_simp
      try go_bits
      first | exact rel_val (Chg.refl _) | (go_simp; exact rel_val (Chg.refl _))
    case ao2 =>
      rintro a wx hE hin (h1 : a.eval (.tmp 49) = _)
      clear hin
      have hcst : ∀ v, a.eval (.const v) = v := fun _ => rfl
      have hfnc : ∀ f, a.eval (.func f) = .func (.func f) #[] #[] := fun _ => rfl
      refine want_none rfl ?_
      unfold Oper.wp
      generalize a.eval = ρ at *
      go_simp
      refine (walNumber_calls ((bodyOf x).take 4) (some ⟨g8, 1, none⟩) 29 wx L4a.out (R4a.out wx (M7.out.drew.chg hE id))).mono ?_
      rintro e w' ⟨rfl, hb⟩
      exact rel_val (.of_below hb)
    case ao3 =>
      intro a wx hE hin
      have i8 : a.eval (.tmp 8) = .pointer (some ⟨g8, 0, none⟩) := hin 8 rfl
      clear hin
      have hcst : ∀ v, a.eval (.const v) = v := fun _ => rfl
      have hfnc : ∀ f, a.eval (.func f) = .func (.func f) #[] #[] := fun _ => rfl
      refine want_none rfl ?_
      unfold Oper.wp
      generalize a.eval = ρ at *
      go_simp
      try go_bits
      first | exact rel_val (Chg.refl _) | (go_simp; exact rel_val (Chg.refl _))
    case ao4 =>
      rintro a wx hE hin (h3 : a.eval (.tmp 51) = _)
      clear hin
      have hcst : ∀ v, a.eval (.const v) = v := fun _ => rfl
      have hfnc : ∀ f, a.eval (.func f) = .func (.func f) #[] #[] := fun _ => rfl
      refine want_none rfl ?_
      unfold Oper.wp
      generalize a.eval = ρ at *
      go_simp
      try go_bits
      first | exact rel_val (Chg.refl _) | (go_simp; exact rel_val (Chg.refl _))
    case ao5 =>
      rintro a wx hE hin (h4 : a.eval (.tmp 52) = _)
      clear hin
      have hcst : ∀ v, a.eval (.const v) = v := fun _ => rfl
      have hfnc : ∀ f, a.eval (.func f) = .func (.func f) #[] #[] := fun _ => rfl
      refine want_none rfl ?_
      unfold Oper.wp
      generalize a.eval = ρ at *
      go_simp
      refine (walNumber_calls (((bodyOf x).drop 4).take 4) (some ⟨g8, 5, none⟩) 25 wx L4b.out (R4b.out wx (M7.out.drew.chg hE id))).mono ?_
      rintro e w' ⟨rfl, hb⟩
      exact rel_val (.of_below hb)
    case ao6 =>
      rintro a wx hE hin (h2 : a.eval (.tmp 50) = _) (h5 : a.eval (.tmp 53) = _)
      clear hin
      have hcst : ∀ v, a.eval (.const v) = v := fun _ => rfl
      have hfnc : ∀ f, a.eval (.func f) = .func (.func f) #[] #[] := fun _ => rfl
      refine want_none rfl ?_
      exact wp_bld 25 [(0, .tmp 50), (1, .tmp 53)] rfl zR [(0, [.int .u32 (num ((bodyOf x).take 4) : Nat)]), (1, [.int .u32 (num (((bodyOf x).drop 4).take 4) : Nat)])] [.int .u32 (num ((bodyOf x).take 4) : Nat), .int .u32 (num (((bodyOf x).drop 4).take 4) : Nat), .slice none 0 0] (by kernel_rfl) (by kernel_rfl) ⟨by rw [h2]; rfl, ⟨1, rfl, by kernel_rfl, by decide⟩, by rw [h5]; rfl, ⟨1, rfl, by kernel_rfl, by decide⟩, trivial⟩ rfl (rel_val (Chg.refl _))
    case ao7 =>
      intro a wx hE hin
      clear hin
      have hcst : ∀ v, a.eval (.const v) = v := fun _ => rfl
      have hfnc : ∀ f, a.eval (.func f) = .func (.func f) #[] #[] := fun _ => rfl
      refine want_none rfl ?_
      exact wp_al 25 rfl zR (by kernel_rfl) ⟨_, rfl, ⟨wx.heap.size, rfl, hE.size, id, Bk.new _ _ _⟩, (Chg.refl _).alloc _⟩
  case afin =>
    intro wx hE
    rintro _ rfl _ rfl _ rfl _ rfl _ rfl _ rfl _ rfl _ ⟨gq, rfl, p9, n9, b9⟩
    simp only [FinOk, List.take_succ_cons, List.take_zero, List.take_nil, List.drop_succ_cons, List.drop_zero, List.drop_nil, Act.put, List.setIfInBounds_toArray, List.set_cons_succ, List.set_cons_zero]
    have N8 : Hid (Bk wx gq zR) := b9
    have HG9 : Hid (w7.heap.size ≤ gq) := p9
    have E8 : Hid (Below w7.heap.size w7 wx) := hE.undrew.below (Nat.le_refl _) (fun _ _ => id)
    clear hE b9 p9 n9
    rw [vu32_num L4a.out, vu32_num L4b.out]
    go_wp2_with (refine wpList_st rfl 25 (.tmp 9) (.tmp 54) rfl gq 0 3 zR [vu32 (eOf x), vu32 (qOf x), .slice none 0 0] rfl rfl N8.out (by kernel_rfl) rfl (by decide) (one_rec _ _ _ _ _) ?_)
    intro w9 hb hc
    rw [splice_whole zR [vu32 (eOf x), vu32 (qOf x), .slice none 0 0] rfl] at hb
    have N9 := Lib.hid hb
    have E9 : Hid (Below w7.heap.size w7 w9) := E8.out.trans (hc.below E8.out.size (fun k hk he => by have := HG9.out; omega))
    have M9 := Lib.hid (M7.out.below E9.out)
    have c9 : w9.cell? ⟨g8, 9, none⟩ = some (.int .u8 ((n : Nat) : Int)) := M9.out.cell (by
      rw [HVB.out, List.getElem?_cons_succ, ← HN.out]
      exact bts_get (by rw [HBL.out]; decide))
    have H0 : Hid (GetRel w7 gq x n (.int .i64 0) w9) := ⟨0, .slice none 0 0, Nat.zero_le _, rfl, N9.out, ⟨rfl, .inl ⟨rfl, rfl⟩⟩, E9.out, N9.out.lt⟩
    clear hb hc N8 E8
    go_wp2_with fail
    clear c9
    go_loopw [59] (fun v59 wr => GetRel w7 gq x n v59 wr) (fun v59 _ => n - (intOf v59).toNat)
    case atStart => exact H0.out
    case round =>
      obtain ⟨k, u, hk, rfl, hn9, ho, he7, hsz⟩ := hrel
      have NR := Lib.hid hn9
      have OR := Lib.hid ho
      have ER := Lib.hid he7
      have SR := Lib.hid hsz
      have MR := Lib.hid (M7.out.below he7)
      clear hn9 ho he7 hsz H0
      by_cases hlt : k < n
      · have hki : (k : Int) < (n : Int) := by omega
        have hk9 : (9 : Int) + (k : Int) < 29 := by have := HN5.out; omega
        have hk0 : (0 : Int) ≤ 9 + (k : Int) := by omega
        go_wp2_with fail
        have N9u : ¬ LvP u gq := fun h => by have := (OR.out.lt _ h).1; omega
        have N8u : ¬ LvP u g8 := fun h => by have := (OR.out.lt _ h).1; have := HG9.out; have := S7.out; omega
        have HNX : Hid (∀ q, wr.heap.size ≤ q → ¬ LvP u q) := fun q hq h => by have := (OR.out.lt _ h).2; omega
        obtain ⟨y, hy⟩ : ∃ y, ((bodyOf x).getD (9 + k) 0).toNat = y := ⟨_, rfl⟩
        have hy256 : y < 256 := by rw [← hy]; exact ((bodyOf x).getD (9 + k) 0).toNat_lt
        have HAT : Hid (atOf x k = (y : Int)) := by show _ = _; rw [atOf, hy]
        have HCK : Hid (vr[1 + (9 + k)]? = some (.int .u8 (y : Int))) := by
          show _ = _
          rw [← hy, HVB.out, Nat.add_comm 1, List.getElem?_cons_succ]
          exact bts_get (by rw [HBL.out]; have := HN5.out; omega)
        clear hy
        apply wp_region_relt 11 10 72 (OwnP (gq + 1) (k + 1) (putsK x zdat (k + 1)) gq u) (Chg (LvP u)) (Chg NoS) (Chg (LvP u)) [(Veq _), (Veq _), (Veq _), (Veq _), (Veq _), (Veq _), (Veq _), (Veq _), (Veq _), (RowAt (LvP u) 1 (putC ⟨atOf x k, zdat k⟩)), (fun _ _ => True)] [[], [0], [], [2], [], [3, 4], [5], [6], [7], [8], [1, 9]] [62, 63, 64, 65, 66, 67, 68, 69, 70, 71, 72] (by kernel_rfl) (by kernel_rfl) rfl rfl rfl (by kernel_rfl) Chg.refl (fun _ _ _ => Chg.trans) (fun _ _ _ => Chg.trans) (fun _ _ h => h.mono (fun _ hk => hk.elim)) (fun _ _ h => h) ⟨Veq.lasts, Veq.lasts, Veq.lasts, Veq.lasts, Veq.lasts, Veq.lasts, Veq.lasts, Veq.lasts, Veq.lasts, (fun w w' v h => RowAt.lasts w w' v (h.mono (fun _ hk => hk.elim))), (fun _ _ _ _ _ => trivial), trivial⟩ ⟨Veq.lasts, Veq.lasts, Veq.lasts, Veq.lasts, Veq.lasts, Veq.lasts, Veq.lasts, Veq.lasts, Veq.lasts, RowAt.lasts, (fun _ _ _ _ _ => trivial), trivial⟩ OwnP.lasts (fun F h w v => by cases h; trivial) ?bops ?bfin
        case bops =>
          refine ⟨?bo0, ?bo1, ?bo2, ?bo3, ?bo4, ?bo5, ?bo6, ?bo7, ?bo8, ?bo9, ?bo10, trivial⟩
          case bo0 =>
            rw [if_neg (by decide)]
            intro a wx hE hin
            have i9 : a.eval (.tmp 9) = .pointer (some ⟨gq, 0, none⟩) := hin 9 rfl
            clear hin
            have hcst : ∀ v, a.eval (.const v) = v := fun _ => rfl
            have hfnc : ∀ f, a.eval (.func f) = .func (.func f) #[] #[] := fun _ => rfl
            refine want_none rfl ?_
            unfold Oper.wp
            generalize a.eval = ρ at *
            go_simp
            try go_bits
            first | exact rel_val (Chg.refl _) | (go_simp; exact rel_val (Chg.refl _))
          case bo1 =>
            rw [if_neg (by decide)]
            rintro a wx hE hin (h0 : a.eval (.tmp 62) = _)
            clear hin
            have hcst : ∀ v, a.eval (.const v) = v := fun _ => rfl
            have hfnc : ∀ f, a.eval (.func f) = .func (.func f) #[] #[] := fun _ => rfl
            refine want_none rfl ?_
            unfold Oper.wp
            generalize a.eval = ρ at *
            have c := Bk.cell (j := 2) (NR.out.drew.chg hE N9u) rfl
            go_simp
            try go_bits
            first | exact rel_val (Chg.refl _) | (go_simp; exact rel_val (Chg.refl _))
          case bo2 =>
            rw [if_neg (by decide)]
            intro a wx hE hin
            have i10 : a.eval (.tmp 10) = .int .i64 k := hin 10 rfl
            clear hin
            have hcst : ∀ v, a.eval (.const v) = v := fun _ => rfl
            have hfnc : ∀ f, a.eval (.func f) = .func (.func f) #[] #[] := fun _ => rfl
            refine want_none rfl ?_
            unfold Oper.wp
            generalize a.eval = ρ at *
            go_simp
            try go_bits
            first | exact rel_val (Chg.refl _) | (go_simp; exact rel_val (Chg.refl _))
          case bo3 =>
            rw [if_neg (by decide)]
            rintro a wx hE hin (h2 : a.eval (.tmp 64) = _)
            clear hin
            have hcst : ∀ v, a.eval (.const v) = v := fun _ => rfl
            have hfnc : ∀ f, a.eval (.func f) = .func (.func f) #[] #[] := fun _ => rfl
            refine want_none rfl ?_
            unfold Oper.wp
            generalize a.eval = ρ at *
            go_simp
            try go_bits
            first | exact rel_val (Chg.refl _) | (go_simp; exact rel_val (Chg.refl _))
          case bo4 =>
            rw [if_neg (by decide)]
            intro a wx hE hin
            have i8 : a.eval (.tmp 8) = .pointer (some ⟨g8, 0, none⟩) := hin 8 rfl
            clear hin
            have hcst : ∀ v, a.eval (.const v) = v := fun _ => rfl
            have hfnc : ∀ f, a.eval (.func f) = .func (.func f) #[] #[] := fun _ => rfl
            refine want_none rfl ?_
            unfold Oper.wp
            generalize a.eval = ρ at *
            go_simp
            try go_bits
            first | exact rel_val (Chg.refl _) | (go_simp; exact rel_val (Chg.refl _))
          case bo5 =>
            rw [if_neg (by decide)]
            rintro a wx hE hin (h3 : a.eval (.tmp 65) = _) (h4 : a.eval (.tmp 66) = _)
            clear hin
            have hcst : ∀ v, a.eval (.const v) = v := fun _ => rfl
            have hfnc : ∀ f, a.eval (.func f) = .func (.func f) #[] #[] := fun _ => rfl
            refine want_none rfl ?_
            unfold Oper.wp
            generalize a.eval = ρ at *
            go_simp
            try go_bits
            first | exact rel_val (Chg.refl _) | (go_simp; exact rel_val (Chg.refl _))
          case bo6 =>
            rw [if_neg (by decide)]
            rintro a wx hE hin (h5 : a.eval (.tmp 67) = _)
            clear hin
            have hcst : ∀ v, a.eval (.const v) = v := fun _ => rfl
            have hfnc : ∀ f, a.eval (.func f) = .func (.func f) #[] #[] := fun _ => rfl
            refine want_none rfl ?_
            unfold Oper.wp
            generalize a.eval = ρ at *
            have c := Bk.cell (MR.out.drew.chg hE N8u) HCK.out
            go_simp
            try go_bits
            first | exact rel_val (Chg.refl _) | (go_simp; exact rel_val (Chg.refl _))
          case bo7 =>
            rw [if_neg (by decide)]
            rintro a wx hE hin (h6 : a.eval (.tmp 68) = _)
            clear hin
            have hcst : ∀ v, a.eval (.const v) = v := fun _ => rfl
            have hfnc : ∀ f, a.eval (.func f) = .func (.func f) #[] #[] := fun _ => rfl
            refine want_none rfl ?_
            unfold Oper.wp
            generalize a.eval = ρ at *
            go_simp
            try go_bits
            first | exact rel_val (Chg.refl _) | (go_simp; exact rel_val (Chg.refl _))
          case bo8 =>
            rw [if_neg (by decide)]
            rintro a wx hE hin (h7 : a.eval (.tmp 69) = _)
            clear hin
            have hcst : ∀ v, a.eval (.const v) = v := fun _ => rfl
            have hfnc : ∀ f, a.eval (.func f) = .func (.func f) #[] #[] := fun _ => rfl
            refine want_none rfl ?_
            exact wp_bld 39 [(0, .tmp 69)] rfl (.int .i64 0 :: bts (List.replicate 32 0)) [(0, [.int .i64 (atOf x k)])] (putC ⟨atOf x k, zdat k⟩) (by kernel_rfl) (by kernel_rfl) ⟨by rw [h7, HAT.out]; rfl, ⟨1, rfl, by kernel_rfl, by decide⟩, trivial⟩ rfl (rel_val (Chg.refl _))
          case bo9 =>
            rw [if_neg (by decide)]
            rintro a wx hE hin (h8 : a.eval (.tmp 70) = _)
            clear hin
            have hcst : ∀ v, a.eval (.const v) = v := fun _ => rfl
            have hfnc : ∀ f, a.eval (.func f) = .func (.func f) #[] #[] := fun _ => rfl
            refine want_none rfl ?_
            exact wp_bs1 23 39 _ rfl zPut 33 (putC ⟨atOf x k, zdat k⟩) Try.underlying23 infoPut rfl (by decide) (by decide) (by rw [h8]; rfl) rfl ⟨_, rfl, ⟨wx.heap.size, rfl, HNX.out _ hE.size, _, _, heap_alloc_new wx _⟩, (Chg.refl _).alloc _⟩
          case bo10 =>
            rw [if_pos (by decide)]
            rintro a wx hE hin (h1 : a.eval (.tmp 63) = _) ⟨g9s, h9, s9, t9, f9, c9⟩
            clear hin
            have hcst : ∀ v, a.eval (.const v) = v := fun _ => rfl
            have hfnc : ∀ f, a.eval (.func f) = .func (.func f) #[] #[] := fun _ => rfl
            refine step_append_rd _ _ 23 rfl (gq + 1) 39 zPut 33 40 Try.underlying23 infoPut3 rfl (by decide) (by decide) u k ((putsK x zdat k).flatMap putC) h1 (own_chg (own_drew OR.out) hE (fun _ _ => id)) (some ⟨g9s, 0, none⟩) 1 1 (putC ⟨atOf x k, zdat k⟩) h9 rfl (Rd.row (S := NoS) c9) (one_put _) (by have := HN5.out; omega) (Nat.le_trans SR.out hE.size) ?_
            intro v1 w1 ho1 hg1 hat1
            refine ⟨v1, rfl, ?_, ⟨hg1.os, hg1.tape, hg1.output, hg1.size, fun j hj hne => hg1.block j hj (fun he => hne he.symm)⟩⟩
            rw [if_pos rfl]
            refine ⟨?_, hat1.imp id (fun h => ⟨_, h, by have := SR.out; have : wr.heap.size ≤ wx.heap.size := hE.size; omega⟩)⟩
            rw [putsK_succ, flat_snoc]
            exact ho1
        case bfin =>
          intro wx hE
          rintro _ rfl u rfl _ rfl _ rfl _ rfl _ rfl _ rfl _ rfl _ rfl _ ⟨g9, rfl, s9, t9, f9, c9⟩ vsp _ hsp
          simp only [FinOk, List.take_succ_cons, List.take_zero, List.take_nil, List.drop_succ_cons, List.drop_zero, List.drop_nil, Act.put, List.setIfInBounds_toArray, List.set_cons_succ, List.set_cons_zero]
          simp only [Act.put, List.setIfInBounds_toArray, List.set_cons_succ, List.set_cons_zero] at hsp
          have hsp' : OwnP (gq + 1) (k + 1) (putsK x zdat (k + 1)) gq u wx vsp := hsp
          clear hsp
          obtain ⟨ho3, hat3⟩ := hsp'
          obtain ⟨A2, c2, rfl, _, _, _⟩ := own_rd ho3
          have NX : Hid (Bk wx gq [vu32 (eOf x), vu32 (qOf x), u]) := NR.out.drew.chg hE N9u
          have OX := Lib.hid ho3
          have EX : Hid (Below w7.heap.size w7 wx) := ER.out.trans (hE.undrew.below ER.out.size (fun j hj he => by have := (OR.out.lt j he).1; have := HG9.out; omega))
          have SX : Hid (gq + 1 ≤ wx.heap.size) := Nat.le_trans SR.out hE.size
          clear ho3 hat3 hE c9
          go_wp2_with (refine wpList_st rfl 23 (.tmp 73) (.tmp 72) rfl gq 2 1 [vu32 (eOf x), vu32 (qOf x), u] [.slice A2 (k + 1) c2] rfl rfl NX.out (by kernel_rfl) rfl (by simp) (fun u hu => by obtain rfl := List.mem_singleton.1 hu; rfl) ?_)
          intro w4 hb4 hc4
          have hb5 : Bk w4 gq [vu32 (eOf x), vu32 (qOf x), .slice A2 (k + 1) c2] := hb4
          have OY : Hid (w4.ownsRow (gq + 1) 39 33 (.slice A2 (k + 1) c2) (k + 1) ((putsK x zdat (k + 1)).flatMap putC)) := own_chg OX.out hc4 (fun j hj he => by have := (OX.out.lt j hj).1; omega)
          have NY := Lib.hid hb5
          have EY : Hid (Below w7.heap.size w7 w4) := EX.out.trans (hc4.below EX.out.size (fun j hj he => by have := HG9.out; omega))
          have SY : Hid (gq + 1 ≤ w4.heap.size) := Nat.le_trans SX.out hc4.size
          clear hb4 hb5 hc4
          go_wp2_with fail
          go_roundw
          case rel => exact ⟨k + 1, .slice A2 (k + 1) c2, by omega, by go_num, NY.out, OY.out, EY.out, SY.out⟩
          case measure => simp [intOf]; omega
      · have hke : k = n := by omega
        subst hke
        have hki : ¬ ((k : Int) < (k : Int)) := by omega
        obtain ⟨A9, c9, rfl, rd9, hc9, hm9⟩ := own_rd OR.out
        have RD9 := Lib.hid rd9
        have HC9 := Lib.hid hc9
        have HM9 := Lib.hid hm9
        clear rd9 hc9 hm9
        go_wp2_with (refine wpList_ld rfl 25 _ rfl gq 0 3 [vu32 (eOf x), vu32 (qOf x), .slice A9 k c9] [vu32 (eOf x), vu32 (qOf x), .slice A9 k c9] rfl NR.out rfl (by kernel_rfl) (Nat.le_refl 3) rfl ?_)
        have HPO : Hid (PutsOk (putsK x zdat k)) := putsK_ok (fun _ => List.length_replicate)
        refine (header_calls (eOf x) (qOf x) (putsK x zdat k) A9 k c9 wr (putsK_length _ _ _) (by have := HN5.out; omega) RD9.out HPO.out putsK_at).mono ?_
        rintro en w10 ⟨rfl, hb⟩
        have E10 : Hid (Below w7.heap.size w7 w10) := ER.out.trans (hb.mono ER.out.size)
        have OA : Hid (w10.ownsRow (gq + 1) 39 33 (.slice A9 k c9) k ((putsK x zdat k).flatMap putC)) := own_chg OR.out (Chg.of_below (S := NoS) hb) (fun _ _ => id)
        have NA := Lib.hid (NR.out.below hb)
        clear hb
        obtain ⟨hs, hhs⟩ : ∃ hs, hdrS (eOf x) (qOf x) (putsK x zdat k) = hs := ⟨_, rfl⟩
        have HHS := Lib.hid hhs
        have HHL : Hid (hs.length = 32) := by show _ = _; rw [← hhs]; exact hdrS_length _ _ _ (by rw [putsK_length]; have := HN5.out; omega)
        obtain ⟨vh, hvh⟩ : ∃ vh, bts hs = vh := ⟨_, rfl⟩
        have HVH := Lib.hid hvh
        have HVHL : Hid (vh.length = 32) := by show _ = _; rw [← hvh, bts_length, HHL.out]
        have HVHO : Hid (∀ u ∈ vh, u.oneCell' = true) := by rw [← hvh]; exact one_bts _
        have HBK : Hid (hs = x ↔ restB x) := by
          show _ ↔ _
          have h := hdr_back (x := x) (D := zdat) HXL.out HER.out HM.out (by rw [HN.out]; exact HN5.out)
          rw [HN.out, HHS.out] at h
          exact h
        rw [hhs, hvh]
        clear hhs hvh
        go_wp2_with (refine wpList_al rfl 37 rfl (bts (List.replicate 32 0)) (by kernel_rfl) ?_)
        intro gh w11 hg hb hc hs11
        have HGH : Hid (gh = w10.heap.size) := hg
        have PB := Lib.hid hb
        have E11 : Hid (Below w7.heap.size w7 w11) := E10.out.trans (hc.below E10.out.size (fun _ _ => id))
        have OB := Lib.hid (own_chg OA.out hc (fun _ _ => id))
        have NB := Lib.hid (NA.out.chg hc id)
        clear hg hb hc hs11
        go_wp2_with (refine wpList_st rfl 37 (.tmp 11) (.tmp 78) rfl gh 0 32 (bts (List.replicate 32 0)) vh rfl rfl PB.out (by kernel_rfl) HVHL.out (by decide) HVHO.out ?_)
        intro w12 hb hc
        rw [splice_whole _ _ (by rw [HVHL.out]; rfl)] at hb
        have PC := Lib.hid hb
        have E12 : Hid (Below w7.heap.size w7 w12) := E11.out.trans (hc.below E11.out.size (fun j hj he => by have := HGH.out; have := E10.out.size; omega))
        have OC : Hid (w12.ownsRow (gq + 1) 39 33 (.slice A9 k c9) k ((putsK x zdat k).flatMap putC)) := own_chg OB.out hc (fun j hj he => by have h1 := (OA.out.lt _ hj).2; have := HGH.out; omega)
        have NC : Hid (Bk w12 gq [vu32 (eOf x), vu32 (qOf x), .slice A9 k c9]) := NB.out.chg hc (by have := NA.out.lt; have := HGH.out; omega)
        have LC : Hid (Bk w12 g6 vx) := L7.out.below E12.out
        have KC : Hid (Bk w12 w.heap.size zR) := K7.out.below E12.out
        have EC : Hid (Below w.heap.size w w12) := E7.out.trans (E12.out.mono E7.out.size)
        clear hb hc PB OB NB OA NA E11 E10
        by_cases hrest : restB x
        case neg =>
          have HF := NOF (fun h => hrest (formB_iff.1 h).2.2.2.1)
          have hne : ¬ hs = x := fun h => hrest (HBK.out.1 h)
          go_wp2_with (first
            | (refine wpList_ld rfl 37 (.tmp 11) rfl gh 0 32 vh (bts hs) rfl PC.out rfl (by kernel_rfl) (by rw [HVHL.out]; decide) (by rw [List.drop_zero, List.take_of_length_le (by rw [HVHL.out]; exact Nat.le_refl _), HVH.out]) ?_)
            | (refine wpList_ld rfl 37 (.tmp 6) rfl g6 0 32 vx (bts x) rfl LC.out rfl (by kernel_rfl) (by rw [HVL.out]; decide) (by rw [List.drop_zero, List.take_of_length_le (by rw [HVL.out]; exact Nat.le_refl _), HVX.out]) ?_)
            | (refine wpList_eq_bytes rfl true 37 _ (.tmp 80) (.tmp 81) rfl 5 32 (by kernel_rfl) Try.underlying5 (by kernel_rfl) (by kernel_rfl) hs x rfl rfl HHL.out HXL.out true (by rw [decide_eq_false hne]; rfl) ?_)
            | (refine wpList_bld rfl 25 [] rfl zR [] zR (by kernel_rfl) (by kernel_rfl) trivial rfl ?_)
            | (refine wpList_st rfl 25 (.tmp 4) (.tmp 89) rfl w.heap.size 0 3 zR zR rfl rfl KC.out (by kernel_rfl) rfl (by decide) one_zR ?_))
          intro wz hbz hcz
          rw [splice_whole zR zR rfl] at hbz
          have HEZ : Hid (Below w.heap.size w wz) := EC.out.trans (hcz.below EC.out.size (fun k hk he => by omega))
          have HBZ := Lib.hid hbz
          clear hbz hcz
          go_wp2_with fail
          (try simp only [Exit.inBlock, Exit.then])
          refine bodyPost_ret (res_cell_tmp rfl _ _ w.heap.size 3 zR rfl HBZ.out (by kernel_rfl) (by kernel_rfl) rfl) rfl ?_
          rw [HF.out]
          exact no_post HEZ.out _
        have HEQ : Hid (hs = x) := HBK.out.2 hrest
        have HRB := Lib.hid hrest
        clear hrest
        have d2 := NC.out.cell (j := 2) rfl
        go_wp2_with (first
          | (refine wpList_ld rfl 37 (.tmp 11) rfl gh 0 32 vh (bts hs) rfl PC.out rfl (by kernel_rfl) (by rw [HVHL.out]; decide) (by rw [List.drop_zero, List.take_of_length_le (by rw [HVHL.out]; exact Nat.le_refl _), HVH.out]) ?_)
          | (refine wpList_ld rfl 37 (.tmp 6) rfl g6 0 32 vx (bts x) rfl LC.out rfl (by kernel_rfl) (by rw [HVL.out]; decide) (by rw [List.drop_zero, List.take_of_length_le (by rw [HVL.out]; exact Nat.le_refl _), HVX.out]) ?_)
          | (refine wpList_eq_bytes rfl true 37 _ (.tmp 80) (.tmp 81) rfl 5 32 (by kernel_rfl) Try.underlying5 (by kernel_rfl) (by kernel_rfl) hs x rfl rfl HHL.out HXL.out false (by rw [decide_eq_true HEQ.out]; rfl) ?_))
        clear d2
        have RDC : Hid (Rd w12 A9 ((putsK x zdat k).flatMap putC)) := by
          obtain ⟨A', c', hv', hr', _, _⟩ := own_rd OC.out
          injection hv' with h1 _ _
          subst h1
          exact hr'
        refine (good_calls (putsK x zdat k) A9 k c9 w12 (putsK_length _ _ _) RDC.out HPO.out).mono ?_
        rintro en w13 ⟨rfl, hb⟩
        have ED : Hid (Below w7.heap.size w7 w13) := E12.out.trans (hb.mono E12.out.size)
        have KD := Lib.hid (KC.out.below hb)
        have ND := Lib.hid (NC.out.below hb)
        have OD : Hid (w13.ownsRow (gq + 1) 39 33 (.slice A9 k c9) k ((putsK x zdat k).flatMap putC)) := own_chg OC.out (Chg.of_below (S := NoS) hb) (fun _ _ => id)
        have EE : Hid (Below w.heap.size w w13) := E7.out.trans (ED.out.mono E7.out.size)
        clear hb RDC KC NC OC LC PC EC
        by_cases hgood : goodB (putsK x zdat k) = true
        case neg =>
          have HF := NOF (fun h => hgood (by have := (formB_iff.1 h).2.2.2.2; rwa [HN.out] at this))
          rw [Bool.eq_false_iff.2 hgood]
          go_wp2_with (first
            | (refine wpList_bld rfl 25 [] rfl zR [] zR (by kernel_rfl) (by kernel_rfl) trivial rfl ?_)
            | (refine wpList_st rfl 25 (.tmp 4) (.tmp 89) rfl w.heap.size 0 3 zR zR rfl rfl KD.out (by kernel_rfl) rfl (by decide) one_zR ?_))
          intro wz hbz hcz
          rw [splice_whole zR zR rfl] at hbz
          have HEZ : Hid (Below w.heap.size w wz) := EE.out.trans (hcz.below EE.out.size (fun k hk he => by omega))
          have HBZ := Lib.hid hbz
          clear hbz hcz
          go_wp2_with fail
          (try simp only [Exit.inBlock, Exit.then])
          refine bodyPost_ret (res_cell_tmp rfl _ _ w.heap.size 3 zR rfl HBZ.out (by kernel_rfl) (by kernel_rfl) rfl) rfl ?_
          rw [HF.out]
          exact no_post HEZ.out _
        have HF : Hid (s.walGet (f : Int) = (recOf x (fun i => s.readB ((f : Int) + 1 + (i : Nat))), 0)) := walGet_d HMAY.out HZ.out HX.out (formB_iff.2 ⟨HER.out, HM.out, by rw [HN.out]; exact HN5.out, HRB.out, by rw [HN.out]; exact hgood⟩)
        have HK1 : Hid (1 ≤ k) := by have := (goodB_at hgood).1; rw [putsK_length] at this; exact this
        rw [hgood]
        clear hgood
        obtain ⟨D, hD⟩ : ∃ D : Nat → List UInt8, (fun i : Nat => s.readB ((f : Int) + 1 + (i : Nat))) = D := ⟨_, rfl⟩
        have HDE : Hid (∀ i : Nat, s.readB ((f : Int) + 1 + (i : Nat)) = D i) := fun i => by rw [← hD]
        have HDL : Hid (∀ i, (D i).length = 32) := fun i => by rw [← HDE.out i]; exact HD32.out _
        rw [hD] at HF
        clear hD
        obtain ⟨gp, cp, rest, hv, hbp, hob⟩ := own_bkr OD.out HK1.out
        have HGP : Hid (gq + 1 ≤ gp) := (OD.out.lt _ hob).1
        injection hv with h1 _ h3
        subst h1 h3
        clear hob
        have BP : Hid (Bk w13 gp ((putsK x (datK D 0) k).flatMap putC ++ rest)) := by show Bk _ _ _; rw [datK_zero]; exact hbp
        have H1 : Hid (GetRel2 w7 gq gp x D k c9 rest (.int .i64 0) w13) := ⟨0, Nat.zero_le _, rfl, ND.out, BP.out, ED.out⟩
        have d2 := ND.out.cell (j := 2) rfl
        clear hbp
        go_wp2_with fail
        clear d2
        go_loopw [93] (fun v93 wr => GetRel2 w7 gq gp x D k c9 rest v93 wr) (fun v93 _ => k - (intOf v93).toNat)
        case atStart => exact H1.out
        case round =>
          obtain ⟨j, hj, rfl, hn9, hbp, he7⟩ := hrel
          have NS := Lib.hid hn9
          have BS := Lib.hid hbp
          have ES := Lib.hid he7
          have EA : Hid (Below w.heap.size w wr) := E7.out.trans (he7.mono E7.out.size)
          have KS := Lib.hid (K7.out.below he7)
          clear hn9 hbp he7 H1
          by_cases hlt : j < k
          · have hki : (j : Int) < (k : Int) := by omega
            go_wp2_with fail
            have N9p : ¬ gq = gp := by have := HGP.out; omega
            have FTP : ∀ q, footD g gs lv q → ¬ q = gp := fun q hq he => by have := DiskAt.lt HW.out q hq; have := HGP.out; have := HG9.out; have := K7.out.lt; omega
            have HRE : Hid (s.readE ((f : Int) + 1 + (j : Int)) = 0) := readE_next HMAY.out HZ.out (by have := HN5.out; omega)
            have HPK : Hid (PutsOk (putsK x (datK D j) k)) := putsK_ok (datK_len HDL.out j)
            have hsr := HS.out
            have h1024 := HSL.out
            have hn5' := HN5.out
            apply wp_region_relt 15 14 109 (BkF gp ((putsK x (datK D (j + 1)) k).flatMap putC ++ rest)) (Chg (· = gp)) (Chg NoS) (Chg (· = gp)) [(Veq _), (Veq _), (Veq _), (Veq _), (Veq _), (Veq _), (Veq _), (Veq _), (Veq _), (Veq _), (Veq _), (Veq _), (Veq _), (Veq _), (fun _ _ => True)] [[], [0], [], [], [], [4], [], [5, 6], [3, 7], [8], [9], [9], [1, 2], [12], [10, 13]] [97, 98, 99, 100, 101, 102, 103, 104, 105, 96, 106, 107, 108, 109] (by kernel_rfl) (by kernel_rfl) rfl rfl rfl (by kernel_rfl) Chg.refl (fun _ _ _ => Chg.trans) (fun _ _ _ => Chg.trans) (fun _ _ h => h.mono (fun _ hk => hk.elim)) (fun _ _ h => h) ⟨Veq.lasts, Veq.lasts, Veq.lasts, Veq.lasts, Veq.lasts, Veq.lasts, Veq.lasts, Veq.lasts, Veq.lasts, Veq.lasts, Veq.lasts, Veq.lasts, Veq.lasts, Veq.lasts, (fun _ _ _ _ _ => trivial), trivial⟩ ⟨Veq.lasts, Veq.lasts, Veq.lasts, Veq.lasts, Veq.lasts, Veq.lasts, Veq.lasts, Veq.lasts, Veq.lasts, Veq.lasts, Veq.lasts, Veq.lasts, Veq.lasts, Veq.lasts, (fun _ _ _ _ _ => trivial), trivial⟩ BkF.lasts (fun F h w v => by cases h; trivial) ?cops ?cfin
            case cops =>
              refine ⟨?co0, ?co1, ?co2, ?co3, ?co4, ?co5, ?co6, ?co7, ?co8, ?co9, ?co10, ?co11, ?co12, ?co13, ?co14, trivial⟩
              case co0 =>
                rw [if_neg (by decide)]
                intro a wx hE hin
                have i9 : a.eval (.tmp 9) = .pointer (some ⟨gq, 0, none⟩) := hin 9 rfl
                clear hin
                have hcst : ∀ v, a.eval (.const v) = v := fun _ => rfl
                have hfnc : ∀ f, a.eval (.func f) = .func (.func f) #[] #[] := fun _ => rfl
                refine want_none rfl ?_
                unfold Oper.wp
                generalize a.eval = ρ at *
                go_simp
                try go_bits
                first | exact rel_val (Chg.refl _) | (go_simp; exact rel_val (Chg.refl _))
              case co1 =>
                rw [if_neg (by decide)]
                rintro a wx hE hin (h0 : a.eval (.tmp 97) = _)
                clear hin
                have hcst : ∀ v, a.eval (.const v) = v := fun _ => rfl
                have hfnc : ∀ f, a.eval (.func f) = .func (.func f) #[] #[] := fun _ => rfl
                refine want_none rfl ?_
                unfold Oper.wp
                generalize a.eval = ρ at *
                have c := Bk.cell (j := 2) (NS.out.drew.chg hE N9p) rfl
                go_simp
                try go_bits
                first | exact rel_val (Chg.refl _) | (go_simp; exact rel_val (Chg.refl _))
              case co2 =>
                rw [if_neg (by decide)]
                intro a wx hE hin
                have i13 : a.eval (.tmp 13) = .int .i64 j := hin 13 rfl
                clear hin
                have hcst : ∀ v, a.eval (.const v) = v := fun _ => rfl
                have hfnc : ∀ f, a.eval (.func f) = .func (.func f) #[] #[] := fun _ => rfl
                refine want_none rfl ?_
                unfold Oper.wp
                generalize a.eval = ρ at *
                go_simp
                try go_bits
                first | exact rel_val (Chg.refl _) | (go_simp; exact rel_val (Chg.refl _))
              case co3 =>
                rw [if_neg (by decide)]
                intro a wx hE hin
                have i0 : a.eval (.tmp 0) = .pointer (some ⟨g, 0, none⟩) := hin 0 rfl
                clear hin
                have hcst : ∀ v, a.eval (.const v) = v := fun _ => rfl
                have hfnc : ∀ f, a.eval (.func f) = .func (.func f) #[] #[] := fun _ => rfl
                refine want_none rfl ?_
                unfold Oper.wp
                generalize a.eval = ρ at *
                go_simp
                try go_bits
                first | exact rel_val (Chg.refl _) | (go_simp; exact rel_val (Chg.refl _))
              case co4 =>
                rw [if_neg (by decide)]
                intro a wx hE hin
                have i1 : a.eval (.tmp 1) = .int .i64 (f : Int) := hin 1 rfl
                clear hin
                have hcst : ∀ v, a.eval (.const v) = v := fun _ => rfl
                have hfnc : ∀ f, a.eval (.func f) = .func (.func f) #[] #[] := fun _ => rfl
                refine want_none rfl ?_
                unfold Oper.wp
                generalize a.eval = ρ at *
                go_simp
                try go_bits
                first | exact rel_val (Chg.refl _) | (go_simp; exact rel_val (Chg.refl _))
              case co5 =>
                rw [if_neg (by decide)]
                rintro a wx hE hin (h4 : a.eval (.tmp 101) = _)
                clear hin
                have hcst : ∀ v, a.eval (.const v) = v := fun _ => rfl
                have hfnc : ∀ f, a.eval (.func f) = .func (.func f) #[] #[] := fun _ => rfl
                refine want_none rfl ?_
                unfold Oper.wp
                generalize a.eval = ρ at *
                go_simp
                try go_bits
                first | exact rel_val (Chg.refl _) | (go_simp; exact rel_val (Chg.refl _))
              case co6 =>
                rw [if_neg (by decide)]
                intro a wx hE hin
                have i13 : a.eval (.tmp 13) = .int .i64 j := hin 13 rfl
                clear hin
                have hcst : ∀ v, a.eval (.const v) = v := fun _ => rfl
                have hfnc : ∀ f, a.eval (.func f) = .func (.func f) #[] #[] := fun _ => rfl
                refine want_none rfl ?_
                unfold Oper.wp
                generalize a.eval = ρ at *
                go_simp
                try go_bits
                first | exact rel_val (Chg.refl _) | (go_simp; exact rel_val (Chg.refl _))
              case co7 =>
                rw [if_neg (by decide)]
                rintro a wx hE hin (h5 : a.eval (.tmp 102) = _) (h6 : a.eval (.tmp 103) = _)
                clear hin
                have hcst : ∀ v, a.eval (.const v) = v := fun _ => rfl
                have hfnc : ∀ f, a.eval (.func f) = .func (.func f) #[] #[] := fun _ => rfl
                refine want_none rfl ?_
                unfold Oper.wp
                generalize a.eval = ρ at *
                go_simp
                try go_bits
                first | exact rel_val (Chg.refl _) | (go_simp; exact rel_val (Chg.refl _))
              case co8 =>
                rw [if_neg (by decide)]
                rintro a wx hE hin (h3 : a.eval (.tmp 100) = _) (h7 : a.eval (.tmp 104) = _)
                clear hin
                have hcst : ∀ v, a.eval (.const v) = v := fun _ => rfl
                have hfnc : ∀ f, a.eval (.func f) = .func (.func f) #[] #[] := fun _ => rfl
                refine want_none rfl ?_
                unfold Oper.wp
                generalize a.eval = ρ at *
                go_simp
                refine (diskRead_at wx g gs lv s ((f : Int) + 1 + (j : Int)) (DiskAt.chg (DiskAt.drew (DiskAt.below HW.out EA.out)) hE FTP)).mono ?_
                rintro e w' ⟨rfl, hb⟩
                rw [HRE.out, HDE.out j]
                exact rel_val (.of_below hb)
              case co9 =>
                rw [if_neg (by decide)]
                rintro a wx hE hin (h8 : a.eval (.tmp 105) = _)
                clear hin
                have hcst : ∀ v, a.eval (.const v) = v := fun _ => rfl
                have hfnc : ∀ f, a.eval (.func f) = .func (.func f) #[] #[] := fun _ => rfl
                refine want_none rfl ?_
                unfold Oper.wp
                generalize a.eval = ρ at *
                go_simp
                try go_bits
                first | exact rel_val (Chg.refl _) | (go_simp; exact rel_val (Chg.refl _))
              case co10 =>
                rw [if_neg (by decide)]
                rintro a wx hE hin (h9 : a.eval (.tmp 96) = _)
                clear hin
                have hcst : ∀ v, a.eval (.const v) = v := fun _ => rfl
                have hfnc : ∀ f, a.eval (.func f) = .func (.func f) #[] #[] := fun _ => rfl
                refine want_none rfl ?_
                unfold Oper.wp
                generalize a.eval = ρ at *
                go_simp
                try go_bits
                first | exact rel_val (Chg.refl _) | (go_simp; exact rel_val (Chg.refl _))
              case co11 =>
                rw [if_neg (by decide)]
                rintro a wx hE hin (h9 : a.eval (.tmp 96) = _)
                clear hin
                have hcst : ∀ v, a.eval (.const v) = v := fun _ => rfl
                have hfnc : ∀ f, a.eval (.func f) = .func (.func f) #[] #[] := fun _ => rfl
                refine want_none rfl ?_
                unfold Oper.wp
                generalize a.eval = ρ at *
                go_simp
                try go_bits
                first | exact rel_val (Chg.refl _) | (go_simp; exact rel_val (Chg.refl _))
              case co12 =>
                rw [if_neg (by decide)]
                rintro a wx hE hin (h1 : a.eval (.tmp 98) = _) (h2 : a.eval (.tmp 99) = _)
                clear hin
                have hcst : ∀ v, a.eval (.const v) = v := fun _ => rfl
                have hfnc : ∀ f, a.eval (.func f) = .func (.func f) #[] #[] := fun _ => rfl
                refine want_none rfl ?_
                unfold Oper.wp
                generalize a.eval = ρ at *
                go_simp
                try go_bits
                first | exact rel_val (Chg.refl _) | (go_simp; exact rel_val (Chg.refl _))
              case co13 =>
                rw [if_neg (by decide)]
                rintro a wx hE hin (h12 : a.eval (.tmp 108) = _)
                clear hin
                have hcst : ∀ v, a.eval (.const v) = v := fun _ => rfl
                have hfnc : ∀ f, a.eval (.func f) = .func (.func f) #[] #[] := fun _ => rfl
                refine want_none rfl ?_
                unfold Oper.wp
                generalize a.eval = ρ at *
                go_simp
                try go_bits
                first | exact rel_val (Chg.refl _) | (go_simp; exact rel_val (Chg.refl _))
              case co14 =>
                rw [if_pos (by decide)]
                rintro a wx hE hin (h10 : a.eval (.tmp 106) = _) (h13 : a.eval (.tmp 109) = _)
                clear hin
                have hcst : ∀ v, a.eval (.const v) = v := fun _ => rfl
                have hfnc : ∀ f, a.eval (.func f) = .func (.func f) #[] #[] := fun _ => rfl
                refine wp_st 37 _ _ rfl gp (j * 33 + 1) ((putsK x (datK D j) k).flatMap putC ++ rest) (bts (D j)) (by rw [h13]) (by rw [h10]; rfl) (BS.out.drew.chg hE id) (by rw [bts_length, HDL.out]; kernel_rfl) (by rw [bts_length, HDL.out, List.length_append, puts_length HPK.out, putsK_length]; omega) (one_bts _) ?_
                intro w2 hb2 hc2
                rw [splice_put HPK.out (by rw [putsK_length]; exact hlt) (D j) (HDL.out j), putsK_set hlt] at hb2
                exact ⟨_, rfl, hb2, hc2⟩
            case cfin =>
              intro wx hE
              rintro _ rfl _ rfl _ rfl _ rfl _ rfl _ rfl _ rfl _ rfl _ rfl _ rfl _ rfl _ rfl _ rfl _ rfl _ hsp
              simp only [FinOk, List.take_succ_cons, List.take_zero, List.take_nil, List.drop_succ_cons, List.drop_zero, List.drop_nil, Act.put, List.setIfInBounds_toArray, List.set_cons_succ, List.set_cons_zero]
              have BX : Hid (Bk wx gp ((putsK x (datK D (j + 1)) k).flatMap putC ++ rest)) := hsp
              have NX : Hid (Bk wx gq [vu32 (eOf x), vu32 (qOf x), .slice (some ⟨gp, 0, none⟩) k c9]) := NS.out.drew.chg hE N9p
              have EX : Hid (Below w7.heap.size w7 wx) := ES.out.trans (hE.undrew.below ES.out.size (fun j hj he => by have := HGP.out; have := HG9.out; omega))
              clear hsp hE
              go_wp2_with fail
              go_roundw
              case rel => exact ⟨j + 1, by omega, by go_num, NX.out, BX.out, EX.out⟩
              case measure => simp [intOf]; omega
          · have hke : j = k := by omega
            subst hke
            have hki : ¬ ((j : Int) < (j : Int)) := by omega
            go_wp2_with (first
              | (refine wpList_ld rfl 25 _ rfl gq 0 3 [vu32 (eOf x), vu32 (qOf x), .slice (some ⟨gp, 0, none⟩) j c9] [vu32 (eOf x), vu32 (qOf x), .slice (some ⟨gp, 0, none⟩) j c9] rfl NS.out rfl (by kernel_rfl) (Nat.le_refl 3) rfl ?_)
              | (refine wpList_st rfl 25 (.tmp 4) (.tmp 115) rfl w.heap.size 0 3 zR [vu32 (eOf x), vu32 (qOf x), .slice (some ⟨gp, 0, none⟩) j c9] rfl rfl KS.out (by kernel_rfl) rfl (by decide) (one_rec _ _ _ _ _) ?_))
            intro wz hbz hcz
            rw [splice_whole zR [vu32 (eOf x), vu32 (qOf x), .slice (some ⟨gp, 0, none⟩) j c9] rfl] at hbz
            have HEZ : Hid (Below w.heap.size w wz) := EA.out.trans (hcz.below EA.out.size (fun k hk he => by omega))
            have HBZ := Lib.hid hbz
            have BZ : Hid (Bk wz gp ((putsK x (datK D j) j).flatMap putC ++ rest)) := BS.out.chg hcz (by have := HGP.out; have := HG9.out; have := K7.out.lt; omega)
            clear hbz hcz
            go_wp2_with fail
            (try simp only [Exit.inBlock, Exit.then])
            refine bodyPost_ret (res_cell_tmp rfl _ _ w.heap.size 3 _ rfl HBZ.out (by kernel_rfl) (by kernel_rfl) rfl) rfl ?_
            rw [HF.out]
            refine ⟨some ⟨gp, 0, none⟩, c9, ?_, ?_, ?_, HM9.out, HEZ.out⟩
            · show _ = Ending.returned (.tuple #[.agg #[vu32 (eOf x), vu32 (qOf x), .slice (some ⟨gp, 0, none⟩) (putsK x D (nOf x)).length c9], .int .i64 0])
              rw [putsK_length, HN.out]
              rfl
            · show Rd wz _ ((putsK x D (nOf x)).flatMap putC)
              have := BZ.out.rd_at 0 ((putsK x (datK D j) j).flatMap putC).length
              rw [List.drop_zero, List.take_append_of_le_length (Nat.le_refl _), List.take_length, putsK_full] at this
              rw [HN.out]
              exact this
            · show (putsK x D (nOf x)).length ≤ _
              rw [putsK_length, HN.out]
              exact HC9.out

end Go.Proofs.Ytchcnkobgdbdkaa


/- The walk of the reference's Get. -/
namespace Go.Proofs.Ytchcnkobgdbdkaa
open Go.RowKit
set_option linter.unusedVariables false
set_option linter.unusedSimpArgs false

def zQe (er : Int) : List Value := [vu32 0, vu32 0, .slice none 0 0, .int .i64 er]
def zQ : List Value := zQe 0
theorem one_zQe (er : Int) : ∀ u ∈ zQe er, u.oneCell' = true := by
  intro u hu
  simp only [zQe, List.mem_cons, List.not_mem_nil, or_false] at hu
  rcases hu with rfl | rfl | rfl | rfl <;> rfl
theorem one_rec4 (e q : UInt32) (A : Option Addr) (n c : Nat) (z : Int) : ∀ u ∈ [vu32 e, vu32 q, .slice A n c, .int .i64 z], u.oneCell' = true := by
  intro u hu
  simp only [List.mem_cons, List.not_mem_nil, or_false] at hu
  rcases hu with rfl | rfl | rfl | rfl <;> rfl
theorem rno_post {w w' : World} (hb : Below w.heap.size w w') (er : Int) : RGetPost w Rec.no er (.returned (.agg (zQe er).toArray)) w' :=
  ⟨none, 0, rfl, Rd.nil _ _, Nat.le_refl _, by decide, hb⟩
/-- The loop that reads the images. -/
def RGetRel (wf : World) (gq : Nat) (x : List UInt8) (D : Nat → List UInt8) (n : Nat) (v : Value) (wr : World) : Prop :=
  ∃ (k : Nat) (u : Value), k ≤ n ∧ v = .int .i64 k ∧ Bk wr gq [vu32 (eOf x), vu32 (qOf x), u, .int .i64 0] ∧ wr.ownsRow (gq + 1) 39 33 u k ((putsK x D k).flatMap putC) ∧ Below wf.heap.size wf wr ∧ gq + 1 ≤ wr.heap.size
def ZRel (x : List UInt8) (n : Nat) (v : Value) : Prop := ∃ j : Nat, 9 + n ≤ j ∧ j ≤ 29 ∧ v = .int .i64 j ∧ ∀ i, 9 + n ≤ i → i < j → (bodyOf x).getD i 0 = 0
theorem putC_one (a : Int) (d : List UInt8) : [Value.int .i64 a] ++ bts d = putC ⟨a, d⟩ := rfl
set_option maxRecDepth 100000 in
set_option maxHeartbeats 16000000 in
theorem refGet_calls (w : World) (g gs : Nat) (lv : Value) (s : Dst) (fr : Int) (hd : DAt 101 w g gs lv s) :
    Calls Try.prog 17 #[.pointer (some ⟨g, 0, none⟩), .int .i64 fr] w (RGetPost w (s.walGet fr).1 (s.walGet fr).2) := by
  have HW := Lib.hid hd
  have HD32 : Hid (∀ i, (s.readB i).length = 32) := hd.readB_len
  clear hd
  go_enter Try.func17, Try.ntmps17
  go_wp2_with (refine wpList_al rfl 53 rfl zQ (by kernel_rfl) ?_)
  intro g0 w1 hg hb hc hs
  subst hg
  have K1 := Lib.hid hb
  have E1 : Hid (Below w.heap.size w w1) := hc.below (Nat.le_refl _) (fun _ _ => id)
  have S1 : Hid (w1.heap.size = w.heap.size + 1) := hs
  clear hb hc hs
  go_wp2_with fail
  refine (refMay_calls w1 g gs lv s fr (DiskAt.below HW.out E1.out)).mono ?_
  rintro en w' ⟨rfl, rfl⟩
  by_cases hmay : mayB s.S.length fr = true
  case neg =>
    have HF := Lib.hid (walGet_a hmay)
    rw [Bool.eq_false_iff.2 hmay]
    clear hmay
    go_wp2_with (first
      | (refine wpList_bld rfl 53 [(3, .const (.int .i64 1))] rfl zQ [(3, [.int .i64 1])] (zQe 1) (by kernel_rfl) (by kernel_rfl) ?f1 rfl ?_)
      | (refine wpList_st rfl 53 (.tmp 4) (.tmp 19) rfl w.heap.size 0 4 zQ (zQe 1) rfl rfl K1.out (by kernel_rfl) rfl (by decide) (one_zQe _) ?_))
    case f1 => exact ⟨rfl, ⟨1, rfl, by kernel_rfl, by decide⟩, trivial⟩
    intro wz hbz hcz
    rw [splice_whole zQ (zQe 1) rfl] at hbz
    have HEZ : Hid (Below w.heap.size w wz) := E1.out.trans (hcz.below E1.out.size (fun k hk he => by omega))
    have HBZ := Lib.hid hbz
    clear hbz hcz
    go_wp2_with fail
    (try simp only [Exit.inBlock, Exit.then])
    refine bodyPost_ret (res_cell rfl _ _ w.heap.size 4 (zQe 1) rfl HBZ.out (by kernel_rfl) (by kernel_rfl) rfl) rfl ?_
    rw [HF.out]
    exact rno_post HEZ.out _
  have hfr := mayB_at hmay
  obtain ⟨f, hf⟩ := Int.eq_ofNat_of_zero_le hfr.1
  have HS : Hid (f + 6 ≤ s.S.length) := by show _ ≤ _; omega
  have HSL : Hid (s.S.length ≤ 1024) := HW.out.sl
  have HMAY := Lib.hid hmay
  rw [hmay]
  clear hmay hfr
  subst hf
  go_wp2_with fail
  refine (refRead_at w1 g gs lv s (f : Int) (DiskAt.below HW.out E1.out)).mono ?_
  rintro en w2 ⟨rfl, hb⟩
  have K2 := Lib.hid (K1.out.below hb)
  have E2 : Hid (Below w.heap.size w w2) := E1.out.trans (hb.mono E1.out.size)
  clear hb
  obtain ⟨x, hx⟩ : ∃ x, s.readB (f : Int) = x := ⟨_, rfl⟩
  have HX := Lib.hid hx
  have HXL : Hid (x.length = 32) := by show _ = _; rw [← hx]; exact HD32.out _
  obtain ⟨vx, hvx⟩ : ∃ vx, bts x = vx := ⟨_, rfl⟩
  have HVX := Lib.hid hvx
  have HVL : Hid (vx.length = 32) := by show _ = _; rw [← hvx, bts_length, HXL.out]
  have HVO : Hid (∀ u ∈ vx, u.oneCell' = true) := by rw [← hvx]; exact one_bts _
  obtain ⟨z, hz⟩ : ∃ z, s.readE (f : Int) = z := ⟨_, rfl⟩
  have HZ := Lib.hid hz
  rw [hx, hvx, hz]
  clear hx hvx hz
  go_wp2_with (refine wpList_al rfl 37 rfl (bts (List.replicate 32 0)) (by kernel_rfl) ?_)
  intro g6 w3 hg hb hc hs
  have HG6 : Hid (w.heap.size + 1 ≤ g6) := by show _ ≤ _; have := S1.out; have := E2.out.size; have := K2.out.lt; omega
  have L3 := Lib.hid hb
  have K3 := Lib.hid (K2.out.chg hc id)
  have E3 : Hid (Below w.heap.size w w3) := E2.out.trans (hc.below E2.out.size (fun _ _ => id))
  clear hg hb hc hs
  go_wp2_with (refine wpList_st rfl 37 (.tmp 5) (.tmp 24) rfl g6 0 32 (bts (List.replicate 32 0)) vx rfl rfl L3.out (by kernel_rfl) HVL.out (by decide) HVO.out ?_)
  intro w4 hb hc
  rw [splice_whole _ _ (by rw [HVL.out]; rfl)] at hb
  have L4 := Lib.hid hb
  have K4 : Hid (Bk w4 w.heap.size zQ) := K3.out.chg hc (by have := HG6.out; omega)
  have E4 : Hid (Below w.heap.size w w4) := E3.out.trans (hc.below E3.out.size (fun k hk he => by have := HG6.out; omega))
  clear hb hc
  by_cases hez : z = 0
  case neg =>
    have HF : Hid (s.walGet (f : Int) = (Rec.no, z)) := by
      show _ = _
      rw [← HZ.out]
      exact walGet_b HMAY.out (by rw [HZ.out]; exact hez)
    go_wp2_with (first
      | (refine wpList_bld rfl 53 [(3, .tmp 28)] rfl zQ [(3, [.int .i64 z])] (zQe z) (by kernel_rfl) (by kernel_rfl) ?f1 rfl ?_)
      | (refine wpList_st rfl 53 (.tmp 4) (.tmp 29) rfl w.heap.size 0 4 zQ (zQe z) rfl rfl K4.out (by kernel_rfl) rfl (by decide) (one_zQe _) ?_))
    case f1 => exact ⟨rfl, ⟨1, rfl, by kernel_rfl, by decide⟩, trivial⟩
    intro wz hbz hcz
    rw [splice_whole zQ (zQe z) rfl] at hbz
    have HEZ : Hid (Below w.heap.size w wz) := E4.out.trans (hcz.below E4.out.size (fun k hk he => by omega))
    have HBZ := Lib.hid hbz
    clear hbz hcz
    go_wp2_with fail
    (try simp only [Exit.inBlock, Exit.then])
    refine bodyPost_ret (res_cell rfl _ _ w.heap.size 4 (zQe z) rfl HBZ.out (by kernel_rfl) (by kernel_rfl) rfl) rfl ?_
    rw [HF.out]
    exact rno_post HEZ.out _
  subst hez
  go_wp2_with (refine wpList_ld rfl 37 _ rfl g6 0 32 vx vx rfl L4.out rfl (by kernel_rfl) (by rw [HVL.out]; decide) (by rw [List.drop_zero, List.take_of_length_le (by rw [HVL.out]; exact Nat.le_refl _)]) ?_)
  rw [← HVX.out]
  refine (refDecode_calls x w4 HXL.out).mono ?_
  rintro en w5 ⟨rfl, hb⟩
  have K5 := Lib.hid (K4.out.below hb)
  have E5 : Hid (Below w.heap.size w w5) := E4.out.trans (hb.mono E4.out.size)
  have S5 : Hid (w.heap.size < w5.heap.size) := K5.out.lt
  clear hb
  obtain ⟨er, her⟩ : ∃ er, (decR x).2 = er := ⟨_, rfl⟩
  have HER := Lib.hid her
  obtain ⟨xd, hxd⟩ : ∃ xd, (decR x).1 = xd := ⟨_, rfl⟩
  have HXD := Lib.hid hxd
  have HDL : Hid (xd.length = 30) := by
    show _ = _
    rw [← hxd]
    by_cases h : (decR x).2 = 0
    · rw [(decR_ok h).1, List.length_cons, bodyOf_length HXL.out]
    · rw [(decR_err h).1, List.length_replicate]
  rw [her, hxd]
  clear her hxd
  obtain ⟨vr, hvr⟩ : ∃ vr, bts xd ++ [Value.int .i64 er] = vr := ⟨_, rfl⟩
  have HVR := Lib.hid hvr
  have HRL : Hid (vr.length = 31) := by show _ = _; rw [← hvr, List.length_append, bts_length, HDL.out]; rfl
  have HRO : Hid (∀ u ∈ vr, u.oneCell' = true) := by rw [← hvr]; exact one_got _ _
  have HV9 : Hid (vr[9]? = some (vu8 (xd.getD 9 0))) := by show _ = _; rw [← hvr, List.getElem?_append_left (by rw [bts_length, HDL.out]; decide)]; exact bts_get (by rw [HDL.out]; decide)
  have HV0 : Hid (vr[0]? = some (vu8 (xd.getD 0 0))) := by show _ = _; rw [← hvr, List.getElem?_append_left (by rw [bts_length, HDL.out]; decide)]; exact bts_get (by rw [HDL.out]; decide)
  have HVE : Hid (vr[30]? = some (.int .i64 er)) := by show _ = _; rw [← hvr, List.getElem?_append_right (by rw [bts_length, HDL.out]; decide), bts_length, HDL.out]; rfl
  rw [hvr]
  clear hvr
  go_wp2_with (refine wpList_al rfl 96 rfl (zb 30 ++ [.int .i64 0]) (by kernel_rfl) ?_)
  intro g8 w6 hg hb hc hs
  have HG8 : Hid (w.heap.size < g8) := by show _ < _; have := S5.out; omega
  have M6 := Lib.hid hb
  have K6 := Lib.hid (K5.out.chg hc id)
  have E6 : Hid (Below w.heap.size w w6) := E5.out.trans (hc.below E5.out.size (fun _ _ => id))
  clear hg hb hc hs
  go_wp2_with (refine wpList_st rfl 96 (.tmp 7) (.tmp 31) rfl g8 0 31 (zb 30 ++ [.int .i64 0]) vr rfl rfl M6.out (by kernel_rfl) HRL.out (by decide) HRO.out ?_)
  intro w7 hb hc
  rw [splice_whole _ _ (by rw [HRL.out]; rfl)] at hb
  have M7 := Lib.hid hb
  have K7 : Hid (Bk w7 w.heap.size zQ) := K6.out.chg hc (by have := HG8.out; omega)
  have E7 : Hid (Below w.heap.size w w7) := E6.out.trans (hc.below E6.out.size (fun k hk he => by have := HG8.out; omega))
  have S7 : Hid (g8 < w7.heap.size) := hb.lt
  clear hb hc K6 M6 E6 K5 E5 K4 L4 E4 K3 L3 E3 K2 E2 K1
  have NOF : ¬ formB x = true → Hid (s.walGet (f : Int) = (Rec.no, 11)) := fun h => walGet_c HMAY.out HZ.out HX.out h
  have c9 : w7.cell? ⟨g8, 9, none⟩ = some (.int .u8 (((xd.getD 9 0).toNat : Nat) : Int)) := M7.out.cell HV9.out
  have c0 : w7.cell? ⟨g8, 0, none⟩ = some (.int .u8 (((xd.getD 0 0).toNat : Nat) : Int)) := M7.out.cell HV0.out
  have c30 := M7.out.cell HVE.out
  have hx9 : (xd.getD 9 0).toNat < 256 := (xd.getD 9 0).toNat_lt
  obtain ⟨n, hn⟩ : ∃ n, (xd.getD 9 0).toNat = n := ⟨_, rfl⟩
  have HN9 := Lib.hid hn
  rw [hn] at c9 hx9
  clear hn
  by_cases hdec : er = 0
  case neg =>
    have HF := NOF (fun h => hdec (by rw [← HER.out]; exact (formB_iff.1 h).1))
    go_wp2_with (first
      | (refine wpList_bld rfl 53 [(3, .const (.int .i64 11))] rfl zQ [(3, [.int .i64 11])] (zQe 11) (by kernel_rfl) (by kernel_rfl) ?f1 rfl ?_)
      | (refine wpList_st rfl 53 (.tmp 4) (.tmp 50) rfl w.heap.size 0 4 zQ (zQe 11) rfl rfl K7.out (by kernel_rfl) rfl (by decide) (one_zQe _) ?_))
    case f1 => exact ⟨rfl, ⟨1, rfl, by kernel_rfl, by decide⟩, trivial⟩
    intro wz hbz hcz
    rw [splice_whole zQ (zQe 11) rfl] at hbz
    have HEZ : Hid (Below w.heap.size w wz) := E7.out.trans (hcz.below E7.out.size (fun k hk he => by omega))
    have HBZ := Lib.hid hbz
    clear hbz hcz
    go_wp2_with fail
    (try simp only [Exit.inBlock, Exit.then])
    refine bodyPost_ret (res_cell rfl _ _ w.heap.size 4 (zQe 11) rfl HBZ.out (by kernel_rfl) (by kernel_rfl) rfl) rfl ?_
    rw [HF.out]
    exact rno_post HEZ.out _
  subst hdec
  have hok := decR_ok HER.out
  have HBL := Lib.hid (bodyOf_length HXL.out)
  have HXE : Hid (xd = x.getD 0 0 :: bodyOf x) := by show _ = _; rw [← HXD.out, hok.1]
  have HN : Hid (nOf x = n) := by show _ = _; rw [← HN9.out, HXE.out]; rfl
  have HVB : Hid (vr = vu8 (x.getD 0 0) :: bts (bodyOf x) ++ [.int .i64 0]) := by
    show _ = _
    rw [← HVR.out, HXE.out]
    rfl
  rw [show xd.getD 0 0 = x.getD 0 0 by rw [HXE.out]; rfl] at c0
  clear hok
  by_cases hm : x.getD 0 0 = 0x57
  case neg =>
    have HF := NOF (fun h => hm (formB_iff.1 h).2.1)
    have hm1 : ¬ (((x.getD 0 0).toNat : Nat) : Int) = 87 := fun h => hm (UInt8.toNat_inj.1 (by show (x.getD 0 0).toNat = 87; omega))
    go_wp2_with (first
      | (refine wpList_bld rfl 53 [(3, .const (.int .i64 11))] rfl zQ [(3, [.int .i64 11])] (zQe 11) (by kernel_rfl) (by kernel_rfl) ?f1 rfl ?_)
      | (refine wpList_st rfl 53 (.tmp 4) (.tmp 50) rfl w.heap.size 0 4 zQ (zQe 11) rfl rfl K7.out (by kernel_rfl) rfl (by decide) (one_zQe _) ?_))
    case f1 => exact ⟨rfl, ⟨1, rfl, by kernel_rfl, by decide⟩, trivial⟩
    intro wz hbz hcz
    rw [splice_whole zQ (zQe 11) rfl] at hbz
    have HEZ : Hid (Below w.heap.size w wz) := E7.out.trans (hcz.below E7.out.size (fun k hk he => by omega))
    have HBZ := Lib.hid hbz
    clear hbz hcz
    go_wp2_with fail
    (try simp only [Exit.inBlock, Exit.then])
    refine bodyPost_ret (res_cell rfl _ _ w.heap.size 4 (zQe 11) rfl HBZ.out (by kernel_rfl) (by kernel_rfl) rfl) rfl ?_
    rw [HF.out]
    exact rno_post HEZ.out _
  have HM := Lib.hid hm
  rw [hm] at c0
  have c0' : w7.cell? ⟨g8, 0, none⟩ = some (.int .u8 87) := c0
  clear c0 hm
  by_cases hn5 : n ≤ 5
  case neg =>
    have HF := NOF (fun h => hn5 (by rw [← HN.out]; exact (formB_iff.1 h).2.2.1))
    have hn6 : (5 : Int) < (n : Int) := by omega
    go_wp2_with (first
      | (refine wpList_bld rfl 53 [(3, .const (.int .i64 11))] rfl zQ [(3, [.int .i64 11])] (zQe 11) (by kernel_rfl) (by kernel_rfl) ?f1 rfl ?_)
      | (refine wpList_st rfl 53 (.tmp 4) (.tmp 50) rfl w.heap.size 0 4 zQ (zQe 11) rfl rfl K7.out (by kernel_rfl) rfl (by decide) (one_zQe _) ?_))
    case f1 => exact ⟨rfl, ⟨1, rfl, by kernel_rfl, by decide⟩, trivial⟩
    intro wz hbz hcz
    rw [splice_whole zQ (zQe 11) rfl] at hbz
    have HEZ : Hid (Below w.heap.size w wz) := E7.out.trans (hcz.below E7.out.size (fun k hk he => by omega))
    have HBZ := Lib.hid hbz
    clear hbz hcz
    go_wp2_with fail
    (try simp only [Exit.inBlock, Exit.then])
    refine bodyPost_ret (res_cell rfl _ _ w.heap.size 4 (zQe 11) rfl HBZ.out (by kernel_rfl) (by kernel_rfl) rfl) rfl ?_
    rw [HF.out]
    exact rno_post HEZ.out _
  have hn6 : ¬ (5 : Int) < (n : Int) := by omega
  have HN5 := Lib.hid hn5
  have L4a : Hid (((bodyOf x).take 4).length = 4) := by show _ = _; rw [List.length_take, HBL.out]; rfl
  have L4b : Hid ((((bodyOf x).drop 4).take 4).length = 4) := by show _ = _; rw [List.length_take, List.length_drop, HBL.out]; rfl
  have HRT : Hid (∀ i j, i + j ≤ 29 → (vr.drop (1 + i)).take j = bts (((bodyOf x).drop i).take j)) := fun i j hij => by
    rw [HVB.out, Nat.add_comm 1, List.cons_append, List.drop_succ_cons, List.drop_append_of_le_length (by rw [bts_length, HBL.out]; omega), List.take_append_of_le_length (by rw [List.length_drop, bts_length, HBL.out]; omega), bts_drop, bts_take]
  have R4a : Hid (∀ w', Bk w' g8 vr → Rd w' (some ⟨g8, 1, none⟩) (bts ((bodyOf x).take 4))) := fun w' h => by
    have := h.rd_at 1 4
    rwa [HRT.out 0 4 (by decide), List.drop_zero] at this
  have R4b : Hid (∀ w', Bk w' g8 vr → Rd w' (some ⟨g8, 5, none⟩) (bts (((bodyOf x).drop 4).take 4))) := fun w' h => by
    have := h.rd_at 5 4
    rwa [HRT.out 4 4 (by decide)] at this
  go_wp2_with fail
  clear c0' c9 c30 hn6
  apply wp_region_rel 8 (Chg NoS) [(Veq _), (Veq _), (Veq _), (Veq _), (Veq _), (Veq _), (Veq _), (PtrAt NoS w7.heap.size zQ)] [[], [0], [1], [], [3], [4], [2, 5], []] [51, 52, 53, 54, 55, 56, 57, 10] (by kernel_rfl) (by kernel_rfl) rfl rfl rfl Chg.refl (fun _ _ _ => Chg.trans) ⟨Veq.lasts, Veq.lasts, Veq.lasts, Veq.lasts, Veq.lasts, Veq.lasts, Veq.lasts, PtrAt.lasts, trivial⟩ ?aops ?afin
  case aops =>
    refine ⟨?ao0, ?ao1, ?ao2, ?ao3, ?ao4, ?ao5, ?ao6, ?ao7, trivial⟩
    case ao0 =>
      intro a wx hE hin
      have i8 : a.eval (.tmp 8) = .slice (some ⟨g8, 1, none⟩) 29 29 := hin 8 rfl
      clear hin
      have hcst : ∀ v, a.eval (.const v) = v := fun _ => rfl
      have hfnc : ∀ f, a.eval (.func f) = .func (.func f) #[] #[] := fun _ => rfl
      refine want_none rfl ?_
      unfold Oper.wp
      generalize a.eval = ρ at *
      go_simp
      try go_bits
      first | exact rel_val (Chg.refl _) | (go_simp; exact rel_val (Chg.refl _))
    case ao1 =>
      rintro a wx hE hin (h0 : a.eval (.tmp 51) = _)
      clear hin
      have hcst : ∀ v, a.eval (.const v) = v := fun _ => rfl
      have hfnc : ∀ f, a.eval (.func f) = .func (.func f) #[] #[] := fun _ => rfl
      refine want_none rfl ?_
      unfold Oper.wp
      generalize a.eval = ρ at *
      go_simp
      try go_bits
      first | exact rel_val (Chg.refl _) | (go_simp; exact rel_val (Chg.refl _))
    case ao2 =>
      rintro a wx hE hin (h1 : a.eval (.tmp 52) = _)
      clear hin
      have hcst : ∀ v, a.eval (.const v) = v := fun _ => rfl
      have hfnc : ∀ f, a.eval (.func f) = .func (.func f) #[] #[] := fun _ => rfl
      refine want_none rfl ?_
      unfold Oper.wp
      generalize a.eval = ρ at *
      go_simp
      refine (refNum_calls ((bodyOf x).take 4) (some ⟨g8, 1, none⟩) 4 29 wx L4a.out (by decide) (R4a.out wx (M7.out.drew.chg hE id))).mono ?_
      rintro e w' ⟨rfl, rfl⟩
      exact rel_val (Chg.refl _)
    case ao3 =>
      intro a wx hE hin
      have i8 : a.eval (.tmp 8) = .slice (some ⟨g8, 1, none⟩) 29 29 := hin 8 rfl
      clear hin
      have hcst : ∀ v, a.eval (.const v) = v := fun _ => rfl
      have hfnc : ∀ f, a.eval (.func f) = .func (.func f) #[] #[] := fun _ => rfl
      refine want_none rfl ?_
      unfold Oper.wp
      generalize a.eval = ρ at *
      go_simp
      try go_bits
      first | exact rel_val (Chg.refl _) | (go_simp; exact rel_val (Chg.refl _))
    case ao4 =>
      rintro a wx hE hin (h3 : a.eval (.tmp 54) = _)
      clear hin
      have hcst : ∀ v, a.eval (.const v) = v := fun _ => rfl
      have hfnc : ∀ f, a.eval (.func f) = .func (.func f) #[] #[] := fun _ => rfl
      refine want_none rfl ?_
      unfold Oper.wp
      generalize a.eval = ρ at *
      go_simp
      try go_bits
      first | exact rel_val (Chg.refl _) | (go_simp; exact rel_val (Chg.refl _))
    case ao5 =>
      rintro a wx hE hin (h4 : a.eval (.tmp 55) = _)
      clear hin
      have hcst : ∀ v, a.eval (.const v) = v := fun _ => rfl
      have hfnc : ∀ f, a.eval (.func f) = .func (.func f) #[] #[] := fun _ => rfl
      refine want_none rfl ?_
      unfold Oper.wp
      generalize a.eval = ρ at *
      go_simp
      refine (refNum_calls (((bodyOf x).drop 4).take 4) (some ⟨g8, 5, none⟩) 4 25 wx L4b.out (by decide) (R4b.out wx (M7.out.drew.chg hE id))).mono ?_
      rintro e w' ⟨rfl, rfl⟩
      exact rel_val (Chg.refl _)
    case ao6 =>
      rintro a wx hE hin (h2 : a.eval (.tmp 53) = _) (h5 : a.eval (.tmp 56) = _)
      clear hin
      have hcst : ∀ v, a.eval (.const v) = v := fun _ => rfl
      have hfnc : ∀ f, a.eval (.func f) = .func (.func f) #[] #[] := fun _ => rfl
      refine want_none rfl ?_
      exact wp_bld 53 [(0, .tmp 53), (1, .tmp 56)] rfl zQ [(0, [.int .u32 (num ((bodyOf x).take 4) : Nat)]), (1, [.int .u32 (num (((bodyOf x).drop 4).take 4) : Nat)])] [.int .u32 (num ((bodyOf x).take 4) : Nat), .int .u32 (num (((bodyOf x).drop 4).take 4) : Nat), .slice none 0 0, .int .i64 0] (by kernel_rfl) (by kernel_rfl) ⟨by rw [h2]; rfl, ⟨1, rfl, by kernel_rfl, by decide⟩, by rw [h5]; rfl, ⟨1, rfl, by kernel_rfl, by decide⟩, trivial⟩ rfl (rel_val (Chg.refl _))
    case ao7 =>
      intro a wx hE hin
      clear hin
      have hcst : ∀ v, a.eval (.const v) = v := fun _ => rfl
      have hfnc : ∀ f, a.eval (.func f) = .func (.func f) #[] #[] := fun _ => rfl
      refine want_none rfl ?_
      exact wp_al 53 rfl zQ (by kernel_rfl) ⟨_, rfl, ⟨wx.heap.size, rfl, hE.size, id, Bk.new _ _ _⟩, (Chg.refl _).alloc _⟩
  case afin =>
    intro wx hE
    rintro _ rfl _ rfl _ rfl _ rfl _ rfl _ rfl _ rfl _ ⟨gq, rfl, p9, n9, b9⟩
    simp only [FinOk, List.take_succ_cons, List.take_zero, List.take_nil, List.drop_succ_cons, List.drop_zero, List.drop_nil, Act.put, List.setIfInBounds_toArray, List.set_cons_succ, List.set_cons_zero]
    have N8 : Hid (Bk wx gq zQ) := b9
    have HG9 : Hid (w7.heap.size ≤ gq) := p9
    have E8 : Hid (Below w7.heap.size w7 wx) := hE.undrew.below (Nat.le_refl _) (fun _ _ => id)
    clear hE b9 p9 n9
    rw [vu32_num L4a.out, vu32_num L4b.out]
    go_wp2_with (refine wpList_st rfl 53 (.tmp 10) (.tmp 57) rfl gq 0 4 zQ [vu32 (eOf x), vu32 (qOf x), .slice none 0 0, .int .i64 0] rfl rfl N8.out (by kernel_rfl) rfl (by decide) (one_rec4 _ _ _ _ _ _) ?_)
    intro w9 hb hc
    rw [splice_whole zQ [vu32 (eOf x), vu32 (qOf x), .slice none 0 0, .int .i64 0] rfl] at hb
    have N9 := Lib.hid hb
    have E9 : Hid (Below w7.heap.size w7 w9) := E8.out.trans (hc.below E8.out.size (fun k hk he => by have := HG9.out; omega))
    clear hb hc N8 E8
    obtain ⟨D, hD⟩ : ∃ D : Nat → List UInt8, (fun i : Nat => s.readB ((f : Int) + 1 + (i : Nat))) = D := ⟨_, rfl⟩
    have HDE : Hid (∀ i : Nat, s.readB ((f : Int) + 1 + (i : Nat)) = D i) := fun i => by rw [← hD]
    have HDD := Lib.hid hD
    have HDL2 : Hid (∀ i, (D i).length = 32) := fun i => by rw [← HDE.out i]; exact HD32.out _
    clear hD
    have H0 : Hid (RGetRel w7 gq x D n (.int .i64 0) w9) := ⟨0, .slice none 0 0, Nat.zero_le _, rfl, N9.out, ⟨rfl, .inl ⟨rfl, rfl⟩⟩, E9.out, N9.out.lt⟩
    go_wp2_with fail
    go_loopw [11] (fun v11 wr => RGetRel w7 gq x D n v11 wr) (fun v11 _ => n - (intOf v11).toNat)
    case atStart => exact H0.out
    case round =>
      obtain ⟨k, u, hk, rfl, hn9, ho, he7, hsz⟩ := hrel
      have NR := Lib.hid hn9
      have OR := Lib.hid ho
      have ER := Lib.hid he7
      have SR := Lib.hid hsz
      have MR := Lib.hid (M7.out.below he7)
      have EA : Hid (Below w.heap.size w wr) := E7.out.trans (he7.mono E7.out.size)
      clear hn9 ho he7 hsz H0
      by_cases hlt : k < n
      · have hki : (k : Int) < (n : Int) := by omega
        have HRE : Hid (s.readE ((f : Int) + 1 + (k : Int)) = 0) := readE_next HMAY.out HZ.out (by have := HN5.out; omega)
        have hsr := HS.out
        have h1024 := HSL.out
        have hn5' := HN5.out
        go_wp2_with fail
        refine (refRead_at wr g gs lv s ((f : Int) + 1 + (k : Int)) (DiskAt.below HW.out EA.out)).mono ?_
        rintro en w10 ⟨rfl, hb⟩
        rw [HRE.out, HDE.out k]
        have NT := Lib.hid (NR.out.below hb)
        have MT := Lib.hid (MR.out.below hb)
        have OT : Hid (w10.ownsRow (gq + 1) 39 33 u k ((putsK x D k).flatMap putC)) := own_chg OR.out (Chg.of_below (S := NoS) hb) (fun _ _ => id)
        have ET : Hid (Below w7.heap.size w7 w10) := ER.out.trans (hb.mono ER.out.size)
        have ST : Hid (gq + 1 ≤ w10.heap.size) := Nat.le_trans SR.out hb.size
        clear hb
        obtain ⟨vd, hvd⟩ : ∃ vd, bts (D k) = vd := ⟨_, rfl⟩
        have HVD := Lib.hid hvd
        have HVDL : Hid (vd.length = 32) := by show _ = _; rw [← hvd, bts_length, HDL2.out]
        have HVDO : Hid (∀ u ∈ vd, u.oneCell' = true) := by rw [← hvd]; exact one_bts _
        rw [hvd]
        clear hvd
        go_wp2_with (refine wpList_al rfl 37 rfl (bts (List.replicate 32 0)) (by kernel_rfl) ?_)
        intro gb w11 hg hb hc hs11
        have HGB : Hid (gb = w10.heap.size) := hg
        have PB := Lib.hid hb
        have NV := Lib.hid (NT.out.chg hc id)
        have MV := Lib.hid (MT.out.chg hc id)
        have OV := Lib.hid (own_chg OT.out hc (fun _ _ => id))
        have EV : Hid (Below w7.heap.size w7 w11) := ET.out.trans (hc.below ET.out.size (fun _ _ => id))
        have SV : Hid (gq + 1 ≤ w11.heap.size) := Nat.le_trans ST.out hc.size
        clear hg hb hc hs11
        go_wp2_with (refine wpList_st rfl 37 (.tmp 12) (.tmp 70) rfl gb 0 32 (bts (List.replicate 32 0)) vd rfl rfl PB.out (by kernel_rfl) HVDL.out (by decide) HVDO.out ?_)
        intro w12 hb hc
        rw [splice_whole _ _ (by rw [HVDL.out]; rfl)] at hb
        have PC := Lib.hid hb
        have HGU : Hid (∀ j, u.ownBlock = some j → gq + 1 ≤ j ∧ j < gb) := fun j hj => ⟨(OT.out.lt _ hj).1, by have := (OT.out.lt _ hj).2; have := HGB.out; omega⟩
        have NU : Hid (Bk w12 gq [vu32 (eOf x), vu32 (qOf x), u, .int .i64 0]) := NV.out.chg hc (by have := NT.out.lt; have := HGB.out; omega)
        have MU : Hid (Bk w12 g8 vr) := MV.out.chg hc (by have := MT.out.lt; have := HGB.out; omega)
        have OU : Hid (w12.ownsRow (gq + 1) 39 33 u k ((putsK x D k).flatMap putC)) := own_chg OV.out hc (fun j hj he => by have := HGU.out j hj; omega)
        have EU : Hid (Below w7.heap.size w7 w12) := EV.out.trans (hc.below EV.out.size (fun j hj he => by have := HGB.out; have := ET.out.size; omega))
        have SU : Hid (gq + 1 ≤ w12.heap.size) := Nat.le_trans SV.out hc.size
        clear hb hc PB NV MV OV EV SV NT MT OT ET ST NR OR MR ER SR
        go_wp2_with fail
        have N9u : ¬ LvP u gq := fun h => by have := (HGU.out _ h).1; omega
        have N8u : ¬ LvP u g8 := fun h => by have := (HGU.out _ h).1; have := HG9.out; have := S7.out; omega
        have NBu : ¬ LvP u gb := fun h => by have := (HGU.out _ h).2; omega
        have HNX : Hid (∀ q, w12.heap.size ≤ q → ¬ LvP u q) := fun q hq h => by have := (OU.out.lt _ h).2; omega
        obtain ⟨y, hy⟩ : ∃ y, ((bodyOf x).getD (9 + k) 0).toNat = y := ⟨_, rfl⟩
        have hy256 : y < 256 := by rw [← hy]; exact ((bodyOf x).getD (9 + k) 0).toNat_lt
        have HAT : Hid (atOf x k = (y : Int)) := by show _ = _; rw [atOf, hy]
        have HCK : Hid (vr[1 + (9 + k)]? = some (.int .u8 (y : Int))) := by
          show _ = _
          rw [← hy, HVB.out, Nat.add_comm 1, List.cons_append, List.getElem?_cons_succ, List.getElem?_append_left (by rw [bts_length, HBL.out]; omega)]
          exact bts_get (by rw [HBL.out]; omega)
        have hk9 : (9 : Int) + (k : Int) < 29 := by omega
        have hk0 : (0 : Int) ≤ 9 + (k : Int) := by omega
        clear hy
        apply wp_region_relt 12 11 87 (OwnP (gq + 1) (k + 1) (putsK x D (k + 1)) gq u) (Chg (LvP u)) (Chg NoS) (Chg (LvP u)) [(Veq _), (Veq _), (Veq _), (Veq _), (Veq _), (Veq _), (Veq _), (Veq _), (Veq _), (Veq _), (RowAt (LvP u) 1 (putC ⟨atOf x k, D k⟩)), (fun _ _ => True)] [[], [0], [], [], [3], [2, 4], [5], [6], [], [7, 8], [9], [1, 10]] [76, 77, 78, 79, 80, 81, 82, 83, 84, 85, 86, 87] (by kernel_rfl) (by kernel_rfl) rfl rfl rfl (by kernel_rfl) Chg.refl (fun _ _ _ => Chg.trans) (fun _ _ _ => Chg.trans) (fun _ _ h => h.mono (fun _ hk => hk.elim)) (fun _ _ h => h) ⟨Veq.lasts, Veq.lasts, Veq.lasts, Veq.lasts, Veq.lasts, Veq.lasts, Veq.lasts, Veq.lasts, Veq.lasts, Veq.lasts, (fun w w' v h => RowAt.lasts w w' v (h.mono (fun _ hk => hk.elim))), (fun _ _ _ _ _ => trivial), trivial⟩ ⟨Veq.lasts, Veq.lasts, Veq.lasts, Veq.lasts, Veq.lasts, Veq.lasts, Veq.lasts, Veq.lasts, Veq.lasts, Veq.lasts, RowAt.lasts, (fun _ _ _ _ _ => trivial), trivial⟩ OwnP.lasts (fun F h w v => by cases h; trivial) ?bops ?bfin
        case bops =>
          refine ⟨?bo0, ?bo1, ?bo2, ?bo3, ?bo4, ?bo5, ?bo6, ?bo7, ?bo8, ?bo9, ?bo10, ?bo11, trivial⟩
          case bo0 =>
            rw [if_neg (by decide)]
            intro a wx hE hin
            have i10 : a.eval (.tmp 10) = .pointer (some ⟨gq, 0, none⟩) := hin 10 rfl
            clear hin
            have hcst : ∀ v, a.eval (.const v) = v := fun _ => rfl
            have hfnc : ∀ f, a.eval (.func f) = .func (.func f) #[] #[] := fun _ => rfl
            refine want_none rfl ?_
            unfold Oper.wp
            generalize a.eval = ρ at *
            go_simp
            try go_bits
            first | exact rel_val (Chg.refl _) | (go_simp; exact rel_val (Chg.refl _))
          case bo1 =>
            rw [if_neg (by decide)]
            rintro a wx hE hin (h0 : a.eval (.tmp 76) = _)
            clear hin
            have hcst : ∀ v, a.eval (.const v) = v := fun _ => rfl
            have hfnc : ∀ f, a.eval (.func f) = .func (.func f) #[] #[] := fun _ => rfl
            refine want_none rfl ?_
            unfold Oper.wp
            generalize a.eval = ρ at *
            have c := Bk.cell (j := 2) (NU.out.drew.chg hE N9u) rfl
            go_simp
            try go_bits
            first | exact rel_val (Chg.refl _) | (go_simp; exact rel_val (Chg.refl _))
          case bo2 =>
            rw [if_neg (by decide)]
            intro a wx hE hin
            have i8 : a.eval (.tmp 8) = .slice (some ⟨g8, 1, none⟩) 29 29 := hin 8 rfl
            clear hin
            have hcst : ∀ v, a.eval (.const v) = v := fun _ => rfl
            have hfnc : ∀ f, a.eval (.func f) = .func (.func f) #[] #[] := fun _ => rfl
            refine want_none rfl ?_
            unfold Oper.wp
            generalize a.eval = ρ at *
            go_simp
            try go_bits
            first | exact rel_val (Chg.refl _) | (go_simp; exact rel_val (Chg.refl _))
          case bo3 =>
            rw [if_neg (by decide)]
            intro a wx hE hin
            have i11 : a.eval (.tmp 11) = .int .i64 k := hin 11 rfl
            clear hin
            have hcst : ∀ v, a.eval (.const v) = v := fun _ => rfl
            have hfnc : ∀ f, a.eval (.func f) = .func (.func f) #[] #[] := fun _ => rfl
            refine want_none rfl ?_
            unfold Oper.wp
            generalize a.eval = ρ at *
            go_simp
            try go_bits
            first | exact rel_val (Chg.refl _) | (go_simp; exact rel_val (Chg.refl _))
          case bo4 =>
            rw [if_neg (by decide)]
            rintro a wx hE hin (h3 : a.eval (.tmp 79) = _)
            clear hin
            have hcst : ∀ v, a.eval (.const v) = v := fun _ => rfl
            have hfnc : ∀ f, a.eval (.func f) = .func (.func f) #[] #[] := fun _ => rfl
            refine want_none rfl ?_
            unfold Oper.wp
            generalize a.eval = ρ at *
            go_simp
            try go_bits
            first | exact rel_val (Chg.refl _) | (go_simp; exact rel_val (Chg.refl _))
          case bo5 =>
            rw [if_neg (by decide)]
            rintro a wx hE hin (h2 : a.eval (.tmp 78) = _) (h4 : a.eval (.tmp 80) = _)
            clear hin
            have hcst : ∀ v, a.eval (.const v) = v := fun _ => rfl
            have hfnc : ∀ f, a.eval (.func f) = .func (.func f) #[] #[] := fun _ => rfl
            refine want_none rfl ?_
            unfold Oper.wp
            generalize a.eval = ρ at *
            go_simp
            try go_bits
            first | exact rel_val (Chg.refl _) | (go_simp; exact rel_val (Chg.refl _))
          case bo6 =>
            rw [if_neg (by decide)]
            rintro a wx hE hin (h5 : a.eval (.tmp 81) = _)
            clear hin
            have hcst : ∀ v, a.eval (.const v) = v := fun _ => rfl
            have hfnc : ∀ f, a.eval (.func f) = .func (.func f) #[] #[] := fun _ => rfl
            refine want_none rfl ?_
            unfold Oper.wp
            generalize a.eval = ρ at *
            have c := Bk.cell (MU.out.drew.chg hE N8u) HCK.out
            go_simp
            try go_bits
            first | exact rel_val (Chg.refl _) | (go_simp; exact rel_val (Chg.refl _))
          case bo7 =>
            rw [if_neg (by decide)]
            rintro a wx hE hin (h6 : a.eval (.tmp 82) = _)
            clear hin
            have hcst : ∀ v, a.eval (.const v) = v := fun _ => rfl
            have hfnc : ∀ f, a.eval (.func f) = .func (.func f) #[] #[] := fun _ => rfl
            refine want_none rfl ?_
            unfold Oper.wp
            generalize a.eval = ρ at *
            go_simp
            try go_bits
            first | exact rel_val (Chg.refl _) | (go_simp; exact rel_val (Chg.refl _))
          case bo8 =>
            rw [if_neg (by decide)]
            intro a wx hE hin
            have i12 : a.eval (.tmp 12) = .pointer (some ⟨gb, 0, none⟩) := hin 12 rfl
            clear hin
            have hcst : ∀ v, a.eval (.const v) = v := fun _ => rfl
            have hfnc : ∀ f, a.eval (.func f) = .func (.func f) #[] #[] := fun _ => rfl
            refine want_none rfl ?_
            exact wp_ld 37 _ rfl gb 0 32 vd vd i12 (PC.out.drew.chg hE NBu) (by kernel_rfl) (by kernel_rfl) (by rw [HVDL.out]; decide) (by rw [List.drop_zero, List.take_of_length_le (by rw [HVDL.out]; exact Nat.le_refl _)]) (rel_val (Chg.refl _))
          case bo9 =>
            rw [if_neg (by decide)]
            rintro a wx hE hin (h7 : a.eval (.tmp 83) = _) (h8 : a.eval (.tmp 84) = _)
            clear hin
            have hcst : ∀ v, a.eval (.const v) = v := fun _ => rfl
            have hfnc : ∀ f, a.eval (.func f) = .func (.func f) #[] #[] := fun _ => rfl
            refine want_none rfl ?_
            exact wp_bld2 39 0 1 _ _ rfl 33 (.int .i64 0 :: bts (List.replicate 32 0)) [(0, 1), (1, 32)] (by kernel_rfl) (by kernel_rfl) [.int .i64 (atOf x k)] vd (by rw [h7, HAT.out]; rfl) (by rw [h8]; rfl) rfl (by rw [HVDL.out]; rfl) (by rw [HVDL.out]; rfl) (rel_val (Chg.refl _))
          case bo10 =>
            rw [if_neg (by decide)]
            rintro a wx hE hin (h9 : a.eval (.tmp 85) = _)
            clear hin
            have hcst : ∀ v, a.eval (.const v) = v := fun _ => rfl
            have hfnc : ∀ f, a.eval (.func f) = .func (.func f) #[] #[] := fun _ => rfl
            refine want_none rfl ?_
            exact wp_bs1 23 39 _ rfl zPut 33 (putC ⟨atOf x k, D k⟩) Try.underlying23 infoPut rfl (by decide) (by decide) (by rw [h9, ← HVD.out]; rfl) (putC_len (HDL2.out k)) ⟨_, rfl, ⟨wx.heap.size, rfl, HNX.out _ hE.size, _, _, heap_alloc_new wx _⟩, (Chg.refl _).alloc _⟩
          case bo11 =>
            rw [if_pos (by decide)]
            rintro a wx hE hin (h1 : a.eval (.tmp 77) = _) ⟨g9s, h9s, s9, t9, f9, c9⟩
            clear hin
            have hcst : ∀ v, a.eval (.const v) = v := fun _ => rfl
            have hfnc : ∀ f, a.eval (.func f) = .func (.func f) #[] #[] := fun _ => rfl
            refine step_append_rd _ _ 23 rfl (gq + 1) 39 zPut 33 40 Try.underlying23 infoPut3 rfl (by decide) (by decide) u k ((putsK x D k).flatMap putC) h1 (own_chg (own_drew OU.out) hE (fun _ _ => id)) (some ⟨g9s, 0, none⟩) 1 1 (putC ⟨atOf x k, D k⟩) h9s (putC_len (HDL2.out k)) (Rd.row (S := NoS) c9) (one_put _) (by have := HN5.out; omega) (Nat.le_trans SU.out hE.size) ?_
            intro v1 w1 ho1 hg1 hat1
            refine ⟨v1, rfl, ?_, ⟨hg1.os, hg1.tape, hg1.output, hg1.size, fun j hj hne => hg1.block j hj (fun he => hne he.symm)⟩⟩
            rw [if_pos rfl]
            refine ⟨?_, hat1.imp id (fun h => ⟨_, h, by have := SU.out; have : w12.heap.size ≤ wx.heap.size := hE.size; omega⟩)⟩
            rw [putsK_succ, flat_snoc]
            exact ho1
        case bfin =>
          intro wx hE
          rintro _ rfl u rfl _ rfl _ rfl _ rfl _ rfl _ rfl _ rfl _ rfl _ rfl _ ⟨g10, rfl, s10, t10, f10, c10⟩ vsp _ hsp
          simp only [FinOk, List.take_succ_cons, List.take_zero, List.take_nil, List.drop_succ_cons, List.drop_zero, List.drop_nil, Act.put, List.setIfInBounds_toArray, List.set_cons_succ, List.set_cons_zero]
          simp only [Act.put, List.setIfInBounds_toArray, List.set_cons_succ, List.set_cons_zero] at hsp
          have hsp' : OwnP (gq + 1) (k + 1) (putsK x D (k + 1)) gq u wx vsp := hsp
          clear hsp
          obtain ⟨ho3, hat3⟩ := hsp'
          obtain ⟨A2, c2, rfl, _, _, _⟩ := own_rd ho3
          have NX : Hid (Bk wx gq [vu32 (eOf x), vu32 (qOf x), u, .int .i64 0]) := NU.out.drew.chg hE N9u
          have OX := Lib.hid ho3
          have EX : Hid (Below w7.heap.size w7 wx) := EU.out.trans (hE.undrew.below EU.out.size (fun j hj he => by have := (OU.out.lt j he).1; have := HG9.out; omega))
          have SX : Hid (gq + 1 ≤ wx.heap.size) := Nat.le_trans SU.out hE.size
          clear ho3 hat3 hE c10
          go_wp2_with (refine wpList_st rfl 23 (.tmp 88) (.tmp 87) rfl gq 2 1 [vu32 (eOf x), vu32 (qOf x), u, .int .i64 0] [.slice A2 (k + 1) c2] rfl rfl NX.out (by kernel_rfl) rfl (by simp) (fun u hu => by obtain rfl := List.mem_singleton.1 hu; rfl) ?_)
          intro w4 hb4 hc4
          have hb5 : Bk w4 gq [vu32 (eOf x), vu32 (qOf x), .slice A2 (k + 1) c2, .int .i64 0] := hb4
          have OY : Hid (w4.ownsRow (gq + 1) 39 33 (.slice A2 (k + 1) c2) (k + 1) ((putsK x D (k + 1)).flatMap putC)) := own_chg OX.out hc4 (fun j hj he => by have := (OX.out.lt j hj).1; omega)
          have NY := Lib.hid hb5
          have EY : Hid (Below w7.heap.size w7 w4) := EX.out.trans (hc4.below EX.out.size (fun j hj he => by have := HG9.out; omega))
          have SY : Hid (gq + 1 ≤ w4.heap.size) := Nat.le_trans SX.out hc4.size
          clear hb4 hb5 hc4
          go_wp2_with fail
          go_roundw
          case rel => exact ⟨k + 1, .slice A2 (k + 1) c2, by omega, by go_num, NY.out, OY.out, EY.out, SY.out⟩
          case measure => simp [intOf]; omega
      · have hke : k = n := by omega
        subst hke
        have hki : ¬ ((k : Int) < (k : Int)) := by omega
        have hk5 := HN5.out
        have H1 : Hid (ZRel x k (.int .i64 ((9 : Int) + (k : Int)))) := ⟨9 + k, Nat.le_refl _, by omega, by rw [show ((9 + k : Nat) : Int) = 9 + (k : Int) by omega], fun i h1 h2 => by omega⟩
        have KR := Lib.hid (K7.out.below ER.out)
        go_wp2_with fail
        go_loopw [14] (fun v14 wr' => ZRel x k v14 ∧ wr' = wr) (fun v14 _ => 29 - (intOf v14).toNat)
        case atStart => exact ⟨H1.out, rfl⟩
        case round =>
          obtain ⟨⟨j, hj1, hj2, rfl, hz⟩, hww⟩ := hrel
          subst hww
          have HZE := Lib.hid hz
          clear hz H1
          by_cases hjl : j < 29
          · have hji : (j : Int) < 29 := by omega
            have cj : wr.cell? ⟨g8, 1 + j, none⟩ = some (.int .u8 ((((bodyOf x).getD j 0).toNat : Nat) : Int)) := MR.out.cell (by
              rw [HVB.out, Nat.add_comm 1, List.cons_append, List.getElem?_cons_succ, List.getElem?_append_left (by rw [bts_length, HBL.out]; exact hjl)]
              exact bts_get (by rw [HBL.out]; exact hjl))
            by_cases hb0 : (bodyOf x).getD j 0 = 0
            · rw [hb0] at cj
              have cj' : wr.cell? ⟨g8, 1 + j, none⟩ = some (.int .u8 0) := cj
              have HB0 := Lib.hid hb0
              clear cj hb0
              go_wp2_with fail
              go_roundw
              case rel => exact ⟨⟨j + 1, by omega, by omega, by go_num, fun i h1 h2 => by
                by_cases hij : i = j
                · rw [hij]; exact HB0.out
                · exact HZE.out i h1 (by omega)⟩, by first | trivial | rfl⟩
              case measure => simp [intOf]; omega
            · have HF := NOF (fun h => hb0 ((rest_at HXL.out (by rw [HN.out]; exact hk5)).1 (formB_iff.1 h).2.2.2.1 j (by rw [HN.out]; exact hj1) hjl))
              have hb1 : ¬ ((((bodyOf x).getD j 0).toNat : Nat) : Int) = 0 := fun h => hb0 (UInt8.toNat_inj.1 (by show ((bodyOf x).getD j 0).toNat = 0; omega))
              obtain ⟨y, hy⟩ : ∃ y, ((bodyOf x).getD j 0).toNat = y := ⟨_, rfl⟩
              rw [hy] at cj hb1
              clear hy hb0
              go_wp2_with (first
                | (refine wpList_bld rfl 53 [(3, .const (.int .i64 11))] rfl zQ [(3, [.int .i64 11])] (zQe 11) (by kernel_rfl) (by kernel_rfl) ?f1 rfl ?_)
                | (refine wpList_st rfl 53 (.tmp 4) (.tmp 100) rfl w.heap.size 0 4 zQ (zQe 11) rfl rfl KR.out (by kernel_rfl) rfl (by decide) (one_zQe _) ?_))
              case f1 => exact ⟨rfl, ⟨1, rfl, by kernel_rfl, by decide⟩, trivial⟩
              intro wz hbz hcz
              rw [splice_whole zQ (zQe 11) rfl] at hbz
              have HEZ : Hid (Below w.heap.size w wz) := EA.out.trans (hcz.below EA.out.size (fun k hk he => by omega))
              have HBZ := Lib.hid hbz
              clear hbz hcz
              go_wp2_with fail
              (try simp only [Exit.inBlock, Exit.then])
              refine bodyPost_ret (res_cell rfl _ _ w.heap.size 4 (zQe 11) rfl HBZ.out (by kernel_rfl) (by kernel_rfl) rfl) rfl ?_
              rw [HF.out]
              exact rno_post HEZ.out _
          · have hje : j = 29 := by omega
            subst hje
            have hji : ¬ ((29 : Nat) : Int) < 29 := by omega
            have HRB : Hid (restB x) := (rest_at HXL.out (by rw [HN.out]; exact hk5)).2 (fun i h1 h2 => HZE.out i (by rw [← HN.out]; exact h1) h2)
            have d2 := NR.out.cell (j := 2) rfl
            obtain ⟨A9, c9, rfl, rd9, hc9, hm9⟩ := own_rd OR.out
            have RD9 := Lib.hid rd9
            have HC9 := Lib.hid hc9
            have HM9 := Lib.hid hm9
            clear rd9 hc9 hm9 HZE
            go_wp2_with fail
            clear d2
            have HPO : Hid (PutsOk (putsK x D k)) := putsK_ok HDL2.out
            refine (refGood_calls (putsK x D k) A9 k c9 wr (putsK_length _ _ _) (by omega) RD9.out HPO.out).mono ?_
            rintro en w13 ⟨rfl, hb⟩
            have KD := Lib.hid (KR.out.below hb)
            have ND := Lib.hid (NR.out.below hb)
            have EE : Hid (Below w.heap.size w w13) := EA.out.trans (hb.mono EA.out.size)
            have OWN13 : Hid (w13.ownsRow (gq + 1) 39 33 (.slice A9 k c9) k ((putsK x D k).flatMap putC)) := own_chg OR.out (Chg.of_below (S := NoS) hb) (fun _ _ => id)
            have RE9 : Hid (Rd w13 A9 ((putsK x D k).flatMap putC)) := RD9.out.below hb
            clear hb
            have hge : goodB (putsK x D k) = goodB (putsK x zdat (nOf x)) := by
              rw [HN.out]
              exact goodB_ats (by rw [putsK_ats, putsK_ats])
            by_cases hgood : goodB (putsK x D k) = true
            case neg =>
              have HF := NOF (fun h => hgood (by rw [hge]; exact (formB_iff.1 h).2.2.2.2))
              rw [Bool.eq_false_iff.2 hgood]
              clear hge
              go_wp2_with (first
                | (refine wpList_bld rfl 53 [(3, .const (.int .i64 11))] rfl zQ [(3, [.int .i64 11])] (zQe 11) (by kernel_rfl) (by kernel_rfl) ?f1 rfl ?_)
                | (refine wpList_st rfl 53 (.tmp 4) (.tmp 105) rfl w.heap.size 0 4 zQ (zQe 11) rfl rfl KD.out (by kernel_rfl) rfl (by decide) (one_zQe _) ?_))
              case f1 => exact ⟨rfl, ⟨1, rfl, by kernel_rfl, by decide⟩, trivial⟩
              intro wz hbz hcz
              rw [splice_whole zQ (zQe 11) rfl] at hbz
              have HEZ : Hid (Below w.heap.size w wz) := EE.out.trans (hcz.below EE.out.size (fun k hk he => by omega))
              have HBZ := Lib.hid hbz
              clear hbz hcz
              go_wp2_with fail
              (try simp only [Exit.inBlock, Exit.then])
              refine bodyPost_ret (res_cell rfl _ _ w.heap.size 4 (zQe 11) rfl HBZ.out (by kernel_rfl) (by kernel_rfl) rfl) rfl ?_
              rw [HF.out]
              exact rno_post HEZ.out _
            have HF : Hid (s.walGet (f : Int) = (recOf x D, 0)) := by
              have h := walGet_d HMAY.out HZ.out HX.out (formB_iff.2 ⟨HER.out, HM.out, by rw [HN.out]; exact HN5.out, HRB.out, by rw [← hge]; exact hgood⟩)
              rwa [HDD.out] at h
            rw [hgood]
            clear hgood hge
            go_wp2_with (first
              | (refine wpList_ld rfl 53 _ rfl gq 0 4 [vu32 (eOf x), vu32 (qOf x), .slice A9 k c9, .int .i64 0] [vu32 (eOf x), vu32 (qOf x), .slice A9 k c9, .int .i64 0] rfl ND.out rfl (by kernel_rfl) (Nat.le_refl 4) rfl ?_)
              | (refine wpList_st rfl 53 (.tmp 4) (.tmp 106) rfl w.heap.size 0 4 zQ [vu32 (eOf x), vu32 (qOf x), .slice A9 k c9, .int .i64 0] rfl rfl KD.out (by kernel_rfl) rfl (by decide) (one_rec4 _ _ _ _ _ _) ?_))
            intro wz hbz hcz
            rw [splice_whole zQ [vu32 (eOf x), vu32 (qOf x), .slice A9 k c9, .int .i64 0] rfl] at hbz
            have HEZ : Hid (Below w.heap.size w wz) := EE.out.trans (hcz.below EE.out.size (fun k hk he => by omega))
            have HBZ := Lib.hid hbz
            have OZ : Hid (Rd wz A9 ((putsK x D k).flatMap putC)) := by
              have ho : w13.ownsRow (gq + 1) 39 33 (.slice A9 k c9) k ((putsK x D k).flatMap putC) := OWN13.out
              have ho2 := own_chg ho hcz (fun j hj he => by have := (ho.lt _ hj).1; have := HG9.out; have := K7.out.lt; omega)
              obtain ⟨A', c', hv', hr', _, _⟩ := own_rd ho2
              injection hv' with h1 _ _
              subst h1
              exact hr'
            clear hbz hcz
            go_wp2_with fail
            (try simp only [Exit.inBlock, Exit.then])
            refine bodyPost_ret (res_cell rfl _ _ w.heap.size 4 _ rfl HBZ.out (by kernel_rfl) (by kernel_rfl) rfl) rfl ?_
            rw [HF.out]
            refine ⟨A9, c9, ?_, ?_, ?_, HM9.out, HEZ.out⟩
            · show _ = Ending.returned (.agg #[vu32 (eOf x), vu32 (qOf x), .slice A9 (putsK x D (nOf x)).length c9, .int .i64 0])
              rw [putsK_length, HN.out]
            · show Rd wz _ ((putsK x D (nOf x)).flatMap putC)
              rw [HN.out]
              exact OZ.out
            · show (putsK x D (nOf x)).length ≤ _
              rw [putsK_length, HN.out]
              exact HC9.out

end Go.Proofs.Ytchcnkobgdbdkaa
