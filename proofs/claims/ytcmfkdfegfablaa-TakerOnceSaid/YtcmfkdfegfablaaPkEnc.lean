
import Derived.Test.YtcmfkdfegfablaaPkSmall
import Derived.Test.YtcmfkdfegfablaaG1

/- The walk of packet.Encode. -/
namespace Go.Proofs.Ytcmfkdfegfablaa
open Go.RowKit
set_option linter.unusedVariables false
set_option linter.unusedSimpArgs false

/-! ### a packet's bytes -/
def hdrP (K : Nat) (e q : UInt32) (n : Nat) : List UInt8 := [UInt8.ofNat K] ++ le e.toNat 4 ++ le q.toNat 4 ++ [UInt8.ofNat n]
def putB (p : PutV) : List UInt8 := UInt8.ofNat p.at_.toNat :: p.data
def encK (K : Nat) (e q : UInt32) (ps : List PutV) (k : Nat) : List UInt8 := hdrP K e q ps.length ++ (ps.take k).flatMap putB
def encP (K : Nat) (e q : UInt32) (ps : List PutV) : List UInt8 := encK K e q ps ps.length ++ [(crcCheck (encK K e q ps ps.length)).toUInt8, (crcCheck (encK K e q ps ps.length) >>> 8).toUInt8]
theorem hdrP_len (K : Nat) (e q : UInt32) (n : Nat) : (hdrP K e q n).length = 10 := by simp [hdrP, le_length]
theorem encK_zero (K : Nat) (e q : UInt32) (ps : List PutV) : encK K e q ps 0 = hdrP K e q ps.length := by simp [encK]
theorem encK_succ {K : Nat} {e q : UInt32} {ps : List PutV} {k : Nat} (h : k < ps.length) : encK K e q ps (k + 1) = encK K e q ps k ++ (UInt8.ofNat ps[k].at_.toNat :: ps[k].data) := by
  rw [encK, encK, List.take_succ_eq_append_getElem h, List.flatMap_append, ← List.append_assoc]
  simp [putB]
theorem encK_len {K : Nat} {e q : UInt32} {ps : List PutV} (ho : PutsOk ps) {k : Nat} : (encK K e q ps k).length = 10 + 33 * (ps.take k).length := by
  rw [encK, List.length_append, hdrP_len]
  congr 1
  have : ∀ l : List PutV, PutsOk l → (l.flatMap putB).length = 33 * l.length := by
    intro l
    induction l with
    | nil => intro _; rfl
    | cons p l ih =>
      intro h
      rw [List.flatMap_cons, List.length_append, ih (fun x hx => h x (List.mem_cons_of_mem _ hx)), List.length_cons, putB, List.length_cons, (h p List.mem_cons_self).1]
      omega
  exact this _ (fun p hp => ho p (List.mem_of_mem_take hp))
/-! ### four rows, and the row of them -/
structure R4 (w : World) (g : Nat) (A1 A2 A3 A4 : Option Addr) (k1 k2 k3 k4 : Nat) (l1 l2 l3 l4 : List UInt8) : Prop where
  hd : Rd w (some ⟨g, 0, none⟩) [.slice A1 l1.length k1, .slice A2 l2.length k2, .slice A3 l3.length k3, .slice A4 l4.length k4]
  r1 : Rd w A1 (bts l1)
  r2 : Rd w A2 (bts l2)
  r3 : Rd w A3 (bts l3)
  r4 : Rd w A4 (bts l4)
  ln : l1.length ≤ k1 ∧ l2.length ≤ k2 ∧ l3.length ≤ k3 ∧ l4.length ≤ k4 ∧ k1 ≤ 4 ∧ k2 ≤ 4 ∧ k3 ≤ 4 ∧ k4 ≤ 4
def Rows4 (l1 l2 l3 l4 : List UInt8) : Fact := fun w v => ∃ g A1 A2 A3 A4 k1 k2 k3 k4, v = .slice (some ⟨g, 0, none⟩) 4 4 ∧ R4 w g A1 A2 A3 A4 k1 k2 k3 k4 l1 l2 l3 l4
theorem Rows4.lasts {l1 l2 l3 l4 : List UInt8} : ∀ w w' v, Chg NoS w w' → Rows4 l1 l2 l3 l4 w v → Rows4 l1 l2 l3 l4 w' v :=
  fun _ _ _ h ⟨g, A1, A2, A3, A4, k1, k2, k3, k4, e, p⟩ => ⟨g, A1, A2, A3, A4, k1, k2, k3, k4, e, ⟨p.hd.chg h, p.r1.chg h, p.r2.chg h, p.r3.chg h, p.r4.chg h, p.ln⟩⟩
section
variable {w : World} {g : Nat} {A1 A2 A3 A4 : Option Addr} {k1 k2 k3 k4 : Nat} {l1 l2 l3 l4 : List UInt8}
theorem R4.rows (p : R4 w g A1 A2 A3 A4 k1 k2 k3 k4 l1 l2 l3 l4) : Rd w (some ⟨g, 0, none⟩) ([⟨A1, k1, l1⟩, ⟨A2, k2, l2⟩, ⟨A3, k3, l3⟩, ⟨A4, k4, l4⟩].map ptv) := p.hd
theorem R4.pts (p : R4 w g A1 A2 A3 A4 k1 k2 k3 k4 l1 l2 l3 l4) : Pts w [⟨A1, k1, l1⟩, ⟨A2, k2, l2⟩, ⟨A3, k3, l3⟩, ⟨A4, k4, l4⟩] := by
  obtain ⟨h1, h2, h3, h4, h5, h6, h7, h8⟩ := p.ln
  intro x hx
  simp only [List.mem_cons, List.not_mem_nil, or_false] at hx
  rcases hx with rfl | rfl | rfl | rfl
  · exact ⟨p.r1, h1, by show k1 ≤ _; omega⟩
  · exact ⟨p.r2, h2, by show k2 ≤ _; omega⟩
  · exact ⟨p.r3, h3, by show k3 ≤ _; omega⟩
  · exact ⟨p.r4, h4, by show k4 ≤ _; omega⟩
theorem R4.cat (p : R4 w g A1 A2 A3 A4 k1 k2 k3 k4 l1 l2 l3 l4) : ptl [⟨A1, k1, l1⟩, ⟨A2, k2, l2⟩, ⟨A3, k3, l3⟩, ⟨A4, k4, l4⟩] = l1 ++ l2 ++ l3 ++ l4 := by simp [ptl]
theorem R4.len (p : R4 w g A1 A2 A3 A4 k1 k2 k3 k4 l1 l2 l3 l4) : (ptl [⟨A1, k1, l1⟩, ⟨A2, k2, l2⟩, ⟨A3, k3, l3⟩, ⟨A4, k4, l4⟩]).length = l1.length + l2.length + l3.length + l4.length := by
  rw [p.cat]
  simp [Nat.add_assoc]
end
theorem rd_new4 {w : World} {a b c d : Value} {t : TypeId} {w' : World} (h : w.alloc (.cells #[a, b, c, d] t) = w') : Rd (w.alloc (.cells #[a, b, c, d] t)) (some ⟨w.heap.size, 0, none⟩) [a, b, c, d] := Rd.new w _ _
def LvE (u : Value) : Nat → Prop := fun j => u.ownBlock = some j
def OwnE (base n : Nat) (xs : List UInt8) (m : Nat) (u : Value) : Fact := fun w v => w.ownsRow base 5 1 v n (bts xs) ∧ (v.ownBlock = u.ownBlock ∨ ∃ j, v.ownBlock = some j ∧ m ≤ j)
theorem OwnE.lasts {base n m : Nat} {xs : List UInt8} {u : Value} : ∀ w w' v, Chg NoS w w' → OwnE base n xs m u w v → OwnE base n xs m u w' v := fun _ _ _ h ho => ⟨own_chg ho.1 h (fun _ _ => id), ho.2⟩
def EncRel (w w1 : World) (bx : List Value) (K : Nat) (e q : UInt32) (ps : List PutV) (v4 v31 : Value) (wr : World) : Prop := ∃ (k : Nat) (u : Value), k ≤ ps.length ∧ v31 = .int .i64 k ∧ u = v4 ∧ wr.ownsRow w1.heap.size 5 1 u (encK K e q ps k).length (bts (encK K e q ps k)) ∧ Bk wr w.heap.size bx ∧ Below w.heap.size w wr ∧ w1.heap.size ≤ wr.heap.size
/-- What Encode answers. -/
def EncPost (w : World) (k : Int) (e q : UInt32) (ps : List PutV) (en : Ending) (w' : World) : Prop :=
  if goodP k ps = true then (∃ A c, en = .returned (.tuple #[.slice A (encP k.toNat e q ps).length c, .int .i64 0]) ∧ w'.ownsRow w.heap.size 5 1 (.slice A (encP k.toNat e q ps).length c) (encP k.toNat e q ps).length (bts (encP k.toNat e q ps)) ∧ Below w.heap.size w w')
  else (en = .returned (.tuple #[.slice none 0 0, .int .i64 11]) ∧ Below w.heap.size w w')
theorem goodP_at {k : Int} {ps : List PutV} (h : goodP k ps = true) : 1 ≤ k ∧ k ≤ 4 ∧ ps.length ≤ 5 ∧ ∀ p ∈ ps, 0 ≤ p.at_ ∧ p.at_ < 256 := by
  unfold goodP at h
  split at h
  · rename_i hk
    have hg : 1 ≤ ps.length ∧ ps.length ≤ 5 ∧ (∀ p ∈ ps, 0 ≤ p.at_ ∧ p.at_ < 12) ∧ (ps.map (·.at_)).Nodup := of_decide_eq_true h
    exact ⟨by omega, by omega, hg.2.1, fun p hp => by have := hg.2.2.1 p hp; omega⟩
  · split at h
    · rename_i hk
      have h0 : ps.length = 0 := of_decide_eq_true h
      exact ⟨by omega, by omega, by omega, fun p hp => by rw [List.eq_nil_of_length_eq_zero h0] at hp; cases hp⟩
    · cases h
set_option maxRecDepth 100000 in
set_option maxHeartbeats 16000000 in
theorem packEncode_calls (k : Int) (e q : UInt32) (ps : List PutV) (A : Option Addr) (n c : Nat) (w : World) (hl : ps.length = n) (hm : n ≤ 9223372036854775807) (hr : Rd w A (ps.flatMap putC)) (ho : PutsOk ps) :
    Calls Try.prog 55 #[.agg (pktC k e q A n c).toArray] w (EncPost w k e q ps) := by
  subst hl
  have HR := Lib.hid hr
  have HO := Lib.hid ho
  clear hr ho
  obtain ⟨bx, hbx⟩ : ∃ bx, pktC k e q A ps.length c = bx := ⟨_, rfl⟩
  have HBX := Lib.hid hbx
  have D0 : Hid (bx[0]? = some (.int .i64 k)) := by rw [← hbx]; exact (rfl : _ = _)
  have D1 : Hid (bx[1]? = some (vu32 e)) := by rw [← hbx]; exact (rfl : _ = _)
  have D2 : Hid (bx[2]? = some (vu32 q)) := by rw [← hbx]; exact (rfl : _ = _)
  have D3 : Hid (bx[3]? = some (.slice A ps.length c)) := by rw [← hbx]; exact (rfl : _ = _)
  have HBL : Hid (bx.length = 4) := by show _ = _; rw [← hbx]; rfl
  rw [hbx]
  clear hbx
  go_enter Try.func55, Try.ntmps55
  go_wp2_with (refine wpList_ld rfl 67 (.tmp 1) rfl w.heap.size 0 4 bx bx rfl (Bk.new w bx _) (by kernel_rfl) (by kernel_rfl) (by rw [HBL.out]; decide) (by rw [List.drop_zero, List.take_of_length_le (by rw [HBL.out]; exact Nat.le_refl _)]) ?_)
  refine calls_at fun w0 hw0 => ?_
  have KX0 : Hid (Bk w0 w.heap.size bx) := by rw [← hw0]; exact Bk.new w bx _
  have E0 : Hid (Below w.heap.size w w0) := by rw [← hw0]; exact (Below.refl _ _).alloc (Nat.le_refl _) _
  clear hw0
  rw [← HBX.out]
  refine (packGood_calls k e q ps A ps.length c w0 rfl hm (HR.out.below E0.out) HO.out).mono ?_
  rintro en w1 ⟨rfl, hb⟩
  have KX1 := Lib.hid (KX0.out.below hb)
  have E1 : Hid (Below w.heap.size w w1) := E0.out.trans (hb.mono E0.out.size)
  have LW1 : Hid (w.heap.size < w1.heap.size) := KX1.out.lt
  rw [HBX.out]
  clear hb
  by_cases hg : goodP k ps = true
  case neg =>
    have HG : Hid (∀ {en : Ending} {w' : World}, (en = .returned (.tuple #[.slice none 0 0, .int .i64 11]) ∧ Below w.heap.size w w') → EncPost w k e q ps en w') := fun h => by rw [EncPost, if_neg hg]; exact h
    rw [Bool.eq_false_iff.2 hg]
    clear hg
    go_wp2_with fail
    (try simp only [Exit.inBlock, Exit.then])
    go_ret2
    exact HG.out ⟨rfl, E1.out⟩
  · have hgp := goodP_at hg
    obtain ⟨K, hK⟩ := Int.eq_ofNat_of_zero_le (show 0 ≤ k by omega)
    have hg2 := hg
    subst hK
    have HG : Hid (∀ {en : Ending} {w' : World}, (∃ A c, en = .returned (.tuple #[.slice A (encP K e q ps).length c, .int .i64 0]) ∧ w'.ownsRow w.heap.size 5 1 (.slice A (encP K e q ps).length c) (encP K e q ps).length (bts (encP K e q ps)) ∧ Below w.heap.size w w') → EncPost w (K : Int) e q ps en w') := fun h => by rw [EncPost, if_pos hg]; exact h
    have HAT : Hid (∀ p ∈ ps, 0 ≤ p.at_ ∧ p.at_ < 256) := hgp.2.2.2
    have h5 : ps.length ≤ 5 := hgp.2.2.1
    have hK4 : K ≤ 4 := by have := hgp.2.1; omega
    have hK256 : K < 256 := by omega
    have hn256 : ps.length < 256 := by omega
    rw [hg]
    clear hg hg2 hgp
    go_wp2_with fail
    apply wp_region_rel 17 (Chg NoS) [(Veq _), (Veq _), (Veq _), (RowAt NoS 1 _), (Veq _), (Veq _), (FourAt (le e.toNat 4)), (Veq _), (Veq _), (FourAt (le q.toNat 4)), (Veq _), (Veq _), (Veq _), (Veq _), (RowAt NoS 1 _), (Rows4 [UInt8.ofNat K] (le e.toNat 4) (le q.toNat 4) [UInt8.ofNat ps.length]), (OwnF w1.heap.size (hdrP K e q ps.length).length (hdrP K e q ps.length))] [[], [0], [1], [2], [], [4], [5], [], [7], [8], [], [10], [11], [12], [13], [3, 6, 9, 14], [15]] [11, 12, 13, 14, 15, 16, 17, 18, 19, 20, 21, 22, 23, 24, 25, 26, 27] (by kernel_rfl) (by kernel_rfl) rfl rfl rfl Chg.refl (fun _ _ _ => Chg.trans) ⟨Veq.lasts, Veq.lasts, Veq.lasts, RowAt.lasts, Veq.lasts, Veq.lasts, FourAt.lasts, Veq.lasts, Veq.lasts, FourAt.lasts, Veq.lasts, Veq.lasts, Veq.lasts, Veq.lasts, RowAt.lasts, Rows4.lasts, OwnF.lasts, trivial⟩ ?aops ?afin
    case aops =>
      refine ⟨?ao0, ?ao1, ?ao2, ?ao3, ?ao4, ?ao5, ?ao6, ?ao7, ?ao8, ?ao9, ?ao10, ?ao11, ?ao12, ?ao13, ?ao14, ?ao15, ?ao16, trivial⟩
      case ao0 =>
        intro a wx hE hin
        have i1 : a.eval (.tmp 1) = .pointer (some ⟨w.heap.size, 0, none⟩) := hin 1 rfl
        clear hin
        have hcst : ∀ v, a.eval (.const v) = v := fun _ => rfl
        have hfnc : ∀ f, a.eval (.func f) = .func (.func f) #[] #[] := fun _ => rfl
        refine want_none rfl ?_
        unfold Oper.wp
        generalize a.eval = ρ at *
        go_simp
        try go_bits
        first | exact rel_val (Chg.refl _) | (go_simp; exact rel_val (Chg.refl _))
      case ao1 =>
        rintro a wx hE hin (h0 : a.eval (.tmp 11) = _)
        clear hin
        have hcst : ∀ v, a.eval (.const v) = v := fun _ => rfl
        have hfnc : ∀ f, a.eval (.func f) = .func (.func f) #[] #[] := fun _ => rfl
        refine want_none rfl ?_
        unfold Oper.wp
        generalize a.eval = ρ at *
        have c := Bk.cell ((KX1.out.drew).chg hE id) D0.out
        go_simp
        try go_bits
        first | exact rel_val (Chg.refl _) | (go_simp; exact rel_val (Chg.refl _))
      case ao2 =>
        rintro a wx hE hin (h1 : a.eval (.tmp 12) = _)
        clear hin
        have hcst : ∀ v, a.eval (.const v) = v := fun _ => rfl
        have hfnc : ∀ f, a.eval (.func f) = .func (.func f) #[] #[] := fun _ => rfl
        refine want_none rfl ?_
        unfold Oper.wp
        generalize a.eval = ρ at *
        go_simp
        try go_bits
        first | exact rel_val (Chg.refl _) | (go_simp; exact rel_val (Chg.refl _))
      case ao3 =>
        rintro a wx hE hin (h2 : a.eval (.tmp 13) = _)
        clear hin
        have hcst : ∀ v, a.eval (.const v) = v := fun _ => rfl
        have hfnc : ∀ f, a.eval (.func f) = .func (.func f) #[] #[] := fun _ => rfl
        refine want_none rfl ?_
        unfold Oper.wp
        generalize a.eval = ρ at *
        go_simp
        try go_bits
        exact rel_row (id)
      case ao4 =>
        intro a wx hE hin
        have i1 : a.eval (.tmp 1) = .pointer (some ⟨w.heap.size, 0, none⟩) := hin 1 rfl
        clear hin
        have hcst : ∀ v, a.eval (.const v) = v := fun _ => rfl
        have hfnc : ∀ f, a.eval (.func f) = .func (.func f) #[] #[] := fun _ => rfl
        refine want_none rfl ?_
        unfold Oper.wp
        generalize a.eval = ρ at *
        go_simp
        try go_bits
        first | exact rel_val (Chg.refl _) | (go_simp; exact rel_val (Chg.refl _))
      case ao5 =>
        rintro a wx hE hin (h4 : a.eval (.tmp 15) = _)
        clear hin
        have hcst : ∀ v, a.eval (.const v) = v := fun _ => rfl
        have hfnc : ∀ f, a.eval (.func f) = .func (.func f) #[] #[] := fun _ => rfl
        refine want_none rfl ?_
        unfold Oper.wp
        generalize a.eval = ρ at *
        have c := Bk.cell ((KX1.out.drew).chg hE id) D1.out
        go_simp
        try go_bits
        first | exact rel_val (Chg.refl _) | (go_simp; exact rel_val (Chg.refl _))
      case ao6 =>
        rintro a wx hE hin (h5 : a.eval (.tmp 16) = _)
        clear hin
        have hcst : ∀ v, a.eval (.const v) = v := fun _ => rfl
        have hfnc : ∀ f, a.eval (.func f) = .func (.func f) #[] #[] := fun _ => rfl
        refine want_none rfl ?_
        unfold Oper.wp
        generalize a.eval = ρ at *
        go_simp
        refine (pkFour_calls e wx).mono ?_
        rintro e' w' ⟨g, rfl, hb, _, hbel⟩
        exact ⟨_, rfl, ⟨g, rfl, hb⟩, .of_below hbel⟩
      case ao7 =>
        intro a wx hE hin
        have i1 : a.eval (.tmp 1) = .pointer (some ⟨w.heap.size, 0, none⟩) := hin 1 rfl
        clear hin
        have hcst : ∀ v, a.eval (.const v) = v := fun _ => rfl
        have hfnc : ∀ f, a.eval (.func f) = .func (.func f) #[] #[] := fun _ => rfl
        refine want_none rfl ?_
        unfold Oper.wp
        generalize a.eval = ρ at *
        go_simp
        try go_bits
        first | exact rel_val (Chg.refl _) | (go_simp; exact rel_val (Chg.refl _))
      case ao8 =>
        rintro a wx hE hin (h7 : a.eval (.tmp 18) = _)
        clear hin
        have hcst : ∀ v, a.eval (.const v) = v := fun _ => rfl
        have hfnc : ∀ f, a.eval (.func f) = .func (.func f) #[] #[] := fun _ => rfl
        refine want_none rfl ?_
        unfold Oper.wp
        generalize a.eval = ρ at *
        have c := Bk.cell ((KX1.out.drew).chg hE id) D2.out
        go_simp
        try go_bits
        first | exact rel_val (Chg.refl _) | (go_simp; exact rel_val (Chg.refl _))
      case ao9 =>
        rintro a wx hE hin (h8 : a.eval (.tmp 19) = _)
        clear hin
        have hcst : ∀ v, a.eval (.const v) = v := fun _ => rfl
        have hfnc : ∀ f, a.eval (.func f) = .func (.func f) #[] #[] := fun _ => rfl
        refine want_none rfl ?_
        unfold Oper.wp
        generalize a.eval = ρ at *
        go_simp
        refine (pkFour_calls q wx).mono ?_
        rintro e' w' ⟨g, rfl, hb, _, hbel⟩
        exact ⟨_, rfl, ⟨g, rfl, hb⟩, .of_below hbel⟩
      case ao10 =>
        intro a wx hE hin
        have i1 : a.eval (.tmp 1) = .pointer (some ⟨w.heap.size, 0, none⟩) := hin 1 rfl
        clear hin
        have hcst : ∀ v, a.eval (.const v) = v := fun _ => rfl
        have hfnc : ∀ f, a.eval (.func f) = .func (.func f) #[] #[] := fun _ => rfl
        refine want_none rfl ?_
        unfold Oper.wp
        generalize a.eval = ρ at *
        go_simp
        try go_bits
        first | exact rel_val (Chg.refl _) | (go_simp; exact rel_val (Chg.refl _))
      case ao11 =>
        rintro a wx hE hin (h10 : a.eval (.tmp 21) = _)
        clear hin
        have hcst : ∀ v, a.eval (.const v) = v := fun _ => rfl
        have hfnc : ∀ f, a.eval (.func f) = .func (.func f) #[] #[] := fun _ => rfl
        refine want_none rfl ?_
        unfold Oper.wp
        generalize a.eval = ρ at *
        have c := Bk.cell ((KX1.out.drew).chg hE id) D3.out
        go_simp
        try go_bits
        first | exact rel_val (Chg.refl _) | (go_simp; exact rel_val (Chg.refl _))
      case ao12 =>
        rintro a wx hE hin (h11 : a.eval (.tmp 22) = _)
        clear hin
        have hcst : ∀ v, a.eval (.const v) = v := fun _ => rfl
        have hfnc : ∀ f, a.eval (.func f) = .func (.func f) #[] #[] := fun _ => rfl
        refine want_none rfl ?_
        unfold Oper.wp
        generalize a.eval = ρ at *
        go_simp
        try go_bits
        first | exact rel_val (Chg.refl _) | (go_simp; exact rel_val (Chg.refl _))
      case ao13 =>
        rintro a wx hE hin (h12 : a.eval (.tmp 23) = _)
        clear hin
        have hcst : ∀ v, a.eval (.const v) = v := fun _ => rfl
        have hfnc : ∀ f, a.eval (.func f) = .func (.func f) #[] #[] := fun _ => rfl
        refine want_none rfl ?_
        unfold Oper.wp
        generalize a.eval = ρ at *
        go_simp
        try go_bits
        first | exact rel_val (Chg.refl _) | (go_simp; exact rel_val (Chg.refl _))
      case ao14 =>
        rintro a wx hE hin (h13 : a.eval (.tmp 24) = _)
        clear hin
        have hcst : ∀ v, a.eval (.const v) = v := fun _ => rfl
        have hfnc : ∀ f, a.eval (.func f) = .func (.func f) #[] #[] := fun _ => rfl
        refine want_none rfl ?_
        unfold Oper.wp
        generalize a.eval = ρ at *
        go_simp
        try go_bits
        exact rel_row (id)
      case ao15 =>
        rintro a wx hE hin ⟨g3, h3, s3, t3, f3, c3⟩ ⟨g6, h6, b6⟩ ⟨g9, h9, b9⟩ ⟨g14, h14, s14, t14, f14, c14⟩
        clear hin
        have hcst : ∀ v, a.eval (.const v) = v := fun _ => rfl
        have hfnc : ∀ f, a.eval (.func f) = .func (.func f) #[] #[] := fun _ => rfl
        refine want_none rfl ?_
        unfold Oper.wp
        generalize a.eval = ρ at *
        go_simp
        have hk3 : Rd wx (some ⟨g3, 0, none⟩) (bts [UInt8.ofNat K]) := by have h : Rd wx (some ⟨g3, 0, none⟩) [Value.int .u8 (K : Int)] := Rd.row (S := NoS) c3; have h2 : bts [UInt8.ofNat K] = [Value.int .u8 (K : Int)] := (by show [vu8 (UInt8.ofNat K)] = _; rw [byte_at K (by omega)]); rw [h2]; exact h
        have hk14 : Rd wx (some ⟨g14, 0, none⟩) (bts [UInt8.ofNat ps.length]) := by have h : Rd wx (some ⟨g14, 0, none⟩) [Value.int .u8 (ps.length : Int)] := Rd.row (S := NoS) c14; have h2 : bts [UInt8.ofNat ps.length] = [Value.int .u8 (ps.length : Int)] := (by show [vu8 (UInt8.ofNat ps.length)] = _; rw [byte_at ps.length (by omega)]); rw [h2]; exact h
        exact ⟨_, rfl, ⟨wx.heap.size, some ⟨g3, 0, none⟩, some ⟨g6, 0, none⟩, some ⟨g9, 0, none⟩, some ⟨g14, 0, none⟩, 1, 4, 4, 1, rfl, rd_new4 rfl, (hk3.alloc _), (b6.alloc _).rd, (b9.alloc _).rd, (hk14.alloc _), ⟨Nat.le_refl _, by rw [le_length]; decide, by rw [le_length]; decide, Nat.le_refl _, by decide, by decide, by decide, by decide⟩⟩, (Chg.refl _).alloc _⟩
      case ao16 =>
        rintro a wx hE hin ⟨g15, A1, A2, A3, A4, k1, k2, k3, k4, h15, p15⟩
        clear hin
        have hcst : ∀ v, a.eval (.const v) = v := fun _ => rfl
        have hfnc : ∀ f, a.eval (.func f) = .func (.func f) #[] #[] := fun _ => rfl
        refine want_none rfl ?_
        unfold Oper.wp
        generalize a.eval = ρ at *
        go_simp
        refine (concat_calls [⟨A1, k1, [UInt8.ofNat K]⟩, ⟨A2, k2, le e.toNat 4⟩, ⟨A3, k3, le q.toNat 4⟩, ⟨A4, k4, [UInt8.ofNat ps.length]⟩] (some ⟨g15, 0, none⟩) 4 4 wx rfl (by decide) p15.rows p15.pts (by rw [p15.len, le_length, le_length]; show 1 + 4 + 4 + 1 ≤ 1000000; decide)).mono ?_
        rintro e' w' ⟨A, c, rfl, ho, hb⟩
        rw [p15.cat] at ho ⊢
        exact ⟨_, rfl, ⟨A, c, rfl, own_lower ho hE.size⟩, .of_below hb⟩
    case afin =>
      intro wx hE
      rintro _ rfl _ rfl _ rfl _ ⟨g3, rfl, s3, t3, f3, c3⟩ _ rfl _ rfl _ ⟨g6, rfl, b6⟩ _ rfl _ rfl _ ⟨g9, rfl, b9⟩ _ rfl _ rfl _ rfl _ rfl _ ⟨g14, rfl, s14, t14, f14, c14⟩ _ ⟨g15, A1, A2, A3, A4, k1, k2, k3, k4, rfl, p15⟩ _ ⟨A16, c16, rfl, o16⟩
      simp only [FinOk, List.take_succ_cons, List.take_zero, List.take_nil, List.drop_succ_cons, List.drop_zero, List.drop_nil, Act.put, List.setIfInBounds_toArray, List.set_cons_succ, List.set_cons_zero]
      have O1 := Lib.hid o16
      have E2 : Hid (Below w.heap.size w wx) := E1.out.trans (hE.undrew.below E1.out.size (fun _ _ => id))
      have KX2 : Hid (Bk wx w.heap.size bx) := KX1.out.drew.chg hE id
      have d3 := KX2.out.cell D3.out
      obtain ⟨n0, hn0⟩ : ∃ n0, (hdrP K e q ps.length).length = n0 := ⟨_, rfl⟩
      have HN0 := Lib.hid hn0
      rw [hn0] at O1 ⊢
      have H0 : Hid (EncRel w w1 bx K e q ps (.slice A16 n0 c16) (.int .i64 0) wx) := ⟨0, _, Nat.zero_le _, rfl, rfl, by rw [encK_zero, HN0.out]; exact O1.out, KX2.out, E2.out, hE.size⟩
      clear hE o16 p15 b6 b9 c3 c14 hn0
      go_wp2_with fail
      clear d3
      go_loopw [4, 31] (fun v4 v31 wr => EncRel w w1 bx K e q ps v4 v31 wr) (fun _ v31 _ => ps.length - (intOf v31).toNat)
      case atStart => exact H0.out
      case round =>
        obtain ⟨k, v4, hk, rfl, rfl, ho, hbx2, hb, hsz⟩ := hrel
        have OR := Lib.hid ho
        have KR := Lib.hid hbx2
        have ER := Lib.hid hb
        have SR := Lib.hid hsz
        clear ho hbx2 hb hsz H0
        by_cases hlt : k < ps.length
        · have hki : (k : Int) < (ps.length : Int) := by omega
          obtain ⟨ad, hA⟩ := puts_some HR.out hlt
          have HPR := Lib.hid (put_rd (by rw [← hA]; exact HR.out.below ER.out) HO.out hlt)
          have HAA := Lib.hid hA
          have HPD := Lib.hid (HO.out _ (List.getElem_mem hlt)).1
          have hpa := HAT.out _ (List.getElem_mem hlt)
          obtain ⟨p, hp⟩ : ∃ p, ps[k] = p := ⟨_, rfl⟩
          have HPE := Lib.hid hp
          rw [hp] at HPR HPD hpa
          have HPL := Lib.hid (putC_len HPD.out)
          obtain ⟨x, hx⟩ := Int.eq_ofNat_of_zero_le hpa.1
          have HQ := Lib.hid hx
          have hx256 : x < 256 := by have := hpa.2; omega
          have HBY := Lib.hid (byte_at x hx256)
          obtain ⟨vp, hvp⟩ : ∃ vp, putC p = vp := ⟨_, rfl⟩
          have HVP := Lib.hid hvp
          have HVL : Hid (vp.length = 33) := by show _ = _; rw [← hvp]; exact HPL.out
          have HVO : Hid (∀ u ∈ vp, u.oneCell' = true) := by rw [← hvp]; exact one_put p
          have HV0 : Hid (vp[0]? = some (.int .i64 (x : Int))) := by show _ = _; rw [← hvp, ← hx]; rfl
          have HVD : Hid ((vp.drop 1).take 32 = bts p.data) := by show _ = _; rw [← hvp]; show (bts p.data).take 32 = _; rw [List.take_of_length_le (by rw [bts_length, HPD.out]; exact Nat.le_refl _)]
          rw [hvp] at HPR
          rw [hA]
          clear hp hA hpa hx hvp HPL
          go_wp2_with (first
            | (refine wpList_ldr2 rfl 54 (.tmp 33) rfl (ad.add (k * 33)) 33 vp rfl HPR.out (by kernel_rfl) (by kernel_rfl) HVL.out ?_)
            | (refine wpList_al rfl 54 rfl (.int .i64 0 :: bts (List.replicate 32 0)) (by kernel_rfl) ?_))
          intro gp w5 hg hbk hc hs
          have HGP : Hid (gp = wr.heap.size) := hg
          have KZ := Lib.hid hbk
          have OR5 := Lib.hid (own_chg OR.out hc (fun _ _ => id))
          have KR5 := Lib.hid (KR.out.chg hc id)
          have ER5 : Hid (Below w.heap.size w w5) := ER.out.trans (hc.below ER.out.size (fun _ _ => id))
          clear hg hbk hc hs HPR
          go_wp2_with (refine wpList_st rfl 54 (.tmp 6) (.tmp 34) rfl gp 0 33 (.int .i64 0 :: bts (List.replicate 32 0)) vp rfl rfl KZ.out (by kernel_rfl) HVL.out (by decide) HVO.out ?_)
          intro w6 hbk hc
          rw [splice_whole _ _ (by rw [HVL.out]; rfl)] at hbk
          have KP6 := Lib.hid hbk
          have HOW : Hid (∀ j, v4.ownBlock = some j → w1.heap.size ≤ j ∧ j < gp) := fun j hj => ⟨(OR.out.lt j hj).1, by have := (OR.out.lt j hj).2; have := HGP.out; omega⟩
          have OR6 : Hid (w6.ownsRow w1.heap.size 5 1 v4 (encK K e q ps k).length (bts (encK K e q ps k))) := own_chg OR5.out hc (fun j hj he => by have := (HOW.out j hj).2; omega)
          have KR6 : Hid (Bk w6 w.heap.size bx) := KR5.out.chg hc (by have := KR.out.lt; have := HGP.out; omega)
          have ER6 : Hid (Below w.heap.size w w6) := ER5.out.trans (hc.below ER5.out.size (fun j hj he => by have := HGP.out; have := ER.out.size; omega))
          have SR6 : Hid (w1.heap.size ≤ w6.heap.size) := by show _ ≤ _; have := SR.out; have := KP6.out.lt; have := HGP.out; omega
          clear hbk hc KZ OR5 KR5 ER5 OR KR ER SR
          obtain ⟨lk, hlk⟩ : ∃ lk, encK K e q ps k = lk := ⟨_, rfl⟩
          have HLK := Lib.hid hlk
          have HLN : Hid (lk.length ≤ 10 + 33 * 50) := by show _ ≤ _; rw [← hlk, encK_len HO.out]; have := List.length_take_le k ps; omega
          rw [hlk] at OR6
          clear hlk
          obtain ⟨n1, hn1⟩ : ∃ n1, lk.length = n1 := ⟨_, rfl⟩
          have HN1 := Lib.hid hn1
          rw [hn1] at OR6 HLN
          clear hn1
          have N9x : ¬ LvE v4 w.heap.size := fun h => by have := (HOW.out _ h).1; have := LW1.out; omega
          have N9p : ¬ LvE v4 gp := fun h => by have := (HOW.out _ h).2; omega
          have HNX : Hid (∀ j, w6.heap.size ≤ j → ¬ LvE v4 j) := fun j hj h => by have := (HOW.out _ h).2; have := KP6.out.lt; omega
          go_wp2_with fail
          apply wp_region_relt 8 5 40 (OwnE w1.heap.size (n1 + 1) (lk ++ [UInt8.ofNat x]) gp v4) (Chg (LvE v4)) (Chg NoS) (Chg (LvE v4)) [(Veq _), (Veq _), (Veq _), (Veq _), (RowAt (LvE v4) 1 (bts [UInt8.ofNat x])), (fun _ _ => True), (Veq _), (Veq _)] [[], [], [1], [2], [3], [0, 4], [], [6]] [35, 36, 37, 38, 39, 40, 41, 42] (by kernel_rfl) (by kernel_rfl) rfl rfl rfl (by kernel_rfl) Chg.refl (fun _ _ _ => Chg.trans) (fun _ _ _ => Chg.trans) (fun _ _ h => h.mono (fun _ hk => hk.elim)) (fun _ _ h => h) ⟨Veq.lasts, Veq.lasts, Veq.lasts, Veq.lasts, (fun w w' v h => RowAt.lasts w w' v (h.mono (fun _ hk => hk.elim))), (fun _ _ _ _ _ => trivial), Veq.lasts, Veq.lasts, trivial⟩ ⟨Veq.lasts, Veq.lasts, Veq.lasts, Veq.lasts, RowAt.lasts, (fun _ _ _ _ _ => trivial), Veq.lasts, Veq.lasts, trivial⟩ OwnE.lasts (fun F h w v => by cases h; trivial) ?bops ?bfin
          case bops =>
            refine ⟨?bo0, ?bo1, ?bo2, ?bo3, ?bo4, ?bo5, ?bo6, ?bo7, trivial⟩
            case bo0 =>
              rw [if_neg (by decide)]
              intro a wx hE hin
              have i4 : a.eval (.tmp 4) = v4 := hin 4 rfl
              clear hin
              have hcst : ∀ v, a.eval (.const v) = v := fun _ => rfl
              have hfnc : ∀ f, a.eval (.func f) = .func (.func f) #[] #[] := fun _ => rfl
              refine want_none rfl ?_
              unfold Oper.wp
              generalize a.eval = ρ at *
              go_simp
              try go_bits
              first | exact rel_val (Chg.refl _) | (go_simp; exact rel_val (Chg.refl _))
            case bo1 =>
              rw [if_neg (by decide)]
              intro a wx hE hin
              have i6 : a.eval (.tmp 6) = .pointer (some ⟨gp, 0, none⟩) := hin 6 rfl
              clear hin
              have hcst : ∀ v, a.eval (.const v) = v := fun _ => rfl
              have hfnc : ∀ f, a.eval (.func f) = .func (.func f) #[] #[] := fun _ => rfl
              refine want_none rfl ?_
              unfold Oper.wp
              generalize a.eval = ρ at *
              go_simp
              try go_bits
              first | exact rel_val (Chg.refl _) | (go_simp; exact rel_val (Chg.refl _))
            case bo2 =>
              rw [if_neg (by decide)]
              rintro a wx hE hin (h1 : a.eval (.tmp 36) = _)
              clear hin
              have hcst : ∀ v, a.eval (.const v) = v := fun _ => rfl
              have hfnc : ∀ f, a.eval (.func f) = .func (.func f) #[] #[] := fun _ => rfl
              refine want_none rfl ?_
              unfold Oper.wp
              generalize a.eval = ρ at *
              have c := Bk.cell (KP6.out.drew.chg hE N9p) HV0.out
              go_simp
              try go_bits
              first | exact rel_val (Chg.refl _) | (go_simp; exact rel_val (Chg.refl _))
            case bo3 =>
              rw [if_neg (by decide)]
              rintro a wx hE hin (h2 : a.eval (.tmp 37) = _)
              clear hin
              have hcst : ∀ v, a.eval (.const v) = v := fun _ => rfl
              have hfnc : ∀ f, a.eval (.func f) = .func (.func f) #[] #[] := fun _ => rfl
              refine want_none rfl ?_
              unfold Oper.wp
              generalize a.eval = ρ at *
              go_simp
              try go_bits
              first | exact rel_val (Chg.refl _) | (go_simp; exact rel_val (Chg.refl _))
            case bo4 =>
              rw [if_neg (by decide)]
              rintro a wx hE hin (h3 : a.eval (.tmp 38) = _)
              clear hin
              have hcst : ∀ v, a.eval (.const v) = v := fun _ => rfl
              have hfnc : ∀ f, a.eval (.func f) = .func (.func f) #[] #[] := fun _ => rfl
              refine want_none rfl ?_
              unfold Oper.wp
              generalize a.eval = ρ at *
              go_simp
              have h2 : bts [UInt8.ofNat x] = [Value.int .u8 (x : Int)] := by show [vu8 (UInt8.ofNat x)] = _; rw [byte_at x hx256]
              rw [h2]
              exact ⟨_, rfl, ⟨_, rfl, HNX.out _ hE.size, _, _, heap_alloc_new wx _⟩, (Chg.refl _).alloc _⟩
            case bo5 =>
              rw [if_pos (by decide)]
              rintro a wx hE hin (h0 : a.eval (.tmp 35) = _) ⟨g4s, h4, s4, t4, f4, c4⟩
              clear hin
              have hcst : ∀ v, a.eval (.const v) = v := fun _ => rfl
              have hfnc : ∀ f, a.eval (.func f) = .func (.func f) #[] #[] := fun _ => rfl
              refine step_append_rd _ _ 56 rfl w1.heap.size 5 (.int .u8 0) 1 1 Try.underlying56 info_u8g rfl (by decide) (by decide) v4 n1 (bts lk) h0 (own_chg (own_drew OR6.out) hE (fun _ _ => id)) (some ⟨g4s, 0, none⟩) 1 1 (bts [UInt8.ofNat x]) h4 rfl (Rd.row (S := NoS) c4) (one_bts _) (by have := HLN.out; omega) (Nat.le_trans SR6.out hE.size) ?_
              intro v1 w7 ho1 hg1 hat1
              refine ⟨v1, rfl, ?_, ⟨hg1.os, hg1.tape, hg1.output, hg1.size, fun j hj hne => hg1.block j hj (fun he => hne he.symm)⟩⟩
              rw [if_pos rfl]
              refine ⟨?_, hat1.imp id (fun h => ⟨_, h, by have : w6.heap.size ≤ wx.heap.size := hE.size; have := KP6.out.lt; omega⟩)⟩
              rw [bts_append]
              exact ho1
            case bo6 =>
              rw [if_neg (by decide)]
              intro a wx hE hin
              have i6 : a.eval (.tmp 6) = .pointer (some ⟨gp, 0, none⟩) := hin 6 rfl
              clear hin
              have hcst : ∀ v, a.eval (.const v) = v := fun _ => rfl
              have hfnc : ∀ f, a.eval (.func f) = .func (.func f) #[] #[] := fun _ => rfl
              refine want_none rfl ?_
              unfold Oper.wp
              generalize a.eval = ρ at *
              go_simp
              try go_bits
              first | exact rel_val (Chg.refl _) | (go_simp; exact rel_val (Chg.refl _))
            case bo7 =>
              rw [if_neg (by decide)]
              rintro a wx hE hin (h6 : a.eval (.tmp 41) = _)
              clear hin
              have hcst : ∀ v, a.eval (.const v) = v := fun _ => rfl
              have hfnc : ∀ f, a.eval (.func f) = .func (.func f) #[] #[] := fun _ => rfl
              refine want_none rfl ?_
              unfold Oper.wp
              generalize a.eval = ρ at *
              go_simp
              try go_bits
              first | exact rel_val (Chg.refl _) | (go_simp; exact rel_val (Chg.refl _))
          case bfin =>
            intro wx hE
            rintro v4 rfl _ rfl _ rfl _ rfl _ ⟨g4, rfl, s4, t4, f4, c4⟩ vsp _ _ rfl _ rfl hsp
            simp only [FinOk, List.take_succ_cons, List.take_zero, List.take_nil, List.drop_succ_cons, List.drop_zero, List.drop_nil, Act.put, List.setIfInBounds_toArray, List.set_cons_succ, List.set_cons_zero]
            simp only [Act.put, List.setIfInBounds_toArray, List.set_cons_succ, List.set_cons_zero] at hsp
            have hsp' : OwnE w1.heap.size (n1 + 1) (lk ++ [UInt8.ofNat x]) gp v4 wx vsp := hsp
            clear hsp
            obtain ⟨ho3, hat3⟩ := hsp'
            have OX := Lib.hid ho3
            have KX7 : Hid (Bk wx w.heap.size bx) := KR6.out.drew.chg hE N9x
            have KP7 : Hid (Bk wx gp vp) := KP6.out.drew.chg hE N9p
            have EX : Hid (Below w.heap.size w wx) := ER6.out.trans (hE.undrew.below ER6.out.size (fun j hj he => by have := (HOW.out j he).1; have := LW1.out; omega))
            have SX : Hid (w1.heap.size ≤ wx.heap.size) := Nat.le_trans SR6.out hE.size
            have HRD : Hid (Rd wx (some ⟨gp, 1, none⟩) (bts p.data)) := by have h := KP7.out.rd_at 1 32; rwa [HVD.out] at h
            obtain ⟨A3, c3, rfl, _, _, _⟩ := own_rd OX.out
            clear ho3 hat3 hE c4
            go_wp2_with (at_builtin; refine wpList_append_rd rfl (.tmp 40) (.tmp 42) 56 rfl w1.heap.size 5 (.int .u8 0) 1 1 Try.underlying56 info_u8g rfl (by decide) (by decide) (.slice A3 (n1 + 1) c3) (n1 + 1) (bts (lk ++ [UInt8.ofNat x])) rfl OX.out (some ⟨gp, 1, none⟩) 32 32 (bts p.data) rfl (by rw [bts_length, HPD.out]) HRD.out (one_bts _) (by have := HLN.out; omega) SX.out ?_)
            intro v8 w8 hown hg hat
            have hL : encK K e q ps (k + 1) = lk ++ [UInt8.ofNat x] ++ p.data := by rw [encK_succ hlt, HLK.out, HPE.out, HQ.out]; simp
            have hLn : (encK K e q ps (k + 1)).length = n1 + 1 + 32 := by rw [hL, List.length_append, List.length_append, HN1.out, HPD.out]; rfl
            have O8 : Hid (w8.ownsRow w1.heap.size 5 1 v8 (encK K e q ps (k + 1)).length (bts (encK K e q ps (k + 1)))) := by
              show World.ownsRow _ _ _ _ _ _ _
              rw [hLn, hL, bts_append]
              exact hown
            have hch : Chg (fun j => (Value.slice A3 (n1 + 1) c3).ownBlock = some j) wx w8 := ⟨hg.os, hg.tape, hg.output, hg.size, fun j hj hne => hg.block j hj (fun he => hne he.symm)⟩
            have hge : ∀ j, (Value.slice A3 (n1 + 1) c3).ownBlock = some j → w1.heap.size ≤ j := fun j hj => (OX.out.lt j hj).1
            have E8 : Hid (Below w.heap.size w w8) := EX.out.trans (hch.below EX.out.size (fun j hj he => by have := hge j he; have := LW1.out; omega))
            have K8 : Hid (Bk w8 w.heap.size bx) := KX7.out.chg hch (fun he => by have := hge _ he; have := LW1.out; omega)
            have S8 : Hid (w1.heap.size ≤ w8.heap.size) := Nat.le_trans SX.out hch.size
            clear hown hg hat hch hge hL hLn
            go_wp2_with fail
            go_roundw
            case rel => exact ⟨k + 1, _, by omega, by go_num, rfl, O8.out, K8.out, E8.out, S8.out⟩
            case measure => simp [intOf]; omega
        · have hke : k = ps.length := by omega
          subst hke
          have hki : ¬ (((ps.length : Nat) : Int) < (ps.length : Int)) := by omega
          obtain ⟨lk, hlk⟩ : ∃ lk, encK K e q ps ps.length = lk := ⟨_, rfl⟩
          have HLK := Lib.hid hlk
          have HLN : Hid (lk.length ≤ 10 + 33 * 50) := by show _ ≤ _; rw [← hlk, encK_len HO.out]; have := List.length_take_le ps.length ps; omega
          rw [hlk] at OR
          clear hlk
          obtain ⟨n1, hn1⟩ : ∃ n1, lk.length = n1 := ⟨_, rfl⟩
          have HN1 := Lib.hid hn1
          rw [hn1] at OR HLN
          clear hn1
          obtain ⟨A7, c7, rfl, rd7, hc7, hm7⟩ := own_rd OR.out
          have RD7 := Lib.hid rd7
          have HC7 := Lib.hid hc7
          have HM7 := Lib.hid hm7
          clear rd7 hc7 hm7
          go_wp2_with fail
          refine calls_at fun w5 hw5 => ?_
          have KS5 : Hid (Bk w5 wr.heap.size [.slice A7 n1 c7]) := by rw [← hw5]; exact Bk.new wr _ _
          have OR5 : Hid (w5.ownsRow w1.heap.size 5 1 (.slice A7 n1 c7) n1 (bts lk)) := by rw [← hw5]; exact own_chg OR.out ((Chg.refl (S := NoS) wr).alloc _) (fun _ _ => id)
          have RD5 : Hid (Rd w5 A7 (bts lk)) := by rw [← hw5]; exact RD7.out.alloc _
          have ER5 : Hid (Below w.heap.size w w5) := by rw [← hw5]; exact ER.out.alloc ER.out.size _
          have SR5 : Hid (w1.heap.size ≤ w5.heap.size) := by show _ ≤ _; rw [← hw5]; have := SR.out; simp; omega
          clear hw5 OR ER SR RD7
          refine (check_calls [⟨A7, c7, lk⟩] (some ⟨wr.heap.size, 0, none⟩) 1 1 w5 rfl (by decide) (by have h := KS5.out.rd; simpa [ptv, HN1.out] using h) (fun p hp => by
            obtain rfl : p = ⟨A7, c7, lk⟩ := by simpa using hp
            exact ⟨RD5.out, by show lk.length ≤ c7; rw [HN1.out]; exact HC7.out, HM7.out⟩)).mono ?_
          rintro en w' ⟨rfl, rfl⟩
          rw [show ptl [⟨A7, c7, lk⟩] = lk by simp [ptl]]
          generalize hcc : crcCheck lk = cc
          have HCC := Lib.hid hcc
          clear hcc
          go_wp2_with (at_builtin; refine wpList_append_rd rfl (.tmp 48) (.tmp 54) 56 rfl w1.heap.size 5 (.int .u8 0) 1 1 Try.underlying56 info_u8g rfl (by decide) (by decide) (.slice A7 n1 c7) n1 (bts lk) rfl ?own2 (some ⟨w5.heap.size, 0, none⟩) 2 2 [.int .u8 ((cc.toNat : Int) % 256), .int .u8 ((cc.toNat : Int) / 256 % 256)] rfl rfl ?rd2 ?one2 ?bytes2 ?base2 ?_)
          case own2 => exact own_chg OR5.out ((Chg.refl (S := NoS) w5).alloc _) (fun _ _ => id)
          case rd2 => exact Rd.of_block (hal_new rfl)
          case one2 => intro u hu; simp at hu; rcases hu with rfl | rfl <;> rfl
          case bytes2 => have := HLN.out; omega
          case base2 => have := SR5.out; simp; omega
          intro v2 w6 hown hg hat
          have hb2 : Below w.heap.size w w6 := (ER5.out.alloc ER5.out.size _).trans (below_grown hg (by have := ER5.out.size; simp; omega) (fun k hk => by have h1 := (OR5.out.lt k hk).1; have := LW1.out; omega))
          rw [show [Value.int .u8 ((cc.toNat : Int) % 256), .int .u8 ((cc.toNat : Int) / 256 % 256)] = bts [cc.toUInt8, (cc >>> 8).toUInt8] by rw [mod8_u16, mod8_hi]; rfl, ← bts_append] at hown
          obtain ⟨A2, c2, rfl, _, _, _⟩ := own_rd hown
          have O2 := Lib.hid hown
          have B2 := Lib.hid hb2
          clear hown hg hat hb2
          go_wp2_with fail
          (try simp only [Exit.inBlock, Exit.then])
          go_ret2
          have hl : (encP K e q ps).length = n1 + 2 := by rw [encP, List.length_append, HLK.out, HN1.out]; rfl
          refine HG.out ⟨A2, c2, by rw [hl]; rfl, by
            rw [hl, encP, HLK.out, HCC.out]
            exact own_lower O2.out (Nat.le_of_lt LW1.out), B2.out⟩
end Go.Proofs.Ytcmfkdfegfablaa
