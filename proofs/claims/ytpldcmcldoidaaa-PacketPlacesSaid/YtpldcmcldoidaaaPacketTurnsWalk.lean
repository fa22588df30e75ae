
/- The walk of PacketTurns. -/
import Derived.Test.YtpldcmcldoidaaaWakes18
import Derived.Test.YtpldcmcldoidaaaMod
namespace Go.Proofs.Ytpldcmcldoidaaa
open Go.RowKit
set_option linter.unusedVariables false
set_option linter.unusedSimpArgs false

theorem info_u8p : (Try.prog.info? 5).map (fun i => (i.zero, i.size, i.bytes)) = some (some (.int .u8 0), 1, 1) := by kernel_rfl
theorem copyOwn {w w1 : World} {e : TypeId} {v1 : Value} {n : Nat} {xs : List Value} (ho : w1.ownsRow w.heap.size e 1 v1 n xs) (hg : (w.alloc (.cells #[] e)).grownBy w1 (Value.slice (some ⟨w.heap.size, 0, none⟩) 0 0).ownBlock) :
    Below w.heap.size w w1 ∧ w1.ownsRow w.heap.size e 1 v1 n xs :=
  ⟨((Below.refl _ _).alloc (Nat.le_refl _) _).trans (below_grown hg (by simp) (by intro k hk; simp [Value.ownBlock] at hk; omega)), ho⟩
theorem splice_one18 (l : List UInt8) (k : Nat) (z : UInt8) (h : k < l.length) : splice (bts l) k [vu8 z] = bts (l.set k z) := by
  have h1 : [vu8 z] = bts [z] := rfl
  rw [h1, splice_bts, List.set_eq_take_append_cons_drop, if_pos h]
  simp [splice]
theorem splice_front (a r : List Value) (k : Nat) (u : Value) (h : k + 1 ≤ a.length) : splice (a ++ r) k [u] = splice a k [u] ++ r := by
  simp only [splice, List.length_singleton]
  rw [List.take_append_of_le_length (by omega), List.drop_append_of_le_length (by omega)]
  simp only [List.append_assoc]
theorem bk_front {w : World} {g : Nat} {l : List UInt8} {r : List Value} (h : Bk w g (bts l ++ r)) : Rd w (some ⟨g, 0, none⟩) (bts l) := by
  have h1 := h.rd.take (bts l).length
  rwa [List.take_append_of_le_length (Nat.le_refl _), List.take_length] at h1
/-- Cells below a block. -/
def RdB (B : Nat) (w : World) (A : Option Addr) (vs : List Value) : Prop := ∀ (j : Nat) (ad : Addr), j < vs.length → A = some ad → ad.block < B
theorem rdB_of {B : Nat} {w : World} {A : Option Addr} {vs : List Value} (h : Rd w A vs) (hB : w.heap.size ≤ B) : RdB B w A vs := by
  intro j ad hj hA
  obtain ⟨ad', h1, h2⟩ := h.at_ j hj
  rw [hA] at h1
  injection h1 with h1
  subst h1
  have := World.block_lt_of_cell? w _ h2
  rw [show (ad.add j).block = ad.block from by unfold Addr.add; split <;> rfl] at this
  omega
theorem Rd.belowB {B : Nat} {w w0 w1 : World} {A : Option Addr} {vs : List Value} (h : Rd w A vs) (hb : Below B w w1) (hB : RdB B w0 A vs) : Rd w1 A vs := by
  intro j v hj
  obtain ⟨ad, e, hc⟩ := h j v hj
  refine ⟨ad, e, (hb.cell ?_).trans hc⟩
  rw [show (ad.add j).block = ad.block from by unfold Addr.add; split <;> rfl]
  exact hB j ad (List.getElem?_eq_some_iff.1 hj).1 e
theorem turned_z {lb l1 l2 : List UInt8} {K : Int} {e q : UInt32} {ps : List PutV} {k : Nat} {u v y0 y1 : UInt8} {r : Int × UInt32 × UInt32 × List PutV} {z : Int} (hr : crcMore 0xffff lb = 0xf0b8) (hd : decP lb = ((K, e, q, ps), 0)) (hk : k + 1 < lb.length) (hu : lb.getD k 0 = u) (hv : lb.getD (k + 1) 0 = v) (h1 : lb.set k (u ^^^ y0) = l1) (h2 : l1.set (k + 1) (v ^^^ y1) = l2) (hz : decP l2 = (r, z)) :
    (z = 0 ↔ (y0 = 0 ∧ y1 = 0)) ∧ (z = 0 ∨ z = 11) := by
  have hz2 : (decP l2).2 = z := by rw [hz]
  constructor
  · constructor
    · intro h
      have h3 := dec_turned hr hk (u ^^^ y0) (v ^^^ y1) (by rw [h1, h2, hz2, h])
      rw [hu, hv, xor_zero_iff, xor_zero_iff] at h3
      exact h3
    · rintro ⟨rfl, rfl⟩
      have h3 : l2 = lb := by
        rw [← h2, ← h1, UInt8.xor_zero, UInt8.xor_zero, set_two _ k hk, ← hu, ← hv, ← split_two _ k hk]
      rw [← hz2, h3, hd]
  · rcases decP_zero_or l2 with h | h
    · exact .inl (by rw [← hz2]; exact h)
    · exact .inr (by rw [← hz2, h])
set_option maxRecDepth 100000 in
set_option maxHeartbeats 32000000 in
theorem packetTurns_calls (w : World) (p : PkV) (A : Option Addr) (n c : Nat) (at_ : Int) (y0 y1 : UInt8) (hok : PkOk w p A n c) (ha1 : -9223372036854775808 ≤ at_) (ha2 : at_ ≤ 9223372036854775807) :
    Calls Try.prog 4 #[.agg (pktC p.k p.e p.q A n c).toArray, .int .i64 at_, .agg (bts [y0, y1]).toArray] w fun e w' => e = .returned (.bool true) ∧ Below w.heap.size w w' := by
  have HOK := Lib.hid hok
  clear hok
  obtain ⟨bx, hbx⟩ : ∃ bx, (pktC p.k p.e p.q A n c) = bx := ⟨_, rfl⟩
  have HBX := Lib.hid hbx
  have D3 : Hid (bx[3]? = some (.slice A n c)) := by rw [← hbx]; exact (rfl : _ = _)
  have HBL : Hid (bx.length = 4) := by show _ = _; rw [← hbx]; rfl
  obtain ⟨by_, hby⟩ : ∃ by_, bts [y0, y1] = by_ := ⟨_, rfl⟩
  rw [hbx, hby]
  clear hbx
  go_enter Try.func4, Try.ntmps4
  have d3 := ((Bk.new w bx 25).alloc (.cells by_.toArray 41)).cell D3.out
  by_cases h50 : 50 < n
  · have h50i : (50 : Int) < (n : Int) := by omega
    go_wp2_with fail
    refine calls_at fun w1 hw1 => ?_
    have Ew1 : Hid (Below w.heap.size w w1) := by rw [← hw1]; exact ((Below.refl _ _).alloc (Nat.le_refl _) _).alloc (by simp) _
    have Ktw1 : Hid (Bk w1 w.heap.size bx) := by rw [← hw1]; exact (Bk.new w bx _).alloc _
    have Kyw1 : Hid (Bk w1 (w.heap.size + 1) (bts [y0, y1])) := by rw [← hw1, hby]; exact Bk.new_at (by simp) rfl
    clear hw1 d3 hby
    refine (wakes18_calls w1).mono ?_
    rintro en w2 ⟨rfl, hb⟩
    have Ew2 : Hid (Below w.heap.size w w2) := Ew1.out.trans (hb.mono Ew1.out.size)
    have Ktw2 : Hid (Bk w2 w.heap.size bx) := Ktw1.out.below hb
    have Kyw2 : Hid (Bk w2 (w.heap.size + 1) (bts [y0, y1])) := Kyw1.out.below hb
    clear Ew1 Ktw1 Kyw1
    clear hb
    go_wp2_with fail
    (try simp only [Exit.inBlock, Exit.then])
    go_ret
    exact ⟨rfl, Ew2.out⟩
  have h50i : ¬ (50 : Int) < (n : Int) := by omega
  go_wp2_with (refine wpList_ld rfl 25 (.tmp 3) rfl w.heap.size 0 4 bx (pktC p.k p.e p.q A n c) rfl ((Bk.new w bx _).alloc _) (by kernel_rfl) (by kernel_rfl) (by rw [HBL.out]; exact Nat.le_refl 4) (by rw [← HBX.out]; rfl) ?_)
  refine calls_at fun w1 hw1 => ?_
  have Ew1 : Hid (Below w.heap.size w w1) := by rw [← hw1]; exact ((Below.refl _ _).alloc (Nat.le_refl _) _).alloc (by simp) _
  have Ktw1 : Hid (Bk w1 w.heap.size bx) := by rw [← hw1]; exact (Bk.new w bx _).alloc _
  have Kyw1 : Hid (Bk w1 (w.heap.size + 1) (bts [y0, y1])) := by rw [← hw1, hby]; exact Bk.new_at (by simp) rfl
  clear hw1 d3 hby h50 h50i
  by_cases hgood : goodP p.k p.ps = true
  case neg =>
    refine (packEncode_no p.k p.e p.q p.ps A n c w1 HOK.out.len (by have h2 := HOK.out.cap; have h3 := HOK.out.max; omega) (HOK.out.rd.below Ew1.out) HOK.out.ok hgood).mono ?_
    rintro en w2 ⟨rfl, hb⟩
    have Ew2 : Hid (Below w.heap.size w w2) := Ew1.out.trans (hb.mono Ew1.out.size)
    have Ktw2 : Hid (Bk w2 w.heap.size bx) := Ktw1.out.below hb
    have Kyw2 : Hid (Bk w2 (w.heap.size + 1) (bts [y0, y1])) := Kyw1.out.below hb
    clear Ew1 Ktw1 Kyw1
    clear hb
    go_wp2_with fail
    refine (wakes18_calls w2).mono ?_
    rintro en w3 ⟨rfl, hb⟩
    have Ew3 : Hid (Below w.heap.size w w3) := Ew2.out.trans (hb.mono Ew2.out.size)
    have Ktw3 : Hid (Bk w3 w.heap.size bx) := Ktw2.out.below hb
    have Kyw3 : Hid (Bk w3 (w.heap.size + 1) (bts [y0, y1])) := Kyw2.out.below hb
    clear Ew2 Ktw2 Kyw2
    clear hb
    go_wp2_with fail
    (try simp only [Exit.inBlock, Exit.then])
    go_ret
    exact ⟨rfl, Ew3.out⟩
  refine (packEncode_yes p.k p.e p.q p.ps A n c w1 HOK.out.len (by have h2 := HOK.out.cap; have h3 := HOK.out.max; omega) (HOK.out.rd.below Ew1.out) HOK.out.ok hgood).mono ?_
  rintro en w2 ⟨Ab, cb, rfl, ho, hb⟩
  have HCb : Hid ((encP p.k.toNat p.e p.q p.ps).length ≤ cb ∧ cb ≤ 9223372036854775807) := own_capQ ho
  have hr : Rd w2 Ab (bts (encP p.k.toNat p.e p.q p.ps)) := own_rdQ ho
  have Ew2 : Hid (Below w.heap.size w w2) := Ew1.out.trans (hb.mono Ew1.out.size)
  have Ktw2 : Hid (Bk w2 w.heap.size bx) := Ktw1.out.below hb
  have Kyw2 : Hid (Bk w2 (w.heap.size + 1) (bts [y0, y1])) := Kyw1.out.below hb
  clear Ew1 Ktw1 Kyw1
  have Rbw2 := Lib.hid hr
  clear hb ho hr
  have HDEC := Lib.hid (dec_enc (e := p.e) (q := p.q) hgood HOK.out.ok)
  have HREST := Lib.hid (encP_rest p.k.toNat p.e p.q p.ps)
  have hm0 := encP_len (K := p.k.toNat) (e := p.e) (q := p.q) HOK.out.ok
  rw [HOK.out.len] at hm0
  have hn5 : n ≤ 5 := by have := (goodP_at hgood).2.2.1; rw [HOK.out.len] at this; exact this
  obtain ⟨lb, hlb⟩ : ∃ lb, encP p.k.toNat p.e p.q p.ps = lb := ⟨_, rfl⟩
  rw [hlb] at HDEC HREST HCb Rbw2 hm0 ⊢
  obtain ⟨m, hm⟩ : ∃ m, lb.length = m := ⟨_, rfl⟩
  have HM := Lib.hid hm
  have HM33 : Hid (m = 33 * n + 12) := by show _ = _; rw [← hm]; exact hm0
  rw [hm] at HCb ⊢
  have hmn : (12 : Int) + 33 * (n : Int) = (m : Int) := by have := HM33.out; omega
  have hm12 : (12 : Int) ≤ (m : Int) := by have := HM33.out; omega
  have hm200 : (m : Int) ≤ 200 := by have := HM33.out; omega
  have hn5i : (n : Int) ≤ 5 := by omega
  have HN5 := Lib.hid hn5
  clear hlb hm hm0 hgood
  obtain ⟨ad, hA, _⟩ := Rbw2.out.bt 0 (by rw [HM.out]; omega)
  subst hA
  have hmcb := HCb.out.1
  go_wp2_with fail
  refine (packDecode_calls lb (some ad) m cb w2 HM.out HCb.out.1 HCb.out.2 (by have := HM33.out; have := HN5.out; omega) Rbw2.out).mono ?_
  intro en w3 hp
  rw [HDEC.out] at hp
  obtain ⟨Aq, cq, he, hr, hnc, hcm, _, hb⟩ := hp
  have he' : en = .returned (.tuple #[.agg (pktC p.k p.e p.q Aq p.ps.length cq).toArray, .int .i64 0]) := he
  subst he'
  have hr' : Rd w3 Aq (p.ps.flatMap putC) := hr
  have Ew3 : Hid (Below w.heap.size w w3) := Ew2.out.trans (hb.mono Ew2.out.size)
  have Ktw3 : Hid (Bk w3 w.heap.size bx) := Ktw2.out.below hb
  have Kyw3 : Hid (Bk w3 (w.heap.size + 1) (bts [y0, y1])) := Kyw2.out.below hb
  have Rbw3 : Hid (Rd w3 (some ad) (bts lb)) := Rbw2.out.below hb
  clear Ew2 Ktw2 Kyw2 Rbw2
  have Rqw3 := Lib.hid hr'
  clear he hb hr hr' hnc hcm
  go_wp2_with (refine wpList_al rfl 25 rfl zPkD (by kernel_rfl) ?_)
  intro gq w4 hg hb hc hs
  have HQq : Hid (Below w3.heap.size w3 w4) := hc.below (Nat.le_refl _) (fun _ _ => id)
  have HGq : Hid (gq = w3.heap.size) := hg
  have KZq := Lib.hid hb
  clear hg hb hc hs
  go_wp2_with (refine wpList_st rfl 25 (.tmp 9) (.tmp 49) rfl gq 0 4 zPkD (pktC p.k p.e p.q Aq p.ps.length cq) rfl rfl KZq.out (by kernel_rfl) rfl (by decide) (one_pktD _ _ _ _ _ _) ?_)
  intro w5 hbk hc
  rw [splice_whole zPkD (pktC p.k p.e p.q Aq p.ps.length cq) rfl] at hbk
  have hb : Below w3.heap.size w3 w5 := HQq.out.trans (hc.below HQq.out.size (fun q hq he => by have := HGq.out; omega))
  have Atq : Hid (w.heap.size < gq) := by show _ < _; have := Ktw3.out.lt; have := HGq.out; omega
  have Ayq : Hid ((w.heap.size + 1) < gq) := by show _ < _; have := Kyw3.out.lt; have := HGq.out; omega
  have Ew5 : Hid (Below w.heap.size w w5) := Ew3.out.trans (hb.mono Ew3.out.size)
  have Ktw5 : Hid (Bk w5 w.heap.size bx) := Ktw3.out.below hb
  have Kyw5 : Hid (Bk w5 (w.heap.size + 1) (bts [y0, y1])) := Kyw3.out.below hb
  have Rbw5 : Hid (Rd w5 (some ad) (bts lb)) := Rbw3.out.below hb
  have Rqw5 : Hid (Rd w5 Aq (p.ps.flatMap putC)) := Rqw3.out.below hb
  clear Ew3 Ktw3 Kyw3 Rbw3 Rqw3
  have Kqw5 : Hid (Bk w5 gq (pktC p.k p.e p.q Aq p.ps.length cq)) := hbk
  have Kqw5 : Hid (Bk w5 gq (pktC p.k p.e p.q Aq p.ps.length cq)) := hbk
  clear hbk hb hc KZq HQq HGq
  have ct3 : w5.cell? ⟨w.heap.size, 3, none⟩ = some (.slice A n c) := Ktw5.out.cell D3.out
  go_wp2_with (first
    | (refine wpList_ld rfl 25 (.tmp 9) rfl gq 0 4 (pktC p.k p.e p.q Aq p.ps.length cq) (pktC p.k p.e p.q Aq p.ps.length cq) rfl Kqw5.out (by kernel_rfl) (by kernel_rfl) (Nat.le_refl 4) rfl ?_)
    | (refine wpList_ld rfl 25 (.tmp 3) rfl w.heap.size 0 4 bx (pktC p.k p.e p.q A n c) rfl Ktw5.out (by kernel_rfl) (by kernel_rfl) (by rw [HBL.out]; exact Nat.le_refl 4) (by rw [← HBX.out]; rfl) ?_))
  clear ct3
  refine (packSame_calls p p Aq A p.ps.length n cq c w5 rfl HOK.out.len (by have h1 := HOK.out.len; have h2 := HN5.out; omega) Rqw5.out (HOK.out.rd.below Ew5.out) HOK.out.ok HOK.out.ok).mono ?_
  rintro en w6 ⟨rfl, hb⟩
  have Ew6 : Hid (Below w.heap.size w w6) := Ew5.out.trans (hb.mono Ew5.out.size)
  have Ktw6 : Hid (Bk w6 w.heap.size bx) := Ktw5.out.below hb
  have Kyw6 : Hid (Bk w6 (w.heap.size + 1) (bts [y0, y1])) := Kyw5.out.below hb
  have Kqw6 : Hid (Bk w6 gq (pktC p.k p.e p.q Aq p.ps.length cq)) := Kqw5.out.below hb
  have Rbw6 : Hid (Rd w6 (some ad) (bts lb)) := Rbw5.out.below hb
  have Rqw6 : Hid (Rd w6 Aq (p.ps.flatMap putC)) := Rqw5.out.below hb
  clear Ew5 Ktw5 Kyw5 Kqw5 Rbw5 Rqw5
  clear hb
  rw [pkEq_self]
  have ct3 : w6.cell? ⟨w.heap.size, 3, none⟩ = some (.slice A n c) := Ktw6.out.cell D3.out
  go_wp2_with fail
  clear ct3
  refine (mod_calls at_ ((m : Int) - 1) w6 (by omega) (by omega) ha1 ha2).mono ?_
  rintro en w' ⟨rfl, rfl⟩
  obtain ⟨k, hk⟩ := Int.eq_ofNat_of_zero_le (Int.emod_nonneg at_ (show ((m : Int) - 1) ≠ 0 by omega))
  have hk1 : (k : Int) < (m : Int) - 1 := by rw [← hk]; exact Int.emod_lt_of_pos _ (by omega)
  have hkm : k + 1 < m := by omega
  have hkmi : (k : Int) < (m : Int) := by omega
  have hkmi1 : (k : Int) + 1 < (m : Int) := by omega
  have hk0 : (0 : Int) ≤ (k : Int) := by omega
  rw [hk]
  clear hk
  go_wp2_with (at_builtin; refine wpList_append_rd rfl _ _ 26 rfl w6.heap.size 5 (.int .u8 0) 1 1 Try.underlying26 info_u8p rfl (by decide) (by decide) (.slice (some ⟨w6.heap.size, 0, none⟩) 0 0) 0 [] rfl ?own (some ad) m cb (bts lb) rfl ?len ?rd (one_bts _) ?bytes ?base ?_)
  case own => exact empty_own' _ _ rfl
  case len => rw [bts_length, Nat.mul_one]; exact HM.out
  case rd => exact Rbw6.out.alloc _
  case bytes => have := HM33.out; have := HN5.out; omega
  case base => simp
  intro v1 w7 hown hg hat
  obtain ⟨hb, ho⟩ := copyOwn hown hg
  obtain ⟨gc, capc, restc, rfl, hbk, hob⟩ := own_bkr ho (by omega)
  have hcc := own_capQ ho
  have GE : Hid (w6.heap.size ≤ gc) := (ho.lt gc hob).1
  have GCW : Hid (w.heap.size ≤ gc) := by have := GE.out; have := Ew6.out.size; show _ ≤ _; omega
  have ACt : Hid (w.heap.size < gc) := by have := GE.out; have := Ktw6.out.lt; show _ < _; omega
  have ACy : Hid ((w.heap.size + 1) < gc) := by have := GE.out; have := Kyw6.out.lt; show _ < _; omega
  have ACq : Hid (gq < gc) := by have := GE.out; have := Kqw6.out.lt; show _ < _; omega
  have ARb : Hid (RdB gc w6 (some ad) (bts lb)) := rdB_of Rbw6.out GE.out
  have ARq : Hid (RdB gc w6 Aq (p.ps.flatMap putC)) := rdB_of Rqw6.out GE.out
  have Ew7 : Hid (Below w.heap.size w w7) := Ew6.out.trans (hb.mono Ew6.out.size)
  have Ktw7 : Hid (Bk w7 w.heap.size bx) := Ktw6.out.below hb
  have Kyw7 : Hid (Bk w7 (w.heap.size + 1) (bts [y0, y1])) := Kyw6.out.below hb
  have Kqw7 : Hid (Bk w7 gq (pktC p.k p.e p.q Aq p.ps.length cq)) := Kqw6.out.below hb
  have Rbw7 : Hid (Rd w7 (some ad) (bts lb)) := Rbw6.out.below hb
  have Rqw7 : Hid (Rd w7 Aq (p.ps.flatMap putC)) := Rqw6.out.below hb
  clear Ew6 Ktw6 Kyw6 Kqw6 Rbw6 Rqw6
  have Kcw7 : Hid (Bk w7 gc (bts lb ++ restc)) := hbk
  have HCC := Lib.hid hcc
  clear hbk hob hcc ho hown hg hat hb
  obtain ⟨u, hu⟩ : ∃ u, lb.getD k 0 = u := ⟨_, rfl⟩
  obtain ⟨v, hv⟩ : ∃ v, lb.getD (k + 1) 0 = v := ⟨_, rfl⟩
  have HU := Lib.hid hu
  have HV := Lib.hid hv
  have HCu : Hid ((bts lb ++ restc)[k]? = some (vu8 u)) := by show _ = _; rw [List.getElem?_append_left (by rw [bts_length, HM.out]; omega), ← hu]; exact bts_get (by rw [HM.out]; omega)
  obtain ⟨l1, hl1⟩ : ∃ l1, lb.set k (u ^^^ y0) = l1 := ⟨_, rfl⟩
  have HNl1 : Hid (splice (bts lb) k [vu8 (u ^^^ y0)] = bts l1) := by show _ = _; rw [splice_one18 _ _ _ (by rw [HM.out]; omega), hl1]
  have HL1 : Hid (l1.length = m) := by show _ = _; rw [← hl1, List.length_set]; exact HM.out
  have HCv : Hid ((bts l1 ++ restc)[k + 1]? = some (vu8 v)) := by
    show _ = _
    rw [List.getElem?_append_left (by rw [bts_length, HL1.out]; omega), bts_get (by rw [HL1.out]; omega), ← hl1, ← hv]
    congr 2
    rw [List.getD_eq_getElem?_getD, List.getElem?_set_ne (by omega), ← List.getD_eq_getElem?_getD]
  obtain ⟨l2, hl2⟩ : ∃ l2, l1.set (k + 1) (v ^^^ y1) = l2 := ⟨_, rfl⟩
  have HNl2 : Hid (splice (bts l1) (k + 1) [vu8 (v ^^^ y1)] = bts l2) := by show _ = _; rw [splice_one18 _ _ _ (by rw [HL1.out]; omega), hl2]
  have HL2 : Hid (l2.length = m) := by show _ = _; rw [← hl2, List.length_set]; exact HL1.out
  obtain ⟨⟨⟨k2, e2, q2, ps2⟩, z2⟩, hd2⟩ : ∃ r, decP l2 = r := ⟨_, rfl⟩
  have HD2 := Lib.hid hd2
  have HZ2 : Hid ((z2 = 0 ↔ (y0 = 0 ∧ y1 = 0)) ∧ (z2 = 0 ∨ z2 = 11)) := turned_z HREST.out HDEC.out (by rw [HM.out]; exact hkm) hu hv hl1 hl2 hd2
  clear hu hv hl1 hl2 hd2
  go_wp2_with fail
  apply wp_region_rel 7 (Chg NoS) [(Veq _), (Veq _), (Veq _), (Veq _), (Veq _), (Veq _), (Veq _)] [[], [], [0, 1], [2], [], [4], [3, 5]] [77, 78, 79, 80, 81, 82, 83] (by kernel_rfl) (by kernel_rfl) rfl rfl rfl Chg.refl (fun _ _ _ => Chg.trans) ⟨Veq.lasts, Veq.lasts, Veq.lasts, Veq.lasts, Veq.lasts, Veq.lasts, Veq.lasts, trivial⟩ ?r11ops ?r11fin
  case r11ops =>
    refine ⟨?r11o0, ?r11o1, ?r11o2, ?r11o3, ?r11o4, ?r11o5, ?r11o6, trivial⟩
    case r11o0 =>
      intro a wx hE hin
      have i12 : a.eval (.tmp 12) = .slice (some ⟨gc, 0, none⟩) m capc := hin 12 rfl
      clear hin
      have hcst : ∀ v, a.eval (.const v) = v := fun _ => rfl
      have hfnc : ∀ f, a.eval (.func f) = .func (.func f) #[] #[] := fun _ => rfl
      refine want_none rfl ?_
      unfold Oper.wp
      generalize a.eval = ρ at *
      go_simp
      try go_bits
      first | exact rel_val (Chg.refl _) | (go_simp; exact rel_val (Chg.refl _))
    case r11o1 =>
      intro a wx hE hin
      have i11 : a.eval (.tmp 11) = .int .i64 k := hin 11 rfl
      clear hin
      have hcst : ∀ v, a.eval (.const v) = v := fun _ => rfl
      have hfnc : ∀ f, a.eval (.func f) = .func (.func f) #[] #[] := fun _ => rfl
      refine want_none rfl ?_
      unfold Oper.wp
      generalize a.eval = ρ at *
      go_simp
      try go_bits
      first | exact rel_val (Chg.refl _) | (go_simp; exact rel_val (Chg.refl _))
    case r11o2 =>
      rintro a wx hE hin (h0 : a.eval (.tmp 77) = _) (h1 : a.eval (.tmp 78) = _)
      clear hin
      have hcst : ∀ v, a.eval (.const v) = v := fun _ => rfl
      have hfnc : ∀ f, a.eval (.func f) = .func (.func f) #[] #[] := fun _ => rfl
      refine want_none rfl ?_
      unfold Oper.wp
      generalize a.eval = ρ at *
      go_simp
      try go_bits
      first | exact rel_val (Chg.refl _) | (go_simp; exact rel_val (Chg.refl _))
    case r11o3 =>
      rintro a wx hE hin (h2 : a.eval (.tmp 79) = _)
      clear hin
      have hcst : ∀ v, a.eval (.const v) = v := fun _ => rfl
      have hfnc : ∀ f, a.eval (.func f) = .func (.func f) #[] #[] := fun _ => rfl
      refine want_none rfl ?_
      unfold Oper.wp
      generalize a.eval = ρ at *
      have c : wx.cell? ⟨gc, k, none⟩ = some (vu8 u) := Bk.cell (Kcw7.out.drew.chg hE id) HCu.out
      go_simp
      try go_bits
      first | exact rel_val (Chg.refl _) | (go_simp; exact rel_val (Chg.refl _))
    case r11o4 =>
      intro a wx hE hin
      have i5 : a.eval (.tmp 5) = .pointer (some ⟨w.heap.size + 1, 0, none⟩) := hin 5 rfl
      clear hin
      have hcst : ∀ v, a.eval (.const v) = v := fun _ => rfl
      have hfnc : ∀ f, a.eval (.func f) = .func (.func f) #[] #[] := fun _ => rfl
      refine want_none rfl ?_
      unfold Oper.wp
      generalize a.eval = ρ at *
      go_simp
      try go_bits
      first | exact rel_val (Chg.refl _) | (go_simp; exact rel_val (Chg.refl _))
    case r11o5 =>
      rintro a wx hE hin (h4 : a.eval (.tmp 81) = _)
      clear hin
      have hcst : ∀ v, a.eval (.const v) = v := fun _ => rfl
      have hfnc : ∀ f, a.eval (.func f) = .func (.func f) #[] #[] := fun _ => rfl
      refine want_none rfl ?_
      unfold Oper.wp
      generalize a.eval = ρ at *
      have c : wx.cell? ⟨w.heap.size + 1, 0, none⟩ = some (vu8 y0) := Bk.cell (j := 0) (Kyw7.out.drew.chg hE id) rfl
      go_simp
      try go_bits
      first | exact rel_val (Chg.refl _) | (go_simp; exact rel_val (Chg.refl _))
    case r11o6 =>
      rintro a wx hE hin (h3 : a.eval (.tmp 80) = _) (h5 : a.eval (.tmp 82) = _)
      clear hin
      have hcst : ∀ v, a.eval (.const v) = v := fun _ => rfl
      have hfnc : ∀ f, a.eval (.func f) = .func (.func f) #[] #[] := fun _ => rfl
      refine want_none rfl ?_
      unfold Oper.wp
      generalize a.eval = ρ at *
      go_simp
      try go_bits
      first | exact rel_val (Chg.refl _) | (go_simp; exact rel_val (Chg.refl _))
  case r11fin =>
    intro wx hE
    rintro _ rfl _ rfl _ rfl _ rfl _ rfl _ rfl _ rfl
    simp only [FinOk, List.take_succ_cons, List.take_zero, List.take_nil, List.drop_succ_cons, List.drop_zero, List.drop_nil, Act.put, List.setIfInBounds_toArray, List.set_cons_succ, List.set_cons_zero]
    have hb : Below w7.heap.size w7 wx := hE.undrew.below (Nat.le_refl _) (fun _ _ => id)
    have Ewx : Hid (Below w.heap.size w wx) := Ew7.out.trans (hb.mono Ew7.out.size)
    have Ktwx : Hid (Bk wx w.heap.size bx) := Ktw7.out.below hb
    have Kywx : Hid (Bk wx (w.heap.size + 1) (bts [y0, y1])) := Kyw7.out.below hb
    have Kqwx : Hid (Bk wx gq (pktC p.k p.e p.q Aq p.ps.length cq)) := Kqw7.out.below hb
    have Kcwx : Hid (Bk wx gc (bts lb ++ restc)) := Kcw7.out.below hb
    have Rbwx : Hid (Rd wx (some ad) (bts lb)) := Rbw7.out.below hb
    have Rqwx : Hid (Rd wx Aq (p.ps.flatMap putC)) := Rqw7.out.below hb
    clear Ew7 Ktw7 Kyw7 Kqw7 Kcw7 Rbw7 Rqw7
    clear hb hE
    go_wp2_with (refine wpList_st rfl 5 (.tmp 84) (.tmp 83) rfl gc k 1 (bts lb ++ restc) [vu8 (u ^^^ y0)] rfl (congrArg (fun z => [Value.int .u8 z]) (bits_xor8 u y0)) Kcwx.out (by kernel_rfl) rfl (by rw [List.length_append, bts_length, HM.out]; omega) (fun u hu => by obtain rfl := List.mem_singleton.1 hu; rfl) ?_)
    intro w8 hbk hc
    rw [splice_front _ _ _ _ (by rw [bts_length, HM.out]; omega), HNl1.out] at hbk
    have hb : Below gc wx w8 := hc.below (Nat.le_of_lt Kcwx.out.lt) (fun q hq he => by omega)
    have Ew8 : Hid (Below w.heap.size w w8) := Ewx.out.trans (hc.below Ewx.out.size (fun q hq he => by have := GCW.out; omega))
    have Ktw8 : Hid (Bk w8 w.heap.size bx) := Ktwx.out.chg hc (fun h => by have := ACt.out; omega)
    have Kyw8 : Hid (Bk w8 (w.heap.size + 1) (bts [y0, y1])) := Kywx.out.chg hc (fun h => by have := ACy.out; omega)
    have Kqw8 : Hid (Bk w8 gq (pktC p.k p.e p.q Aq p.ps.length cq)) := Kqwx.out.chg hc (fun h => by have := ACq.out; omega)
    have Rbw8 : Hid (Rd w8 (some ad) (bts lb)) := Rbwx.out.belowB hb ARb.out
    have Rqw8 : Hid (Rd w8 Aq (p.ps.flatMap putC)) := Rqwx.out.belowB hb ARq.out
    have Kcw8 : Hid (Bk w8 gc (bts l1 ++ restc)) := hbk
    clear hbk hb hc Ewx Ktwx Kywx Kqwx Rbwx Rqwx Kcwx
    go_wp2_with fail
    apply wp_region_rel 8 (Chg NoS) [(Veq _), (Veq _), (Veq _), (Veq _), (Veq _), (Veq _), (Veq _), (Veq _)] [[], [], [1], [0, 2], [3], [], [5], [4, 6]] [85, 86, 87, 88, 89, 90, 91, 92] (by kernel_rfl) (by kernel_rfl) rfl rfl rfl Chg.refl (fun _ _ _ => Chg.trans) ⟨Veq.lasts, Veq.lasts, Veq.lasts, Veq.lasts, Veq.lasts, Veq.lasts, Veq.lasts, Veq.lasts, trivial⟩ ?r12ops ?r12fin
    case r12ops =>
      refine ⟨?r12o0, ?r12o1, ?r12o2, ?r12o3, ?r12o4, ?r12o5, ?r12o6, ?r12o7, trivial⟩
      case r12o0 =>
        intro a wx hE hin
        have i12 : a.eval (.tmp 12) = .slice (some ⟨gc, 0, none⟩) m capc := hin 12 rfl
        clear hin
        have hcst : ∀ v, a.eval (.const v) = v := fun _ => rfl
        have hfnc : ∀ f, a.eval (.func f) = .func (.func f) #[] #[] := fun _ => rfl
        refine want_none rfl ?_
        unfold Oper.wp
        generalize a.eval = ρ at *
        go_simp
        try go_bits
        first | exact rel_val (Chg.refl _) | (go_simp; exact rel_val (Chg.refl _))
      case r12o1 =>
        intro a wx hE hin
        have i11 : a.eval (.tmp 11) = .int .i64 k := hin 11 rfl
        clear hin
        have hcst : ∀ v, a.eval (.const v) = v := fun _ => rfl
        have hfnc : ∀ f, a.eval (.func f) = .func (.func f) #[] #[] := fun _ => rfl
        refine want_none rfl ?_
        unfold Oper.wp
        generalize a.eval = ρ at *
        go_simp
        try go_bits
        first | exact rel_val (Chg.refl _) | (go_simp; exact rel_val (Chg.refl _))
      case r12o2 =>
        rintro a wx hE hin (h1 : a.eval (.tmp 86) = _)
        clear hin
        have hcst : ∀ v, a.eval (.const v) = v := fun _ => rfl
        have hfnc : ∀ f, a.eval (.func f) = .func (.func f) #[] #[] := fun _ => rfl
        refine want_none rfl ?_
        unfold Oper.wp
        generalize a.eval = ρ at *
        go_simp
        try go_bits
        first | exact rel_val (Chg.refl _) | (go_simp; exact rel_val (Chg.refl _))
      case r12o3 =>
        rintro a wx hE hin (h0 : a.eval (.tmp 85) = _) (h2 : a.eval (.tmp 87) = _)
        clear hin
        have hcst : ∀ v, a.eval (.const v) = v := fun _ => rfl
        have hfnc : ∀ f, a.eval (.func f) = .func (.func f) #[] #[] := fun _ => rfl
        refine want_none rfl ?_
        unfold Oper.wp
        generalize a.eval = ρ at *
        go_simp
        try go_bits
        first | exact rel_val (Chg.refl _) | (go_simp; exact rel_val (Chg.refl _))
      case r12o4 =>
        rintro a wx hE hin (h3 : a.eval (.tmp 88) = _)
        clear hin
        have hcst : ∀ v, a.eval (.const v) = v := fun _ => rfl
        have hfnc : ∀ f, a.eval (.func f) = .func (.func f) #[] #[] := fun _ => rfl
        refine want_none rfl ?_
        unfold Oper.wp
        generalize a.eval = ρ at *
        have c : wx.cell? ⟨gc, k + 1, none⟩ = some (vu8 v) := Bk.cell (Kcw8.out.drew.chg hE id) HCv.out
        go_simp
        try go_bits
        first | exact rel_val (Chg.refl _) | (go_simp; exact rel_val (Chg.refl _))
      case r12o5 =>
        intro a wx hE hin
        have i5 : a.eval (.tmp 5) = .pointer (some ⟨w.heap.size + 1, 0, none⟩) := hin 5 rfl
        clear hin
        have hcst : ∀ v, a.eval (.const v) = v := fun _ => rfl
        have hfnc : ∀ f, a.eval (.func f) = .func (.func f) #[] #[] := fun _ => rfl
        refine want_none rfl ?_
        unfold Oper.wp
        generalize a.eval = ρ at *
        go_simp
        try go_bits
        first | exact rel_val (Chg.refl _) | (go_simp; exact rel_val (Chg.refl _))
      case r12o6 =>
        rintro a wx hE hin (h5 : a.eval (.tmp 90) = _)
        clear hin
        have hcst : ∀ v, a.eval (.const v) = v := fun _ => rfl
        have hfnc : ∀ f, a.eval (.func f) = .func (.func f) #[] #[] := fun _ => rfl
        refine want_none rfl ?_
        unfold Oper.wp
        generalize a.eval = ρ at *
        have c : wx.cell? ⟨w.heap.size + 1, 1, none⟩ = some (vu8 y1) := Bk.cell (j := 1) (Kyw8.out.drew.chg hE id) rfl
        go_simp
        try go_bits
        first | exact rel_val (Chg.refl _) | (go_simp; exact rel_val (Chg.refl _))
      case r12o7 =>
        rintro a wx hE hin (h4 : a.eval (.tmp 89) = _) (h6 : a.eval (.tmp 91) = _)
        clear hin
        have hcst : ∀ v, a.eval (.const v) = v := fun _ => rfl
        have hfnc : ∀ f, a.eval (.func f) = .func (.func f) #[] #[] := fun _ => rfl
        refine want_none rfl ?_
        unfold Oper.wp
        generalize a.eval = ρ at *
        go_simp
        try go_bits
        first | exact rel_val (Chg.refl _) | (go_simp; exact rel_val (Chg.refl _))
    case r12fin =>
      intro wx hE
      rintro _ rfl _ rfl _ rfl _ rfl _ rfl _ rfl _ rfl _ rfl
      simp only [FinOk, List.take_succ_cons, List.take_zero, List.take_nil, List.drop_succ_cons, List.drop_zero, List.drop_nil, Act.put, List.setIfInBounds_toArray, List.set_cons_succ, List.set_cons_zero]
      have hb : Below w8.heap.size w8 wx := hE.undrew.below (Nat.le_refl _) (fun _ _ => id)
      have Ewx : Hid (Below w.heap.size w wx) := Ew8.out.trans (hb.mono Ew8.out.size)
      have Ktwx : Hid (Bk wx w.heap.size bx) := Ktw8.out.below hb
      have Kywx : Hid (Bk wx (w.heap.size + 1) (bts [y0, y1])) := Kyw8.out.below hb
      have Kqwx : Hid (Bk wx gq (pktC p.k p.e p.q Aq p.ps.length cq)) := Kqw8.out.below hb
      have Kcwx : Hid (Bk wx gc (bts l1 ++ restc)) := Kcw8.out.below hb
      have Rbwx : Hid (Rd wx (some ad) (bts lb)) := Rbw8.out.below hb
      have Rqwx : Hid (Rd wx Aq (p.ps.flatMap putC)) := Rqw8.out.below hb
      clear Ew8 Ktw8 Kyw8 Kqw8 Kcw8 Rbw8 Rqw8
      clear hb hE
      go_wp2_with (refine wpList_st rfl 5 (.tmp 93) (.tmp 92) rfl gc (k + 1) 1 (bts l1 ++ restc) [vu8 (v ^^^ y1)] rfl (congrArg (fun z => [Value.int .u8 z]) (bits_xor8 v y1)) Kcwx.out (by kernel_rfl) rfl (by rw [List.length_append, bts_length, HL1.out]; omega) (fun u hu => by obtain rfl := List.mem_singleton.1 hu; rfl) ?_)
      intro w9 hbk hc
      rw [splice_front _ _ _ _ (by rw [bts_length, HL1.out]; omega), HNl2.out] at hbk
      have hb : Below gc wx w9 := hc.below (Nat.le_of_lt Kcwx.out.lt) (fun q hq he => by omega)
      have Ew9 : Hid (Below w.heap.size w w9) := Ewx.out.trans (hc.below Ewx.out.size (fun q hq he => by have := GCW.out; omega))
      have Ktw9 : Hid (Bk w9 w.heap.size bx) := Ktwx.out.chg hc (fun h => by have := ACt.out; omega)
      have Kyw9 : Hid (Bk w9 (w.heap.size + 1) (bts [y0, y1])) := Kywx.out.chg hc (fun h => by have := ACy.out; omega)
      have Kqw9 : Hid (Bk w9 gq (pktC p.k p.e p.q Aq p.ps.length cq)) := Kqwx.out.chg hc (fun h => by have := ACq.out; omega)
      have Rbw9 : Hid (Rd w9 (some ad) (bts lb)) := Rbwx.out.belowB hb ARb.out
      have Rqw9 : Hid (Rd w9 Aq (p.ps.flatMap putC)) := Rqwx.out.belowB hb ARq.out
      have Kcw9 : Hid (Bk w9 gc (bts l2 ++ restc)) := hbk
      clear hbk hb hc Ewx Ktwx Kywx Kqwx Rbwx Rqwx Kcwx
      go_wp2_with fail
      refine (packDecode_calls l2 (some ⟨gc, 0, none⟩) m capc w9 HL2.out HCC.out.1 HCC.out.2 (by have := HM33.out; have := HN5.out; omega) (bk_front Kcw9.out)).mono ?_
      intro en w10 hp
      rw [HD2.out] at hp
      obtain ⟨Ar, cr, he, hr, hnc, hcm, _, hb⟩ := hp
      have he' : en = .returned (.tuple #[.agg (pktC k2 e2 q2 Ar ps2.length cr).toArray, .int .i64 z2]) := he
      subst he'
      have hr' : Rd w10 Ar (ps2.flatMap putC) := hr
      have Ew10 : Hid (Below w.heap.size w w10) := Ew9.out.trans (hb.mono Ew9.out.size)
      have Ktw10 : Hid (Bk w10 w.heap.size bx) := Ktw9.out.below hb
      have Kyw10 : Hid (Bk w10 (w.heap.size + 1) (bts [y0, y1])) := Kyw9.out.below hb
      have Kqw10 : Hid (Bk w10 gq (pktC p.k p.e p.q Aq p.ps.length cq)) := Kqw9.out.below hb
      have Kcw10 : Hid (Bk w10 gc (bts l2 ++ restc)) := Kcw9.out.below hb
      have Rbw10 : Hid (Rd w10 (some ad) (bts lb)) := Rbw9.out.below hb
      have Rqw10 : Hid (Rd w10 Aq (p.ps.flatMap putC)) := Rqw9.out.below hb
      clear Ew9 Ktw9 Kyw9 Kqw9 Kcw9 Rbw9 Rqw9
      have Rrw10 := Lib.hid hr'
      clear he hb hr hr' hnc hcm
      go_wp2_with (refine wpList_al rfl 25 rfl zPkD (by kernel_rfl) ?_)
      intro gr w11 hg hb hc hs
      have HQr : Hid (Below w10.heap.size w10 w11) := hc.below (Nat.le_refl _) (fun _ _ => id)
      have HGr : Hid (gr = w10.heap.size) := hg
      have KZr := Lib.hid hb
      clear hg hb hc hs
      go_wp2_with (refine wpList_st rfl 25 (.tmp 13) (.tmp 97) rfl gr 0 4 zPkD (pktC k2 e2 q2 Ar ps2.length cr) rfl rfl KZr.out (by kernel_rfl) rfl (by decide) (one_pktD _ _ _ _ _ _) ?_)
      intro w12 hbk hc
      rw [splice_whole zPkD (pktC k2 e2 q2 Ar ps2.length cr) rfl] at hbk
      have hb : Below w10.heap.size w10 w12 := HQr.out.trans (hc.below HQr.out.size (fun q hq he => by have := HGr.out; omega))
      have Atr : Hid (w.heap.size < gr) := by show _ < _; have := Ktw10.out.lt; have := HGr.out; omega
      have Ayr : Hid ((w.heap.size + 1) < gr) := by show _ < _; have := Kyw10.out.lt; have := HGr.out; omega
      have Aqr : Hid (gq < gr) := by show _ < _; have := Kqw10.out.lt; have := HGr.out; omega
      have Acr : Hid (gc < gr) := by show _ < _; have := Kcw10.out.lt; have := HGr.out; omega
      have Ew12 : Hid (Below w.heap.size w w12) := Ew10.out.trans (hb.mono Ew10.out.size)
      have Ktw12 : Hid (Bk w12 w.heap.size bx) := Ktw10.out.below hb
      have Kyw12 : Hid (Bk w12 (w.heap.size + 1) (bts [y0, y1])) := Kyw10.out.below hb
      have Kqw12 : Hid (Bk w12 gq (pktC p.k p.e p.q Aq p.ps.length cq)) := Kqw10.out.below hb
      have Kcw12 : Hid (Bk w12 gc (bts l2 ++ restc)) := Kcw10.out.below hb
      have Rbw12 : Hid (Rd w12 (some ad) (bts lb)) := Rbw10.out.below hb
      have Rqw12 : Hid (Rd w12 Aq (p.ps.flatMap putC)) := Rqw10.out.below hb
      have Rrw12 : Hid (Rd w12 Ar (ps2.flatMap putC)) := Rrw10.out.below hb
      clear Ew10 Ktw10 Kyw10 Kqw10 Kcw10 Rbw10 Rqw10 Rrw10
      have Krw12 : Hid (Bk w12 gr (pktC k2 e2 q2 Ar ps2.length cr)) := hbk
      have Krw12 : Hid (Bk w12 gr (pktC k2 e2 q2 Ar ps2.length cr)) := hbk
      clear hbk hb hc KZr HQr HGr
      obtain ⟨m1, hm1⟩ : ∃ m1 : Nat, m - 1 = m1 := ⟨_, rfl⟩
      have hm1i : (m : Int) - 1 = (m1 : Int) := by omega
      have hm1c : m1 ≤ cb := by omega
      have HM1 : Hid (m1 + 1 = m) := by show _ = _; omega
      have hm1n : (m1 : Int) ≤ 200 := by omega
      go_wp2_with fail
      have hsh : decP (lb.take m1) = ((0, 0, 0, []), 11) := by have h := dec_short (b := lb) (n := n) (by rw [HM.out]; exact HM33.out); rw [HM.out, show m - 1 = m1 by have := HM1.out; omega] at h; exact h
      have HSH := Lib.hid hsh
      clear hsh hm1
      refine (packDecode_calls (lb.take m1) (some ad) m1 cb w12 (by rw [List.length_take, HM.out]; have := HM1.out; omega) (by have := HCb.out.1; have := HM1.out; omega) HCb.out.2 (by have := HM1.out; have := HM33.out; have := HN5.out; omega) (by rw [← bts_take]; exact Rbw12.out.take m1)).mono ?_
      intro en w13 hp
      rw [HSH.out] at hp
      obtain ⟨As, cs, he, hr, hnc, hcm, _, hb⟩ := hp
      have he' : en = .returned (.tuple #[.agg (pktC 0 0 0 As 0 cs).toArray, .int .i64 11]) := he
      subst he'
      have hr' : Rd w13 As ([].flatMap putC) := hr
      have Ew13 : Hid (Below w.heap.size w w13) := Ew12.out.trans (hb.mono Ew12.out.size)
      have Ktw13 : Hid (Bk w13 w.heap.size bx) := Ktw12.out.below hb
      have Kyw13 : Hid (Bk w13 (w.heap.size + 1) (bts [y0, y1])) := Kyw12.out.below hb
      have Kqw13 : Hid (Bk w13 gq (pktC p.k p.e p.q Aq p.ps.length cq)) := Kqw12.out.below hb
      have Kcw13 : Hid (Bk w13 gc (bts l2 ++ restc)) := Kcw12.out.below hb
      have Krw13 : Hid (Bk w13 gr (pktC k2 e2 q2 Ar ps2.length cr)) := Krw12.out.below hb
      have Rbw13 : Hid (Rd w13 (some ad) (bts lb)) := Rbw12.out.below hb
      have Rqw13 : Hid (Rd w13 Aq (p.ps.flatMap putC)) := Rqw12.out.below hb
      have Rrw13 : Hid (Rd w13 Ar (ps2.flatMap putC)) := Rrw12.out.below hb
      clear Ew12 Ktw12 Kyw12 Kqw12 Kcw12 Krw12 Rbw12 Rqw12 Rrw12
      have Rsw13 := Lib.hid hr'
      clear he hb hr hr' hnc hcm
      go_wp2_with (refine wpList_al rfl 25 rfl zPkD (by kernel_rfl) ?_)
      intro gs w14 hg hb hc hs
      have HQs : Hid (Below w13.heap.size w13 w14) := hc.below (Nat.le_refl _) (fun _ _ => id)
      have HGs : Hid (gs = w13.heap.size) := hg
      have KZs := Lib.hid hb
      clear hg hb hc hs
      go_wp2_with (refine wpList_st rfl 25 (.tmp 15) (.tmp 106) rfl gs 0 4 zPkD (pktC 0 0 0 As 0 cs) rfl rfl KZs.out (by kernel_rfl) rfl (by decide) (one_pktD _ _ _ _ _ _) ?_)
      intro w15 hbk hc
      rw [splice_whole zPkD (pktC 0 0 0 As 0 cs) rfl] at hbk
      have hb : Below w13.heap.size w13 w15 := HQs.out.trans (hc.below HQs.out.size (fun q hq he => by have := HGs.out; omega))
      have Ats : Hid (w.heap.size < gs) := by show _ < _; have := Ktw13.out.lt; have := HGs.out; omega
      have Ays : Hid ((w.heap.size + 1) < gs) := by show _ < _; have := Kyw13.out.lt; have := HGs.out; omega
      have Aqs : Hid (gq < gs) := by show _ < _; have := Kqw13.out.lt; have := HGs.out; omega
      have Acs : Hid (gc < gs) := by show _ < _; have := Kcw13.out.lt; have := HGs.out; omega
      have Ars : Hid (gr < gs) := by show _ < _; have := Krw13.out.lt; have := HGs.out; omega
      have Ew15 : Hid (Below w.heap.size w w15) := Ew13.out.trans (hb.mono Ew13.out.size)
      have Ktw15 : Hid (Bk w15 w.heap.size bx) := Ktw13.out.below hb
      have Kyw15 : Hid (Bk w15 (w.heap.size + 1) (bts [y0, y1])) := Kyw13.out.below hb
      have Kqw15 : Hid (Bk w15 gq (pktC p.k p.e p.q Aq p.ps.length cq)) := Kqw13.out.below hb
      have Kcw15 : Hid (Bk w15 gc (bts l2 ++ restc)) := Kcw13.out.below hb
      have Krw15 : Hid (Bk w15 gr (pktC k2 e2 q2 Ar ps2.length cr)) := Krw13.out.below hb
      have Rbw15 : Hid (Rd w15 (some ad) (bts lb)) := Rbw13.out.below hb
      have Rqw15 : Hid (Rd w15 Aq (p.ps.flatMap putC)) := Rqw13.out.below hb
      have Rrw15 : Hid (Rd w15 Ar (ps2.flatMap putC)) := Rrw13.out.below hb
      have Rsw15 : Hid (Rd w15 As ([].flatMap putC)) := Rsw13.out.below hb
      clear Ew13 Ktw13 Kyw13 Kqw13 Kcw13 Krw13 Rbw13 Rqw13 Rrw13 Rsw13
      have Ksw15 : Hid (Bk w15 gs (pktC 0 0 0 As 0 cs)) := hbk
      have Ksw15 : Hid (Bk w15 gs (pktC 0 0 0 As 0 cs)) := hbk
      clear hbk hb hc KZs HQs HGs
      clear hm1i hm1c hm1n
      go_wp2_with (at_builtin; refine wpList_append_rd rfl _ _ 26 rfl w15.heap.size 5 (.int .u8 0) 1 1 Try.underlying26 info_u8p rfl (by decide) (by decide) (.slice (some ⟨w15.heap.size, 0, none⟩) 0 0) 0 [] rfl ?own (some ad) m cb (bts lb) rfl ?len ?rd (one_bts _) ?bytes ?base ?_)
      case own => exact empty_own' _ _ rfl
      case len => rw [bts_length, Nat.mul_one]; exact HM.out
      case rd => exact Rbw15.out.alloc _
      case bytes => have := HM33.out; have := HN5.out; omega
      case base => simp
      intro v1 w16 hown hg hat
      obtain ⟨hb, ho⟩ := copyOwn hown hg
      have HSZ : Hid (w.heap.size ≤ w15.heap.size) := Ew15.out.size
      have ODN : Hid (¬ LvQ v1 (w.heap.size + 1)) := fun h => by have h1 := (ho.lt _ h).1; have h2 := Kyw15.out.lt; omega
      have Ew16 : Hid (Below w.heap.size w w16) := Ew15.out.trans (hb.mono Ew15.out.size)
      have Ktw16 : Hid (Bk w16 w.heap.size bx) := Ktw15.out.below hb
      have Kyw16 : Hid (Bk w16 (w.heap.size + 1) (bts [y0, y1])) := Kyw15.out.below hb
      have Kqw16 : Hid (Bk w16 gq (pktC p.k p.e p.q Aq p.ps.length cq)) := Kqw15.out.below hb
      have Kcw16 : Hid (Bk w16 gc (bts l2 ++ restc)) := Kcw15.out.below hb
      have Krw16 : Hid (Bk w16 gr (pktC k2 e2 q2 Ar ps2.length cr)) := Krw15.out.below hb
      have Ksw16 : Hid (Bk w16 gs (pktC 0 0 0 As 0 cs)) := Ksw15.out.below hb
      have Rbw16 : Hid (Rd w16 (some ad) (bts lb)) := Rbw15.out.below hb
      have Rqw16 : Hid (Rd w16 Aq (p.ps.flatMap putC)) := Rqw15.out.below hb
      have Rrw16 : Hid (Rd w16 Ar (ps2.flatMap putC)) := Rrw15.out.below hb
      have Rsw16 : Hid (Rd w16 As ([].flatMap putC)) := Rsw15.out.below hb
      clear Ew15 Ktw15 Kyw15 Kqw15 Kcw15 Krw15 Ksw15 Rbw15 Rqw15 Rrw15 Rsw15
      have OD : Hid (w16.ownsRow w.heap.size 5 1 v1 m (bts lb)) := own_lowerQ ho HSZ.out
      clear ho hown hg hat hb
      obtain ⟨Ad, cd, rfl, _, _, _⟩ := own_rd OD.out
      go_wp2_with (at_builtin; refine wpList_append_rd rfl _ _ 26 rfl w.heap.size 5 (.int .u8 0) 1 1 Try.underlying26 info_u8p rfl (by decide) (by decide) (.slice Ad m cd) m (bts lb) rfl ?own (some ⟨w16.heap.size, 0, none⟩) 1 1 [.int .u8 0] rfl rfl ?rd (fun u hu => by obtain rfl := List.mem_singleton.1 hu; rfl) ?bytes ?base ?_)
      case own => exact own_chg OD.out ((Chg.refl (S := NoS) _).alloc _) (fun _ _ => id)
      case rd => exact Rd.new _ _ _
      case bytes => have := HM33.out; have := HN5.out; omega
      case base => have := Ew16.out.size; simp; omega
      intro v2 w17 hown hg hat
      have hb : Below w.heap.size w16 w17 := ((Below.refl _ _).alloc Ew16.out.size _).trans (below_grown hg (by have := Ew16.out.size; simp; omega) (fun q hq => (OD.out.lt q hq).1))
      have hb2 : Chg (LvQ (.slice Ad m cd)) w16 w17 := then2 ((Chg.refl _).alloc _) (chg_of_grown hg) (fun q hq _ => hq)
      have Ew17 : Hid (Below w.heap.size w w17) := Ew16.out.trans hb
      have Kyw17 : Hid (Bk w17 (w.heap.size + 1) (bts [y0, y1])) := Kyw16.out.chg hb2 (fun h => ODN.out h)
      obtain ⟨A3, c3, rfl, hr3, hn3, hc3⟩ := own_rd hown
      have R3 : Hid (Rd w17 A3 (bts (lb ++ [0]))) := by rw [bts_append]; exact hr3
      have HC3 : Hid (m + 1 ≤ c3 ∧ c3 ≤ 9223372036854775807) := ⟨hn3, hc3⟩
      clear hown hg hat hb hb2 hr3 hn3 hc3
      go_wp2_with fail
      have HLG := Lib.hid (dec_long (b := lb) (n := n) (by rw [HM.out]; exact HM33.out) 0)
      refine (packDecode_calls (lb ++ [0]) A3 (m + 1) c3 w17 (by rw [List.length_append, HM.out]; rfl) HC3.out.1 HC3.out.2 (by have := HM33.out; have := HN5.out; omega) R3.out).mono ?_
      intro en w18 hp
      rw [HLG.out] at hp
      obtain ⟨Al, cl, he, hr, hnc, hcm, _, hb⟩ := hp
      have he' : en = .returned (.tuple #[.agg (pktC 0 0 0 Al 0 cl).toArray, .int .i64 11]) := he
      subst he'
      have hr' : Rd w18 Al ([].flatMap putC) := hr
      have Ew18 : Hid (Below w.heap.size w w18) := Ew17.out.trans (hb.mono Ew17.out.size)
      have Kyw18 : Hid (Bk w18 (w.heap.size + 1) (bts [y0, y1])) := Kyw17.out.below hb
      clear Ew17 Kyw17
      have Rlw18 := Lib.hid hr'
      clear he hb hr hr' hnc hcm
      go_wp2_with (refine wpList_al rfl 25 rfl zPkD (by kernel_rfl) ?_)
      intro gl w19 hg hb hc hs
      have HQl : Hid (Below w18.heap.size w18 w19) := hc.below (Nat.le_refl _) (fun _ _ => id)
      have HGl : Hid (gl = w18.heap.size) := hg
      have KZl := Lib.hid hb
      clear hg hb hc hs
      go_wp2_with (refine wpList_st rfl 25 (.tmp 17) (.tmp 115) rfl gl 0 4 zPkD (pktC 0 0 0 Al 0 cl) rfl rfl KZl.out (by kernel_rfl) rfl (by decide) (one_pktD _ _ _ _ _ _) ?_)
      intro w20 hbk hc
      rw [splice_whole zPkD (pktC 0 0 0 Al 0 cl) rfl] at hbk
      have hb : Below w18.heap.size w18 w20 := HQl.out.trans (hc.below HQl.out.size (fun q hq he => by have := HGl.out; omega))
      have Ayl : Hid ((w.heap.size + 1) < gl) := by show _ < _; have := Kyw18.out.lt; have := HGl.out; omega
      have Ew20 : Hid (Below w.heap.size w w20) := Ew18.out.trans (hb.mono Ew18.out.size)
      have Kyw20 : Hid (Bk w20 (w.heap.size + 1) (bts [y0, y1])) := Kyw18.out.below hb
      have Rlw20 : Hid (Rd w20 Al ([].flatMap putC)) := Rlw18.out.below hb
      clear Ew18 Kyw18 Rlw18
      have Klw20 : Hid (Bk w20 gl (pktC 0 0 0 Al 0 cl)) := hbk
      have Klw20 : Hid (Bk w20 gl (pktC 0 0 0 Al 0 cl)) := hbk
      clear hbk hb hc KZl HQl HGl
      have hz := HZ2.out.2
      have hzi := HZ2.out.1
      by_cases hy : y0 = 0 ∧ y1 = 0
      case pos =>
        have HY := Lib.hid hy
        have hz0 : z2 = 0 := hzi.2 hy
        subst hz0
        clear hz hzi hy
        go_wp2_with (first
          | (refine wpList_ld rfl 41 (.tmp 5) rfl (w.heap.size + 1) 0 2 (bts [y0, y1]) (bts [y0, y1]) rfl Kyw20.out (by kernel_rfl) (by kernel_rfl) (Nat.le_refl 2) rfl ?_)
          | (refine wpList_bld rfl 41 [] rfl (bts [0, 0]) [] (bts [0, 0]) (by kernel_rfl) (by kernel_rfl) trivial rfl ?_)
          | (refine wpList_eq_bytes rfl false 41 _ (.tmp 119) (.tmp 120) rfl 5 2 Try.underlying41 Try.underlying5 (by kernel_rfl) (by kernel_rfl) [y0, y1] [0, 0] rfl rfl rfl rfl true (by rw [HY.out.1, HY.out.2]; rfl) ?_))
        refine (wakes18_calls w20).mono ?_
        rintro en w21 ⟨rfl, hb⟩
        have Ew21 : Hid (Below w.heap.size w w21) := Ew20.out.trans (hb.mono Ew20.out.size)
        have Kyw21 : Hid (Bk w21 (w.heap.size + 1) (bts [y0, y1])) := Kyw20.out.below hb
        have Klw21 : Hid (Bk w21 gl (pktC 0 0 0 Al 0 cl)) := Klw20.out.below hb
        have Rlw21 : Hid (Rd w21 Al ([].flatMap putC)) := Rlw20.out.below hb
        clear Ew20 Kyw20 Klw20 Rlw20
        clear hb
        go_wp2_with fail
        (try simp only [Exit.inBlock, Exit.then])
        go_ret
        exact ⟨rfl, Ew21.out⟩
      case neg =>
        have HYF : Hid (y0 = 0 → ¬ y1 = 0) := fun h1 h2 => hy ⟨h1, h2⟩
        have hz0 : z2 = 11 := hz.resolve_left (fun h => hy (hzi.1 h))
        subst hz0
        clear hz hzi hy
        go_wp2_with (first
          | (refine wpList_ld rfl 41 (.tmp 5) rfl (w.heap.size + 1) 0 2 (bts [y0, y1]) (bts [y0, y1]) rfl Kyw20.out (by kernel_rfl) (by kernel_rfl) (Nat.le_refl 2) rfl ?_)
          | (refine wpList_bld rfl 41 [] rfl (bts [0, 0]) [] (bts [0, 0]) (by kernel_rfl) (by kernel_rfl) trivial rfl ?_)
          | (refine wpList_eq_bytes rfl false 41 _ (.tmp 119) (.tmp 120) rfl 5 2 Try.underlying41 Try.underlying5 (by kernel_rfl) (by kernel_rfl) [y0, y1] [0, 0] rfl rfl rfl rfl false (by simp; exact HYF.out) ?_))
        refine (wakes18_calls w20).mono ?_
        rintro en w21 ⟨rfl, hb⟩
        have Ew21 : Hid (Below w.heap.size w w21) := Ew20.out.trans (hb.mono Ew20.out.size)
        have Kyw21 : Hid (Bk w21 (w.heap.size + 1) (bts [y0, y1])) := Kyw20.out.below hb
        have Klw21 : Hid (Bk w21 gl (pktC 0 0 0 Al 0 cl)) := Klw20.out.below hb
        have Rlw21 : Hid (Rd w21 Al ([].flatMap putC)) := Rlw20.out.below hb
        clear Ew20 Kyw20 Klw20 Rlw20
        clear hb
        go_wp2_with fail
        (try simp only [Exit.inBlock, Exit.then])
        go_ret
        exact ⟨rfl, Ew21.out⟩
end Go.Proofs.Ytpldcmcldoidaaa
