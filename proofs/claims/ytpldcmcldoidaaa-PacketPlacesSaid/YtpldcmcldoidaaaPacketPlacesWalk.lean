import Derived.Test.YtpldcmcldoidaaaPacketCodesWalk

/- The walk of PacketPlaces. -/
namespace Go.Proofs.Ytpldcmcldoidaaa
open Go.RowKit
set_option linter.unusedVariables false
set_option linter.unusedSimpArgs false

theorem enc_same {p r : PkV} (hg : goodP p.k p.ps = true) (h : PutsOk p.ps) (hg2 : goodP r.k r.ps = true) (h2 : PutsOk r.ps) : decide (encP p.k.toNat p.e p.q p.ps = encP r.k.toNat r.e r.q r.ps) = pkEq p r := by
  apply Bool.eq_iff_iff.2
  constructor
  · intro h3
    have h3 := of_decide_eq_true h3
    have d1 := dec_enc (e := p.e) (q := p.q) hg h
    have d2 := dec_enc (e := r.e) (q := r.q) hg2 h2
    rw [h3, d2] at d1
    simp only [Prod.mk.injEq] at d1
    obtain ⟨⟨a1, a2, a3, a4⟩, _⟩ := d1
    simp [pkEq, a1, a2, a3, a4]
  · intro h3
    simp only [pkEq, Bool.and_eq_true, decide_eq_true_eq] at h3
    obtain ⟨⟨⟨a1, a2⟩, a3⟩, a4⟩ := h3
    rw [a1, a2, a3, a4]
    exact decide_eq_true rfl
theorem rd_cellv {w : World} {ad : Addr} {vs : List Value} (h : Rd w (some ad) vs) {i : Nat} {v : Value} (hv : vs[i]? = some v) : w.cell? (ad.add i) = some v := by
  obtain ⟨ad', e', hc⟩ := h i v hv
  injection e' with e'
  subst e'
  exact hc
theorem rd_cell0 {w : World} {ad : Addr} {vs : List Value} (h : Rd w (some ad) vs) {v : Value} (hv : vs[0]? = some v) : w.cell? ad = some v := rd_cellv h hv
theorem rd_cell {w : World} {ad : Addr} {vs : List Value} (h : Rd w (some ad) vs) {i : Nat} {v : Value} (hv : vs[i]? = some v) (h0 : 0 < i) : w.cell? { block := ad.block, off := ad.off + i } = some v := by
  have := rd_cellv h hv
  rwa [show ad.add i = ⟨ad.block, ad.off + i, none⟩ by unfold Addr.add; rw [if_neg (by omega)]] at this
theorem vu8_ofP (n : Nat) : vu8 (UInt8.ofNat n) = .int .u8 ((n : Int) % 256) := by
  show Value.int .u8 ((UInt8.ofNat n).toNat : Int) = _
  rw [UInt8.toNat_ofNat']
  rfl
theorem four_at0 (e : UInt32) (o : Nat) {lb : List UInt8} (h : (lb.drop o).take 4 = le e.toNat 4) (hl : o + 0 < lb.length) : (bts lb)[o + 0]? = some (.int .u8 (((e.toNat : Nat) : Int) % 256)) := by
  have h1 := congrArg (fun l => (bts l)[0]?) h
  simp only [bts_take', bts_drop'] at h1
  rw [List.getElem?_take, if_pos (by decide), List.getElem?_drop] at h1
  rw [h1, le4']
  show some (vu8 _) = _
  rw [vu8_ofP]
  
theorem four_at1 (e : UInt32) (o : Nat) {lb : List UInt8} (h : (lb.drop o).take 4 = le e.toNat 4) (hl : o + 1 < lb.length) : (bts lb)[o + 1]? = some (.int .u8 (((e.toNat : Nat) : Int) / 256 % 256)) := by
  have h1 := congrArg (fun l => (bts l)[1]?) h
  simp only [bts_take', bts_drop'] at h1
  rw [List.getElem?_take, if_pos (by decide), List.getElem?_drop] at h1
  rw [h1, le4']
  show some (vu8 _) = _
  rw [vu8_ofP]
  congr 2 <;> omega
theorem four_at2 (e : UInt32) (o : Nat) {lb : List UInt8} (h : (lb.drop o).take 4 = le e.toNat 4) (hl : o + 2 < lb.length) : (bts lb)[o + 2]? = some (.int .u8 (((e.toNat : Nat) : Int) / 65536 % 256)) := by
  have h1 := congrArg (fun l => (bts l)[2]?) h
  simp only [bts_take', bts_drop'] at h1
  rw [List.getElem?_take, if_pos (by decide), List.getElem?_drop] at h1
  rw [h1, le4']
  show some (vu8 _) = _
  rw [vu8_ofP]
  congr 2 <;> omega
theorem four_at3 (e : UInt32) (o : Nat) {lb : List UInt8} (h : (lb.drop o).take 4 = le e.toNat 4) (hl : o + 3 < lb.length) : (bts lb)[o + 3]? = some (.int .u8 (((e.toNat : Nat) : Int) / 16777216 % 256)) := by
  have h1 := congrArg (fun l => (bts l)[3]?) h
  simp only [bts_take', bts_drop'] at h1
  rw [List.getElem?_take, if_pos (by decide), List.getElem?_drop] at h1
  rw [h1, le4']
  show some (vu8 _) = _
  rw [vu8_ofP]
  congr 2 <;> omega
def PPRel (w : World) (ad : Addr) (lb : List UInt8) (Ab : Option Addr) (lq : List UInt8) (bx by_ : List Value) (N : Nat) (v : Value) (wr : World) : Prop :=
  ∃ k : Nat, k ≤ N ∧ v = .int .i64 k ∧ Rd wr (some ad) (bts lb) ∧ Rd wr Ab (bts lq) ∧ Bk wr w.heap.size bx ∧ Bk wr (w.heap.size + 1) by_ ∧ Below w.heap.size w wr
theorem upto4 {k : Nat} (h : k < 4) : k = 0 ∨ k = 1 ∨ k = 2 ∨ k = 3 := by omega
set_option maxRecDepth 100000 in
set_option maxHeartbeats 32000000 in
theorem packetPlaces_calls (w : World) (p r : PkV) (A B : Option Addr) (n c m d : Nat) (hok : PkOk w p A n c) (hor : PkOk w r B m d) :
    Calls Try.prog 5 #[.agg (pktC p.k p.e p.q A n c).toArray, .agg (pktC r.k r.e r.q B m d).toArray] w fun e w' => e = .returned (.bool true) ∧ Below w.heap.size w w' := by
  have HOK := Lib.hid hok
  have HOR := Lib.hid hor
  clear hok hor
  obtain ⟨bx, hbx⟩ : ∃ bx, (pktC p.k p.e p.q A n c) = bx := ⟨_, rfl⟩
  have HBX := Lib.hid hbx
  have D0 : Hid (bx[0]? = some (.int .i64 p.k)) := by rw [← hbx]; exact (rfl : _ = _)
  have D1 : Hid (bx[1]? = some (vu32 p.e)) := by rw [← hbx]; exact (rfl : _ = _)
  have D2 : Hid (bx[2]? = some (vu32 p.q)) := by rw [← hbx]; exact (rfl : _ = _)
  have D3 : Hid (bx[3]? = some (.slice A n c)) := by rw [← hbx]; exact (rfl : _ = _)
  have HBL : Hid (bx.length = 4) := by show _ = _; rw [← hbx]; rfl
  obtain ⟨by_, hby⟩ : ∃ by_, (pktC r.k r.e r.q B m d) = by_ := ⟨_, rfl⟩
  have HBY := Lib.hid hby
  have D4 : Hid (by_[3]? = some (.slice B m d)) := by rw [← hby]; exact (rfl : _ = _)
  have HBM : Hid (by_.length = 4) := by show _ = _; rw [← hby]; rfl
  rw [hbx, hby]
  clear hbx hby
  go_enter Try.func5, Try.ntmps5
  have d3 := ((Bk.new w bx 25).alloc (.cells by_.toArray 25)).cell D3.out
  have d4 : ((w.alloc (.cells bx.toArray 25)).alloc (.cells by_.toArray 25)).cell? ⟨w.heap.size + 1, 3, none⟩ = some (.slice B m d) := (Bk.new_at (by simp) rfl : Bk _ (w.heap.size + 1) by_).cell D4.out
  by_cases hg0 : 50 < n
  · have hgi : (50 : Int) < (n : Int) := by omega
    go_wp2_with fail
    refine calls_at fun w1 hw1 => ?_
    have Ew1 : Hid (Below w.heap.size w w1) := by rw [← hw1]; exact ((Below.refl _ _).alloc (Nat.le_refl _) _).alloc (by simp) _
    have Ktw1 : Hid (Bk w1 w.heap.size bx) := by rw [← hw1]; exact (Bk.new w bx _).alloc _
    have Kuw1 : Hid (Bk w1 (w.heap.size + 1) by_) := by rw [← hw1]; exact Bk.new_at (by simp) rfl
    clear hw1 d3 d4
    refine (wakes18_calls w1).mono ?_
    rintro en w2 ⟨rfl, hb⟩
    have Ew2 : Hid (Below w.heap.size w w2) := Ew1.out.trans (hb.mono Ew1.out.size)
    have Ktw2 : Hid (Bk w2 w.heap.size bx) := Ktw1.out.below hb
    have Kuw2 : Hid (Bk w2 (w.heap.size + 1) by_) := Kuw1.out.below hb
    clear Ew1 Ktw1 Kuw1
    clear hb
    go_wp2_with fail
    (try simp only [Exit.inBlock, Exit.then])
    go_ret
    exact ⟨rfl, Ew2.out⟩
  by_cases hg1 : 50 < m
  · have hgi : (50 : Int) < (m : Int) := by omega
    have h1i : ¬ (50 : Int) < (n : Int) := by omega
    go_wp2_with fail
    refine calls_at fun w1 hw1 => ?_
    have Ew1 : Hid (Below w.heap.size w w1) := by rw [← hw1]; exact ((Below.refl _ _).alloc (Nat.le_refl _) _).alloc (by simp) _
    have Ktw1 : Hid (Bk w1 w.heap.size bx) := by rw [← hw1]; exact (Bk.new w bx _).alloc _
    have Kuw1 : Hid (Bk w1 (w.heap.size + 1) by_) := by rw [← hw1]; exact Bk.new_at (by simp) rfl
    clear hw1 d3 d4
    refine (wakes18_calls w1).mono ?_
    rintro en w2 ⟨rfl, hb⟩
    have Ew2 : Hid (Below w.heap.size w w2) := Ew1.out.trans (hb.mono Ew1.out.size)
    have Ktw2 : Hid (Bk w2 w.heap.size bx) := Ktw1.out.below hb
    have Kuw2 : Hid (Bk w2 (w.heap.size + 1) by_) := Kuw1.out.below hb
    clear Ew1 Ktw1 Kuw1
    clear hb
    go_wp2_with fail
    (try simp only [Exit.inBlock, Exit.then])
    go_ret
    exact ⟨rfl, Ew2.out⟩
  have h1i : ¬ (50 : Int) < (n : Int) := by omega
  have h2i : ¬ (50 : Int) < (m : Int) := by omega
  go_wp2_with (refine wpList_ld rfl 25 (.tmp 2) rfl w.heap.size 0 4 bx (pktC p.k p.e p.q A n c) rfl ((Bk.new w bx _).alloc _) (by kernel_rfl) (by kernel_rfl) (by rw [HBL.out]; exact Nat.le_refl 4) (by rw [← HBX.out]; rfl) ?_)
  refine calls_at fun w1 hw1 => ?_
  have Ew1 : Hid (Below w.heap.size w w1) := by rw [← hw1]; exact ((Below.refl _ _).alloc (Nat.le_refl _) _).alloc (by simp) _
  have Ktw1 : Hid (Bk w1 w.heap.size bx) := by rw [← hw1]; exact (Bk.new w bx _).alloc _
  have Kuw1 : Hid (Bk w1 (w.heap.size + 1) by_) := by rw [← hw1]; exact Bk.new_at (by simp) rfl
  clear hw1 d3 d4 h1i h2i
  by_cases hgood : goodP p.k p.ps = true
  case neg =>
    refine (packEncode_no p.k p.e p.q p.ps A n c w1 HOK.out.len (by have h2 := HOK.out.cap; have h3 := HOK.out.max; omega) (HOK.out.rd.below Ew1.out) HOK.out.ok hgood).mono ?_
    rintro en w2 ⟨rfl, hb⟩
    have Ew2 : Hid (Below w.heap.size w w2) := Ew1.out.trans (hb.mono Ew1.out.size)
    have Ktw2 : Hid (Bk w2 w.heap.size bx) := Ktw1.out.below hb
    have Kuw2 : Hid (Bk w2 (w.heap.size + 1) by_) := Kuw1.out.below hb
    clear Ew1 Ktw1 Kuw1
    clear hb
    go_wp2_with (refine wpList_ld rfl 25 (.tmp 3) rfl (w.heap.size + 1) 0 4 by_ (pktC r.k r.e r.q B m d) rfl Kuw2.out (by kernel_rfl) (by kernel_rfl) (by rw [HBM.out]; exact Nat.le_refl 4) (by rw [← HBY.out]; rfl) ?_)
    refine (packEncode_any r.k r.e r.q r.ps B m d w2 HOR.out.len (by have h2 := HOR.out.cap; have h3 := HOR.out.max; omega) (HOR.out.rd.below Ew2.out) HOR.out.ok).mono ?_
    rintro en w3 ⟨Ab, cb, rfl, hr, hb⟩
    have Ew3 : Hid (Below w.heap.size w w3) := Ew2.out.trans (hb.mono Ew2.out.size)
    have Ktw3 : Hid (Bk w3 w.heap.size bx) := Ktw2.out.below hb
    have Kuw3 : Hid (Bk w3 (w.heap.size + 1) by_) := Kuw2.out.below hb
    clear Ew2 Ktw2 Kuw2
    have Rbw3 := Lib.hid hr
    clear hr hb
    go_wp2_with fail
    refine (wakes18_calls w3).mono ?_
    rintro en w4 ⟨rfl, hb⟩
    have Ew4 : Hid (Below w.heap.size w w4) := Ew3.out.trans (hb.mono Ew3.out.size)
    have Ktw4 : Hid (Bk w4 w.heap.size bx) := Ktw3.out.below hb
    have Kuw4 : Hid (Bk w4 (w.heap.size + 1) by_) := Kuw3.out.below hb
    have Rbw4 : Hid (Rd w4 Ab (bts (encL r.k r.e r.q r.ps))) := Rbw3.out.below hb
    clear Ew3 Ktw3 Kuw3 Rbw3
    clear hb
    go_wp2_with fail
    (try simp only [Exit.inBlock, Exit.then])
    go_ret
    exact ⟨rfl, Ew4.out⟩
  refine (packEncode_yes p.k p.e p.q p.ps A n c w1 HOK.out.len (by have h2 := HOK.out.cap; have h3 := HOK.out.max; omega) (HOK.out.rd.below Ew1.out) HOK.out.ok hgood).mono ?_
  rintro en w2 ⟨Aa, ca, rfl, ho, hb⟩
  have HCa : Hid ((encP p.k.toNat p.e p.q p.ps).length ≤ ca ∧ ca ≤ 9223372036854775807) := own_capQ ho
  have hr : Rd w2 Aa (bts (encP p.k.toNat p.e p.q p.ps)) := own_rdQ ho
  have Ew2 : Hid (Below w.heap.size w w2) := Ew1.out.trans (hb.mono Ew1.out.size)
  have Ktw2 : Hid (Bk w2 w.heap.size bx) := Ktw1.out.below hb
  have Kuw2 : Hid (Bk w2 (w.heap.size + 1) by_) := Kuw1.out.below hb
  clear Ew1 Ktw1 Kuw1
  have Raw2 := Lib.hid hr
  clear hb ho hr
  go_wp2_with (refine wpList_ld rfl 25 (.tmp 3) rfl (w.heap.size + 1) 0 4 by_ (pktC r.k r.e r.q B m d) rfl Kuw2.out (by kernel_rfl) (by kernel_rfl) (by rw [HBM.out]; exact Nat.le_refl 4) (by rw [← HBY.out]; rfl) ?_)
  refine (packEncode_any r.k r.e r.q r.ps B m d w2 HOR.out.len (by have h2 := HOR.out.cap; have h3 := HOR.out.max; omega) (HOR.out.rd.below Ew2.out) HOR.out.ok).mono ?_
  rintro en w3 ⟨Ab, cb, rfl, hr, hb⟩
  have Ew3 : Hid (Below w.heap.size w w3) := Ew2.out.trans (hb.mono Ew2.out.size)
  have Ktw3 : Hid (Bk w3 w.heap.size bx) := Ktw2.out.below hb
  have Kuw3 : Hid (Bk w3 (w.heap.size + 1) by_) := Kuw2.out.below hb
  have Raw3 : Hid (Rd w3 Aa (bts (encP p.k.toNat p.e p.q p.ps))) := Raw2.out.below hb
  clear Ew2 Ktw2 Kuw2 Raw2
  have Rbw3 := Lib.hid hr
  clear hr hb
  obtain ⟨K, hK⟩ := Int.eq_ofNat_of_zero_le (show 0 ≤ p.k by have := (goodP_at hgood).1; omega)
  have hK4 : K ≤ 4 := by have := (goodP_at hgood).2.1; omega
  have hn5 : n ≤ 5 := by have := (goodP_at hgood).2.2.1; rw [HOK.out.len] at this; exact this
  have HAT : Hid (∀ p' ∈ p.ps, 0 ≤ p'.at_ ∧ p'.at_ < 256) := (goodP_at hgood).2.2.2
  have hm0 := encP_len (K := p.k.toNat) (e := p.e) (q := p.q) HOK.out.ok
  rw [HOK.out.len] at hm0
  have hp0 := encP_zero p.k.toNat p.e p.q p.ps
  have hp9 := encP_n p.k.toNat p.e p.q p.ps
  have hpe := encP_e p.k.toNat p.e p.q p.ps
  have hpq := encP_q p.k.toNat p.e p.q p.ps
  have HPA : Hid (∀ j (hj : j < p.ps.length), (encP p.k.toNat p.e p.q p.ps).getD (10 + 33 * j) 0 = UInt8.ofNat p.ps[j].at_.toNat) := fun j hj => encP_at _ _ _ HOK.out.ok hj
  have HPD : Hid (∀ j (hj : j < p.ps.length), ((encP p.k.toNat p.e p.q p.ps).drop (11 + 33 * j)).take 32 = p.ps[j].data) := fun j hj => encP_data _ _ _ HOK.out.ok hj
  have HEC : Hid (encP p.k.toNat p.e p.q p.ps = encK p.k.toNat p.e p.q p.ps p.ps.length ++ [(crcCheck (encK p.k.toNat p.e p.q p.ps p.ps.length)).toUInt8, (crcCheck (encK p.k.toNat p.e p.q p.ps p.ps.length) >>> 8).toUInt8]) := rfl
  have HSAME : Hid (goodP r.k r.ps = true → decide (encP p.k.toNat p.e p.q p.ps = encP r.k.toNat r.e r.q r.ps) = pkEq p r) := fun h => enc_same hgood HOK.out.ok h HOR.out.ok
  rw [HOK.out.len] at hp9
  obtain ⟨lb, hlb⟩ : ∃ lb, encP p.k.toNat p.e p.q p.ps = lb := ⟨_, rfl⟩
  rw [hlb] at HCa Raw3 hm0 hp0 hp9 hpe hpq HPA HPD HEC HSAME ⊢
  obtain ⟨lk, hlk⟩ : ∃ lk, encK p.k.toNat p.e p.q p.ps p.ps.length = lk := ⟨_, rfl⟩
  rw [hlk] at HEC
  have D0' : Hid (bx[0]? = some (.int .i64 (K : Int))) := by have h := D0.out; rw [hK] at h; exact h
  rw [hK] at hp0
  have HP0 : Hid ((bts lb)[0]? = some (.int .u8 (K : Int))) := by
    rw [bts_get (by omega), hp0]
    exact congrArg some (byte_at K (by omega))
  have HP9 : Hid ((bts lb)[9]? = some (.int .u8 (n : Int))) := by
    rw [bts_get (by omega), hp9]
    exact congrArg some (byte_at n (by omega))
  have HG0 : Hid ((bts lb)[1]? = some (.int .u8 (((p.e.toNat : Nat) : Int) % 256))) := four_at0 p.e 1 hpe (by omega)
  have HG1 : Hid ((bts lb)[2]? = some (.int .u8 (((p.e.toNat : Nat) : Int) / 256 % 256))) := four_at1 p.e 1 hpe (by omega)
  have HG2 : Hid ((bts lb)[3]? = some (.int .u8 (((p.e.toNat : Nat) : Int) / 65536 % 256))) := four_at2 p.e 1 hpe (by omega)
  have HG3 : Hid ((bts lb)[4]? = some (.int .u8 (((p.e.toNat : Nat) : Int) / 16777216 % 256))) := four_at3 p.e 1 hpe (by omega)
  have HG4 : Hid ((bts lb)[5]? = some (.int .u8 (((p.q.toNat : Nat) : Int) % 256))) := four_at0 p.q 5 hpq (by omega)
  have HG5 : Hid ((bts lb)[6]? = some (.int .u8 (((p.q.toNat : Nat) : Int) / 256 % 256))) := four_at1 p.q 5 hpq (by omega)
  have HG6 : Hid ((bts lb)[7]? = some (.int .u8 (((p.q.toNat : Nat) : Int) / 65536 % 256))) := four_at2 p.q 5 hpq (by omega)
  have HG7 : Hid ((bts lb)[8]? = some (.int .u8 (((p.q.toNat : Nat) : Int) / 16777216 % 256))) := four_at3 p.q 5 hpq (by omega)
  have hcp := HCa.out
  obtain ⟨M, hM⟩ : ∃ M, lb.length = M := ⟨_, rfl⟩
  have HM := Lib.hid hM
  rw [hM] at hcp hm0 ⊢
  obtain ⟨m2, hm2⟩ : ∃ m2, 10 + 33 * n = m2 := ⟨_, rfl⟩
  have HM2 := Lib.hid hm2
  have HMM : Hid (M = m2 + 2) := by show _ = _; omega
  have HN5 := Lib.hid hn5
  have HK4 := Lib.hid hK4
  have HCP : Hid (M ≤ ca ∧ ca ≤ 9223372036854775807) := hcp
  have HLK : Hid (lk.length = m2) := by
    have h1 := congrArg List.length HEC.out
    rw [List.length_append, hM] at h1
    have h2 : M = lk.length + 2 := h1
    show _ = _
    omega
  obtain ⟨cc, hcc⟩ : ∃ cc, crcCheck lk = cc := ⟨_, rfl⟩
  have HCC := Lib.hid hcc
  have HE2 : Hid ((bts lb)[m2]? = some (.int .u8 ((cc.toNat : Int) % 256))) := by
    show _ = _
    rw [HEC.out, bts_append, List.getElem?_append_right (by rw [bts_length, HLK.out]; exact Nat.le_refl _), bts_length, HLK.out, Nat.sub_self, hcc, mod8_u16]
    rfl
  have HE1 : Hid ((bts lb)[m2 + 1]? = some (.int .u8 ((cc.toNat : Int) / 256 % 256))) := by
    show _ = _
    rw [HEC.out, bts_append, List.getElem?_append_right (by rw [bts_length, HLK.out]; omega), bts_length, HLK.out, show m2 + 1 - m2 = 1 by omega, hcc, mod8_hi]
    rfl
  have HTK : Hid (lb.take m2 = lk) := by
    show _ = _
    rw [HEC.out, List.take_append_of_le_length (by rw [HLK.out]; exact Nat.le_refl _), ← HLK.out, List.take_length]
  obtain ⟨ad, hA, _⟩ := Raw3.out.bt 0 (by rw [hM]; omega)
  subst hA
  have hmn : (12 : Int) + 33 * (n : Int) = (M : Int) := by omega
  have hm12 : (12 : Int) ≤ (M : Int) := by omega
  have hm200 : (M : Int) ≤ 200 := by omega
  have h0M : (0 : Int) < (M : Int) := by omega
  have h9M : (9 : Int) < (M : Int) := by omega
  have h0Mn : 0 < M := by omega
  have h9Mn : 9 < M := by omega
  clear hlb hlk hM hm0 hp0 hp9 hpe hpq hcc hgood hcp hm2 hK
  go_wp2_with fail
  apply wp_region_rel 27 (Chg NoS) [(Veq _), (Veq _), (Veq _), (Veq _), (Veq _), (Veq _), (Veq _), (Veq _), (Veq _), (Veq _), (Veq _), (Veq _), (Veq _), (Veq _), (Veq _), (Veq _), (Veq _), (Veq _), (Veq _), (Veq _), (Veq _), (Veq _), (Veq _), (Veq _), (Veq _), (Veq _), (Veq _)] [[], [0], [], [2], [3], [4], [5], [1, 6], [7], [8], [8, 9], [8, 10], [8, 11], [8], [8, 13], [8, 12, 14], [8, 15], [16], [17], [17, 18], [17, 19], [17, 20], [17], [17, 22], [17, 23], [17, 21, 24], [17, 25]] [41, 42, 43, 44, 45, 46, 47, 48, 49, 50, 51, 52, 53, 54, 55, 56, 57, 58, 59, 60, 61, 62, 63, 64, 65, 66, 67] (by kernel_rfl) (by kernel_rfl) rfl rfl rfl Chg.refl (fun _ _ _ => Chg.trans) ⟨Veq.lasts, Veq.lasts, Veq.lasts, Veq.lasts, Veq.lasts, Veq.lasts, Veq.lasts, Veq.lasts, Veq.lasts, Veq.lasts, Veq.lasts, Veq.lasts, Veq.lasts, Veq.lasts, Veq.lasts, Veq.lasts, Veq.lasts, Veq.lasts, Veq.lasts, Veq.lasts, Veq.lasts, Veq.lasts, Veq.lasts, Veq.lasts, Veq.lasts, Veq.lasts, Veq.lasts, trivial⟩ ?sops ?sfin
  case sops =>
    refine ⟨?so0, ?so1, ?so2, ?so3, ?so4, ?so5, ?so6, ?so7, ?so8, ?so9, ?so10, ?so11, ?so12, ?so13, ?so14, ?so15, ?so16, ?so17, ?so18, ?so19, ?so20, ?so21, ?so22, ?so23, ?so24, ?so25, ?so26, trivial⟩
    case so0 =>
      intro a wx hE hin
      have i5 : a.eval (.tmp 5) = .slice (some ad) M ca := hin 5 rfl
      clear hin
      have hcst : ∀ v, a.eval (.const v) = v := fun _ => rfl
      have hfnc : ∀ f, a.eval (.func f) = .func (.func f) #[] #[] := fun _ => rfl
      refine want_none rfl ?_
      unfold Oper.wp
      generalize a.eval = ρ at *
      go_simp
      try go_bits
      first | exact rel_val (Chg.refl _) | (go_simp; exact rel_val (Chg.refl _))
    case so1 =>
      rintro a wx hE hin (h0 : a.eval (.tmp 41) = _)
      clear hin
      have hcst : ∀ v, a.eval (.const v) = v := fun _ => rfl
      have hfnc : ∀ f, a.eval (.func f) = .func (.func f) #[] #[] := fun _ => rfl
      refine want_none rfl ?_
      unfold Oper.wp
      generalize a.eval = ρ at *
      go_simp
      try go_bits
      first | exact rel_val (Chg.refl _) | (go_simp; exact rel_val (Chg.refl _))
    case so2 =>
      intro a wx hE hin
      have i2 : a.eval (.tmp 2) = .pointer (some ⟨w.heap.size, 0, none⟩) := hin 2 rfl
      clear hin
      have hcst : ∀ v, a.eval (.const v) = v := fun _ => rfl
      have hfnc : ∀ f, a.eval (.func f) = .func (.func f) #[] #[] := fun _ => rfl
      refine want_none rfl ?_
      unfold Oper.wp
      generalize a.eval = ρ at *
      go_simp
      try go_bits
      first | exact rel_val (Chg.refl _) | (go_simp; exact rel_val (Chg.refl _))
    case so3 =>
      rintro a wx hE hin (h2 : a.eval (.tmp 43) = _)
      clear hin
      have hcst : ∀ v, a.eval (.const v) = v := fun _ => rfl
      have hfnc : ∀ f, a.eval (.func f) = .func (.func f) #[] #[] := fun _ => rfl
      refine want_none rfl ?_
      unfold Oper.wp
      generalize a.eval = ρ at *
      have c := Bk.cell (Ktw3.out.drew.chg hE id) D3.out
      go_simp
      try go_bits
      first | exact rel_val (Chg.refl _) | (go_simp; exact rel_val (Chg.refl _))
    case so4 =>
      rintro a wx hE hin (h3 : a.eval (.tmp 44) = _)
      clear hin
      have hcst : ∀ v, a.eval (.const v) = v := fun _ => rfl
      have hfnc : ∀ f, a.eval (.func f) = .func (.func f) #[] #[] := fun _ => rfl
      refine want_none rfl ?_
      unfold Oper.wp
      generalize a.eval = ρ at *
      go_simp
      try go_bits
      first | exact rel_val (Chg.refl _) | (go_simp; exact rel_val (Chg.refl _))
    case so5 =>
      rintro a wx hE hin (h4 : a.eval (.tmp 45) = _)
      clear hin
      have hcst : ∀ v, a.eval (.const v) = v := fun _ => rfl
      have hfnc : ∀ f, a.eval (.func f) = .func (.func f) #[] #[] := fun _ => rfl
      refine want_none rfl ?_
      unfold Oper.wp
      generalize a.eval = ρ at *
      go_simp
      try go_bits
      first | exact rel_val (Chg.refl _) | (go_simp; exact rel_val (Chg.refl _))
    case so6 =>
      rintro a wx hE hin (h5 : a.eval (.tmp 46) = _)
      clear hin
      have hcst : ∀ v, a.eval (.const v) = v := fun _ => rfl
      have hfnc : ∀ f, a.eval (.func f) = .func (.func f) #[] #[] := fun _ => rfl
      refine want_none rfl ?_
      unfold Oper.wp
      generalize a.eval = ρ at *
      go_simp
      try go_bits
      first | exact rel_val (Chg.refl _) | (go_simp; exact rel_val (Chg.refl _))
    case so7 =>
      rintro a wx hE hin (h1 : a.eval (.tmp 42) = _) (h6 : a.eval (.tmp 47) = _)
      clear hin
      have hcst : ∀ v, a.eval (.const v) = v := fun _ => rfl
      have hfnc : ∀ f, a.eval (.func f) = .func (.func f) #[] #[] := fun _ => rfl
      refine want_none rfl ?_
      unfold Oper.wp
      generalize a.eval = ρ at *
      go_simp
      try go_bits
      first | exact rel_val (Chg.refl _) | (go_simp; exact rel_val (Chg.refl _))
    case so8 =>
      rintro a wx hE hin (h7 : a.eval (.tmp 48) = _)
      clear hin
      have hcst : ∀ v, a.eval (.const v) = v := fun _ => rfl
      have hfnc : ∀ f, a.eval (.func f) = .func (.func f) #[] #[] := fun _ => rfl
      refine want_none rfl ?_
      unfold Oper.wp
      generalize a.eval = ρ at *
      go_simp
      try go_bits
      first | exact rel_val (Chg.refl _) | (go_simp; exact rel_val (Chg.refl _))
    case so9 =>
      rintro a wx hE hin (h8 : a.eval (.tmp 49) = _)
      have i5 : a.eval (.tmp 5) = .slice (some ad) M ca := hin 5 rfl
      clear hin
      have hcst : ∀ v, a.eval (.const v) = v := fun _ => rfl
      have hfnc : ∀ f, a.eval (.func f) = .func (.func f) #[] #[] := fun _ => rfl
      refine want_yes rfl rfl h8 ?_
      unfold Oper.wp
      generalize a.eval = ρ at *
      go_simp
      try go_bits
      first | exact rel_val (Chg.refl _) | (go_simp; exact rel_val (Chg.refl _))
    case so10 =>
      rintro a wx hE hin (h8 : a.eval (.tmp 49) = _) (h9 : a.eval (.tmp 50) = _)
      clear hin
      have hcst : ∀ v, a.eval (.const v) = v := fun _ => rfl
      have hfnc : ∀ f, a.eval (.func f) = .func (.func f) #[] #[] := fun _ => rfl
      refine want_yes rfl rfl h8 ?_
      unfold Oper.wp
      generalize a.eval = ρ at *
      go_simp
      try go_bits
      first | exact rel_val (Chg.refl _) | (go_simp; exact rel_val (Chg.refl _))
    case so11 =>
      rintro a wx hE hin (h8 : a.eval (.tmp 49) = _) (h10 : a.eval (.tmp 51) = _)
      clear hin
      have hcst : ∀ v, a.eval (.const v) = v := fun _ => rfl
      have hfnc : ∀ f, a.eval (.func f) = .func (.func f) #[] #[] := fun _ => rfl
      refine want_yes rfl rfl h8 ?_
      unfold Oper.wp
      generalize a.eval = ρ at *
      have c : wx.cell? ad = some (.int .u8 (K : Int)) := rd_cell0 (Raw3.out.below (hE.undrew.below (Nat.le_refl _) (fun _ _ => id))) HP0.out
      go_simp
      try go_bits
      first | exact rel_val (Chg.refl _) | (go_simp; exact rel_val (Chg.refl _))
    case so12 =>
      rintro a wx hE hin (h8 : a.eval (.tmp 49) = _) (h11 : a.eval (.tmp 52) = _)
      clear hin
      have hcst : ∀ v, a.eval (.const v) = v := fun _ => rfl
      have hfnc : ∀ f, a.eval (.func f) = .func (.func f) #[] #[] := fun _ => rfl
      refine want_yes rfl rfl h8 ?_
      unfold Oper.wp
      generalize a.eval = ρ at *
      go_simp
      try go_bits
      first | exact rel_val (Chg.refl _) | (go_simp; exact rel_val (Chg.refl _))
    case so13 =>
      rintro a wx hE hin (h8 : a.eval (.tmp 49) = _)
      have i2 : a.eval (.tmp 2) = .pointer (some ⟨w.heap.size, 0, none⟩) := hin 2 rfl
      clear hin
      have hcst : ∀ v, a.eval (.const v) = v := fun _ => rfl
      have hfnc : ∀ f, a.eval (.func f) = .func (.func f) #[] #[] := fun _ => rfl
      refine want_yes rfl rfl h8 ?_
      unfold Oper.wp
      generalize a.eval = ρ at *
      go_simp
      try go_bits
      first | exact rel_val (Chg.refl _) | (go_simp; exact rel_val (Chg.refl _))
    case so14 =>
      rintro a wx hE hin (h8 : a.eval (.tmp 49) = _) (h13 : a.eval (.tmp 54) = _)
      clear hin
      have hcst : ∀ v, a.eval (.const v) = v := fun _ => rfl
      have hfnc : ∀ f, a.eval (.func f) = .func (.func f) #[] #[] := fun _ => rfl
      refine want_yes rfl rfl h8 ?_
      unfold Oper.wp
      generalize a.eval = ρ at *
      have c := Bk.cell (Ktw3.out.drew.chg hE id) D0'.out
      go_simp
      try go_bits
      first | exact rel_val (Chg.refl _) | (go_simp; exact rel_val (Chg.refl _))
    case so15 =>
      rintro a wx hE hin (h8 : a.eval (.tmp 49) = _) (h12 : a.eval (.tmp 53) = _) (h14 : a.eval (.tmp 55) = _)
      clear hin
      have hcst : ∀ v, a.eval (.const v) = v := fun _ => rfl
      have hfnc : ∀ f, a.eval (.func f) = .func (.func f) #[] #[] := fun _ => rfl
      refine want_yes rfl rfl h8 ?_
      unfold Oper.wp
      generalize a.eval = ρ at *
      go_simp
      try go_bits
      first | exact rel_val (Chg.refl _) | (go_simp; exact rel_val (Chg.refl _))
    case so16 =>
      rintro a wx hE hin (h8 : a.eval (.tmp 49) = _) (h15 : a.eval (.tmp 56) = _)
      clear hin
      have hcst : ∀ v, a.eval (.const v) = v := fun _ => rfl
      have hfnc : ∀ f, a.eval (.func f) = .func (.func f) #[] #[] := fun _ => rfl
      refine want_none rfl ?_
      unfold Oper.wp
      generalize a.eval = ρ at *
      go_simp
      try go_bits
      first | exact rel_val (Chg.refl _) | (go_simp; exact rel_val (Chg.refl _))
    case so17 =>
      rintro a wx hE hin (h16 : a.eval (.tmp 57) = _)
      clear hin
      have hcst : ∀ v, a.eval (.const v) = v := fun _ => rfl
      have hfnc : ∀ f, a.eval (.func f) = .func (.func f) #[] #[] := fun _ => rfl
      refine want_none rfl ?_
      unfold Oper.wp
      generalize a.eval = ρ at *
      go_simp
      try go_bits
      first | exact rel_val (Chg.refl _) | (go_simp; exact rel_val (Chg.refl _))
    case so18 =>
      rintro a wx hE hin (h17 : a.eval (.tmp 58) = _)
      have i5 : a.eval (.tmp 5) = .slice (some ad) M ca := hin 5 rfl
      clear hin
      have hcst : ∀ v, a.eval (.const v) = v := fun _ => rfl
      have hfnc : ∀ f, a.eval (.func f) = .func (.func f) #[] #[] := fun _ => rfl
      refine want_yes rfl rfl h17 ?_
      unfold Oper.wp
      generalize a.eval = ρ at *
      go_simp
      try go_bits
      first | exact rel_val (Chg.refl _) | (go_simp; exact rel_val (Chg.refl _))
    case so19 =>
      rintro a wx hE hin (h17 : a.eval (.tmp 58) = _) (h18 : a.eval (.tmp 59) = _)
      clear hin
      have hcst : ∀ v, a.eval (.const v) = v := fun _ => rfl
      have hfnc : ∀ f, a.eval (.func f) = .func (.func f) #[] #[] := fun _ => rfl
      refine want_yes rfl rfl h17 ?_
      unfold Oper.wp
      generalize a.eval = ρ at *
      go_simp
      try go_bits
      first | exact rel_val (Chg.refl _) | (go_simp; exact rel_val (Chg.refl _))
    case so20 =>
      rintro a wx hE hin (h17 : a.eval (.tmp 58) = _) (h19 : a.eval (.tmp 60) = _)
      clear hin
      have hcst : ∀ v, a.eval (.const v) = v := fun _ => rfl
      have hfnc : ∀ f, a.eval (.func f) = .func (.func f) #[] #[] := fun _ => rfl
      refine want_yes rfl rfl h17 ?_
      unfold Oper.wp
      generalize a.eval = ρ at *
      have c : wx.cell? { block := ad.block, off := ad.off + 9 } = some (.int .u8 (n : Int)) := rd_cell (Raw3.out.below (hE.undrew.below (Nat.le_refl _) (fun _ _ => id))) HP9.out (by omega)
      go_simp
      try go_bits
      first | exact rel_val (Chg.refl _) | (go_simp; exact rel_val (Chg.refl _))
    case so21 =>
      rintro a wx hE hin (h17 : a.eval (.tmp 58) = _) (h20 : a.eval (.tmp 61) = _)
      clear hin
      have hcst : ∀ v, a.eval (.const v) = v := fun _ => rfl
      have hfnc : ∀ f, a.eval (.func f) = .func (.func f) #[] #[] := fun _ => rfl
      refine want_yes rfl rfl h17 ?_
      unfold Oper.wp
      generalize a.eval = ρ at *
      go_simp
      try go_bits
      first | exact rel_val (Chg.refl _) | (go_simp; exact rel_val (Chg.refl _))
    case so22 =>
      rintro a wx hE hin (h17 : a.eval (.tmp 58) = _)
      have i2 : a.eval (.tmp 2) = .pointer (some ⟨w.heap.size, 0, none⟩) := hin 2 rfl
      clear hin
      have hcst : ∀ v, a.eval (.const v) = v := fun _ => rfl
      have hfnc : ∀ f, a.eval (.func f) = .func (.func f) #[] #[] := fun _ => rfl
      refine want_yes rfl rfl h17 ?_
      unfold Oper.wp
      generalize a.eval = ρ at *
      go_simp
      try go_bits
      first | exact rel_val (Chg.refl _) | (go_simp; exact rel_val (Chg.refl _))
    case so23 =>
      rintro a wx hE hin (h17 : a.eval (.tmp 58) = _) (h22 : a.eval (.tmp 63) = _)
      clear hin
      have hcst : ∀ v, a.eval (.const v) = v := fun _ => rfl
      have hfnc : ∀ f, a.eval (.func f) = .func (.func f) #[] #[] := fun _ => rfl
      refine want_yes rfl rfl h17 ?_
      unfold Oper.wp
      generalize a.eval = ρ at *
      have c := Bk.cell (Ktw3.out.drew.chg hE id) D3.out
      go_simp
      try go_bits
      first | exact rel_val (Chg.refl _) | (go_simp; exact rel_val (Chg.refl _))
    case so24 =>
      rintro a wx hE hin (h17 : a.eval (.tmp 58) = _) (h23 : a.eval (.tmp 64) = _)
      clear hin
      have hcst : ∀ v, a.eval (.const v) = v := fun _ => rfl
      have hfnc : ∀ f, a.eval (.func f) = .func (.func f) #[] #[] := fun _ => rfl
      refine want_yes rfl rfl h17 ?_
      unfold Oper.wp
      generalize a.eval = ρ at *
      go_simp
      try go_bits
      first | exact rel_val (Chg.refl _) | (go_simp; exact rel_val (Chg.refl _))
    case so25 =>
      rintro a wx hE hin (h17 : a.eval (.tmp 58) = _) (h21 : a.eval (.tmp 62) = _) (h24 : a.eval (.tmp 65) = _)
      clear hin
      have hcst : ∀ v, a.eval (.const v) = v := fun _ => rfl
      have hfnc : ∀ f, a.eval (.func f) = .func (.func f) #[] #[] := fun _ => rfl
      refine want_yes rfl rfl h17 ?_
      unfold Oper.wp
      generalize a.eval = ρ at *
      go_simp
      try go_bits
      first | exact rel_val (Chg.refl _) | (go_simp; exact rel_val (Chg.refl _))
    case so26 =>
      rintro a wx hE hin (h17 : a.eval (.tmp 58) = _) (h25 : a.eval (.tmp 66) = _)
      clear hin
      have hcst : ∀ v, a.eval (.const v) = v := fun _ => rfl
      have hfnc : ∀ f, a.eval (.func f) = .func (.func f) #[] #[] := fun _ => rfl
      refine want_none rfl ?_
      unfold Oper.wp
      generalize a.eval = ρ at *
      go_simp
      try go_bits
      first | exact rel_val (Chg.refl _) | (go_simp; exact rel_val (Chg.refl _))
  case sfin =>
    intro wx hE
    rintro _ rfl _ rfl _ rfl _ rfl _ rfl _ rfl _ rfl _ rfl _ rfl _ rfl _ rfl _ rfl _ rfl _ rfl _ rfl _ rfl _ rfl _ rfl _ rfl _ rfl _ rfl _ rfl _ rfl _ rfl _ rfl _ rfl _ rfl
    simp only [FinOk, List.take_succ_cons, List.take_zero, List.take_nil, List.drop_succ_cons, List.drop_zero, List.drop_nil, Act.put, List.setIfInBounds_toArray, List.set_cons_succ, List.set_cons_zero]
    have hb : Below w3.heap.size w3 wx := hE.undrew.below (Nat.le_refl _) (fun _ _ => id)
    have Ewx : Hid (Below w.heap.size w wx) := Ew3.out.trans (hb.mono Ew3.out.size)
    have Ktwx : Hid (Bk wx w.heap.size bx) := Ktw3.out.below hb
    have Kuwx : Hid (Bk wx (w.heap.size + 1) by_) := Kuw3.out.below hb
    have Rawx : Hid (Rd wx (some ad) (bts lb)) := Raw3.out.below hb
    have Rbwx : Hid (Rd wx Ab (bts (encL r.k r.e r.q r.ps))) := Rbw3.out.below hb
    clear Ew3 Ktw3 Kuw3 Raw3 Rbw3
    clear hb hE
    have H0 : Hid (PPRel w ad lb Ab (encL r.k r.e r.q r.ps) bx by_ 4 (.int .i64 0) wx) := ⟨0, by decide, rfl, Rawx.out, Rbwx.out, Ktwx.out, Kuwx.out, Ewx.out⟩
    go_wp2_with fail
    clear Rawx Rbwx Ktwx Kuwx Ewx
    go_loopw [9] (fun v wr => PPRel w ad lb Ab (encL r.k r.e r.q r.ps) bx by_ 4 v wr) (fun v _ => 4 - (intOf v).toNat)
    case atStart => exact H0.out
    case round =>
      obtain ⟨k, hk, rfl, h1, h2, h3, h4, h5⟩ := hrel
      have Raq := Lib.hid h1
      have Rbq := Lib.hid h2
      have Ktq := Lib.hid h3
      have Kuq := Lib.hid h4
      have Eq := Lib.hid h5
      clear h1 h2 h3 h4 h5 H0
      by_cases hlt : k < 4
      · have h1M : (1 : Int) < (M : Int) := by omega
        have h2M : (2 : Int) < (M : Int) := by omega
        have h3M : (3 : Int) < (M : Int) := by omega
        have h4M : (4 : Int) < (M : Int) := by omega
        have h5M : (5 : Int) < (M : Int) := by omega
        have h6M : (6 : Int) < (M : Int) := by omega
        have h7M : (7 : Int) < (M : Int) := by omega
        have h8M : (8 : Int) < (M : Int) := by omega
        rcases upto4 hlt with rfl | rfl | rfl | rfl
        · clear hk
          go_wp2_with fail
          apply wp_region_rel 28 (Chg NoS) [(Veq _), (Veq _), (Veq _), (Veq _), (Veq _), (Veq _), (Veq _), (Veq _), (Veq _), (Veq _), (Veq _), (Veq _), (Veq _), (Veq _), (Veq _), (Veq _), (Veq _), (Veq _), (Veq _), (Veq _), (Veq _), (Veq _), (Veq _), (Veq _), (Veq _), (Veq _), (Veq _), (Veq _)] [[], [], [1], [0, 2], [3], [], [5], [], [7], [8], [6, 9], [10], [4, 11], [12], [13], [13], [13, 15], [13, 14, 16], [13, 17], [13], [13, 19], [13], [13, 21], [13, 22], [13, 20, 23], [13, 24], [13, 18, 25], [13, 26]] [72, 73, 74, 75, 76, 77, 78, 79, 80, 81, 82, 83, 84, 85, 86, 87, 88, 89, 90, 91, 92, 93, 94, 95, 96, 97, 98, 99] (by kernel_rfl) (by kernel_rfl) rfl rfl rfl Chg.refl (fun _ _ _ => Chg.trans) ⟨Veq.lasts, Veq.lasts, Veq.lasts, Veq.lasts, Veq.lasts, Veq.lasts, Veq.lasts, Veq.lasts, Veq.lasts, Veq.lasts, Veq.lasts, Veq.lasts, Veq.lasts, Veq.lasts, Veq.lasts, Veq.lasts, Veq.lasts, Veq.lasts, Veq.lasts, Veq.lasts, Veq.lasts, Veq.lasts, Veq.lasts, Veq.lasts, Veq.lasts, Veq.lasts, Veq.lasts, Veq.lasts, trivial⟩ ?r0ops ?r0fin
          case r0ops =>
            refine ⟨?r0o0, ?r0o1, ?r0o2, ?r0o3, ?r0o4, ?r0o5, ?r0o6, ?r0o7, ?r0o8, ?r0o9, ?r0o10, ?r0o11, ?r0o12, ?r0o13, ?r0o14, ?r0o15, ?r0o16, ?r0o17, ?r0o18, ?r0o19, ?r0o20, ?r0o21, ?r0o22, ?r0o23, ?r0o24, ?r0o25, ?r0o26, ?r0o27, trivial⟩
            case r0o0 =>
              intro a wx hE hin
              have i5 : a.eval (.tmp 5) = .slice (some ad) M ca := hin 5 rfl
              clear hin
              have hcst : ∀ v, a.eval (.const v) = v := fun _ => rfl
              have hfnc : ∀ f, a.eval (.func f) = .func (.func f) #[] #[] := fun _ => rfl
              refine want_none rfl ?_
              unfold Oper.wp
              generalize a.eval = ρ at *
              go_simp
              try go_bits
              first | exact rel_val (Chg.refl _) | (go_simp; exact rel_val (Chg.refl _))
            case r0o1 =>
              intro a wx hE hin
              have i9 : a.eval (.tmp 9) = .int .i64 0 := hin 9 rfl
              clear hin
              have hcst : ∀ v, a.eval (.const v) = v := fun _ => rfl
              have hfnc : ∀ f, a.eval (.func f) = .func (.func f) #[] #[] := fun _ => rfl
              refine want_none rfl ?_
              unfold Oper.wp
              generalize a.eval = ρ at *
              go_simp
              try go_bits
              first | exact rel_val (Chg.refl _) | (go_simp; exact rel_val (Chg.refl _))
            case r0o2 =>
              rintro a wx hE hin (h1 : a.eval (.tmp 73) = _)
              clear hin
              have hcst : ∀ v, a.eval (.const v) = v := fun _ => rfl
              have hfnc : ∀ f, a.eval (.func f) = .func (.func f) #[] #[] := fun _ => rfl
              refine want_none rfl ?_
              unfold Oper.wp
              generalize a.eval = ρ at *
              go_simp
              try go_bits
              first | exact rel_val (Chg.refl _) | (go_simp; exact rel_val (Chg.refl _))
            case r0o3 =>
              rintro a wx hE hin (h0 : a.eval (.tmp 72) = _) (h2 : a.eval (.tmp 74) = _)
              clear hin
              have hcst : ∀ v, a.eval (.const v) = v := fun _ => rfl
              have hfnc : ∀ f, a.eval (.func f) = .func (.func f) #[] #[] := fun _ => rfl
              refine want_none rfl ?_
              unfold Oper.wp
              generalize a.eval = ρ at *
              go_simp
              try go_bits
              first | exact rel_val (Chg.refl _) | (go_simp; exact rel_val (Chg.refl _))
            case r0o4 =>
              rintro a wx hE hin (h3 : a.eval (.tmp 75) = _)
              clear hin
              have hcst : ∀ v, a.eval (.const v) = v := fun _ => rfl
              have hfnc : ∀ f, a.eval (.func f) = .func (.func f) #[] #[] := fun _ => rfl
              refine want_none rfl ?_
              unfold Oper.wp
              generalize a.eval = ρ at *
              have c : wx.cell? { block := ad.block, off := ad.off + 1 } = some (.int .u8 (((p.e.toNat : Nat) : Int) % 256)) := rd_cell (Raq.out.below (hE.undrew.below (Nat.le_refl _) (fun _ _ => id))) HG0.out (by omega)
              go_simp
              try go_bits
              first | exact rel_val (Chg.refl _) | (go_simp; exact rel_val (Chg.refl _))
            case r0o5 =>
              intro a wx hE hin
              have i2 : a.eval (.tmp 2) = .pointer (some ⟨w.heap.size, 0, none⟩) := hin 2 rfl
              clear hin
              have hcst : ∀ v, a.eval (.const v) = v := fun _ => rfl
              have hfnc : ∀ f, a.eval (.func f) = .func (.func f) #[] #[] := fun _ => rfl
              refine want_none rfl ?_
              unfold Oper.wp
              generalize a.eval = ρ at *
              go_simp
              try go_bits
              first | exact rel_val (Chg.refl _) | (go_simp; exact rel_val (Chg.refl _))
            case r0o6 =>
              rintro a wx hE hin (h5 : a.eval (.tmp 77) = _)
              clear hin
              have hcst : ∀ v, a.eval (.const v) = v := fun _ => rfl
              have hfnc : ∀ f, a.eval (.func f) = .func (.func f) #[] #[] := fun _ => rfl
              refine want_none rfl ?_
              unfold Oper.wp
              generalize a.eval = ρ at *
              have c := Bk.cell (Ktq.out.drew.chg hE id) D1.out
              go_simp
              try go_bits
              first | exact rel_val (Chg.refl _) | (go_simp; exact rel_val (Chg.refl _))
            case r0o7 =>
              intro a wx hE hin
              have i9 : a.eval (.tmp 9) = .int .i64 0 := hin 9 rfl
              clear hin
              have hcst : ∀ v, a.eval (.const v) = v := fun _ => rfl
              have hfnc : ∀ f, a.eval (.func f) = .func (.func f) #[] #[] := fun _ => rfl
              refine want_none rfl ?_
              unfold Oper.wp
              generalize a.eval = ρ at *
              go_simp
              try go_bits
              first | exact rel_val (Chg.refl _) | (go_simp; exact rel_val (Chg.refl _))
            case r0o8 =>
              rintro a wx hE hin (h7 : a.eval (.tmp 79) = _)
              clear hin
              have hcst : ∀ v, a.eval (.const v) = v := fun _ => rfl
              have hfnc : ∀ f, a.eval (.func f) = .func (.func f) #[] #[] := fun _ => rfl
              refine want_none rfl ?_
              unfold Oper.wp
              generalize a.eval = ρ at *
              go_simp
              try go_bits
              first | exact rel_val (Chg.refl _) | (go_simp; exact rel_val (Chg.refl _))
            case r0o9 =>
              rintro a wx hE hin (h8 : a.eval (.tmp 80) = _)
              clear hin
              have hcst : ∀ v, a.eval (.const v) = v := fun _ => rfl
              have hfnc : ∀ f, a.eval (.func f) = .func (.func f) #[] #[] := fun _ => rfl
              refine want_none rfl ?_
              unfold Oper.wp
              generalize a.eval = ρ at *
              go_simp
              try go_bits
              first | exact rel_val (Chg.refl _) | (go_simp; exact rel_val (Chg.refl _))
            case r0o10 =>
              rintro a wx hE hin (h6 : a.eval (.tmp 78) = _) (h9 : a.eval (.tmp 81) = _)
              clear hin
              have hcst : ∀ v, a.eval (.const v) = v := fun _ => rfl
              have hfnc : ∀ f, a.eval (.func f) = .func (.func f) #[] #[] := fun _ => rfl
              refine want_none rfl ?_
              unfold Oper.wp
              generalize a.eval = ρ at *
              go_simp
              try go_bits
              first | exact rel_val (Chg.refl _) | (go_simp; exact rel_val (Chg.refl _))
            case r0o11 =>
              rintro a wx hE hin (h10 : a.eval (.tmp 82) = _)
              clear hin
              have hcst : ∀ v, a.eval (.const v) = v := fun _ => rfl
              have hfnc : ∀ f, a.eval (.func f) = .func (.func f) #[] #[] := fun _ => rfl
              refine want_none rfl ?_
              unfold Oper.wp
              generalize a.eval = ρ at *
              go_simp
              try go_bits
              first | exact rel_val (Chg.refl _) | (go_simp; exact rel_val (Chg.refl _))
            case r0o12 =>
              rintro a wx hE hin (h4 : a.eval (.tmp 76) = _) (h11 : a.eval (.tmp 83) = _)
              clear hin
              have hcst : ∀ v, a.eval (.const v) = v := fun _ => rfl
              have hfnc : ∀ f, a.eval (.func f) = .func (.func f) #[] #[] := fun _ => rfl
              refine want_none rfl ?_
              unfold Oper.wp
              generalize a.eval = ρ at *
              go_simp
              try go_bits
              first | exact rel_val (e := .bool false) (Chg.refl _) | (simp only [bne_self_eq_false]; exact rel_val (e := .bool false) (Chg.refl _)) | (simp; exact rel_val (e := .bool false) (Chg.refl _))
            case r0o13 =>
              rintro a wx hE hin (h12 : a.eval (.tmp 84) = _)
              clear hin
              have hcst : ∀ v, a.eval (.const v) = v := fun _ => rfl
              have hfnc : ∀ f, a.eval (.func f) = .func (.func f) #[] #[] := fun _ => rfl
              refine want_none rfl ?_
              unfold Oper.wp
              generalize a.eval = ρ at *
              go_simp
              try go_bits
              first | exact rel_val (Chg.refl _) | (go_simp; exact rel_val (Chg.refl _))
            case r0o14 =>
              rintro a wx hE hin (h13 : a.eval (.tmp 85) = _)
              have i5 : a.eval (.tmp 5) = .slice (some ad) M ca := hin 5 rfl
              clear hin
              have hcst : ∀ v, a.eval (.const v) = v := fun _ => rfl
              have hfnc : ∀ f, a.eval (.func f) = .func (.func f) #[] #[] := fun _ => rfl
              refine want_yes rfl rfl h13 ?_
              unfold Oper.wp
              generalize a.eval = ρ at *
              go_simp
              try go_bits
              first | exact rel_val (Chg.refl _) | (go_simp; exact rel_val (Chg.refl _))
            case r0o15 =>
              rintro a wx hE hin (h13 : a.eval (.tmp 85) = _)
              have i9 : a.eval (.tmp 9) = .int .i64 0 := hin 9 rfl
              clear hin
              have hcst : ∀ v, a.eval (.const v) = v := fun _ => rfl
              have hfnc : ∀ f, a.eval (.func f) = .func (.func f) #[] #[] := fun _ => rfl
              refine want_yes rfl rfl h13 ?_
              unfold Oper.wp
              generalize a.eval = ρ at *
              go_simp
              try go_bits
              first | exact rel_val (Chg.refl _) | (go_simp; exact rel_val (Chg.refl _))
            case r0o16 =>
              rintro a wx hE hin (h13 : a.eval (.tmp 85) = _) (h15 : a.eval (.tmp 87) = _)
              clear hin
              have hcst : ∀ v, a.eval (.const v) = v := fun _ => rfl
              have hfnc : ∀ f, a.eval (.func f) = .func (.func f) #[] #[] := fun _ => rfl
              refine want_yes rfl rfl h13 ?_
              unfold Oper.wp
              generalize a.eval = ρ at *
              go_simp
              try go_bits
              first | exact rel_val (Chg.refl _) | (go_simp; exact rel_val (Chg.refl _))
            case r0o17 =>
              rintro a wx hE hin (h13 : a.eval (.tmp 85) = _) (h14 : a.eval (.tmp 86) = _) (h16 : a.eval (.tmp 88) = _)
              clear hin
              have hcst : ∀ v, a.eval (.const v) = v := fun _ => rfl
              have hfnc : ∀ f, a.eval (.func f) = .func (.func f) #[] #[] := fun _ => rfl
              refine want_yes rfl rfl h13 ?_
              unfold Oper.wp
              generalize a.eval = ρ at *
              go_simp
              try go_bits
              first | exact rel_val (Chg.refl _) | (go_simp; exact rel_val (Chg.refl _))
            case r0o18 =>
              rintro a wx hE hin (h13 : a.eval (.tmp 85) = _) (h17 : a.eval (.tmp 89) = _)
              clear hin
              have hcst : ∀ v, a.eval (.const v) = v := fun _ => rfl
              have hfnc : ∀ f, a.eval (.func f) = .func (.func f) #[] #[] := fun _ => rfl
              refine want_yes rfl rfl h13 ?_
              unfold Oper.wp
              generalize a.eval = ρ at *
              have c : wx.cell? { block := ad.block, off := ad.off + 5 } = some (.int .u8 (((p.q.toNat : Nat) : Int) % 256)) := rd_cell (Raq.out.below (hE.undrew.below (Nat.le_refl _) (fun _ _ => id))) HG4.out (by omega)
              go_simp
              try go_bits
              first | exact rel_val (Chg.refl _) | (go_simp; exact rel_val (Chg.refl _))
            case r0o19 =>
              rintro a wx hE hin (h13 : a.eval (.tmp 85) = _)
              have i2 : a.eval (.tmp 2) = .pointer (some ⟨w.heap.size, 0, none⟩) := hin 2 rfl
              clear hin
              have hcst : ∀ v, a.eval (.const v) = v := fun _ => rfl
              have hfnc : ∀ f, a.eval (.func f) = .func (.func f) #[] #[] := fun _ => rfl
              refine want_yes rfl rfl h13 ?_
              unfold Oper.wp
              generalize a.eval = ρ at *
              go_simp
              try go_bits
              first | exact rel_val (Chg.refl _) | (go_simp; exact rel_val (Chg.refl _))
            case r0o20 =>
              rintro a wx hE hin (h13 : a.eval (.tmp 85) = _) (h19 : a.eval (.tmp 91) = _)
              clear hin
              have hcst : ∀ v, a.eval (.const v) = v := fun _ => rfl
              have hfnc : ∀ f, a.eval (.func f) = .func (.func f) #[] #[] := fun _ => rfl
              refine want_yes rfl rfl h13 ?_
              unfold Oper.wp
              generalize a.eval = ρ at *
              have c := Bk.cell (Ktq.out.drew.chg hE id) D2.out
              go_simp
              try go_bits
              first | exact rel_val (Chg.refl _) | (go_simp; exact rel_val (Chg.refl _))
            case r0o21 =>
              rintro a wx hE hin (h13 : a.eval (.tmp 85) = _)
              have i9 : a.eval (.tmp 9) = .int .i64 0 := hin 9 rfl
              clear hin
              have hcst : ∀ v, a.eval (.const v) = v := fun _ => rfl
              have hfnc : ∀ f, a.eval (.func f) = .func (.func f) #[] #[] := fun _ => rfl
              refine want_yes rfl rfl h13 ?_
              unfold Oper.wp
              generalize a.eval = ρ at *
              go_simp
              try go_bits
              first | exact rel_val (Chg.refl _) | (go_simp; exact rel_val (Chg.refl _))
            case r0o22 =>
              rintro a wx hE hin (h13 : a.eval (.tmp 85) = _) (h21 : a.eval (.tmp 93) = _)
              clear hin
              have hcst : ∀ v, a.eval (.const v) = v := fun _ => rfl
              have hfnc : ∀ f, a.eval (.func f) = .func (.func f) #[] #[] := fun _ => rfl
              refine want_yes rfl rfl h13 ?_
              unfold Oper.wp
              generalize a.eval = ρ at *
              go_simp
              try go_bits
              first | exact rel_val (Chg.refl _) | (go_simp; exact rel_val (Chg.refl _))
            case r0o23 =>
              rintro a wx hE hin (h13 : a.eval (.tmp 85) = _) (h22 : a.eval (.tmp 94) = _)
              clear hin
              have hcst : ∀ v, a.eval (.const v) = v := fun _ => rfl
              have hfnc : ∀ f, a.eval (.func f) = .func (.func f) #[] #[] := fun _ => rfl
              refine want_yes rfl rfl h13 ?_
              unfold Oper.wp
              generalize a.eval = ρ at *
              go_simp
              try go_bits
              first | exact rel_val (Chg.refl _) | (go_simp; exact rel_val (Chg.refl _))
            case r0o24 =>
              rintro a wx hE hin (h13 : a.eval (.tmp 85) = _) (h20 : a.eval (.tmp 92) = _) (h23 : a.eval (.tmp 95) = _)
              clear hin
              have hcst : ∀ v, a.eval (.const v) = v := fun _ => rfl
              have hfnc : ∀ f, a.eval (.func f) = .func (.func f) #[] #[] := fun _ => rfl
              refine want_yes rfl rfl h13 ?_
              unfold Oper.wp
              generalize a.eval = ρ at *
              go_simp
              try go_bits
              first | exact rel_val (Chg.refl _) | (go_simp; exact rel_val (Chg.refl _))
            case r0o25 =>
              rintro a wx hE hin (h13 : a.eval (.tmp 85) = _) (h24 : a.eval (.tmp 96) = _)
              clear hin
              have hcst : ∀ v, a.eval (.const v) = v := fun _ => rfl
              have hfnc : ∀ f, a.eval (.func f) = .func (.func f) #[] #[] := fun _ => rfl
              refine want_yes rfl rfl h13 ?_
              unfold Oper.wp
              generalize a.eval = ρ at *
              go_simp
              try go_bits
              first | exact rel_val (Chg.refl _) | (go_simp; exact rel_val (Chg.refl _))
            case r0o26 =>
              rintro a wx hE hin (h13 : a.eval (.tmp 85) = _) (h18 : a.eval (.tmp 90) = _) (h25 : a.eval (.tmp 97) = _)
              clear hin
              have hcst : ∀ v, a.eval (.const v) = v := fun _ => rfl
              have hfnc : ∀ f, a.eval (.func f) = .func (.func f) #[] #[] := fun _ => rfl
              refine want_yes rfl rfl h13 ?_
              unfold Oper.wp
              generalize a.eval = ρ at *
              go_simp
              try go_bits
              first | exact rel_val (e := .bool false) (Chg.refl _) | (simp only [bne_self_eq_false]; exact rel_val (e := .bool false) (Chg.refl _)) | (simp; exact rel_val (e := .bool false) (Chg.refl _))
            case r0o27 =>
              rintro a wx hE hin (h13 : a.eval (.tmp 85) = _) (h26 : a.eval (.tmp 98) = _)
              clear hin
              have hcst : ∀ v, a.eval (.const v) = v := fun _ => rfl
              have hfnc : ∀ f, a.eval (.func f) = .func (.func f) #[] #[] := fun _ => rfl
              refine want_none rfl ?_
              unfold Oper.wp
              generalize a.eval = ρ at *
              go_simp
              try go_bits
              first | exact rel_val (Chg.refl _) | (go_simp; exact rel_val (Chg.refl _))
          case r0fin =>
            intro wx hE
            rintro _ rfl _ rfl _ rfl _ rfl _ rfl _ rfl _ rfl _ rfl _ rfl _ rfl _ rfl _ rfl _ rfl _ rfl _ rfl _ rfl _ rfl _ rfl _ rfl _ rfl _ rfl _ rfl _ rfl _ rfl _ rfl _ rfl _ rfl _ rfl
            simp only [FinOk, List.take_succ_cons, List.take_zero, List.take_nil, List.drop_succ_cons, List.drop_zero, List.drop_nil, Act.put, List.setIfInBounds_toArray, List.set_cons_succ, List.set_cons_zero]
            have hb : Below wr.heap.size wr wx := hE.undrew.below (Nat.le_refl _) (fun _ _ => id)
            have Ewx : Hid (Below w.heap.size w wx) := Eq.out.trans (hb.mono Eq.out.size)
            have Ktwx : Hid (Bk wx w.heap.size bx) := Ktq.out.below hb
            have Kuwx : Hid (Bk wx (w.heap.size + 1) by_) := Kuq.out.below hb
            have Rawx : Hid (Rd wx (some ad) (bts lb)) := Raq.out.below hb
            have Rbwx : Hid (Rd wx Ab (bts (encL r.k r.e r.q r.ps))) := Rbq.out.below hb
            clear Eq Ktq Kuq Raq Rbq
            clear hb hE
            go_wp2_with fail
            go_roundw
            case rel => exact ⟨1, by omega, by first | rfl | go_num, Rawx.out, Rbwx.out, Ktwx.out, Kuwx.out, Ewx.out⟩
            case measure => simp [intOf]
        · clear hk
          go_wp2_with fail
          apply wp_region_rel 28 (Chg NoS) [(Veq _), (Veq _), (Veq _), (Veq _), (Veq _), (Veq _), (Veq _), (Veq _), (Veq _), (Veq _), (Veq _), (Veq _), (Veq _), (Veq _), (Veq _), (Veq _), (Veq _), (Veq _), (Veq _), (Veq _), (Veq _), (Veq _), (Veq _), (Veq _), (Veq _), (Veq _), (Veq _), (Veq _)] [[], [], [1], [0, 2], [3], [], [5], [], [7], [8], [6, 9], [10], [4, 11], [12], [13], [13], [13, 15], [13, 14, 16], [13, 17], [13], [13, 19], [13], [13, 21], [13, 22], [13, 20, 23], [13, 24], [13, 18, 25], [13, 26]] [72, 73, 74, 75, 76, 77, 78, 79, 80, 81, 82, 83, 84, 85, 86, 87, 88, 89, 90, 91, 92, 93, 94, 95, 96, 97, 98, 99] (by kernel_rfl) (by kernel_rfl) rfl rfl rfl Chg.refl (fun _ _ _ => Chg.trans) ⟨Veq.lasts, Veq.lasts, Veq.lasts, Veq.lasts, Veq.lasts, Veq.lasts, Veq.lasts, Veq.lasts, Veq.lasts, Veq.lasts, Veq.lasts, Veq.lasts, Veq.lasts, Veq.lasts, Veq.lasts, Veq.lasts, Veq.lasts, Veq.lasts, Veq.lasts, Veq.lasts, Veq.lasts, Veq.lasts, Veq.lasts, Veq.lasts, Veq.lasts, Veq.lasts, Veq.lasts, Veq.lasts, trivial⟩ ?r1ops ?r1fin
          case r1ops =>
            refine ⟨?r1o0, ?r1o1, ?r1o2, ?r1o3, ?r1o4, ?r1o5, ?r1o6, ?r1o7, ?r1o8, ?r1o9, ?r1o10, ?r1o11, ?r1o12, ?r1o13, ?r1o14, ?r1o15, ?r1o16, ?r1o17, ?r1o18, ?r1o19, ?r1o20, ?r1o21, ?r1o22, ?r1o23, ?r1o24, ?r1o25, ?r1o26, ?r1o27, trivial⟩
            case r1o0 =>
              intro a wx hE hin
              have i5 : a.eval (.tmp 5) = .slice (some ad) M ca := hin 5 rfl
              clear hin
              have hcst : ∀ v, a.eval (.const v) = v := fun _ => rfl
              have hfnc : ∀ f, a.eval (.func f) = .func (.func f) #[] #[] := fun _ => rfl
              refine want_none rfl ?_
              unfold Oper.wp
              generalize a.eval = ρ at *
              go_simp
              try go_bits
              first | exact rel_val (Chg.refl _) | (go_simp; exact rel_val (Chg.refl _))
            case r1o1 =>
              intro a wx hE hin
              have i9 : a.eval (.tmp 9) = .int .i64 1 := hin 9 rfl
              clear hin
              have hcst : ∀ v, a.eval (.const v) = v := fun _ => rfl
              have hfnc : ∀ f, a.eval (.func f) = .func (.func f) #[] #[] := fun _ => rfl
              refine want_none rfl ?_
              unfold Oper.wp
              generalize a.eval = ρ at *
              go_simp
              try go_bits
              first | exact rel_val (Chg.refl _) | (go_simp; exact rel_val (Chg.refl _))
            case r1o2 =>
              rintro a wx hE hin (h1 : a.eval (.tmp 73) = _)
              clear hin
              have hcst : ∀ v, a.eval (.const v) = v := fun _ => rfl
              have hfnc : ∀ f, a.eval (.func f) = .func (.func f) #[] #[] := fun _ => rfl
              refine want_none rfl ?_
              unfold Oper.wp
              generalize a.eval = ρ at *
              go_simp
              try go_bits
              first | exact rel_val (Chg.refl _) | (go_simp; exact rel_val (Chg.refl _))
            case r1o3 =>
              rintro a wx hE hin (h0 : a.eval (.tmp 72) = _) (h2 : a.eval (.tmp 74) = _)
              clear hin
              have hcst : ∀ v, a.eval (.const v) = v := fun _ => rfl
              have hfnc : ∀ f, a.eval (.func f) = .func (.func f) #[] #[] := fun _ => rfl
              refine want_none rfl ?_
              unfold Oper.wp
              generalize a.eval = ρ at *
              go_simp
              try go_bits
              first | exact rel_val (Chg.refl _) | (go_simp; exact rel_val (Chg.refl _))
            case r1o4 =>
              rintro a wx hE hin (h3 : a.eval (.tmp 75) = _)
              clear hin
              have hcst : ∀ v, a.eval (.const v) = v := fun _ => rfl
              have hfnc : ∀ f, a.eval (.func f) = .func (.func f) #[] #[] := fun _ => rfl
              refine want_none rfl ?_
              unfold Oper.wp
              generalize a.eval = ρ at *
              have c : wx.cell? { block := ad.block, off := ad.off + 2 } = some (.int .u8 (((p.e.toNat : Nat) : Int) / 256 % 256)) := rd_cell (Raq.out.below (hE.undrew.below (Nat.le_refl _) (fun _ _ => id))) HG1.out (by omega)
              go_simp
              try go_bits
              first | exact rel_val (Chg.refl _) | (go_simp; exact rel_val (Chg.refl _))
            case r1o5 =>
              intro a wx hE hin
              have i2 : a.eval (.tmp 2) = .pointer (some ⟨w.heap.size, 0, none⟩) := hin 2 rfl
              clear hin
              have hcst : ∀ v, a.eval (.const v) = v := fun _ => rfl
              have hfnc : ∀ f, a.eval (.func f) = .func (.func f) #[] #[] := fun _ => rfl
              refine want_none rfl ?_
              unfold Oper.wp
              generalize a.eval = ρ at *
              go_simp
              try go_bits
              first | exact rel_val (Chg.refl _) | (go_simp; exact rel_val (Chg.refl _))
            case r1o6 =>
              rintro a wx hE hin (h5 : a.eval (.tmp 77) = _)
              clear hin
              have hcst : ∀ v, a.eval (.const v) = v := fun _ => rfl
              have hfnc : ∀ f, a.eval (.func f) = .func (.func f) #[] #[] := fun _ => rfl
              refine want_none rfl ?_
              unfold Oper.wp
              generalize a.eval = ρ at *
              have c := Bk.cell (Ktq.out.drew.chg hE id) D1.out
              go_simp
              try go_bits
              first | exact rel_val (Chg.refl _) | (go_simp; exact rel_val (Chg.refl _))
            case r1o7 =>
              intro a wx hE hin
              have i9 : a.eval (.tmp 9) = .int .i64 1 := hin 9 rfl
              clear hin
              have hcst : ∀ v, a.eval (.const v) = v := fun _ => rfl
              have hfnc : ∀ f, a.eval (.func f) = .func (.func f) #[] #[] := fun _ => rfl
              refine want_none rfl ?_
              unfold Oper.wp
              generalize a.eval = ρ at *
              go_simp
              try go_bits
              first | exact rel_val (Chg.refl _) | (go_simp; exact rel_val (Chg.refl _))
            case r1o8 =>
              rintro a wx hE hin (h7 : a.eval (.tmp 79) = _)
              clear hin
              have hcst : ∀ v, a.eval (.const v) = v := fun _ => rfl
              have hfnc : ∀ f, a.eval (.func f) = .func (.func f) #[] #[] := fun _ => rfl
              refine want_none rfl ?_
              unfold Oper.wp
              generalize a.eval = ρ at *
              go_simp
              try go_bits
              first | exact rel_val (Chg.refl _) | (go_simp; exact rel_val (Chg.refl _))
            case r1o9 =>
              rintro a wx hE hin (h8 : a.eval (.tmp 80) = _)
              clear hin
              have hcst : ∀ v, a.eval (.const v) = v := fun _ => rfl
              have hfnc : ∀ f, a.eval (.func f) = .func (.func f) #[] #[] := fun _ => rfl
              refine want_none rfl ?_
              unfold Oper.wp
              generalize a.eval = ρ at *
              go_simp
              try go_bits
              first | exact rel_val (Chg.refl _) | (go_simp; exact rel_val (Chg.refl _))
            case r1o10 =>
              rintro a wx hE hin (h6 : a.eval (.tmp 78) = _) (h9 : a.eval (.tmp 81) = _)
              clear hin
              have hcst : ∀ v, a.eval (.const v) = v := fun _ => rfl
              have hfnc : ∀ f, a.eval (.func f) = .func (.func f) #[] #[] := fun _ => rfl
              refine want_none rfl ?_
              unfold Oper.wp
              generalize a.eval = ρ at *
              go_simp
              try go_bits
              first | exact rel_val (Chg.refl _) | (go_simp; exact rel_val (Chg.refl _))
            case r1o11 =>
              rintro a wx hE hin (h10 : a.eval (.tmp 82) = _)
              clear hin
              have hcst : ∀ v, a.eval (.const v) = v := fun _ => rfl
              have hfnc : ∀ f, a.eval (.func f) = .func (.func f) #[] #[] := fun _ => rfl
              refine want_none rfl ?_
              unfold Oper.wp
              generalize a.eval = ρ at *
              go_simp
              try go_bits
              first | exact rel_val (Chg.refl _) | (go_simp; exact rel_val (Chg.refl _))
            case r1o12 =>
              rintro a wx hE hin (h4 : a.eval (.tmp 76) = _) (h11 : a.eval (.tmp 83) = _)
              clear hin
              have hcst : ∀ v, a.eval (.const v) = v := fun _ => rfl
              have hfnc : ∀ f, a.eval (.func f) = .func (.func f) #[] #[] := fun _ => rfl
              refine want_none rfl ?_
              unfold Oper.wp
              generalize a.eval = ρ at *
              go_simp
              try go_bits
              first | exact rel_val (e := .bool false) (Chg.refl _) | (simp only [bne_self_eq_false]; exact rel_val (e := .bool false) (Chg.refl _)) | (simp; exact rel_val (e := .bool false) (Chg.refl _))
            case r1o13 =>
              rintro a wx hE hin (h12 : a.eval (.tmp 84) = _)
              clear hin
              have hcst : ∀ v, a.eval (.const v) = v := fun _ => rfl
              have hfnc : ∀ f, a.eval (.func f) = .func (.func f) #[] #[] := fun _ => rfl
              refine want_none rfl ?_
              unfold Oper.wp
              generalize a.eval = ρ at *
              go_simp
              try go_bits
              first | exact rel_val (Chg.refl _) | (go_simp; exact rel_val (Chg.refl _))
            case r1o14 =>
              rintro a wx hE hin (h13 : a.eval (.tmp 85) = _)
              have i5 : a.eval (.tmp 5) = .slice (some ad) M ca := hin 5 rfl
              clear hin
              have hcst : ∀ v, a.eval (.const v) = v := fun _ => rfl
              have hfnc : ∀ f, a.eval (.func f) = .func (.func f) #[] #[] := fun _ => rfl
              refine want_yes rfl rfl h13 ?_
              unfold Oper.wp
              generalize a.eval = ρ at *
              go_simp
              try go_bits
              first | exact rel_val (Chg.refl _) | (go_simp; exact rel_val (Chg.refl _))
            case r1o15 =>
              rintro a wx hE hin (h13 : a.eval (.tmp 85) = _)
              have i9 : a.eval (.tmp 9) = .int .i64 1 := hin 9 rfl
              clear hin
              have hcst : ∀ v, a.eval (.const v) = v := fun _ => rfl
              have hfnc : ∀ f, a.eval (.func f) = .func (.func f) #[] #[] := fun _ => rfl
              refine want_yes rfl rfl h13 ?_
              unfold Oper.wp
              generalize a.eval = ρ at *
              go_simp
              try go_bits
              first | exact rel_val (Chg.refl _) | (go_simp; exact rel_val (Chg.refl _))
            case r1o16 =>
              rintro a wx hE hin (h13 : a.eval (.tmp 85) = _) (h15 : a.eval (.tmp 87) = _)
              clear hin
              have hcst : ∀ v, a.eval (.const v) = v := fun _ => rfl
              have hfnc : ∀ f, a.eval (.func f) = .func (.func f) #[] #[] := fun _ => rfl
              refine want_yes rfl rfl h13 ?_
              unfold Oper.wp
              generalize a.eval = ρ at *
              go_simp
              try go_bits
              first | exact rel_val (Chg.refl _) | (go_simp; exact rel_val (Chg.refl _))
            case r1o17 =>
              rintro a wx hE hin (h13 : a.eval (.tmp 85) = _) (h14 : a.eval (.tmp 86) = _) (h16 : a.eval (.tmp 88) = _)
              clear hin
              have hcst : ∀ v, a.eval (.const v) = v := fun _ => rfl
              have hfnc : ∀ f, a.eval (.func f) = .func (.func f) #[] #[] := fun _ => rfl
              refine want_yes rfl rfl h13 ?_
              unfold Oper.wp
              generalize a.eval = ρ at *
              go_simp
              try go_bits
              first | exact rel_val (Chg.refl _) | (go_simp; exact rel_val (Chg.refl _))
            case r1o18 =>
              rintro a wx hE hin (h13 : a.eval (.tmp 85) = _) (h17 : a.eval (.tmp 89) = _)
              clear hin
              have hcst : ∀ v, a.eval (.const v) = v := fun _ => rfl
              have hfnc : ∀ f, a.eval (.func f) = .func (.func f) #[] #[] := fun _ => rfl
              refine want_yes rfl rfl h13 ?_
              unfold Oper.wp
              generalize a.eval = ρ at *
              have c : wx.cell? { block := ad.block, off := ad.off + 6 } = some (.int .u8 (((p.q.toNat : Nat) : Int) / 256 % 256)) := rd_cell (Raq.out.below (hE.undrew.below (Nat.le_refl _) (fun _ _ => id))) HG5.out (by omega)
              go_simp
              try go_bits
              first | exact rel_val (Chg.refl _) | (go_simp; exact rel_val (Chg.refl _))
            case r1o19 =>
              rintro a wx hE hin (h13 : a.eval (.tmp 85) = _)
              have i2 : a.eval (.tmp 2) = .pointer (some ⟨w.heap.size, 0, none⟩) := hin 2 rfl
              clear hin
              have hcst : ∀ v, a.eval (.const v) = v := fun _ => rfl
              have hfnc : ∀ f, a.eval (.func f) = .func (.func f) #[] #[] := fun _ => rfl
              refine want_yes rfl rfl h13 ?_
              unfold Oper.wp
              generalize a.eval = ρ at *
              go_simp
              try go_bits
              first | exact rel_val (Chg.refl _) | (go_simp; exact rel_val (Chg.refl _))
            case r1o20 =>
              rintro a wx hE hin (h13 : a.eval (.tmp 85) = _) (h19 : a.eval (.tmp 91) = _)
              clear hin
              have hcst : ∀ v, a.eval (.const v) = v := fun _ => rfl
              have hfnc : ∀ f, a.eval (.func f) = .func (.func f) #[] #[] := fun _ => rfl
              refine want_yes rfl rfl h13 ?_
              unfold Oper.wp
              generalize a.eval = ρ at *
              have c := Bk.cell (Ktq.out.drew.chg hE id) D2.out
              go_simp
              try go_bits
              first | exact rel_val (Chg.refl _) | (go_simp; exact rel_val (Chg.refl _))
            case r1o21 =>
              rintro a wx hE hin (h13 : a.eval (.tmp 85) = _)
              have i9 : a.eval (.tmp 9) = .int .i64 1 := hin 9 rfl
              clear hin
              have hcst : ∀ v, a.eval (.const v) = v := fun _ => rfl
              have hfnc : ∀ f, a.eval (.func f) = .func (.func f) #[] #[] := fun _ => rfl
              refine want_yes rfl rfl h13 ?_
              unfold Oper.wp
              generalize a.eval = ρ at *
              go_simp
              try go_bits
              first | exact rel_val (Chg.refl _) | (go_simp; exact rel_val (Chg.refl _))
            case r1o22 =>
              rintro a wx hE hin (h13 : a.eval (.tmp 85) = _) (h21 : a.eval (.tmp 93) = _)
              clear hin
              have hcst : ∀ v, a.eval (.const v) = v := fun _ => rfl
              have hfnc : ∀ f, a.eval (.func f) = .func (.func f) #[] #[] := fun _ => rfl
              refine want_yes rfl rfl h13 ?_
              unfold Oper.wp
              generalize a.eval = ρ at *
              go_simp
              try go_bits
              first | exact rel_val (Chg.refl _) | (go_simp; exact rel_val (Chg.refl _))
            case r1o23 =>
              rintro a wx hE hin (h13 : a.eval (.tmp 85) = _) (h22 : a.eval (.tmp 94) = _)
              clear hin
              have hcst : ∀ v, a.eval (.const v) = v := fun _ => rfl
              have hfnc : ∀ f, a.eval (.func f) = .func (.func f) #[] #[] := fun _ => rfl
              refine want_yes rfl rfl h13 ?_
              unfold Oper.wp
              generalize a.eval = ρ at *
              go_simp
              try go_bits
              first | exact rel_val (Chg.refl _) | (go_simp; exact rel_val (Chg.refl _))
            case r1o24 =>
              rintro a wx hE hin (h13 : a.eval (.tmp 85) = _) (h20 : a.eval (.tmp 92) = _) (h23 : a.eval (.tmp 95) = _)
              clear hin
              have hcst : ∀ v, a.eval (.const v) = v := fun _ => rfl
              have hfnc : ∀ f, a.eval (.func f) = .func (.func f) #[] #[] := fun _ => rfl
              refine want_yes rfl rfl h13 ?_
              unfold Oper.wp
              generalize a.eval = ρ at *
              go_simp
              try go_bits
              first | exact rel_val (Chg.refl _) | (go_simp; exact rel_val (Chg.refl _))
            case r1o25 =>
              rintro a wx hE hin (h13 : a.eval (.tmp 85) = _) (h24 : a.eval (.tmp 96) = _)
              clear hin
              have hcst : ∀ v, a.eval (.const v) = v := fun _ => rfl
              have hfnc : ∀ f, a.eval (.func f) = .func (.func f) #[] #[] := fun _ => rfl
              refine want_yes rfl rfl h13 ?_
              unfold Oper.wp
              generalize a.eval = ρ at *
              go_simp
              try go_bits
              first | exact rel_val (Chg.refl _) | (go_simp; exact rel_val (Chg.refl _))
            case r1o26 =>
              rintro a wx hE hin (h13 : a.eval (.tmp 85) = _) (h18 : a.eval (.tmp 90) = _) (h25 : a.eval (.tmp 97) = _)
              clear hin
              have hcst : ∀ v, a.eval (.const v) = v := fun _ => rfl
              have hfnc : ∀ f, a.eval (.func f) = .func (.func f) #[] #[] := fun _ => rfl
              refine want_yes rfl rfl h13 ?_
              unfold Oper.wp
              generalize a.eval = ρ at *
              go_simp
              try go_bits
              first | exact rel_val (e := .bool false) (Chg.refl _) | (simp only [bne_self_eq_false]; exact rel_val (e := .bool false) (Chg.refl _)) | (simp; exact rel_val (e := .bool false) (Chg.refl _))
            case r1o27 =>
              rintro a wx hE hin (h13 : a.eval (.tmp 85) = _) (h26 : a.eval (.tmp 98) = _)
              clear hin
              have hcst : ∀ v, a.eval (.const v) = v := fun _ => rfl
              have hfnc : ∀ f, a.eval (.func f) = .func (.func f) #[] #[] := fun _ => rfl
              refine want_none rfl ?_
              unfold Oper.wp
              generalize a.eval = ρ at *
              go_simp
              try go_bits
              first | exact rel_val (Chg.refl _) | (go_simp; exact rel_val (Chg.refl _))
          case r1fin =>
            intro wx hE
            rintro _ rfl _ rfl _ rfl _ rfl _ rfl _ rfl _ rfl _ rfl _ rfl _ rfl _ rfl _ rfl _ rfl _ rfl _ rfl _ rfl _ rfl _ rfl _ rfl _ rfl _ rfl _ rfl _ rfl _ rfl _ rfl _ rfl _ rfl _ rfl
            simp only [FinOk, List.take_succ_cons, List.take_zero, List.take_nil, List.drop_succ_cons, List.drop_zero, List.drop_nil, Act.put, List.setIfInBounds_toArray, List.set_cons_succ, List.set_cons_zero]
            have hb : Below wr.heap.size wr wx := hE.undrew.below (Nat.le_refl _) (fun _ _ => id)
            have Ewx : Hid (Below w.heap.size w wx) := Eq.out.trans (hb.mono Eq.out.size)
            have Ktwx : Hid (Bk wx w.heap.size bx) := Ktq.out.below hb
            have Kuwx : Hid (Bk wx (w.heap.size + 1) by_) := Kuq.out.below hb
            have Rawx : Hid (Rd wx (some ad) (bts lb)) := Raq.out.below hb
            have Rbwx : Hid (Rd wx Ab (bts (encL r.k r.e r.q r.ps))) := Rbq.out.below hb
            clear Eq Ktq Kuq Raq Rbq
            clear hb hE
            go_wp2_with fail
            go_roundw
            case rel => exact ⟨2, by omega, by first | rfl | go_num, Rawx.out, Rbwx.out, Ktwx.out, Kuwx.out, Ewx.out⟩
            case measure => simp [intOf]
        · clear hk
          go_wp2_with fail
          apply wp_region_rel 28 (Chg NoS) [(Veq _), (Veq _), (Veq _), (Veq _), (Veq _), (Veq _), (Veq _), (Veq _), (Veq _), (Veq _), (Veq _), (Veq _), (Veq _), (Veq _), (Veq _), (Veq _), (Veq _), (Veq _), (Veq _), (Veq _), (Veq _), (Veq _), (Veq _), (Veq _), (Veq _), (Veq _), (Veq _), (Veq _)] [[], [], [1], [0, 2], [3], [], [5], [], [7], [8], [6, 9], [10], [4, 11], [12], [13], [13], [13, 15], [13, 14, 16], [13, 17], [13], [13, 19], [13], [13, 21], [13, 22], [13, 20, 23], [13, 24], [13, 18, 25], [13, 26]] [72, 73, 74, 75, 76, 77, 78, 79, 80, 81, 82, 83, 84, 85, 86, 87, 88, 89, 90, 91, 92, 93, 94, 95, 96, 97, 98, 99] (by kernel_rfl) (by kernel_rfl) rfl rfl rfl Chg.refl (fun _ _ _ => Chg.trans) ⟨Veq.lasts, Veq.lasts, Veq.lasts, Veq.lasts, Veq.lasts, Veq.lasts, Veq.lasts, Veq.lasts, Veq.lasts, Veq.lasts, Veq.lasts, Veq.lasts, Veq.lasts, Veq.lasts, Veq.lasts, Veq.lasts, Veq.lasts, Veq.lasts, Veq.lasts, Veq.lasts, Veq.lasts, Veq.lasts, Veq.lasts, Veq.lasts, Veq.lasts, Veq.lasts, Veq.lasts, Veq.lasts, trivial⟩ ?r2ops ?r2fin
          case r2ops =>
            refine ⟨?r2o0, ?r2o1, ?r2o2, ?r2o3, ?r2o4, ?r2o5, ?r2o6, ?r2o7, ?r2o8, ?r2o9, ?r2o10, ?r2o11, ?r2o12, ?r2o13, ?r2o14, ?r2o15, ?r2o16, ?r2o17, ?r2o18, ?r2o19, ?r2o20, ?r2o21, ?r2o22, ?r2o23, ?r2o24, ?r2o25, ?r2o26, ?r2o27, trivial⟩
            case r2o0 =>
              intro a wx hE hin
              have i5 : a.eval (.tmp 5) = .slice (some ad) M ca := hin 5 rfl
              clear hin
              have hcst : ∀ v, a.eval (.const v) = v := fun _ => rfl
              have hfnc : ∀ f, a.eval (.func f) = .func (.func f) #[] #[] := fun _ => rfl
              refine want_none rfl ?_
              unfold Oper.wp
              generalize a.eval = ρ at *
              go_simp
              try go_bits
              first | exact rel_val (Chg.refl _) | (go_simp; exact rel_val (Chg.refl _))
            case r2o1 =>
              intro a wx hE hin
              have i9 : a.eval (.tmp 9) = .int .i64 2 := hin 9 rfl
              clear hin
              have hcst : ∀ v, a.eval (.const v) = v := fun _ => rfl
              have hfnc : ∀ f, a.eval (.func f) = .func (.func f) #[] #[] := fun _ => rfl
              refine want_none rfl ?_
              unfold Oper.wp
              generalize a.eval = ρ at *
              go_simp
              try go_bits
              first | exact rel_val (Chg.refl _) | (go_simp; exact rel_val (Chg.refl _))
            case r2o2 =>
              rintro a wx hE hin (h1 : a.eval (.tmp 73) = _)
              clear hin
              have hcst : ∀ v, a.eval (.const v) = v := fun _ => rfl
              have hfnc : ∀ f, a.eval (.func f) = .func (.func f) #[] #[] := fun _ => rfl
              refine want_none rfl ?_
              unfold Oper.wp
              generalize a.eval = ρ at *
              go_simp
              try go_bits
              first | exact rel_val (Chg.refl _) | (go_simp; exact rel_val (Chg.refl _))
            case r2o3 =>
              rintro a wx hE hin (h0 : a.eval (.tmp 72) = _) (h2 : a.eval (.tmp 74) = _)
              clear hin
              have hcst : ∀ v, a.eval (.const v) = v := fun _ => rfl
              have hfnc : ∀ f, a.eval (.func f) = .func (.func f) #[] #[] := fun _ => rfl
              refine want_none rfl ?_
              unfold Oper.wp
              generalize a.eval = ρ at *
              go_simp
              try go_bits
              first | exact rel_val (Chg.refl _) | (go_simp; exact rel_val (Chg.refl _))
            case r2o4 =>
              rintro a wx hE hin (h3 : a.eval (.tmp 75) = _)
              clear hin
              have hcst : ∀ v, a.eval (.const v) = v := fun _ => rfl
              have hfnc : ∀ f, a.eval (.func f) = .func (.func f) #[] #[] := fun _ => rfl
              refine want_none rfl ?_
              unfold Oper.wp
              generalize a.eval = ρ at *
              have c : wx.cell? { block := ad.block, off := ad.off + 3 } = some (.int .u8 (((p.e.toNat : Nat) : Int) / 65536 % 256)) := rd_cell (Raq.out.below (hE.undrew.below (Nat.le_refl _) (fun _ _ => id))) HG2.out (by omega)
              go_simp
              try go_bits
              first | exact rel_val (Chg.refl _) | (go_simp; exact rel_val (Chg.refl _))
            case r2o5 =>
              intro a wx hE hin
              have i2 : a.eval (.tmp 2) = .pointer (some ⟨w.heap.size, 0, none⟩) := hin 2 rfl
              clear hin
              have hcst : ∀ v, a.eval (.const v) = v := fun _ => rfl
              have hfnc : ∀ f, a.eval (.func f) = .func (.func f) #[] #[] := fun _ => rfl
              refine want_none rfl ?_
              unfold Oper.wp
              generalize a.eval = ρ at *
              go_simp
              try go_bits
              first | exact rel_val (Chg.refl _) | (go_simp; exact rel_val (Chg.refl _))
            case r2o6 =>
              rintro a wx hE hin (h5 : a.eval (.tmp 77) = _)
              clear hin
              have hcst : ∀ v, a.eval (.const v) = v := fun _ => rfl
              have hfnc : ∀ f, a.eval (.func f) = .func (.func f) #[] #[] := fun _ => rfl
              refine want_none rfl ?_
              unfold Oper.wp
              generalize a.eval = ρ at *
              have c := Bk.cell (Ktq.out.drew.chg hE id) D1.out
              go_simp
              try go_bits
              first | exact rel_val (Chg.refl _) | (go_simp; exact rel_val (Chg.refl _))
            case r2o7 =>
              intro a wx hE hin
              have i9 : a.eval (.tmp 9) = .int .i64 2 := hin 9 rfl
              clear hin
              have hcst : ∀ v, a.eval (.const v) = v := fun _ => rfl
              have hfnc : ∀ f, a.eval (.func f) = .func (.func f) #[] #[] := fun _ => rfl
              refine want_none rfl ?_
              unfold Oper.wp
              generalize a.eval = ρ at *
              go_simp
              try go_bits
              first | exact rel_val (Chg.refl _) | (go_simp; exact rel_val (Chg.refl _))
            case r2o8 =>
              rintro a wx hE hin (h7 : a.eval (.tmp 79) = _)
              clear hin
              have hcst : ∀ v, a.eval (.const v) = v := fun _ => rfl
              have hfnc : ∀ f, a.eval (.func f) = .func (.func f) #[] #[] := fun _ => rfl
              refine want_none rfl ?_
              unfold Oper.wp
              generalize a.eval = ρ at *
              go_simp
              try go_bits
              first | exact rel_val (Chg.refl _) | (go_simp; exact rel_val (Chg.refl _))
            case r2o9 =>
              rintro a wx hE hin (h8 : a.eval (.tmp 80) = _)
              clear hin
              have hcst : ∀ v, a.eval (.const v) = v := fun _ => rfl
              have hfnc : ∀ f, a.eval (.func f) = .func (.func f) #[] #[] := fun _ => rfl
              refine want_none rfl ?_
              unfold Oper.wp
              generalize a.eval = ρ at *
              go_simp
              try go_bits
              first | exact rel_val (Chg.refl _) | (go_simp; exact rel_val (Chg.refl _))
            case r2o10 =>
              rintro a wx hE hin (h6 : a.eval (.tmp 78) = _) (h9 : a.eval (.tmp 81) = _)
              clear hin
              have hcst : ∀ v, a.eval (.const v) = v := fun _ => rfl
              have hfnc : ∀ f, a.eval (.func f) = .func (.func f) #[] #[] := fun _ => rfl
              refine want_none rfl ?_
              unfold Oper.wp
              generalize a.eval = ρ at *
              go_simp
              try go_bits
              first | exact rel_val (Chg.refl _) | (go_simp; exact rel_val (Chg.refl _))
            case r2o11 =>
              rintro a wx hE hin (h10 : a.eval (.tmp 82) = _)
              clear hin
              have hcst : ∀ v, a.eval (.const v) = v := fun _ => rfl
              have hfnc : ∀ f, a.eval (.func f) = .func (.func f) #[] #[] := fun _ => rfl
              refine want_none rfl ?_
              unfold Oper.wp
              generalize a.eval = ρ at *
              go_simp
              try go_bits
              first | exact rel_val (Chg.refl _) | (go_simp; exact rel_val (Chg.refl _))
            case r2o12 =>
              rintro a wx hE hin (h4 : a.eval (.tmp 76) = _) (h11 : a.eval (.tmp 83) = _)
              clear hin
              have hcst : ∀ v, a.eval (.const v) = v := fun _ => rfl
              have hfnc : ∀ f, a.eval (.func f) = .func (.func f) #[] #[] := fun _ => rfl
              refine want_none rfl ?_
              unfold Oper.wp
              generalize a.eval = ρ at *
              go_simp
              try go_bits
              first | exact rel_val (e := .bool false) (Chg.refl _) | (simp only [bne_self_eq_false]; exact rel_val (e := .bool false) (Chg.refl _)) | (simp; exact rel_val (e := .bool false) (Chg.refl _))
            case r2o13 =>
              rintro a wx hE hin (h12 : a.eval (.tmp 84) = _)
              clear hin
              have hcst : ∀ v, a.eval (.const v) = v := fun _ => rfl
              have hfnc : ∀ f, a.eval (.func f) = .func (.func f) #[] #[] := fun _ => rfl
              refine want_none rfl ?_
              unfold Oper.wp
              generalize a.eval = ρ at *
              go_simp
              try go_bits
              first | exact rel_val (Chg.refl _) | (go_simp; exact rel_val (Chg.refl _))
            case r2o14 =>
              rintro a wx hE hin (h13 : a.eval (.tmp 85) = _)
              have i5 : a.eval (.tmp 5) = .slice (some ad) M ca := hin 5 rfl
              clear hin
              have hcst : ∀ v, a.eval (.const v) = v := fun _ => rfl
              have hfnc : ∀ f, a.eval (.func f) = .func (.func f) #[] #[] := fun _ => rfl
              refine want_yes rfl rfl h13 ?_
              unfold Oper.wp
              generalize a.eval = ρ at *
              go_simp
              try go_bits
              first | exact rel_val (Chg.refl _) | (go_simp; exact rel_val (Chg.refl _))
            case r2o15 =>
              rintro a wx hE hin (h13 : a.eval (.tmp 85) = _)
              have i9 : a.eval (.tmp 9) = .int .i64 2 := hin 9 rfl
              clear hin
              have hcst : ∀ v, a.eval (.const v) = v := fun _ => rfl
              have hfnc : ∀ f, a.eval (.func f) = .func (.func f) #[] #[] := fun _ => rfl
              refine want_yes rfl rfl h13 ?_
              unfold Oper.wp
              generalize a.eval = ρ at *
              go_simp
              try go_bits
              first | exact rel_val (Chg.refl _) | (go_simp; exact rel_val (Chg.refl _))
            case r2o16 =>
              rintro a wx hE hin (h13 : a.eval (.tmp 85) = _) (h15 : a.eval (.tmp 87) = _)
              clear hin
              have hcst : ∀ v, a.eval (.const v) = v := fun _ => rfl
              have hfnc : ∀ f, a.eval (.func f) = .func (.func f) #[] #[] := fun _ => rfl
              refine want_yes rfl rfl h13 ?_
              unfold Oper.wp
              generalize a.eval = ρ at *
              go_simp
              try go_bits
              first | exact rel_val (Chg.refl _) | (go_simp; exact rel_val (Chg.refl _))
            case r2o17 =>
              rintro a wx hE hin (h13 : a.eval (.tmp 85) = _) (h14 : a.eval (.tmp 86) = _) (h16 : a.eval (.tmp 88) = _)
              clear hin
              have hcst : ∀ v, a.eval (.const v) = v := fun _ => rfl
              have hfnc : ∀ f, a.eval (.func f) = .func (.func f) #[] #[] := fun _ => rfl
              refine want_yes rfl rfl h13 ?_
              unfold Oper.wp
              generalize a.eval = ρ at *
              go_simp
              try go_bits
              first | exact rel_val (Chg.refl _) | (go_simp; exact rel_val (Chg.refl _))
            case r2o18 =>
              rintro a wx hE hin (h13 : a.eval (.tmp 85) = _) (h17 : a.eval (.tmp 89) = _)
              clear hin
              have hcst : ∀ v, a.eval (.const v) = v := fun _ => rfl
              have hfnc : ∀ f, a.eval (.func f) = .func (.func f) #[] #[] := fun _ => rfl
              refine want_yes rfl rfl h13 ?_
              unfold Oper.wp
              generalize a.eval = ρ at *
              have c : wx.cell? { block := ad.block, off := ad.off + 7 } = some (.int .u8 (((p.q.toNat : Nat) : Int) / 65536 % 256)) := rd_cell (Raq.out.below (hE.undrew.below (Nat.le_refl _) (fun _ _ => id))) HG6.out (by omega)
              go_simp
              try go_bits
              first | exact rel_val (Chg.refl _) | (go_simp; exact rel_val (Chg.refl _))
            case r2o19 =>
              rintro a wx hE hin (h13 : a.eval (.tmp 85) = _)
              have i2 : a.eval (.tmp 2) = .pointer (some ⟨w.heap.size, 0, none⟩) := hin 2 rfl
              clear hin
              have hcst : ∀ v, a.eval (.const v) = v := fun _ => rfl
              have hfnc : ∀ f, a.eval (.func f) = .func (.func f) #[] #[] := fun _ => rfl
              refine want_yes rfl rfl h13 ?_
              unfold Oper.wp
              generalize a.eval = ρ at *
              go_simp
              try go_bits
              first | exact rel_val (Chg.refl _) | (go_simp; exact rel_val (Chg.refl _))
            case r2o20 =>
              rintro a wx hE hin (h13 : a.eval (.tmp 85) = _) (h19 : a.eval (.tmp 91) = _)
              clear hin
              have hcst : ∀ v, a.eval (.const v) = v := fun _ => rfl
              have hfnc : ∀ f, a.eval (.func f) = .func (.func f) #[] #[] := fun _ => rfl
              refine want_yes rfl rfl h13 ?_
              unfold Oper.wp
              generalize a.eval = ρ at *
              have c := Bk.cell (Ktq.out.drew.chg hE id) D2.out
              go_simp
              try go_bits
              first | exact rel_val (Chg.refl _) | (go_simp; exact rel_val (Chg.refl _))
            case r2o21 =>
              rintro a wx hE hin (h13 : a.eval (.tmp 85) = _)
              have i9 : a.eval (.tmp 9) = .int .i64 2 := hin 9 rfl
              clear hin
              have hcst : ∀ v, a.eval (.const v) = v := fun _ => rfl
              have hfnc : ∀ f, a.eval (.func f) = .func (.func f) #[] #[] := fun _ => rfl
              refine want_yes rfl rfl h13 ?_
              unfold Oper.wp
              generalize a.eval = ρ at *
              go_simp
              try go_bits
              first | exact rel_val (Chg.refl _) | (go_simp; exact rel_val (Chg.refl _))
            case r2o22 =>
              rintro a wx hE hin (h13 : a.eval (.tmp 85) = _) (h21 : a.eval (.tmp 93) = _)
              clear hin
              have hcst : ∀ v, a.eval (.const v) = v := fun _ => rfl
              have hfnc : ∀ f, a.eval (.func f) = .func (.func f) #[] #[] := fun _ => rfl
              refine want_yes rfl rfl h13 ?_
              unfold Oper.wp
              generalize a.eval = ρ at *
              go_simp
              try go_bits
              first | exact rel_val (Chg.refl _) | (go_simp; exact rel_val (Chg.refl _))
            case r2o23 =>
              rintro a wx hE hin (h13 : a.eval (.tmp 85) = _) (h22 : a.eval (.tmp 94) = _)
              clear hin
              have hcst : ∀ v, a.eval (.const v) = v := fun _ => rfl
              have hfnc : ∀ f, a.eval (.func f) = .func (.func f) #[] #[] := fun _ => rfl
              refine want_yes rfl rfl h13 ?_
              unfold Oper.wp
              generalize a.eval = ρ at *
              go_simp
              try go_bits
              first | exact rel_val (Chg.refl _) | (go_simp; exact rel_val (Chg.refl _))
            case r2o24 =>
              rintro a wx hE hin (h13 : a.eval (.tmp 85) = _) (h20 : a.eval (.tmp 92) = _) (h23 : a.eval (.tmp 95) = _)
              clear hin
              have hcst : ∀ v, a.eval (.const v) = v := fun _ => rfl
              have hfnc : ∀ f, a.eval (.func f) = .func (.func f) #[] #[] := fun _ => rfl
              refine want_yes rfl rfl h13 ?_
              unfold Oper.wp
              generalize a.eval = ρ at *
              go_simp
              try go_bits
              first | exact rel_val (Chg.refl _) | (go_simp; exact rel_val (Chg.refl _))
            case r2o25 =>
              rintro a wx hE hin (h13 : a.eval (.tmp 85) = _) (h24 : a.eval (.tmp 96) = _)
              clear hin
              have hcst : ∀ v, a.eval (.const v) = v := fun _ => rfl
              have hfnc : ∀ f, a.eval (.func f) = .func (.func f) #[] #[] := fun _ => rfl
              refine want_yes rfl rfl h13 ?_
              unfold Oper.wp
              generalize a.eval = ρ at *
              go_simp
              try go_bits
              first | exact rel_val (Chg.refl _) | (go_simp; exact rel_val (Chg.refl _))
            case r2o26 =>
              rintro a wx hE hin (h13 : a.eval (.tmp 85) = _) (h18 : a.eval (.tmp 90) = _) (h25 : a.eval (.tmp 97) = _)
              clear hin
              have hcst : ∀ v, a.eval (.const v) = v := fun _ => rfl
              have hfnc : ∀ f, a.eval (.func f) = .func (.func f) #[] #[] := fun _ => rfl
              refine want_yes rfl rfl h13 ?_
              unfold Oper.wp
              generalize a.eval = ρ at *
              go_simp
              try go_bits
              first | exact rel_val (e := .bool false) (Chg.refl _) | (simp only [bne_self_eq_false]; exact rel_val (e := .bool false) (Chg.refl _)) | (simp; exact rel_val (e := .bool false) (Chg.refl _))
            case r2o27 =>
              rintro a wx hE hin (h13 : a.eval (.tmp 85) = _) (h26 : a.eval (.tmp 98) = _)
              clear hin
              have hcst : ∀ v, a.eval (.const v) = v := fun _ => rfl
              have hfnc : ∀ f, a.eval (.func f) = .func (.func f) #[] #[] := fun _ => rfl
              refine want_none rfl ?_
              unfold Oper.wp
              generalize a.eval = ρ at *
              go_simp
              try go_bits
              first | exact rel_val (Chg.refl _) | (go_simp; exact rel_val (Chg.refl _))
          case r2fin =>
            intro wx hE
            rintro _ rfl _ rfl _ rfl _ rfl _ rfl _ rfl _ rfl _ rfl _ rfl _ rfl _ rfl _ rfl _ rfl _ rfl _ rfl _ rfl _ rfl _ rfl _ rfl _ rfl _ rfl _ rfl _ rfl _ rfl _ rfl _ rfl _ rfl _ rfl
            simp only [FinOk, List.take_succ_cons, List.take_zero, List.take_nil, List.drop_succ_cons, List.drop_zero, List.drop_nil, Act.put, List.setIfInBounds_toArray, List.set_cons_succ, List.set_cons_zero]
            have hb : Below wr.heap.size wr wx := hE.undrew.below (Nat.le_refl _) (fun _ _ => id)
            have Ewx : Hid (Below w.heap.size w wx) := Eq.out.trans (hb.mono Eq.out.size)
            have Ktwx : Hid (Bk wx w.heap.size bx) := Ktq.out.below hb
            have Kuwx : Hid (Bk wx (w.heap.size + 1) by_) := Kuq.out.below hb
            have Rawx : Hid (Rd wx (some ad) (bts lb)) := Raq.out.below hb
            have Rbwx : Hid (Rd wx Ab (bts (encL r.k r.e r.q r.ps))) := Rbq.out.below hb
            clear Eq Ktq Kuq Raq Rbq
            clear hb hE
            go_wp2_with fail
            go_roundw
            case rel => exact ⟨3, by omega, by first | rfl | go_num, Rawx.out, Rbwx.out, Ktwx.out, Kuwx.out, Ewx.out⟩
            case measure => simp [intOf]
        · clear hk
          go_wp2_with fail
          apply wp_region_rel 28 (Chg NoS) [(Veq _), (Veq _), (Veq _), (Veq _), (Veq _), (Veq _), (Veq _), (Veq _), (Veq _), (Veq _), (Veq _), (Veq _), (Veq _), (Veq _), (Veq _), (Veq _), (Veq _), (Veq _), (Veq _), (Veq _), (Veq _), (Veq _), (Veq _), (Veq _), (Veq _), (Veq _), (Veq _), (Veq _)] [[], [], [1], [0, 2], [3], [], [5], [], [7], [8], [6, 9], [10], [4, 11], [12], [13], [13], [13, 15], [13, 14, 16], [13, 17], [13], [13, 19], [13], [13, 21], [13, 22], [13, 20, 23], [13, 24], [13, 18, 25], [13, 26]] [72, 73, 74, 75, 76, 77, 78, 79, 80, 81, 82, 83, 84, 85, 86, 87, 88, 89, 90, 91, 92, 93, 94, 95, 96, 97, 98, 99] (by kernel_rfl) (by kernel_rfl) rfl rfl rfl Chg.refl (fun _ _ _ => Chg.trans) ⟨Veq.lasts, Veq.lasts, Veq.lasts, Veq.lasts, Veq.lasts, Veq.lasts, Veq.lasts, Veq.lasts, Veq.lasts, Veq.lasts, Veq.lasts, Veq.lasts, Veq.lasts, Veq.lasts, Veq.lasts, Veq.lasts, Veq.lasts, Veq.lasts, Veq.lasts, Veq.lasts, Veq.lasts, Veq.lasts, Veq.lasts, Veq.lasts, Veq.lasts, Veq.lasts, Veq.lasts, Veq.lasts, trivial⟩ ?r3ops ?r3fin
          case r3ops =>
            refine ⟨?r3o0, ?r3o1, ?r3o2, ?r3o3, ?r3o4, ?r3o5, ?r3o6, ?r3o7, ?r3o8, ?r3o9, ?r3o10, ?r3o11, ?r3o12, ?r3o13, ?r3o14, ?r3o15, ?r3o16, ?r3o17, ?r3o18, ?r3o19, ?r3o20, ?r3o21, ?r3o22, ?r3o23, ?r3o24, ?r3o25, ?r3o26, ?r3o27, trivial⟩
            case r3o0 =>
              intro a wx hE hin
              have i5 : a.eval (.tmp 5) = .slice (some ad) M ca := hin 5 rfl
              clear hin
              have hcst : ∀ v, a.eval (.const v) = v := fun _ => rfl
              have hfnc : ∀ f, a.eval (.func f) = .func (.func f) #[] #[] := fun _ => rfl
              refine want_none rfl ?_
              unfold Oper.wp
              generalize a.eval = ρ at *
              go_simp
              try go_bits
              first | exact rel_val (Chg.refl _) | (go_simp; exact rel_val (Chg.refl _))
            case r3o1 =>
              intro a wx hE hin
              have i9 : a.eval (.tmp 9) = .int .i64 3 := hin 9 rfl
              clear hin
              have hcst : ∀ v, a.eval (.const v) = v := fun _ => rfl
              have hfnc : ∀ f, a.eval (.func f) = .func (.func f) #[] #[] := fun _ => rfl
              refine want_none rfl ?_
              unfold Oper.wp
              generalize a.eval = ρ at *
              go_simp
              try go_bits
              first | exact rel_val (Chg.refl _) | (go_simp; exact rel_val (Chg.refl _))
            case r3o2 =>
              rintro a wx hE hin (h1 : a.eval (.tmp 73) = _)
              clear hin
              have hcst : ∀ v, a.eval (.const v) = v := fun _ => rfl
              have hfnc : ∀ f, a.eval (.func f) = .func (.func f) #[] #[] := fun _ => rfl
              refine want_none rfl ?_
              unfold Oper.wp
              generalize a.eval = ρ at *
              go_simp
              try go_bits
              first | exact rel_val (Chg.refl _) | (go_simp; exact rel_val (Chg.refl _))
            case r3o3 =>
              rintro a wx hE hin (h0 : a.eval (.tmp 72) = _) (h2 : a.eval (.tmp 74) = _)
              clear hin
              have hcst : ∀ v, a.eval (.const v) = v := fun _ => rfl
              have hfnc : ∀ f, a.eval (.func f) = .func (.func f) #[] #[] := fun _ => rfl
              refine want_none rfl ?_
              unfold Oper.wp
              generalize a.eval = ρ at *
              go_simp
              try go_bits
              first | exact rel_val (Chg.refl _) | (go_simp; exact rel_val (Chg.refl _))
            case r3o4 =>
              rintro a wx hE hin (h3 : a.eval (.tmp 75) = _)
              clear hin
              have hcst : ∀ v, a.eval (.const v) = v := fun _ => rfl
              have hfnc : ∀ f, a.eval (.func f) = .func (.func f) #[] #[] := fun _ => rfl
              refine want_none rfl ?_
              unfold Oper.wp
              generalize a.eval = ρ at *
              have c : wx.cell? { block := ad.block, off := ad.off + 4 } = some (.int .u8 (((p.e.toNat : Nat) : Int) / 16777216 % 256)) := rd_cell (Raq.out.below (hE.undrew.below (Nat.le_refl _) (fun _ _ => id))) HG3.out (by omega)
              go_simp
              try go_bits
              first | exact rel_val (Chg.refl _) | (go_simp; exact rel_val (Chg.refl _))
            case r3o5 =>
              intro a wx hE hin
              have i2 : a.eval (.tmp 2) = .pointer (some ⟨w.heap.size, 0, none⟩) := hin 2 rfl
              clear hin
              have hcst : ∀ v, a.eval (.const v) = v := fun _ => rfl
              have hfnc : ∀ f, a.eval (.func f) = .func (.func f) #[] #[] := fun _ => rfl
              refine want_none rfl ?_
              unfold Oper.wp
              generalize a.eval = ρ at *
              go_simp
              try go_bits
              first | exact rel_val (Chg.refl _) | (go_simp; exact rel_val (Chg.refl _))
            case r3o6 =>
              rintro a wx hE hin (h5 : a.eval (.tmp 77) = _)
              clear hin
              have hcst : ∀ v, a.eval (.const v) = v := fun _ => rfl
              have hfnc : ∀ f, a.eval (.func f) = .func (.func f) #[] #[] := fun _ => rfl
              refine want_none rfl ?_
              unfold Oper.wp
              generalize a.eval = ρ at *
              have c := Bk.cell (Ktq.out.drew.chg hE id) D1.out
              go_simp
              try go_bits
              first | exact rel_val (Chg.refl _) | (go_simp; exact rel_val (Chg.refl _))
            case r3o7 =>
              intro a wx hE hin
              have i9 : a.eval (.tmp 9) = .int .i64 3 := hin 9 rfl
              clear hin
              have hcst : ∀ v, a.eval (.const v) = v := fun _ => rfl
              have hfnc : ∀ f, a.eval (.func f) = .func (.func f) #[] #[] := fun _ => rfl
              refine want_none rfl ?_
              unfold Oper.wp
              generalize a.eval = ρ at *
              go_simp
              try go_bits
              first | exact rel_val (Chg.refl _) | (go_simp; exact rel_val (Chg.refl _))
            case r3o8 =>
              rintro a wx hE hin (h7 : a.eval (.tmp 79) = _)
              clear hin
              have hcst : ∀ v, a.eval (.const v) = v := fun _ => rfl
              have hfnc : ∀ f, a.eval (.func f) = .func (.func f) #[] #[] := fun _ => rfl
              refine want_none rfl ?_
              unfold Oper.wp
              generalize a.eval = ρ at *
              go_simp
              try go_bits
              first | exact rel_val (Chg.refl _) | (go_simp; exact rel_val (Chg.refl _))
            case r3o9 =>
              rintro a wx hE hin (h8 : a.eval (.tmp 80) = _)
              clear hin
              have hcst : ∀ v, a.eval (.const v) = v := fun _ => rfl
              have hfnc : ∀ f, a.eval (.func f) = .func (.func f) #[] #[] := fun _ => rfl
              refine want_none rfl ?_
              unfold Oper.wp
              generalize a.eval = ρ at *
              go_simp
              try go_bits
              first | exact rel_val (Chg.refl _) | (go_simp; exact rel_val (Chg.refl _))
            case r3o10 =>
              rintro a wx hE hin (h6 : a.eval (.tmp 78) = _) (h9 : a.eval (.tmp 81) = _)
              clear hin
              have hcst : ∀ v, a.eval (.const v) = v := fun _ => rfl
              have hfnc : ∀ f, a.eval (.func f) = .func (.func f) #[] #[] := fun _ => rfl
              refine want_none rfl ?_
              unfold Oper.wp
              generalize a.eval = ρ at *
              go_simp
              try go_bits
              first | exact rel_val (Chg.refl _) | (go_simp; exact rel_val (Chg.refl _))
            case r3o11 =>
              rintro a wx hE hin (h10 : a.eval (.tmp 82) = _)
              clear hin
              have hcst : ∀ v, a.eval (.const v) = v := fun _ => rfl
              have hfnc : ∀ f, a.eval (.func f) = .func (.func f) #[] #[] := fun _ => rfl
              refine want_none rfl ?_
              unfold Oper.wp
              generalize a.eval = ρ at *
              go_simp
              try go_bits
              first | exact rel_val (Chg.refl _) | (go_simp; exact rel_val (Chg.refl _))
            case r3o12 =>
              rintro a wx hE hin (h4 : a.eval (.tmp 76) = _) (h11 : a.eval (.tmp 83) = _)
              clear hin
              have hcst : ∀ v, a.eval (.const v) = v := fun _ => rfl
              have hfnc : ∀ f, a.eval (.func f) = .func (.func f) #[] #[] := fun _ => rfl
              refine want_none rfl ?_
              unfold Oper.wp
              generalize a.eval = ρ at *
              go_simp
              try go_bits
              first | exact rel_val (e := .bool false) (Chg.refl _) | (simp only [bne_self_eq_false]; exact rel_val (e := .bool false) (Chg.refl _)) | (simp; exact rel_val (e := .bool false) (Chg.refl _))
            case r3o13 =>
              rintro a wx hE hin (h12 : a.eval (.tmp 84) = _)
              clear hin
              have hcst : ∀ v, a.eval (.const v) = v := fun _ => rfl
              have hfnc : ∀ f, a.eval (.func f) = .func (.func f) #[] #[] := fun _ => rfl
              refine want_none rfl ?_
              unfold Oper.wp
              generalize a.eval = ρ at *
              go_simp
              try go_bits
              first | exact rel_val (Chg.refl _) | (go_simp; exact rel_val (Chg.refl _))
            case r3o14 =>
              rintro a wx hE hin (h13 : a.eval (.tmp 85) = _)
              have i5 : a.eval (.tmp 5) = .slice (some ad) M ca := hin 5 rfl
              clear hin
              have hcst : ∀ v, a.eval (.const v) = v := fun _ => rfl
              have hfnc : ∀ f, a.eval (.func f) = .func (.func f) #[] #[] := fun _ => rfl
              refine want_yes rfl rfl h13 ?_
              unfold Oper.wp
              generalize a.eval = ρ at *
              go_simp
              try go_bits
              first | exact rel_val (Chg.refl _) | (go_simp; exact rel_val (Chg.refl _))
            case r3o15 =>
              rintro a wx hE hin (h13 : a.eval (.tmp 85) = _)
              have i9 : a.eval (.tmp 9) = .int .i64 3 := hin 9 rfl
              clear hin
              have hcst : ∀ v, a.eval (.const v) = v := fun _ => rfl
              have hfnc : ∀ f, a.eval (.func f) = .func (.func f) #[] #[] := fun _ => rfl
              refine want_yes rfl rfl h13 ?_
              unfold Oper.wp
              generalize a.eval = ρ at *
              go_simp
              try go_bits
              first | exact rel_val (Chg.refl _) | (go_simp; exact rel_val (Chg.refl _))
            case r3o16 =>
              rintro a wx hE hin (h13 : a.eval (.tmp 85) = _) (h15 : a.eval (.tmp 87) = _)
              clear hin
              have hcst : ∀ v, a.eval (.const v) = v := fun _ => rfl
              have hfnc : ∀ f, a.eval (.func f) = .func (.func f) #[] #[] := fun _ => rfl
              refine want_yes rfl rfl h13 ?_
              unfold Oper.wp
              generalize a.eval = ρ at *
              go_simp
              try go_bits
              first | exact rel_val (Chg.refl _) | (go_simp; exact rel_val (Chg.refl _))
            case r3o17 =>
              rintro a wx hE hin (h13 : a.eval (.tmp 85) = _) (h14 : a.eval (.tmp 86) = _) (h16 : a.eval (.tmp 88) = _)
              clear hin
              have hcst : ∀ v, a.eval (.const v) = v := fun _ => rfl
              have hfnc : ∀ f, a.eval (.func f) = .func (.func f) #[] #[] := fun _ => rfl
              refine want_yes rfl rfl h13 ?_
              unfold Oper.wp
              generalize a.eval = ρ at *
              go_simp
              try go_bits
              first | exact rel_val (Chg.refl _) | (go_simp; exact rel_val (Chg.refl _))
            case r3o18 =>
              rintro a wx hE hin (h13 : a.eval (.tmp 85) = _) (h17 : a.eval (.tmp 89) = _)
              clear hin
              have hcst : ∀ v, a.eval (.const v) = v := fun _ => rfl
              have hfnc : ∀ f, a.eval (.func f) = .func (.func f) #[] #[] := fun _ => rfl
              refine want_yes rfl rfl h13 ?_
              unfold Oper.wp
              generalize a.eval = ρ at *
              have c : wx.cell? { block := ad.block, off := ad.off + 8 } = some (.int .u8 (((p.q.toNat : Nat) : Int) / 16777216 % 256)) := rd_cell (Raq.out.below (hE.undrew.below (Nat.le_refl _) (fun _ _ => id))) HG7.out (by omega)
              go_simp
              try go_bits
              first | exact rel_val (Chg.refl _) | (go_simp; exact rel_val (Chg.refl _))
            case r3o19 =>
              rintro a wx hE hin (h13 : a.eval (.tmp 85) = _)
              have i2 : a.eval (.tmp 2) = .pointer (some ⟨w.heap.size, 0, none⟩) := hin 2 rfl
              clear hin
              have hcst : ∀ v, a.eval (.const v) = v := fun _ => rfl
              have hfnc : ∀ f, a.eval (.func f) = .func (.func f) #[] #[] := fun _ => rfl
              refine want_yes rfl rfl h13 ?_
              unfold Oper.wp
              generalize a.eval = ρ at *
              go_simp
              try go_bits
              first | exact rel_val (Chg.refl _) | (go_simp; exact rel_val (Chg.refl _))
            case r3o20 =>
              rintro a wx hE hin (h13 : a.eval (.tmp 85) = _) (h19 : a.eval (.tmp 91) = _)
              clear hin
              have hcst : ∀ v, a.eval (.const v) = v := fun _ => rfl
              have hfnc : ∀ f, a.eval (.func f) = .func (.func f) #[] #[] := fun _ => rfl
              refine want_yes rfl rfl h13 ?_
              unfold Oper.wp
              generalize a.eval = ρ at *
              have c := Bk.cell (Ktq.out.drew.chg hE id) D2.out
              go_simp
              try go_bits
              first | exact rel_val (Chg.refl _) | (go_simp; exact rel_val (Chg.refl _))
            case r3o21 =>
              rintro a wx hE hin (h13 : a.eval (.tmp 85) = _)
              have i9 : a.eval (.tmp 9) = .int .i64 3 := hin 9 rfl
              clear hin
              have hcst : ∀ v, a.eval (.const v) = v := fun _ => rfl
              have hfnc : ∀ f, a.eval (.func f) = .func (.func f) #[] #[] := fun _ => rfl
              refine want_yes rfl rfl h13 ?_
              unfold Oper.wp
              generalize a.eval = ρ at *
              go_simp
              try go_bits
              first | exact rel_val (Chg.refl _) | (go_simp; exact rel_val (Chg.refl _))
            case r3o22 =>
              rintro a wx hE hin (h13 : a.eval (.tmp 85) = _) (h21 : a.eval (.tmp 93) = _)
              clear hin
              have hcst : ∀ v, a.eval (.const v) = v := fun _ => rfl
              have hfnc : ∀ f, a.eval (.func f) = .func (.func f) #[] #[] := fun _ => rfl
              refine want_yes rfl rfl h13 ?_
              unfold Oper.wp
              generalize a.eval = ρ at *
              go_simp
              try go_bits
              first | exact rel_val (Chg.refl _) | (go_simp; exact rel_val (Chg.refl _))
            case r3o23 =>
              rintro a wx hE hin (h13 : a.eval (.tmp 85) = _) (h22 : a.eval (.tmp 94) = _)
              clear hin
              have hcst : ∀ v, a.eval (.const v) = v := fun _ => rfl
              have hfnc : ∀ f, a.eval (.func f) = .func (.func f) #[] #[] := fun _ => rfl
              refine want_yes rfl rfl h13 ?_
              unfold Oper.wp
              generalize a.eval = ρ at *
              go_simp
              try go_bits
              first | exact rel_val (Chg.refl _) | (go_simp; exact rel_val (Chg.refl _))
            case r3o24 =>
              rintro a wx hE hin (h13 : a.eval (.tmp 85) = _) (h20 : a.eval (.tmp 92) = _) (h23 : a.eval (.tmp 95) = _)
              clear hin
              have hcst : ∀ v, a.eval (.const v) = v := fun _ => rfl
              have hfnc : ∀ f, a.eval (.func f) = .func (.func f) #[] #[] := fun _ => rfl
              refine want_yes rfl rfl h13 ?_
              unfold Oper.wp
              generalize a.eval = ρ at *
              go_simp
              try go_bits
              first | exact rel_val (Chg.refl _) | (go_simp; exact rel_val (Chg.refl _))
            case r3o25 =>
              rintro a wx hE hin (h13 : a.eval (.tmp 85) = _) (h24 : a.eval (.tmp 96) = _)
              clear hin
              have hcst : ∀ v, a.eval (.const v) = v := fun _ => rfl
              have hfnc : ∀ f, a.eval (.func f) = .func (.func f) #[] #[] := fun _ => rfl
              refine want_yes rfl rfl h13 ?_
              unfold Oper.wp
              generalize a.eval = ρ at *
              go_simp
              try go_bits
              first | exact rel_val (Chg.refl _) | (go_simp; exact rel_val (Chg.refl _))
            case r3o26 =>
              rintro a wx hE hin (h13 : a.eval (.tmp 85) = _) (h18 : a.eval (.tmp 90) = _) (h25 : a.eval (.tmp 97) = _)
              clear hin
              have hcst : ∀ v, a.eval (.const v) = v := fun _ => rfl
              have hfnc : ∀ f, a.eval (.func f) = .func (.func f) #[] #[] := fun _ => rfl
              refine want_yes rfl rfl h13 ?_
              unfold Oper.wp
              generalize a.eval = ρ at *
              go_simp
              try go_bits
              first | exact rel_val (e := .bool false) (Chg.refl _) | (simp only [bne_self_eq_false]; exact rel_val (e := .bool false) (Chg.refl _)) | (simp; exact rel_val (e := .bool false) (Chg.refl _))
            case r3o27 =>
              rintro a wx hE hin (h13 : a.eval (.tmp 85) = _) (h26 : a.eval (.tmp 98) = _)
              clear hin
              have hcst : ∀ v, a.eval (.const v) = v := fun _ => rfl
              have hfnc : ∀ f, a.eval (.func f) = .func (.func f) #[] #[] := fun _ => rfl
              refine want_none rfl ?_
              unfold Oper.wp
              generalize a.eval = ρ at *
              go_simp
              try go_bits
              first | exact rel_val (Chg.refl _) | (go_simp; exact rel_val (Chg.refl _))
          case r3fin =>
            intro wx hE
            rintro _ rfl _ rfl _ rfl _ rfl _ rfl _ rfl _ rfl _ rfl _ rfl _ rfl _ rfl _ rfl _ rfl _ rfl _ rfl _ rfl _ rfl _ rfl _ rfl _ rfl _ rfl _ rfl _ rfl _ rfl _ rfl _ rfl _ rfl _ rfl
            simp only [FinOk, List.take_succ_cons, List.take_zero, List.take_nil, List.drop_succ_cons, List.drop_zero, List.drop_nil, Act.put, List.setIfInBounds_toArray, List.set_cons_succ, List.set_cons_zero]
            have hb : Below wr.heap.size wr wx := hE.undrew.below (Nat.le_refl _) (fun _ _ => id)
            have Ewx : Hid (Below w.heap.size w wx) := Eq.out.trans (hb.mono Eq.out.size)
            have Ktwx : Hid (Bk wx w.heap.size bx) := Ktq.out.below hb
            have Kuwx : Hid (Bk wx (w.heap.size + 1) by_) := Kuq.out.below hb
            have Rawx : Hid (Rd wx (some ad) (bts lb)) := Raq.out.below hb
            have Rbwx : Hid (Rd wx Ab (bts (encL r.k r.e r.q r.ps))) := Rbq.out.below hb
            clear Eq Ktq Kuq Raq Rbq
            clear hb hE
            go_wp2_with fail
            go_roundw
            case rel => exact ⟨4, by omega, by first | rfl | go_num, Rawx.out, Rbwx.out, Ktwx.out, Kuwx.out, Ewx.out⟩
            case measure => simp [intOf]
      · have hke : k = 4 := by omega
        subst hke
        have d3 := Ktq.out.cell D3.out
        have H2 : Hid (PPRel w ad lb Ab (encL r.k r.e r.q r.ps) bx by_ n (.int .i64 0) wr) := ⟨0, Nat.zero_le _, rfl, Raq.out, Rbq.out, Ktq.out, Kuq.out, Eq.out⟩
        go_wp2_with fail
        clear d3 Raq Rbq Ktq Kuq Eq
        go_loopw [10] (fun v wr => PPRel w ad lb Ab (encL r.k r.e r.q r.ps) bx by_ n v wr) (fun v _ => n - (intOf v).toNat)
        case atStart => exact H2.out
        case round =>
          obtain ⟨k, hk, rfl, h1, h2, h3, h4, h5⟩ := hrel
          have Ras := Lib.hid h1
          have Rbs := Lib.hid h2
          have Kts := Lib.hid h3
          have Kus := Lib.hid h4
          have Es := Lib.hid h5
          clear h1 h2 h3 h4 h5 H2
          have d3 := Kts.out.cell D3.out
          by_cases hlt : k < n
          · have hki : (k : Int) < (n : Int) := by omega
            have hk00 : (0 : Int) ≤ (k : Int) := by omega
            have hltp : k < p.ps.length := by rw [HOK.out.len]; exact hlt
            have h10 : 10 + 33 * (k : Int) < (M : Int) := by have := HMM.out; have := HM2.out; omega
            have h43 : 43 + 33 * (k : Int) ≤ (ca : Int) := by have := HMM.out; have := HM2.out; have := HCP.out.1; omega
            have h11p : (0 : Int) ≤ 11 + 33 * (k : Int) := by omega
            have h43p : (0 : Int) ≤ 43 + 33 * (k : Int) := by omega
            have h1143 : (11 : Int) + 33 * (k : Int) ≤ 43 + 33 * (k : Int) := by omega
            have hcn : 43 + 33 * k ≤ ca := by omega
            have i10 : ((10 : Int) + 33 * (k : Int)).toNat = 10 + 33 * k := by omega
            have i11 : ((11 : Int) + 33 * (k : Int)).toNat = 11 + 33 * k := by omega
            obtain ⟨bd, hB⟩ := puts_some HOK.out.rd hltp
            have HPUT := Lib.hid (put_rd (by rw [← hB]; exact HOK.out.rd) HOK.out.ok hltp)
            have HPL0 := (HOK.out.ok _ (List.getElem_mem hltp)).1
            have hpa := HAT.out _ (List.getElem_mem hltp)
            have hax := HPA.out k hltp
            have hdx := HPD.out k hltp
            obtain ⟨pd, hpd⟩ : ∃ pd, p.ps[k] = pd := ⟨_, rfl⟩
            rw [hpd] at HPUT HPL0 hpa hax hdx
            have HPL := Lib.hid HPL0
            obtain ⟨x, hx⟩ := Int.eq_ofNat_of_zero_le hpa.1
            have hx256 : x < 256 := by have := hpa.2; omega
            have HAX : Hid ((bts lb)[10 + 33 * k]? = some (.int .u8 (x : Int))) := by
              show _ = _
              rw [bts_get (by rw [HM.out]; omega), hax, hx]
              exact congrArg some (byte_at x hx256)
            have HPC : Hid (∀ u, Below w.heap.size w u → u.cell? (bd.add (k * 33)) = some (.int .i64 (x : Int))) := fun u hu => by
              obtain ⟨ad', e', hc⟩ := (HPUT.out.below hu) 0 _ (show (putC pd)[0]? = some (.int .i64 pd.at_) from rfl)
              injection e' with e'
              subst e'
              rw [← hx]
              exact hc
            have HPR : Hid (∀ u, Rd u (some ad) (bts lb) → Rd u (some (ad.add (11 + 33 * k))) (bts pd.data)) := fun u hu => by
              have h := (hu.drop (11 + 33 * k)).take 32
              have e : bts pd.data = ((bts lb).drop (11 + 33 * k)).take 32 := by rw [← hdx, bts_take', bts_drop']
              rw [e]
              exact h
            have HPS : Hid (∀ u, Below w.heap.size w u → Rd u (some ((bd.add (k * 33)).add 1)) (bts pd.data)) := fun u hu => (HPUT.out.below hu).drop 1
            have D3A : Hid (bx[3]? = some (.slice (some bd) n c)) := by rw [← hB]; exact D3.out
            rw [hB] at d3
            clear hB hpd HPL0 hpa hax hdx hx HPUT
            go_wp2_with fail
            clear d3
            apply wp_region_rel 32 (Chg NoS) [(Veq _), (Veq _), (Veq _), (Veq _), (Veq _), (Veq _), (Veq _), (Veq _), (Veq _), (Veq _), (Veq _), (Veq _), (Veq _), (Veq _), (Veq _), (Veq _), (Veq _), (Veq _), (Veq _), (Veq _), (Veq _), (Veq _), (Veq (.slice (some (ad.add (11 + 33 * k))) 32 (ca - (11 + 33 * k)))), (Veq _), (Veq _), (Veq _), (Veq _), (Veq _), (Veq _), (Veq (.bool true)), (Veq _), (Veq _)] [[], [], [1], [2], [0, 3], [4], [5], [], [7], [], [8, 9], [10], [11], [6, 12], [13], [14], [14], [14, 16], [14, 17], [14], [14, 19], [14, 20], [14, 15, 18, 21], [14], [14, 23], [14], [14, 24, 25], [14, 26], [14, 27], [14, 22, 28], [14, 29], [14, 30]] [107, 108, 109, 110, 111, 112, 113, 114, 115, 116, 117, 118, 119, 120, 121, 122, 123, 124, 125, 126, 127, 128, 129, 130, 131, 132, 133, 134, 135, 136, 137, 138] (by kernel_rfl) (by kernel_rfl) rfl rfl rfl Chg.refl (fun _ _ _ => Chg.trans) ⟨Veq.lasts, Veq.lasts, Veq.lasts, Veq.lasts, Veq.lasts, Veq.lasts, Veq.lasts, Veq.lasts, Veq.lasts, Veq.lasts, Veq.lasts, Veq.lasts, Veq.lasts, Veq.lasts, Veq.lasts, Veq.lasts, Veq.lasts, Veq.lasts, Veq.lasts, Veq.lasts, Veq.lasts, Veq.lasts, Veq.lasts, Veq.lasts, Veq.lasts, Veq.lasts, Veq.lasts, Veq.lasts, Veq.lasts, Veq.lasts, Veq.lasts, Veq.lasts, trivial⟩ ?tops ?tfin
            case tops =>
              refine ⟨?to0, ?to1, ?to2, ?to3, ?to4, ?to5, ?to6, ?to7, ?to8, ?to9, ?to10, ?to11, ?to12, ?to13, ?to14, ?to15, ?to16, ?to17, ?to18, ?to19, ?to20, ?to21, ?to22, ?to23, ?to24, ?to25, ?to26, ?to27, ?to28, ?to29, ?to30, ?to31, trivial⟩
              case to0 =>
                intro a wx hE hin
                have i5 : a.eval (.tmp 5) = .slice (some ad) M ca := hin 5 rfl
                clear hin
                have hcst : ∀ v, a.eval (.const v) = v := fun _ => rfl
                have hfnc : ∀ f, a.eval (.func f) = .func (.func f) #[] #[] := fun _ => rfl
                refine want_none rfl ?_
                unfold Oper.wp
                generalize a.eval = ρ at *
                go_simp
                try go_bits
                first | exact rel_val (Chg.refl _) | (go_simp; exact rel_val (Chg.refl _))
              case to1 =>
                intro a wx hE hin
                have i10 : a.eval (.tmp 10) = .int .i64 (k : Int) := hin 10 rfl
                clear hin
                have hcst : ∀ v, a.eval (.const v) = v := fun _ => rfl
                have hfnc : ∀ f, a.eval (.func f) = .func (.func f) #[] #[] := fun _ => rfl
                refine want_none rfl ?_
                unfold Oper.wp
                generalize a.eval = ρ at *
                go_simp
                try go_bits
                first | exact rel_val (Chg.refl _) | (go_simp; exact rel_val (Chg.refl _))
              case to2 =>
                rintro a wx hE hin (h1 : a.eval (.tmp 108) = _)
                clear hin
                have hcst : ∀ v, a.eval (.const v) = v := fun _ => rfl
                have hfnc : ∀ f, a.eval (.func f) = .func (.func f) #[] #[] := fun _ => rfl
                refine want_none rfl ?_
                unfold Oper.wp
                generalize a.eval = ρ at *
                go_simp
                try go_bits
                first | exact rel_val (Chg.refl _) | (go_simp; exact rel_val (Chg.refl _))
              case to3 =>
                rintro a wx hE hin (h2 : a.eval (.tmp 109) = _)
                clear hin
                have hcst : ∀ v, a.eval (.const v) = v := fun _ => rfl
                have hfnc : ∀ f, a.eval (.func f) = .func (.func f) #[] #[] := fun _ => rfl
                refine want_none rfl ?_
                unfold Oper.wp
                generalize a.eval = ρ at *
                go_simp
                try go_bits
                first | exact rel_val (Chg.refl _) | (go_simp; exact rel_val (Chg.refl _))
              case to4 =>
                rintro a wx hE hin (h0 : a.eval (.tmp 107) = _) (h3 : a.eval (.tmp 110) = _)
                clear hin
                have hcst : ∀ v, a.eval (.const v) = v := fun _ => rfl
                have hfnc : ∀ f, a.eval (.func f) = .func (.func f) #[] #[] := fun _ => rfl
                refine want_none rfl ?_
                unfold Oper.wp
                generalize a.eval = ρ at *
                go_simp
                try go_bits
                first | exact rel_val (Chg.refl _) | (go_simp; exact rel_val (Chg.refl _))
              case to5 =>
                rintro a wx hE hin (h4 : a.eval (.tmp 111) = _)
                clear hin
                have hcst : ∀ v, a.eval (.const v) = v := fun _ => rfl
                have hfnc : ∀ f, a.eval (.func f) = .func (.func f) #[] #[] := fun _ => rfl
                refine want_none rfl ?_
                unfold Oper.wp
                generalize a.eval = ρ at *
                have c : wx.cell? (ad.add (10 + 33 * k)) = some (.int .u8 (x : Int)) := rd_cellv (Ras.out.below (hE.undrew.below (Nat.le_refl _) (fun _ _ => id))) HAX.out
                go_simp
                try go_bits
                first | exact rel_val (Chg.refl _) | (go_simp; exact rel_val (Chg.refl _))
              case to6 =>
                rintro a wx hE hin (h5 : a.eval (.tmp 112) = _)
                clear hin
                have hcst : ∀ v, a.eval (.const v) = v := fun _ => rfl
                have hfnc : ∀ f, a.eval (.func f) = .func (.func f) #[] #[] := fun _ => rfl
                refine want_none rfl ?_
                unfold Oper.wp
                generalize a.eval = ρ at *
                go_simp
                try go_bits
                first | exact rel_val (Chg.refl _) | (go_simp; exact rel_val (Chg.refl _))
              case to7 =>
                intro a wx hE hin
                have i2 : a.eval (.tmp 2) = .pointer (some ⟨w.heap.size, 0, none⟩) := hin 2 rfl
                clear hin
                have hcst : ∀ v, a.eval (.const v) = v := fun _ => rfl
                have hfnc : ∀ f, a.eval (.func f) = .func (.func f) #[] #[] := fun _ => rfl
                refine want_none rfl ?_
                unfold Oper.wp
                generalize a.eval = ρ at *
                go_simp
                try go_bits
                first | exact rel_val (Chg.refl _) | (go_simp; exact rel_val (Chg.refl _))
              case to8 =>
                rintro a wx hE hin (h7 : a.eval (.tmp 114) = _)
                clear hin
                have hcst : ∀ v, a.eval (.const v) = v := fun _ => rfl
                have hfnc : ∀ f, a.eval (.func f) = .func (.func f) #[] #[] := fun _ => rfl
                refine want_none rfl ?_
                unfold Oper.wp
                generalize a.eval = ρ at *
                have c := Bk.cell (Kts.out.drew.chg hE id) D3A.out
                go_simp
                try go_bits
                first | exact rel_val (Chg.refl _) | (go_simp; exact rel_val (Chg.refl _))
              case to9 =>
                intro a wx hE hin
                have i10 : a.eval (.tmp 10) = .int .i64 (k : Int) := hin 10 rfl
                clear hin
                have hcst : ∀ v, a.eval (.const v) = v := fun _ => rfl
                have hfnc : ∀ f, a.eval (.func f) = .func (.func f) #[] #[] := fun _ => rfl
                refine want_none rfl ?_
                unfold Oper.wp
                generalize a.eval = ρ at *
                go_simp
                try go_bits
                first | exact rel_val (Chg.refl _) | (go_simp; exact rel_val (Chg.refl _))
              case to10 =>
                rintro a wx hE hin (h8 : a.eval (.tmp 115) = _) (h9 : a.eval (.tmp 116) = _)
                clear hin
                have hcst : ∀ v, a.eval (.const v) = v := fun _ => rfl
                have hfnc : ∀ f, a.eval (.func f) = .func (.func f) #[] #[] := fun _ => rfl
                refine want_none rfl ?_
                unfold Oper.wp
                generalize a.eval = ρ at *
                go_simp
                try go_bits
                first | exact rel_val (Chg.refl _) | (go_simp; exact rel_val (Chg.refl _))
              case to11 =>
                rintro a wx hE hin (h10 : a.eval (.tmp 117) = _)
                clear hin
                have hcst : ∀ v, a.eval (.const v) = v := fun _ => rfl
                have hfnc : ∀ f, a.eval (.func f) = .func (.func f) #[] #[] := fun _ => rfl
                refine want_none rfl ?_
                unfold Oper.wp
                generalize a.eval = ρ at *
                go_simp
                try go_bits
                first | exact rel_val (Chg.refl _) | (go_simp; exact rel_val (Chg.refl _))
              case to12 =>
                rintro a wx hE hin (h11 : a.eval (.tmp 118) = _)
                clear hin
                have hcst : ∀ v, a.eval (.const v) = v := fun _ => rfl
                have hfnc : ∀ f, a.eval (.func f) = .func (.func f) #[] #[] := fun _ => rfl
                refine want_none rfl ?_
                unfold Oper.wp
                generalize a.eval = ρ at *
                have c : wx.cell? (bd.add (k * 33)) = some (.int .i64 (x : Int)) := HPC.out wx (Es.out.trans (hE.undrew.below Es.out.size (fun _ _ => id)))
                go_simp
                try go_bits
                first | exact rel_val (Chg.refl _) | (go_simp; exact rel_val (Chg.refl _))
              case to13 =>
                rintro a wx hE hin (h6 : a.eval (.tmp 113) = _) (h12 : a.eval (.tmp 119) = _)
                clear hin
                have hcst : ∀ v, a.eval (.const v) = v := fun _ => rfl
                have hfnc : ∀ f, a.eval (.func f) = .func (.func f) #[] #[] := fun _ => rfl
                refine want_none rfl ?_
                unfold Oper.wp
                generalize a.eval = ρ at *
                go_simp
                try go_bits
                first | exact rel_val (Chg.refl _) | (go_simp; exact rel_val (Chg.refl _))
              case to14 =>
                rintro a wx hE hin (h13 : a.eval (.tmp 120) = _)
                clear hin
                have hcst : ∀ v, a.eval (.const v) = v := fun _ => rfl
                have hfnc : ∀ f, a.eval (.func f) = .func (.func f) #[] #[] := fun _ => rfl
                refine want_none rfl ?_
                unfold Oper.wp
                generalize a.eval = ρ at *
                go_simp
                try go_bits
                first | exact rel_val (Chg.refl _) | (go_simp; exact rel_val (Chg.refl _))
              case to15 =>
                rintro a wx hE hin (h14 : a.eval (.tmp 121) = _)
                have i5 : a.eval (.tmp 5) = .slice (some ad) M ca := hin 5 rfl
                clear hin
                have hcst : ∀ v, a.eval (.const v) = v := fun _ => rfl
                have hfnc : ∀ f, a.eval (.func f) = .func (.func f) #[] #[] := fun _ => rfl
                refine want_yes rfl rfl h14 ?_
                unfold Oper.wp
                generalize a.eval = ρ at *
                go_simp
                try go_bits
                first | exact rel_val (Chg.refl _) | (go_simp; exact rel_val (Chg.refl _))
              case to16 =>
                rintro a wx hE hin (h14 : a.eval (.tmp 121) = _)
                have i10 : a.eval (.tmp 10) = .int .i64 (k : Int) := hin 10 rfl
                clear hin
                have hcst : ∀ v, a.eval (.const v) = v := fun _ => rfl
                have hfnc : ∀ f, a.eval (.func f) = .func (.func f) #[] #[] := fun _ => rfl
                refine want_yes rfl rfl h14 ?_
                unfold Oper.wp
                generalize a.eval = ρ at *
                go_simp
                try go_bits
                first | exact rel_val (Chg.refl _) | (go_simp; exact rel_val (Chg.refl _))
              case to17 =>
                rintro a wx hE hin (h14 : a.eval (.tmp 121) = _) (h16 : a.eval (.tmp 123) = _)
                clear hin
                have hcst : ∀ v, a.eval (.const v) = v := fun _ => rfl
                have hfnc : ∀ f, a.eval (.func f) = .func (.func f) #[] #[] := fun _ => rfl
                refine want_yes rfl rfl h14 ?_
                unfold Oper.wp
                generalize a.eval = ρ at *
                go_simp
                try go_bits
                first | exact rel_val (Chg.refl _) | (go_simp; exact rel_val (Chg.refl _))
              case to18 =>
                rintro a wx hE hin (h14 : a.eval (.tmp 121) = _) (h17 : a.eval (.tmp 124) = _)
                clear hin
                have hcst : ∀ v, a.eval (.const v) = v := fun _ => rfl
                have hfnc : ∀ f, a.eval (.func f) = .func (.func f) #[] #[] := fun _ => rfl
                refine want_yes rfl rfl h14 ?_
                unfold Oper.wp
                generalize a.eval = ρ at *
                go_simp
                try go_bits
                first | exact rel_val (Chg.refl _) | (go_simp; exact rel_val (Chg.refl _))
              case to19 =>
                rintro a wx hE hin (h14 : a.eval (.tmp 121) = _)
                have i10 : a.eval (.tmp 10) = .int .i64 (k : Int) := hin 10 rfl
                clear hin
                have hcst : ∀ v, a.eval (.const v) = v := fun _ => rfl
                have hfnc : ∀ f, a.eval (.func f) = .func (.func f) #[] #[] := fun _ => rfl
                refine want_yes rfl rfl h14 ?_
                unfold Oper.wp
                generalize a.eval = ρ at *
                go_simp
                try go_bits
                first | exact rel_val (Chg.refl _) | (go_simp; exact rel_val (Chg.refl _))
              case to20 =>
                rintro a wx hE hin (h14 : a.eval (.tmp 121) = _) (h19 : a.eval (.tmp 126) = _)
                clear hin
                have hcst : ∀ v, a.eval (.const v) = v := fun _ => rfl
                have hfnc : ∀ f, a.eval (.func f) = .func (.func f) #[] #[] := fun _ => rfl
                refine want_yes rfl rfl h14 ?_
                unfold Oper.wp
                generalize a.eval = ρ at *
                go_simp
                try go_bits
                first | exact rel_val (Chg.refl _) | (go_simp; exact rel_val (Chg.refl _))
              case to21 =>
                rintro a wx hE hin (h14 : a.eval (.tmp 121) = _) (h20 : a.eval (.tmp 127) = _)
                clear hin
                have hcst : ∀ v, a.eval (.const v) = v := fun _ => rfl
                have hfnc : ∀ f, a.eval (.func f) = .func (.func f) #[] #[] := fun _ => rfl
                refine want_yes rfl rfl h14 ?_
                unfold Oper.wp
                generalize a.eval = ρ at *
                go_simp
                try go_bits
                first | exact rel_val (Chg.refl _) | (go_simp; exact rel_val (Chg.refl _))
              case to22 =>
                rintro a wx hE hin (h14 : a.eval (.tmp 121) = _) (h15 : a.eval (.tmp 122) = _) (h18 : a.eval (.tmp 125) = _) (h21 : a.eval (.tmp 128) = _)
                clear hin
                have hcst : ∀ v, a.eval (.const v) = v := fun _ => rfl
                have hfnc : ∀ f, a.eval (.func f) = .func (.func f) #[] #[] := fun _ => rfl
                refine want_yes rfl rfl h14 ?_
                unfold Oper.wp
                generalize a.eval = ρ at *
                go_simp
                rw [if_neg (by omega), show ((43 : Int) + 33 * (k : Int)).toNat - (11 + 33 * k) = 32 by omega]
                exact rel_val (Chg.refl _)
              case to23 =>
                rintro a wx hE hin (h14 : a.eval (.tmp 121) = _)
                have i2 : a.eval (.tmp 2) = .pointer (some ⟨w.heap.size, 0, none⟩) := hin 2 rfl
                clear hin
                have hcst : ∀ v, a.eval (.const v) = v := fun _ => rfl
                have hfnc : ∀ f, a.eval (.func f) = .func (.func f) #[] #[] := fun _ => rfl
                refine want_yes rfl rfl h14 ?_
                unfold Oper.wp
                generalize a.eval = ρ at *
                go_simp
                try go_bits
                first | exact rel_val (Chg.refl _) | (go_simp; exact rel_val (Chg.refl _))
              case to24 =>
                rintro a wx hE hin (h14 : a.eval (.tmp 121) = _) (h23 : a.eval (.tmp 130) = _)
                clear hin
                have hcst : ∀ v, a.eval (.const v) = v := fun _ => rfl
                have hfnc : ∀ f, a.eval (.func f) = .func (.func f) #[] #[] := fun _ => rfl
                refine want_yes rfl rfl h14 ?_
                unfold Oper.wp
                generalize a.eval = ρ at *
                have c := Bk.cell (Kts.out.drew.chg hE id) D3A.out
                go_simp
                try go_bits
                first | exact rel_val (Chg.refl _) | (go_simp; exact rel_val (Chg.refl _))
              case to25 =>
                rintro a wx hE hin (h14 : a.eval (.tmp 121) = _)
                have i10 : a.eval (.tmp 10) = .int .i64 (k : Int) := hin 10 rfl
                clear hin
                have hcst : ∀ v, a.eval (.const v) = v := fun _ => rfl
                have hfnc : ∀ f, a.eval (.func f) = .func (.func f) #[] #[] := fun _ => rfl
                refine want_yes rfl rfl h14 ?_
                unfold Oper.wp
                generalize a.eval = ρ at *
                go_simp
                try go_bits
                first | exact rel_val (Chg.refl _) | (go_simp; exact rel_val (Chg.refl _))
              case to26 =>
                rintro a wx hE hin (h14 : a.eval (.tmp 121) = _) (h24 : a.eval (.tmp 131) = _) (h25 : a.eval (.tmp 132) = _)
                clear hin
                have hcst : ∀ v, a.eval (.const v) = v := fun _ => rfl
                have hfnc : ∀ f, a.eval (.func f) = .func (.func f) #[] #[] := fun _ => rfl
                refine want_yes rfl rfl h14 ?_
                unfold Oper.wp
                generalize a.eval = ρ at *
                go_simp
                try go_bits
                first | exact rel_val (Chg.refl _) | (go_simp; exact rel_val (Chg.refl _))
              case to27 =>
                rintro a wx hE hin (h14 : a.eval (.tmp 121) = _) (h26 : a.eval (.tmp 133) = _)
                clear hin
                have hcst : ∀ v, a.eval (.const v) = v := fun _ => rfl
                have hfnc : ∀ f, a.eval (.func f) = .func (.func f) #[] #[] := fun _ => rfl
                refine want_yes rfl rfl h14 ?_
                unfold Oper.wp
                generalize a.eval = ρ at *
                go_simp
                try go_bits
                first | exact rel_val (Chg.refl _) | (go_simp; exact rel_val (Chg.refl _))
              case to28 =>
                rintro a wx hE hin (h14 : a.eval (.tmp 121) = _) (h27 : a.eval (.tmp 134) = _)
                clear hin
                have hcst : ∀ v, a.eval (.const v) = v := fun _ => rfl
                have hfnc : ∀ f, a.eval (.func f) = .func (.func f) #[] #[] := fun _ => rfl
                refine want_yes rfl rfl h14 ?_
                unfold Oper.wp
                generalize a.eval = ρ at *
                go_simp
                try go_bits
                first | exact rel_val (Chg.refl _) | (go_simp; exact rel_val (Chg.refl _))
              case to29 =>
                rintro a wx hE hin (h14 : a.eval (.tmp 121) = _) (h22 : a.eval (.tmp 129) = _) (h28 : a.eval (.tmp 135) = _)
                clear hin
                have hcst : ∀ v, a.eval (.const v) = v := fun _ => rfl
                have hfnc : ∀ f, a.eval (.func f) = .func (.func f) #[] #[] := fun _ => rfl
                refine want_yes rfl rfl h14 ?_
                unfold Oper.wp
                generalize a.eval = ρ at *
                go_simp
                refine (keepBytes_calls _ _ _ _ _ _ pd.data pd.data wx HPL.out HPL.out (HPR.out _ (Ras.out.below (hE.undrew.below (Nat.le_refl _) (fun _ _ => id)))) (HPS.out wx (Es.out.trans (hE.undrew.below Es.out.size (fun _ _ => id))))).mono ?_
                rintro e' w' ⟨rfl, rfl⟩
                rw [decide_eq_true rfl]
                exact rel_val (Chg.refl _)
              case to30 =>
                rintro a wx hE hin (h14 : a.eval (.tmp 121) = _) (h29 : a.eval (.tmp 136) = _)
                clear hin
                have hcst : ∀ v, a.eval (.const v) = v := fun _ => rfl
                have hfnc : ∀ f, a.eval (.func f) = .func (.func f) #[] #[] := fun _ => rfl
                refine want_yes rfl rfl h14 ?_
                unfold Oper.wp
                generalize a.eval = ρ at *
                go_simp
                try go_bits
                first | exact rel_val (Chg.refl _) | (go_simp; exact rel_val (Chg.refl _))
              case to31 =>
                rintro a wx hE hin (h14 : a.eval (.tmp 121) = _) (h30 : a.eval (.tmp 137) = _)
                clear hin
                have hcst : ∀ v, a.eval (.const v) = v := fun _ => rfl
                have hfnc : ∀ f, a.eval (.func f) = .func (.func f) #[] #[] := fun _ => rfl
                refine want_none rfl ?_
                unfold Oper.wp
                generalize a.eval = ρ at *
                go_simp
                try go_bits
                first | exact rel_val (Chg.refl _) | (go_simp; exact rel_val (Chg.refl _))
            case tfin =>
              intro wx hE
              rintro _ rfl _ rfl _ rfl _ rfl _ rfl _ rfl _ rfl _ rfl _ rfl _ rfl _ rfl _ rfl _ rfl _ rfl _ rfl _ rfl _ rfl _ rfl _ rfl _ rfl _ rfl _ rfl _ rfl _ rfl _ rfl _ rfl _ rfl _ rfl _ rfl _ rfl _ rfl _ rfl
              simp only [FinOk, List.take_succ_cons, List.take_zero, List.take_nil, List.drop_succ_cons, List.drop_zero, List.drop_nil, Act.put, List.setIfInBounds_toArray, List.set_cons_succ, List.set_cons_zero]
              have hb : Below wr.heap.size wr wx := hE.undrew.below (Nat.le_refl _) (fun _ _ => id)
              have Ewx : Hid (Below w.heap.size w wx) := Es.out.trans (hb.mono Es.out.size)
              have Ktwx : Hid (Bk wx w.heap.size bx) := Kts.out.below hb
              have Kuwx : Hid (Bk wx (w.heap.size + 1) by_) := Kus.out.below hb
              have Rawx : Hid (Rd wx (some ad) (bts lb)) := Ras.out.below hb
              have Rbwx : Hid (Rd wx Ab (bts (encL r.k r.e r.q r.ps))) := Rbs.out.below hb
              clear Es Kts Kus Ras Rbs
              clear hb hE
              go_wp2_with fail
              go_roundw
              case rel => exact ⟨k + 1, by omega, by go_num, Rawx.out, Rbwx.out, Ktwx.out, Kuwx.out, Ewx.out⟩
              case measure => simp [intOf]; omega
          · have hke : n = k := by omega
            subst hke
            have hki : ¬ (((n : Nat) : Int) < (n : Int)) := by omega
            have hms : (M : Int) - 2 = (m2 : Int) := by have := HMM.out; omega
            have hms1 : (M : Int) - 1 = ((m2 + 1 : Nat) : Int) := by have := HMM.out; omega
            have hm2M : (m2 : Int) < (M : Int) := by have := HMM.out; omega
            have hm3M : ((m2 + 1 : Nat) : Int) < (M : Int) := by have := HMM.out; omega
            have hm2c : (m2 : Int) ≤ (ca : Int) := by have := HMM.out; have := HCP.out.1; omega
            have hm2n : m2 ≤ ca := by have := HMM.out; have := HCP.out.1; omega
            have ce2 : wr.cell? (ad.add m2) = some (.int .u8 ((cc.toNat : Int) % 256)) := rd_cellv Ras.out HE2.out
            have ce1 : wr.cell? (ad.add (m2 + 1)) = some (.int .u8 ((cc.toNat : Int) / 256 % 256)) := rd_cellv Ras.out HE1.out
            obtain ⟨m3, hm3⟩ : ∃ m3, m2 + 1 = m3 := ⟨_, rfl⟩
            rw [hm3] at hms1 hm3M ce1
            have HM3 := Lib.hid hm3
            clear hm3
            go_wp2_with fail
            refine calls_at fun w5 hw5 => ?_
            have hb : Below wr.heap.size wr w5 := by rw [← hw5]; exact (Below.refl _ _).alloc (Nat.le_refl _) _
            have Kh5 : Hid (Bk w5 wr.heap.size [.slice (some ad) m2 ca]) := by rw [← hw5]; exact Bk.new wr _ _
            clear hw5 ce1 ce2
            have Ew5 : Hid (Below w.heap.size w w5) := Es.out.trans (hb.mono Es.out.size)
            have Ktw5 : Hid (Bk w5 w.heap.size bx) := Kts.out.below hb
            have Kuw5 : Hid (Bk w5 (w.heap.size + 1) by_) := Kus.out.below hb
            have Raw5 : Hid (Rd w5 (some ad) (bts lb)) := Ras.out.below hb
            have Rbw5 : Hid (Rd w5 Ab (bts (encL r.k r.e r.q r.ps))) := Rbs.out.below hb
            clear Es Kts Kus Ras Rbs
            clear hb
            refine (check_one (A := some ad) (n := m2) (c := ca) (l := lb.take m2) Kh5.out.rd (by rw [HTK.out]; exact HLK.out) hm2n HCP.out.2 (by rw [bts_take']; exact Raw5.out.take m2)).mono ?_
            rintro en w' ⟨rfl, rfl⟩
            rw [HTK.out, HCC.out, show (vu16 cc : Value) = .int .u16 (cc.toNat : Int) from rfl]
            have ce2 : w5.cell? (ad.add m2) = some (.int .u8 ((cc.toNat : Int) % 256)) := rd_cellv Raw5.out HE2.out
            have ce1 : w5.cell? (ad.add m3) = some (.int .u8 ((cc.toNat : Int) / 256 % 256)) := rd_cellv Raw5.out (by rw [← HM3.out]; exact HE1.out)
            clear hmn hlt hki
            repeat (first | go_values | go_skip | go_guarded | go_step | go_upon | go_back | (simp only [Int.not_lt, Int.not_le] at *; go_simp) | (go_values <;> (try go_simp)) | (go_ite <;> go_prune <;> (try go_simp)) | (split <;> (first | (rename_i hx; exact (hx _ rfl).elim) | go_prune)))
            clear ce1 ce2
            by_cases hgr : goodP r.k r.ps = true
            case pos =>
              have hez : encZ r.k r.ps = 0 := if_pos hgr
              have hel : encL r.k r.e r.q r.ps = encP r.k.toNat r.e r.q r.ps := if_pos hgr
              have HSM : Hid (decide (lb = encL r.k r.e r.q r.ps) = pkEq p r) := by rw [hel]; exact HSAME.out hgr
              obtain ⟨bq, hbq⟩ : ∃ bq, pkEq p r = bq := ⟨_, rfl⟩
              have HBQ := Lib.hid hbq
              rw [hez]
              clear hez hel hgr hbq
              go_wp2_with fail
              apply wp_region_rel 14 (Chg NoS) [(Veq _), (Veq _), (Veq _), (Veq _), (Veq _), (Veq (.bool bq)), (Veq (.agg (pktC p.k p.e p.q A n c).toArray)), (Veq (.agg (pktC r.k r.e r.q B m d).toArray)), (Veq (.bool bq)), (Veq _), (Veq _), (Veq _), (Veq (.bool true)), (Veq _)] [[], [0], [1], [2], [2], [2, 3, 4], [2], [2], [2, 6, 7], [2, 5, 8], [2, 9], [10], [11], [11, 12]] [167, 168, 169, 170, 171, 172, 173, 174, 175, 176, 177, 178, 179, 180] (by kernel_rfl) (by kernel_rfl) rfl rfl rfl Chg.refl (fun _ _ _ => Chg.trans) ⟨Veq.lasts, Veq.lasts, Veq.lasts, Veq.lasts, Veq.lasts, Veq.lasts, Veq.lasts, Veq.lasts, Veq.lasts, Veq.lasts, Veq.lasts, Veq.lasts, Veq.lasts, Veq.lasts, trivial⟩ ?lops ?lfin
              case lops =>
                refine ⟨?lo0, ?lo1, ?lo2, ?lo3, ?lo4, ?lo5, ?lo6, ?lo7, ?lo8, ?lo9, ?lo10, ?lo11, ?lo12, ?lo13, trivial⟩
                case lo0 =>
                  intro a wx hE hin
                  have i8 : a.eval (.tmp 8) = .int .i64 0 := hin 8 rfl
                  clear hin
                  have hcst : ∀ v, a.eval (.const v) = v := fun _ => rfl
                  have hfnc : ∀ f, a.eval (.func f) = .func (.func f) #[] #[] := fun _ => rfl
                  refine want_none rfl ?_
                  unfold Oper.wp
                  generalize a.eval = ρ at *
                  go_simp
                  try go_bits
                  first | exact rel_val (Chg.refl _) | (go_simp; exact rel_val (Chg.refl _))
                case lo1 =>
                  rintro a wx hE hin (h0 : a.eval (.tmp 167) = _)
                  clear hin
                  have hcst : ∀ v, a.eval (.const v) = v := fun _ => rfl
                  have hfnc : ∀ f, a.eval (.func f) = .func (.func f) #[] #[] := fun _ => rfl
                  refine want_none rfl ?_
                  unfold Oper.wp
                  generalize a.eval = ρ at *
                  go_simp
                  try go_bits
                  first | exact rel_val (Chg.refl _) | (go_simp; exact rel_val (Chg.refl _))
                case lo2 =>
                  rintro a wx hE hin (h1 : a.eval (.tmp 168) = _)
                  clear hin
                  have hcst : ∀ v, a.eval (.const v) = v := fun _ => rfl
                  have hfnc : ∀ f, a.eval (.func f) = .func (.func f) #[] #[] := fun _ => rfl
                  refine want_none rfl ?_
                  unfold Oper.wp
                  generalize a.eval = ρ at *
                  go_simp
                  try go_bits
                  first | exact rel_val (Chg.refl _) | (go_simp; exact rel_val (Chg.refl _))
                case lo3 =>
                  rintro a wx hE hin (h2 : a.eval (.tmp 169) = _)
                  have i5 : a.eval (.tmp 5) = .slice (some ad) M ca := hin 5 rfl
                  clear hin
                  have hcst : ∀ v, a.eval (.const v) = v := fun _ => rfl
                  have hfnc : ∀ f, a.eval (.func f) = .func (.func f) #[] #[] := fun _ => rfl
                  refine want_yes rfl rfl h2 ?_
                  unfold Oper.wp
                  generalize a.eval = ρ at *
                  go_simp
                  try go_bits
                  first | exact rel_val (Chg.refl _) | (go_simp; exact rel_val (Chg.refl _))
                case lo4 =>
                  rintro a wx hE hin (h2 : a.eval (.tmp 169) = _)
                  have i7 : a.eval (.tmp 7) = .slice Ab (encL r.k r.e r.q r.ps).length cb := hin 7 rfl
                  clear hin
                  have hcst : ∀ v, a.eval (.const v) = v := fun _ => rfl
                  have hfnc : ∀ f, a.eval (.func f) = .func (.func f) #[] #[] := fun _ => rfl
                  refine want_yes rfl rfl h2 ?_
                  unfold Oper.wp
                  generalize a.eval = ρ at *
                  go_simp
                  try go_bits
                  first | exact rel_val (Chg.refl _) | (go_simp; exact rel_val (Chg.refl _))
                case lo5 =>
                  rintro a wx hE hin (h2 : a.eval (.tmp 169) = _) (h3 : a.eval (.tmp 170) = _) (h4 : a.eval (.tmp 171) = _)
                  clear hin
                  have hcst : ∀ v, a.eval (.const v) = v := fun _ => rfl
                  have hfnc : ∀ f, a.eval (.func f) = .func (.func f) #[] #[] := fun _ => rfl
                  refine want_yes rfl rfl h2 ?_
                  unfold Oper.wp
                  generalize a.eval = ρ at *
                  go_simp
                  refine (keepBytes_calls _ _ _ _ _ _ lb (encL r.k r.e r.q r.ps) wx HM.out rfl (Raw5.out.below (hE.undrew.below (Nat.le_refl _) (fun _ _ => id))) (Rbw5.out.below (hE.undrew.below (Nat.le_refl _) (fun _ _ => id)))).mono ?_
                  rintro e' w' ⟨rfl, rfl⟩
                  rw [HSM.out, HBQ.out]
                  exact rel_val (Chg.refl _)
                case lo6 =>
                  rintro a wx hE hin (h2 : a.eval (.tmp 169) = _)
                  have i2 : a.eval (.tmp 2) = .pointer (some ⟨w.heap.size, 0, none⟩) := hin 2 rfl
                  clear hin
                  have hcst : ∀ v, a.eval (.const v) = v := fun _ => rfl
                  have hfnc : ∀ f, a.eval (.func f) = .func (.func f) #[] #[] := fun _ => rfl
                  refine want_yes rfl rfl h2 ?_
                  exact wp_ldrQ 25 (.tmp 2) rfl ⟨w.heap.size, 0, none⟩ 4 (pktC p.k p.e p.q A n c) i2 (by have h := (Ktw5.out.drew.chg hE id).rd; rwa [← HBX.out] at h) (by kernel_rfl) (by kernel_rfl) rfl (rel_val (Chg.refl _))
                case lo7 =>
                  rintro a wx hE hin (h2 : a.eval (.tmp 169) = _)
                  have i3 : a.eval (.tmp 3) = .pointer (some ⟨w.heap.size + 1, 0, none⟩) := hin 3 rfl
                  clear hin
                  have hcst : ∀ v, a.eval (.const v) = v := fun _ => rfl
                  have hfnc : ∀ f, a.eval (.func f) = .func (.func f) #[] #[] := fun _ => rfl
                  refine want_yes rfl rfl h2 ?_
                  exact wp_ldrQ 25 (.tmp 3) rfl ⟨(w.heap.size + 1), 0, none⟩ 4 (pktC r.k r.e r.q B m d) i3 (by have h := (Kuw5.out.drew.chg hE id).rd; rwa [← HBY.out] at h) (by kernel_rfl) (by kernel_rfl) rfl (rel_val (Chg.refl _))
                case lo8 =>
                  rintro a wx hE hin (h2 : a.eval (.tmp 169) = _) (h6 : a.eval (.tmp 173) = _) (h7 : a.eval (.tmp 174) = _)
                  clear hin
                  have hcst : ∀ v, a.eval (.const v) = v := fun _ => rfl
                  have hfnc : ∀ f, a.eval (.func f) = .func (.func f) #[] #[] := fun _ => rfl
                  refine want_yes rfl rfl h2 ?_
                  unfold Oper.wp
                  generalize a.eval = ρ at *
                  go_simp
                  refine (packSame_calls p r A B n m c d wx HOK.out.len HOR.out.len (Nat.le_trans HN5.out (by decide)) (HOK.out.rd.below (Ew5.out.trans (hE.undrew.below Ew5.out.size (fun _ _ => id)))) (HOR.out.rd.below (Ew5.out.trans (hE.undrew.below Ew5.out.size (fun _ _ => id)))) HOK.out.ok HOR.out.ok).mono ?_
                  rintro e' w' ⟨rfl, hb⟩
                  rw [HBQ.out]
                  exact rel_val (.of_below hb)
                case lo9 =>
                  rintro a wx hE hin (h2 : a.eval (.tmp 169) = _) (h5 : a.eval (.tmp 172) = _) (h8 : a.eval (.tmp 175) = _)
                  clear hin
                  have hcst : ∀ v, a.eval (.const v) = v := fun _ => rfl
                  have hfnc : ∀ f, a.eval (.func f) = .func (.func f) #[] #[] := fun _ => rfl
                  refine want_yes rfl rfl h2 ?_
                  unfold Oper.wp
                  generalize a.eval = ρ at *
                  go_simp
                  try go_bits
                  first | exact rel_val (Chg.refl _) | (go_simp; exact rel_val (Chg.refl _))
                case lo10 =>
                  rintro a wx hE hin (h2 : a.eval (.tmp 169) = _) (h9 : a.eval (.tmp 176) = _)
                  clear hin
                  have hcst : ∀ v, a.eval (.const v) = v := fun _ => rfl
                  have hfnc : ∀ f, a.eval (.func f) = .func (.func f) #[] #[] := fun _ => rfl
                  refine want_none rfl ?_
                  unfold Oper.wp
                  generalize a.eval = ρ at *
                  go_simp
                  try go_bits
                  first | exact rel_val (Chg.refl _) | (go_simp; exact rel_val (Chg.refl _))
                case lo11 =>
                  rintro a wx hE hin (h10 : a.eval (.tmp 177) = _)
                  clear hin
                  have hcst : ∀ v, a.eval (.const v) = v := fun _ => rfl
                  have hfnc : ∀ f, a.eval (.func f) = .func (.func f) #[] #[] := fun _ => rfl
                  refine want_none rfl ?_
                  unfold Oper.wp
                  generalize a.eval = ρ at *
                  go_simp
                  try go_bits
                  first | exact rel_val (Chg.refl _) | (go_simp; exact rel_val (Chg.refl _))
                case lo12 =>
                  rintro a wx hE hin (h11 : a.eval (.tmp 178) = _)
                  clear hin
                  have hcst : ∀ v, a.eval (.const v) = v := fun _ => rfl
                  have hfnc : ∀ f, a.eval (.func f) = .func (.func f) #[] #[] := fun _ => rfl
                  refine want_yes rfl rfl h11 ?_
                  unfold Oper.wp
                  generalize a.eval = ρ at *
                  go_simp
                  refine (wakes18_calls wx).mono ?_
                  rintro e' w' ⟨rfl, hb⟩
                  exact rel_val (.of_below hb)
                case lo13 =>
                  rintro a wx hE hin (h11 : a.eval (.tmp 178) = _) (h12 : a.eval (.tmp 179) = _)
                  clear hin
                  have hcst : ∀ v, a.eval (.const v) = v := fun _ => rfl
                  have hfnc : ∀ f, a.eval (.func f) = .func (.func f) #[] #[] := fun _ => rfl
                  refine want_none rfl ?_
                  unfold Oper.wp
                  generalize a.eval = ρ at *
                  go_simp
                  try go_bits
                  first | exact rel_val (Chg.refl _) | (go_simp; exact rel_val (Chg.refl _))
              case lfin =>
                intro wx hE
                rintro _ rfl _ rfl _ rfl _ rfl _ rfl _ rfl _ rfl _ rfl _ rfl _ rfl _ rfl _ rfl _ rfl _ rfl
                simp only [FinOk, List.take_succ_cons, List.take_zero, List.take_nil, List.drop_succ_cons, List.drop_zero, List.drop_nil, Act.put, List.setIfInBounds_toArray, List.set_cons_succ, List.set_cons_zero]
                have EX : Hid (Below w.heap.size w wx) := (Ew5.out.trans (hE.undrew.below Ew5.out.size (fun _ _ => id)))
                clear hE
                go_wp2_with fail
                (try simp only [Exit.inBlock, Exit.then])
                go_ret
                exact ⟨rfl, EX.out⟩
            case neg =>
              have hez : encZ r.k r.ps = 11 := if_neg hgr
              rw [hez]
              clear hez hgr
              go_wp2_with fail
              apply wp_region_rel 14 (Chg NoS) [(Veq _), (Veq _), (Veq _), (Veq undef), (Veq undef), (Veq undef), (Veq undef), (Veq undef), (Veq undef), (Veq undef), (Veq _), (Veq _), (Veq (.bool true)), (Veq _)] [[], [0], [1], [2], [2], [2], [2], [2], [2], [2], [2, 9], [10], [11], [11, 12]] [167, 168, 169, 170, 171, 172, 173, 174, 175, 176, 177, 178, 179, 180] (by kernel_rfl) (by kernel_rfl) rfl rfl rfl Chg.refl (fun _ _ _ => Chg.trans) ⟨Veq.lasts, Veq.lasts, Veq.lasts, Veq.lasts, Veq.lasts, Veq.lasts, Veq.lasts, Veq.lasts, Veq.lasts, Veq.lasts, Veq.lasts, Veq.lasts, Veq.lasts, Veq.lasts, trivial⟩ ?lops ?lfin
              case lops =>
                refine ⟨?lo0, ?lo1, ?lo2, ?lo3, ?lo4, ?lo5, ?lo6, ?lo7, ?lo8, ?lo9, ?lo10, ?lo11, ?lo12, ?lo13, trivial⟩
                case lo0 =>
                  intro a wx hE hin
                  have i8 : a.eval (.tmp 8) = .int .i64 11 := hin 8 rfl
                  clear hin
                  have hcst : ∀ v, a.eval (.const v) = v := fun _ => rfl
                  have hfnc : ∀ f, a.eval (.func f) = .func (.func f) #[] #[] := fun _ => rfl
                  refine want_none rfl ?_
                  unfold Oper.wp
                  generalize a.eval = ρ at *
                  go_simp
                  try go_bits
                  first | exact rel_val (Chg.refl _) | (go_simp; exact rel_val (Chg.refl _))
                case lo1 =>
                  rintro a wx hE hin (h0 : a.eval (.tmp 167) = _)
                  clear hin
                  have hcst : ∀ v, a.eval (.const v) = v := fun _ => rfl
                  have hfnc : ∀ f, a.eval (.func f) = .func (.func f) #[] #[] := fun _ => rfl
                  refine want_none rfl ?_
                  unfold Oper.wp
                  generalize a.eval = ρ at *
                  go_simp
                  try go_bits
                  first | exact rel_val (Chg.refl _) | (go_simp; exact rel_val (Chg.refl _))
                case lo2 =>
                  rintro a wx hE hin (h1 : a.eval (.tmp 168) = _)
                  clear hin
                  have hcst : ∀ v, a.eval (.const v) = v := fun _ => rfl
                  have hfnc : ∀ f, a.eval (.func f) = .func (.func f) #[] #[] := fun _ => rfl
                  refine want_none rfl ?_
                  unfold Oper.wp
                  generalize a.eval = ρ at *
                  go_simp
                  try go_bits
                  first | exact rel_val (Chg.refl _) | (go_simp; exact rel_val (Chg.refl _))
                case lo3 =>
                  rintro a wx hE hin (h2 : a.eval (.tmp 169) = _)
                  clear hin
                  exact want_not rfl rfl h2 rfl
                case lo4 =>
                  rintro a wx hE hin (h2 : a.eval (.tmp 169) = _)
                  clear hin
                  exact want_not rfl rfl h2 rfl
                case lo5 =>
                  rintro a wx hE hin (h2 : a.eval (.tmp 169) = _)
                  clear hin
                  exact want_not rfl rfl h2 rfl
                case lo6 =>
                  rintro a wx hE hin (h2 : a.eval (.tmp 169) = _)
                  clear hin
                  exact want_not rfl rfl h2 rfl
                case lo7 =>
                  rintro a wx hE hin (h2 : a.eval (.tmp 169) = _)
                  clear hin
                  exact want_not rfl rfl h2 rfl
                case lo8 =>
                  rintro a wx hE hin (h2 : a.eval (.tmp 169) = _)
                  clear hin
                  exact want_not rfl rfl h2 rfl
                case lo9 =>
                  rintro a wx hE hin (h2 : a.eval (.tmp 169) = _)
                  clear hin
                  exact want_not rfl rfl h2 rfl
                case lo10 =>
                  rintro a wx hE hin (h2 : a.eval (.tmp 169) = _) (h9 : a.eval (.tmp 176) = _)
                  clear hin
                  have hcst : ∀ v, a.eval (.const v) = v := fun _ => rfl
                  have hfnc : ∀ f, a.eval (.func f) = .func (.func f) #[] #[] := fun _ => rfl
                  refine want_none rfl ?_
                  unfold Oper.wp
                  generalize a.eval = ρ at *
                  go_simp
                  try go_bits
                  first | exact rel_val (Chg.refl _) | (go_simp; exact rel_val (Chg.refl _))
                case lo11 =>
                  rintro a wx hE hin (h10 : a.eval (.tmp 177) = _)
                  clear hin
                  have hcst : ∀ v, a.eval (.const v) = v := fun _ => rfl
                  have hfnc : ∀ f, a.eval (.func f) = .func (.func f) #[] #[] := fun _ => rfl
                  refine want_none rfl ?_
                  unfold Oper.wp
                  generalize a.eval = ρ at *
                  go_simp
                  try go_bits
                  first | exact rel_val (Chg.refl _) | (go_simp; exact rel_val (Chg.refl _))
                case lo12 =>
                  rintro a wx hE hin (h11 : a.eval (.tmp 178) = _)
                  clear hin
                  have hcst : ∀ v, a.eval (.const v) = v := fun _ => rfl
                  have hfnc : ∀ f, a.eval (.func f) = .func (.func f) #[] #[] := fun _ => rfl
                  refine want_yes rfl rfl h11 ?_
                  unfold Oper.wp
                  generalize a.eval = ρ at *
                  go_simp
                  refine (wakes18_calls wx).mono ?_
                  rintro e' w' ⟨rfl, hb⟩
                  exact rel_val (.of_below hb)
                case lo13 =>
                  rintro a wx hE hin (h11 : a.eval (.tmp 178) = _) (h12 : a.eval (.tmp 179) = _)
                  clear hin
                  have hcst : ∀ v, a.eval (.const v) = v := fun _ => rfl
                  have hfnc : ∀ f, a.eval (.func f) = .func (.func f) #[] #[] := fun _ => rfl
                  refine want_none rfl ?_
                  unfold Oper.wp
                  generalize a.eval = ρ at *
                  go_simp
                  try go_bits
                  first | exact rel_val (Chg.refl _) | (go_simp; exact rel_val (Chg.refl _))
              case lfin =>
                intro wx hE
                rintro _ rfl _ rfl _ rfl _ rfl _ rfl _ rfl _ rfl _ rfl _ rfl _ rfl _ rfl _ rfl _ rfl _ rfl
                simp only [FinOk, List.take_succ_cons, List.take_zero, List.take_nil, List.drop_succ_cons, List.drop_zero, List.drop_nil, Act.put, List.setIfInBounds_toArray, List.set_cons_succ, List.set_cons_zero]
                have EX : Hid (Below w.heap.size w wx) := (Ew5.out.trans (hE.undrew.below Ew5.out.size (fun _ _ => id)))
                clear hE
                go_wp2_with fail
                (try simp only [Exit.inBlock, Exit.then])
                go_ret
                exact ⟨rfl, EX.out⟩
end Go.Proofs.Ytpldcmcldoidaaa
