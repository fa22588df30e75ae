import Derived.Test.YtpldcmcldoidaaaPacketTurnsWalk
import Derived.Test.YtpldcmcldoidaaaPkRefDec

/- The walk of PacketCodes. -/
namespace Go.Proofs.Ytpldcmcldoidaaa
open Go.RowKit
set_option linter.unusedVariables false
set_option linter.unusedSimpArgs false

def encL (k : Int) (e q : UInt32) (ps : List PutV) : List UInt8 := if goodP k ps = true then encP k.toNat e q ps else []
def encZ (k : Int) (ps : List PutV) : Int := if goodP k ps = true then 0 else 11
def EncAny (w : World) (k : Int) (e q : UInt32) (ps : List PutV) (en : Ending) (w' : World) : Prop :=
  ∃ A c, en = .returned (.tuple #[.slice A (encL k e q ps).length c, .int .i64 (encZ k ps)]) ∧ Rd w' A (bts (encL k e q ps)) ∧ Below w.heap.size w w'
theorem packEncode_any (k : Int) (e q : UInt32) (ps : List PutV) (A : Option Addr) (n c : Nat) (w : World) (hl : ps.length = n) (hm : n ≤ 9223372036854775807) (hr : Rd w A (ps.flatMap putC)) (ho : PutsOk ps) :
    Calls Try.prog 8 #[.agg (pktC k e q A n c).toArray] w (EncAny w k e q ps) :=
  (packEncode_calls k e q ps A n c w hl hm hr ho).mono fun en w' hp => by
    unfold EncPost at hp
    unfold EncAny encL encZ
    split at hp
    · rename_i h
      obtain ⟨A1, c1, rfl, ho1, hb⟩ := hp
      simp only [if_pos h]
      exact ⟨A1, c1, rfl, own_rdQ ho1, hb⟩
    · rename_i h
      obtain ⟨rfl, hb⟩ := hp
      simp only [if_neg h]
      exact ⟨none, 0, rfl, Rd.nil _ _, hb⟩
theorem refPackEncode_any (k : Int) (e q : UInt32) (ps : List PutV) (A : Option Addr) (n c : Nat) (w : World) (hl : ps.length = n) (hm : n ≤ 9223372036854775807) (hr : Rd w A (ps.flatMap putC)) (ho : PutsOk ps) :
    Calls Try.prog 9 #[.agg (pktC k e q A n c).toArray] w (EncAny w k e q ps) :=
  (refPackEncode_calls k e q ps A n c w hl hm hr ho).mono fun en w' hp => by
    unfold RefEncPost at hp
    unfold EncAny encL encZ
    split at hp
    · rename_i h
      obtain ⟨A1, c1, rfl, hr1, _, _, hb⟩ := hp
      simp only [if_pos h]
      exact ⟨A1, c1, rfl, hr1, hb⟩
    · rename_i h
      obtain ⟨rfl, hb⟩ := hp
      simp only [if_neg h]
      exact ⟨none, 0, rfl, Rd.nil _ _, hb⟩
def OwnPk (r : PkV) (m : Nat) : Fact := fun w v => ∃ A c, v = .agg (pktC r.k r.e r.q A m c).toArray ∧ Rd w A (r.ps.flatMap putC)
theorem OwnPk.lasts {r : PkV} {m : Nat} : ∀ w w' v, Chg NoS w w' → OwnPk r m w v → OwnPk r m w' v := fun _ _ _ h ⟨A, c, e, hr⟩ => ⟨A, c, e, hr.chg h⟩
set_option maxRecDepth 100000 in
set_option maxHeartbeats 32000000 in
theorem packetCodes_calls (w : World) (p r : PkV) (A B Az : Option Addr) (n c m d nb cz : Nat) (lb : List UInt8) (hok : PkOk w p A n c) (hor : PkOk w r B m d) (hlb : lb.length = nb) (hcz : nb ≤ cz) (hcz2 : cz ≤ 9223372036854775807) (hrz : Rd w Az (bts lb)) :
    Calls Try.prog 3 #[.agg (pktC p.k p.e p.q A n c).toArray, .agg (pktC r.k r.e r.q B m d).toArray, .slice Az nb cz] w fun e w' => e = .returned (.bool true) ∧ Below w.heap.size w w' := by
  have HOK := Lib.hid hok
  have HOR := Lib.hid hor
  have HLB := Lib.hid hlb
  have HCZ : Hid (nb ≤ cz ∧ cz ≤ 9223372036854775807) := ⟨hcz, hcz2⟩
  have HRZ := Lib.hid hrz
  clear hok hor hlb hcz hcz2 hrz
  obtain ⟨bx, hbx⟩ : ∃ bx, (pktC p.k p.e p.q A n c) = bx := ⟨_, rfl⟩
  have HBX := Lib.hid hbx
  have D3 : Hid (bx[3]? = some (.slice A n c)) := by rw [← hbx]; exact (rfl : _ = _)
  have HBL : Hid (bx.length = 4) := by show _ = _; rw [← hbx]; rfl
  obtain ⟨by_, hby⟩ : ∃ by_, (pktC r.k r.e r.q B m d) = by_ := ⟨_, rfl⟩
  have HBY := Lib.hid hby
  have D4 : Hid (by_[3]? = some (.slice B m d)) := by rw [← hby]; exact (rfl : _ = _)
  have HBM : Hid (by_.length = 4) := by show _ = _; rw [← hby]; rfl
  rw [hbx, hby]
  clear hbx hby
  go_enter Try.func3, Try.ntmps3
  have d3 := ((Bk.new w bx 25).alloc (.cells by_.toArray 25)).cell D3.out
  have d4 : ((w.alloc (.cells bx.toArray 25)).alloc (.cells by_.toArray 25)).cell? ⟨w.heap.size + 1, 3, none⟩ = some (.slice B m d) := (Bk.new_at (by simp) rfl : Bk _ (w.heap.size + 1) by_).cell D4.out
  by_cases hg0 : 50 < n
  · have hgi : (50 : Int) < (n : Int) := by omega
    go_wp2_with fail
    refine calls_at fun w1 hw1 => ?_
    have Ew1 : Hid (Below w.heap.size w w1) := by rw [← hw1]; exact ((Below.refl _ _).alloc (Nat.le_refl _) _).alloc (by simp) _
    have Ktw1 : Hid (Bk w1 w.heap.size bx) := by rw [← hw1]; exact (Bk.new w bx _).alloc _
    have Kuw1 : Hid (Bk w1 (w.heap.size + 1) by_) := by rw [← hw1]; exact Bk.new_at (by simp) rfl
    clear hw1 d3 d4
    refine (wakes18_calls w1).mono ?_
    rintro en w2 ⟨rfl, hb⟩
    have Ew2 : Hid (Below w.heap.size w w2) := Ew1.out.trans (hb.mono Ew1.out.size)
    have Ktw2 : Hid (Bk w2 w.heap.size bx) := Ktw1.out.below hb
    have Kuw2 : Hid (Bk w2 (w.heap.size + 1) by_) := Kuw1.out.below hb
    clear Ew1 Ktw1 Kuw1
    clear hb
    go_wp2_with fail
    (try simp only [Exit.inBlock, Exit.then])
    go_ret
    exact ⟨rfl, Ew2.out⟩
  by_cases hg1 : 50 < m
  · have hgi : (50 : Int) < (m : Int) := by omega
    have h1i : ¬ (50 : Int) < (n : Int) := by omega
    go_wp2_with fail
    refine calls_at fun w1 hw1 => ?_
    have Ew1 : Hid (Below w.heap.size w w1) := by rw [← hw1]; exact ((Below.refl _ _).alloc (Nat.le_refl _) _).alloc (by simp) _
    have Ktw1 : Hid (Bk w1 w.heap.size bx) := by rw [← hw1]; exact (Bk.new w bx _).alloc _
    have Kuw1 : Hid (Bk w1 (w.heap.size + 1) by_) := by rw [← hw1]; exact Bk.new_at (by simp) rfl
    clear hw1 d3 d4
    refine (wakes18_calls w1).mono ?_
    rintro en w2 ⟨rfl, hb⟩
    have Ew2 : Hid (Below w.heap.size w w2) := Ew1.out.trans (hb.mono Ew1.out.size)
    have Ktw2 : Hid (Bk w2 w.heap.size bx) := Ktw1.out.below hb
    have Kuw2 : Hid (Bk w2 (w.heap.size + 1) by_) := Kuw1.out.below hb
    clear Ew1 Ktw1 Kuw1
    clear hb
    go_wp2_with fail
    (try simp only [Exit.inBlock, Exit.then])
    go_ret
    exact ⟨rfl, Ew2.out⟩
  by_cases hg2 : 1000 < nb
  · have hgi : (1000 : Int) < (nb : Int) := by omega
    have h1i : ¬ (50 : Int) < (n : Int) := by omega
    have h2i : ¬ (50 : Int) < (m : Int) := by omega
    go_wp2_with fail
    refine calls_at fun w1 hw1 => ?_
    have Ew1 : Hid (Below w.heap.size w w1) := by rw [← hw1]; exact ((Below.refl _ _).alloc (Nat.le_refl _) _).alloc (by simp) _
    have Ktw1 : Hid (Bk w1 w.heap.size bx) := by rw [← hw1]; exact (Bk.new w bx _).alloc _
    have Kuw1 : Hid (Bk w1 (w.heap.size + 1) by_) := by rw [← hw1]; exact Bk.new_at (by simp) rfl
    clear hw1 d3 d4
    refine (wakes18_calls w1).mono ?_
    rintro en w2 ⟨rfl, hb⟩
    have Ew2 : Hid (Below w.heap.size w w2) := Ew1.out.trans (hb.mono Ew1.out.size)
    have Ktw2 : Hid (Bk w2 w.heap.size bx) := Ktw1.out.below hb
    have Kuw2 : Hid (Bk w2 (w.heap.size + 1) by_) := Kuw1.out.below hb
    clear Ew1 Ktw1 Kuw1
    clear hb
    go_wp2_with fail
    (try simp only [Exit.inBlock, Exit.then])
    go_ret
    exact ⟨rfl, Ew2.out⟩
  have h1i : ¬ (50 : Int) < (n : Int) := by omega
  have h2i : ¬ (50 : Int) < (m : Int) := by omega
  have h3i : ¬ (1000 : Int) < (nb : Int) := by omega
  go_wp2_with (refine wpList_ld rfl 25 (.tmp 3) rfl w.heap.size 0 4 bx (pktC p.k p.e p.q A n c) rfl ((Bk.new w bx _).alloc _) (by kernel_rfl) (by kernel_rfl) (by rw [HBL.out]; exact Nat.le_refl 4) (by rw [← HBX.out]; rfl) ?_)
  refine calls_at fun w1 hw1 => ?_
  have Ew1 : Hid (Below w.heap.size w w1) := by rw [← hw1]; exact ((Below.refl _ _).alloc (Nat.le_refl _) _).alloc (by simp) _
  have Ktw1 : Hid (Bk w1 w.heap.size bx) := by rw [← hw1]; exact (Bk.new w bx _).alloc _
  have Kuw1 : Hid (Bk w1 (w.heap.size + 1) by_) := by rw [← hw1]; exact Bk.new_at (by simp) rfl
  have Rzw1 : Hid (Rd w1 Az (bts lb)) := HRZ.out.below Ew1.out
  clear hw1 d3 d4 h1i h2i h3i
  refine (own18_calls p A n c w1 (HOK.out.below Ew1.out) (by omega)).mono ?_
  rintro en w2 ⟨Ao, co, rfl, hr, hb⟩
  have Ew2 : Hid (Below w.heap.size w w2) := Ew1.out.trans (hb.mono Ew1.out.size)
  have Ktw2 : Hid (Bk w2 w.heap.size bx) := Ktw1.out.below hb
  have Kuw2 : Hid (Bk w2 (w.heap.size + 1) by_) := Kuw1.out.below hb
  have Rzw2 : Hid (Rd w2 Az (bts lb)) := Rzw1.out.below hb
  clear Ew1 Ktw1 Kuw1 Rzw1
  have Row2 := Lib.hid hr
  clear hr hb
  go_wp2_with (refine wpList_al rfl 25 rfl zPkD (by kernel_rfl) ?_)
  intro go w3 hg hb hc hs
  have HQo : Hid (Below w2.heap.size w2 w3) := hc.below (Nat.le_refl _) (fun _ _ => id)
  have HGo : Hid (go = w2.heap.size) := hg
  have KZo := Lib.hid hb
  clear hg hb hc hs
  go_wp2_with (refine wpList_st rfl 25 (.tmp 7) (.tmp 33) rfl go 0 4 zPkD (pktC p.k p.e p.q Ao n co) rfl rfl KZo.out (by kernel_rfl) rfl (by decide) (one_pktD _ _ _ _ _ _) ?_)
  intro w4 hbk hc
  rw [splice_whole zPkD (pktC p.k p.e p.q Ao n co) rfl] at hbk
  have hb : Below w2.heap.size w2 w4 := HQo.out.trans (hc.below HQo.out.size (fun q hq he => by have := HGo.out; omega))
  have Ato : Hid (w.heap.size < go) := by show _ < _; have := Ktw2.out.lt; have := HGo.out; omega
  have Auo : Hid ((w.heap.size + 1) < go) := by show _ < _; have := Kuw2.out.lt; have := HGo.out; omega
  have Ew4 : Hid (Below w.heap.size w w4) := Ew2.out.trans (hb.mono Ew2.out.size)
  have Ktw4 : Hid (Bk w4 w.heap.size bx) := Ktw2.out.below hb
  have Kuw4 : Hid (Bk w4 (w.heap.size + 1) by_) := Kuw2.out.below hb
  have Rzw4 : Hid (Rd w4 Az (bts lb)) := Rzw2.out.below hb
  have Row4 : Hid (Rd w4 Ao (p.ps.flatMap putC)) := Row2.out.below hb
  clear Ew2 Ktw2 Kuw2 Rzw2 Row2
  have Kow4 : Hid (Bk w4 go (pktC p.k p.e p.q Ao n co)) := hbk
  have Kow4 : Hid (Bk w4 go (pktC p.k p.e p.q Ao n co)) := hbk
  clear hbk hb hc KZo HQo HGo
  go_wp2_with (refine wpList_ld rfl 25 (.tmp 7) rfl go 0 4 (pktC p.k p.e p.q Ao n co) (pktC p.k p.e p.q Ao n co) rfl Kow4.out (by kernel_rfl) (by kernel_rfl) (Nat.le_refl 4) rfl ?_)
  refine (packEncode_any p.k p.e p.q p.ps Ao n co w4 HOK.out.len (by have h2 := HOK.out.cap; have h3 := HOK.out.max; omega) Row4.out HOK.out.ok).mono ?_
  rintro en w5 ⟨Aa, ca, rfl, hr, hb⟩
  have Ew5 : Hid (Below w.heap.size w w5) := Ew4.out.trans (hb.mono Ew4.out.size)
  have Ktw5 : Hid (Bk w5 w.heap.size bx) := Ktw4.out.below hb
  have Kuw5 : Hid (Bk w5 (w.heap.size + 1) by_) := Kuw4.out.below hb
  have Kow5 : Hid (Bk w5 go (pktC p.k p.e p.q Ao n co)) := Kow4.out.below hb
  have Rzw5 : Hid (Rd w5 Az (bts lb)) := Rzw4.out.below hb
  have Row5 : Hid (Rd w5 Ao (p.ps.flatMap putC)) := Row4.out.below hb
  clear Ew4 Ktw4 Kuw4 Kow4 Rzw4 Row4
  have Raw5 := Lib.hid hr
  clear hr hb
  go_wp2_with (refine wpList_ld rfl 25 (.tmp 3) rfl w.heap.size 0 4 bx (pktC p.k p.e p.q A n c) rfl Ktw5.out (by kernel_rfl) (by kernel_rfl) (by rw [HBL.out]; exact Nat.le_refl 4) (by rw [← HBX.out]; rfl) ?_)
  refine (refPackEncode_any p.k p.e p.q p.ps A n c w5 HOK.out.len (by have h2 := HOK.out.cap; have h3 := HOK.out.max; omega) (HOK.out.rd.below Ew5.out) HOK.out.ok).mono ?_
  rintro en w6 ⟨Ab, cb, rfl, hr, hb⟩
  have Ew6 : Hid (Below w.heap.size w w6) := Ew5.out.trans (hb.mono Ew5.out.size)
  have Ktw6 : Hid (Bk w6 w.heap.size bx) := Ktw5.out.below hb
  have Kuw6 : Hid (Bk w6 (w.heap.size + 1) by_) := Kuw5.out.below hb
  have Kow6 : Hid (Bk w6 go (pktC p.k p.e p.q Ao n co)) := Kow5.out.below hb
  have Rzw6 : Hid (Rd w6 Az (bts lb)) := Rzw5.out.below hb
  have Row6 : Hid (Rd w6 Ao (p.ps.flatMap putC)) := Row5.out.below hb
  have Raw6 : Hid (Rd w6 Aa (bts (encL p.k p.e p.q p.ps))) := Raw5.out.below hb
  clear Ew5 Ktw5 Kuw5 Kow5 Rzw5 Row5 Raw5
  have Rbw6 := Lib.hid hr
  clear hr hb
  obtain ⟨el, hel⟩ : ∃ el, encL p.k p.e p.q p.ps = el := ⟨_, rfl⟩
  obtain ⟨ez, hez⟩ : ∃ ez, encZ p.k p.ps = ez := ⟨_, rfl⟩
  rw [hel] at Raw6 Rbw6 ⊢
  rw [hez]
  clear hel hez
  go_wp2_with (at_builtin; refine wpList_append_rd rfl _ _ 26 rfl w6.heap.size 5 (.int .u8 0) 1 1 Try.underlying26 info_u8p rfl (by decide) (by decide) (.slice (some ⟨w6.heap.size, 0, none⟩) 0 0) 0 [] rfl ?own Az nb cz (bts lb) rfl ?len ?rd (one_bts _) ?bytes ?base ?_)
  case own => exact empty_own' _ _ rfl
  case len => rw [bts_length, Nat.mul_one]; exact HLB.out
  case rd => exact Rzw6.out.alloc _
  case bytes => omega
  case base => simp
  intro v1 w7 hown hg hat
  obtain ⟨hb, ho⟩ := copyOwn hown hg
  have Ew7 : Hid (Below w.heap.size w w7) := Ew6.out.trans (hb.mono Ew6.out.size)
  have Ktw7 : Hid (Bk w7 w.heap.size bx) := Ktw6.out.below hb
  have Kuw7 : Hid (Bk w7 (w.heap.size + 1) by_) := Kuw6.out.below hb
  have Kow7 : Hid (Bk w7 go (pktC p.k p.e p.q Ao n co)) := Kow6.out.below hb
  have Rzw7 : Hid (Rd w7 Az (bts lb)) := Rzw6.out.below hb
  have Row7 : Hid (Rd w7 Ao (p.ps.flatMap putC)) := Row6.out.below hb
  have Raw7 : Hid (Rd w7 Aa (bts el)) := Raw6.out.below hb
  have Rbw7 : Hid (Rd w7 Ab (bts el)) := Rbw6.out.below hb
  clear Ew6 Ktw6 Kuw6 Kow6 Rzw6 Row6 Raw6 Rbw6
  obtain ⟨Ac, cc, rfl, hr, hnc, hcm⟩ := own_rd ho
  have Rcw7 : Hid (Rd w7 Ac (bts lb)) := hr
  have HCC : Hid (nb ≤ cc ∧ cc ≤ 9223372036854775807) := ⟨hnc, hcm⟩
  clear ho hown hg hat hb hr hnc hcm
  obtain ⟨⟨⟨k2, e2, q2, ps2⟩, z2⟩, hd2⟩ : ∃ r, decP lb = r := ⟨_, rfl⟩
  have HD2 := Lib.hid hd2
  clear hd2
  go_wp2_with fail
  refine (packDecode_calls lb Ac nb cc w7 HLB.out HCC.out.1 HCC.out.2 (by omega) Rcw7.out).mono ?_
  intro en w8 hp
  rw [HD2.out] at hp
  obtain ⟨Av, cv, he, hr, hnc, hcm, hok, hb⟩ := hp
  have he' : en = .returned (.tuple #[.agg (pktC k2 e2 q2 Av ps2.length cv).toArray, .int .i64 z2]) := he
  subst he'
  have hr' : Rd w8 Av (ps2.flatMap putC) := hr
  have HPKv : Hid (PutsOk ps2 ∧ ps2.length ≤ 9223372036854775807) := ⟨hok, Nat.le_trans hnc hcm⟩
  have Ew8 : Hid (Below w.heap.size w w8) := Ew7.out.trans (hb.mono Ew7.out.size)
  have Ktw8 : Hid (Bk w8 w.heap.size bx) := Ktw7.out.below hb
  have Kuw8 : Hid (Bk w8 (w.heap.size + 1) by_) := Kuw7.out.below hb
  have Kow8 : Hid (Bk w8 go (pktC p.k p.e p.q Ao n co)) := Kow7.out.below hb
  have Rzw8 : Hid (Rd w8 Az (bts lb)) := Rzw7.out.below hb
  have Row8 : Hid (Rd w8 Ao (p.ps.flatMap putC)) := Row7.out.below hb
  have Raw8 : Hid (Rd w8 Aa (bts el)) := Raw7.out.below hb
  have Rbw8 : Hid (Rd w8 Ab (bts el)) := Rbw7.out.below hb
  have Rcw8 : Hid (Rd w8 Ac (bts lb)) := Rcw7.out.below hb
  clear Ew7 Ktw7 Kuw7 Kow7 Rzw7 Row7 Raw7 Rbw7 Rcw7
  have Rvw8 := Lib.hid hr'
  clear he hb hr hr' hnc hcm hok
  go_wp2_with (refine wpList_al rfl 25 rfl zPkD (by kernel_rfl) ?_)
  intro gv w9 hg hb hc hs
  have HQv : Hid (Below w8.heap.size w8 w9) := hc.below (Nat.le_refl _) (fun _ _ => id)
  have HGv : Hid (gv = w8.heap.size) := hg
  have KZv := Lib.hid hb
  clear hg hb hc hs
  go_wp2_with (refine wpList_st rfl 25 (.tmp 12) (.tmp 49) rfl gv 0 4 zPkD (pktC k2 e2 q2 Av ps2.length cv) rfl rfl KZv.out (by kernel_rfl) rfl (by decide) (one_pktD _ _ _ _ _ _) ?_)
  intro w10 hbk hc
  rw [splice_whole zPkD (pktC k2 e2 q2 Av ps2.length cv) rfl] at hbk
  have hb : Below w8.heap.size w8 w10 := HQv.out.trans (hc.below HQv.out.size (fun q hq he => by have := HGv.out; omega))
  have Atv : Hid (w.heap.size < gv) := by show _ < _; have := Ktw8.out.lt; have := HGv.out; omega
  have Auv : Hid ((w.heap.size + 1) < gv) := by show _ < _; have := Kuw8.out.lt; have := HGv.out; omega
  have Aov : Hid (go < gv) := by show _ < _; have := Kow8.out.lt; have := HGv.out; omega
  have Ew10 : Hid (Below w.heap.size w w10) := Ew8.out.trans (hb.mono Ew8.out.size)
  have Ktw10 : Hid (Bk w10 w.heap.size bx) := Ktw8.out.below hb
  have Kuw10 : Hid (Bk w10 (w.heap.size + 1) by_) := Kuw8.out.below hb
  have Kow10 : Hid (Bk w10 go (pktC p.k p.e p.q Ao n co)) := Kow8.out.below hb
  have Rzw10 : Hid (Rd w10 Az (bts lb)) := Rzw8.out.below hb
  have Row10 : Hid (Rd w10 Ao (p.ps.flatMap putC)) := Row8.out.below hb
  have Raw10 : Hid (Rd w10 Aa (bts el)) := Raw8.out.below hb
  have Rbw10 : Hid (Rd w10 Ab (bts el)) := Rbw8.out.below hb
  have Rcw10 : Hid (Rd w10 Ac (bts lb)) := Rcw8.out.below hb
  have Rvw10 : Hid (Rd w10 Av (ps2.flatMap putC)) := Rvw8.out.below hb
  clear Ew8 Ktw8 Kuw8 Kow8 Rzw8 Row8 Raw8 Rbw8 Rcw8 Rvw8
  have Kvw10 : Hid (Bk w10 gv (pktC k2 e2 q2 Av ps2.length cv)) := hbk
  have Kvw10 : Hid (Bk w10 gv (pktC k2 e2 q2 Av ps2.length cv)) := hbk
  clear hbk hb hc KZv HQv HGv
  go_wp2_with fail
  refine (refPackDecode_calls lb Az nb cz w10 HLB.out HCZ.out.1 HCZ.out.2 (by omega) Rzw10.out).mono ?_
  intro en w11 hp
  rw [HD2.out] at hp
  obtain ⟨Ay, cy, he, hr, hnc, hcm, hok, hb⟩ := hp
  have he' : en = .returned (.tuple #[.agg (pktC k2 e2 q2 Ay ps2.length cy).toArray, .int .i64 z2]) := he
  subst he'
  have hr' : Rd w11 Ay (ps2.flatMap putC) := hr
  have HPKy : Hid (PutsOk ps2 ∧ ps2.length ≤ 9223372036854775807) := ⟨hok, Nat.le_trans hnc hcm⟩
  have Ew11 : Hid (Below w.heap.size w w11) := Ew10.out.trans (hb.mono Ew10.out.size)
  have Ktw11 : Hid (Bk w11 w.heap.size bx) := Ktw10.out.below hb
  have Kuw11 : Hid (Bk w11 (w.heap.size + 1) by_) := Kuw10.out.below hb
  have Kow11 : Hid (Bk w11 go (pktC p.k p.e p.q Ao n co)) := Kow10.out.below hb
  have Kvw11 : Hid (Bk w11 gv (pktC k2 e2 q2 Av ps2.length cv)) := Kvw10.out.below hb
  have Rzw11 : Hid (Rd w11 Az (bts lb)) := Rzw10.out.below hb
  have Row11 : Hid (Rd w11 Ao (p.ps.flatMap putC)) := Row10.out.below hb
  have Raw11 : Hid (Rd w11 Aa (bts el)) := Raw10.out.below hb
  have Rbw11 : Hid (Rd w11 Ab (bts el)) := Rbw10.out.below hb
  have Rcw11 : Hid (Rd w11 Ac (bts lb)) := Rcw10.out.below hb
  have Rvw11 : Hid (Rd w11 Av (ps2.flatMap putC)) := Rvw10.out.below hb
  clear Ew10 Ktw10 Kuw10 Kow10 Kvw10 Rzw10 Row10 Raw10 Rbw10 Rcw10 Rvw10
  have Ryw11 := Lib.hid hr'
  clear he hb hr hr' hnc hcm hok
  go_wp2_with (refine wpList_al rfl 25 rfl zPkD (by kernel_rfl) ?_)
  intro gy w12 hg hb hc hs
  have HQy : Hid (Below w11.heap.size w11 w12) := hc.below (Nat.le_refl _) (fun _ _ => id)
  have HGy : Hid (gy = w11.heap.size) := hg
  have KZy := Lib.hid hb
  clear hg hb hc hs
  go_wp2_with (refine wpList_st rfl 25 (.tmp 14) (.tmp 54) rfl gy 0 4 zPkD (pktC k2 e2 q2 Ay ps2.length cy) rfl rfl KZy.out (by kernel_rfl) rfl (by decide) (one_pktD _ _ _ _ _ _) ?_)
  intro w13 hbk hc
  rw [splice_whole zPkD (pktC k2 e2 q2 Ay ps2.length cy) rfl] at hbk
  have hb : Below w11.heap.size w11 w13 := HQy.out.trans (hc.below HQy.out.size (fun q hq he => by have := HGy.out; omega))
  have Aty : Hid (w.heap.size < gy) := by show _ < _; have := Ktw11.out.lt; have := HGy.out; omega
  have Auy : Hid ((w.heap.size + 1) < gy) := by show _ < _; have := Kuw11.out.lt; have := HGy.out; omega
  have Aoy : Hid (go < gy) := by show _ < _; have := Kow11.out.lt; have := HGy.out; omega
  have Avy : Hid (gv < gy) := by show _ < _; have := Kvw11.out.lt; have := HGy.out; omega
  have Ew13 : Hid (Below w.heap.size w w13) := Ew11.out.trans (hb.mono Ew11.out.size)
  have Ktw13 : Hid (Bk w13 w.heap.size bx) := Ktw11.out.below hb
  have Kuw13 : Hid (Bk w13 (w.heap.size + 1) by_) := Kuw11.out.below hb
  have Kow13 : Hid (Bk w13 go (pktC p.k p.e p.q Ao n co)) := Kow11.out.below hb
  have Kvw13 : Hid (Bk w13 gv (pktC k2 e2 q2 Av ps2.length cv)) := Kvw11.out.below hb
  have Rzw13 : Hid (Rd w13 Az (bts lb)) := Rzw11.out.below hb
  have Row13 : Hid (Rd w13 Ao (p.ps.flatMap putC)) := Row11.out.below hb
  have Raw13 : Hid (Rd w13 Aa (bts el)) := Raw11.out.below hb
  have Rbw13 : Hid (Rd w13 Ab (bts el)) := Rbw11.out.below hb
  have Rcw13 : Hid (Rd w13 Ac (bts lb)) := Rcw11.out.below hb
  have Rvw13 : Hid (Rd w13 Av (ps2.flatMap putC)) := Rvw11.out.below hb
  have Ryw13 : Hid (Rd w13 Ay (ps2.flatMap putC)) := Ryw11.out.below hb
  clear Ew11 Ktw11 Kuw11 Kow11 Kvw11 Rzw11 Row11 Raw11 Rbw11 Rcw11 Rvw11 Ryw11
  have Kyw13 : Hid (Bk w13 gy (pktC k2 e2 q2 Ay ps2.length cy)) := hbk
  have Kyw13 : Hid (Bk w13 gy (pktC k2 e2 q2 Ay ps2.length cy)) := hbk
  clear hbk hb hc KZy HQy HGy
  obtain ⟨bq, hbq⟩ : ∃ bq, pkEq p r = bq := ⟨_, rfl⟩
  have HBQ := Lib.hid hbq
  clear hbq
  go_wp2_with fail
  apply wp_region_rel 36 (Chg NoS) [(Veq _), (Veq _), (Veq (.bool true)), (Veq _), (Veq _), (Veq _), (Veq _), (Veq _), (Veq _), (Veq (.agg (pktC k2 e2 q2 Av ps2.length cv).toArray)), (Veq (.agg (pktC k2 e2 q2 Ay ps2.length cy).toArray)), (Veq (.bool true)), (Veq _), (Veq _), (Veq _), (Veq _), (Veq _), (Veq _), (Veq _), (Veq (.agg (pktC p.k p.e p.q Ao n co).toArray)), (Veq (.agg (pktC r.k r.e r.q B m d).toArray)), (OwnPk r m), (Veq (.bool bq)), (Veq (.agg (pktC p.k p.e p.q A n c).toArray)), (Veq (.agg (pktC r.k r.e r.q B m d).toArray)), (Veq (.bool bq)), (Veq _), (Veq _), (Veq _), (Veq (.agg (pktC p.k p.e p.q Ao n co).toArray)), (Veq (.agg (pktC p.k p.e p.q A n c).toArray)), (Veq (.bool true)), (Veq _), (Veq _), (Veq (.bool true)), (Veq _)] [[], [], [0, 1], [2], [3], [3], [3, 4, 5], [3, 6], [7], [8], [8], [8, 9, 10], [8, 11], [12], [13], [13], [13, 14, 15], [13, 16], [17], [18], [18], [18, 20], [18, 19, 21], [18], [18], [18, 23, 24], [18, 22, 25], [18, 26], [27], [28], [28], [28, 29, 30], [28, 31], [32], [33], [33, 34]] [56, 57, 58, 59, 60, 61, 62, 63, 64, 65, 66, 67, 68, 69, 70, 71, 72, 73, 74, 75, 76, 77, 78, 79, 80, 81, 82, 83, 84, 85, 86, 87, 88, 89, 90, 91] (by kernel_rfl) (by kernel_rfl) rfl rfl rfl Chg.refl (fun _ _ _ => Chg.trans) ⟨Veq.lasts, Veq.lasts, Veq.lasts, Veq.lasts, Veq.lasts, Veq.lasts, Veq.lasts, Veq.lasts, Veq.lasts, Veq.lasts, Veq.lasts, Veq.lasts, Veq.lasts, Veq.lasts, Veq.lasts, Veq.lasts, Veq.lasts, Veq.lasts, Veq.lasts, Veq.lasts, Veq.lasts, OwnPk.lasts, Veq.lasts, Veq.lasts, Veq.lasts, Veq.lasts, Veq.lasts, Veq.lasts, Veq.lasts, Veq.lasts, Veq.lasts, Veq.lasts, Veq.lasts, Veq.lasts, Veq.lasts, Veq.lasts, trivial⟩ ?zops ?zfin
  case zops =>
    refine ⟨?zo0, ?zo1, ?zo2, ?zo3, ?zo4, ?zo5, ?zo6, ?zo7, ?zo8, ?zo9, ?zo10, ?zo11, ?zo12, ?zo13, ?zo14, ?zo15, ?zo16, ?zo17, ?zo18, ?zo19, ?zo20, ?zo21, ?zo22, ?zo23, ?zo24, ?zo25, ?zo26, ?zo27, ?zo28, ?zo29, ?zo30, ?zo31, ?zo32, ?zo33, ?zo34, ?zo35, trivial⟩
    case zo0 =>
      intro a wx hE hin
      have i8 : a.eval (.tmp 8) = .slice Aa el.length ca := hin 8 rfl
      clear hin
      have hcst : ∀ v, a.eval (.const v) = v := fun _ => rfl
      have hfnc : ∀ f, a.eval (.func f) = .func (.func f) #[] #[] := fun _ => rfl
      refine want_none rfl ?_
      unfold Oper.wp
      generalize a.eval = ρ at *
      go_simp
      try go_bits
      first | exact rel_val (Chg.refl _) | (go_simp; exact rel_val (Chg.refl _))
    case zo1 =>
      intro a wx hE hin
      have i10 : a.eval (.tmp 10) = .slice Ab el.length cb := hin 10 rfl
      clear hin
      have hcst : ∀ v, a.eval (.const v) = v := fun _ => rfl
      have hfnc : ∀ f, a.eval (.func f) = .func (.func f) #[] #[] := fun _ => rfl
      refine want_none rfl ?_
      unfold Oper.wp
      generalize a.eval = ρ at *
      go_simp
      try go_bits
      first | exact rel_val (Chg.refl _) | (go_simp; exact rel_val (Chg.refl _))
    case zo2 =>
      rintro a wx hE hin (h0 : a.eval (.tmp 56) = _) (h1 : a.eval (.tmp 57) = _)
      clear hin
      have hcst : ∀ v, a.eval (.const v) = v := fun _ => rfl
      have hfnc : ∀ f, a.eval (.func f) = .func (.func f) #[] #[] := fun _ => rfl
      refine want_none rfl ?_
      unfold Oper.wp
      generalize a.eval = ρ at *
      go_simp
      refine (keepBytes_calls _ _ _ _ _ _ el el wx rfl rfl (Raw13.out.below (hE.undrew.below (Nat.le_refl _) (fun _ _ => id))) (Rbw13.out.below (hE.undrew.below (Nat.le_refl _) (fun _ _ => id)))).mono ?_
      rintro e' w' ⟨rfl, rfl⟩
      rw [decide_eq_true rfl]
      exact rel_val (Chg.refl _)
    case zo3 =>
      rintro a wx hE hin (h2 : a.eval (.tmp 58) = _)
      clear hin
      have hcst : ∀ v, a.eval (.const v) = v := fun _ => rfl
      have hfnc : ∀ f, a.eval (.func f) = .func (.func f) #[] #[] := fun _ => rfl
      refine want_none rfl ?_
      unfold Oper.wp
      generalize a.eval = ρ at *
      go_simp
      try go_bits
      first | exact rel_val (Chg.refl _) | (go_simp; exact rel_val (Chg.refl _))
    case zo4 =>
      rintro a wx hE hin (h3 : a.eval (.tmp 59) = _)
      have i9 : a.eval (.tmp 9) = .int .i64 ez := hin 9 rfl
      clear hin
      have hcst : ∀ v, a.eval (.const v) = v := fun _ => rfl
      have hfnc : ∀ f, a.eval (.func f) = .func (.func f) #[] #[] := fun _ => rfl
      refine want_yes rfl rfl h3 ?_
      unfold Oper.wp
      generalize a.eval = ρ at *
      go_simp
      try go_bits
      first | exact rel_val (Chg.refl _) | (go_simp; exact rel_val (Chg.refl _))
    case zo5 =>
      rintro a wx hE hin (h3 : a.eval (.tmp 59) = _)
      have i11 : a.eval (.tmp 11) = .int .i64 ez := hin 11 rfl
      clear hin
      have hcst : ∀ v, a.eval (.const v) = v := fun _ => rfl
      have hfnc : ∀ f, a.eval (.func f) = .func (.func f) #[] #[] := fun _ => rfl
      refine want_yes rfl rfl h3 ?_
      unfold Oper.wp
      generalize a.eval = ρ at *
      go_simp
      try go_bits
      first | exact rel_val (Chg.refl _) | (go_simp; exact rel_val (Chg.refl _))
    case zo6 =>
      rintro a wx hE hin (h3 : a.eval (.tmp 59) = _) (h4 : a.eval (.tmp 60) = _) (h5 : a.eval (.tmp 61) = _)
      clear hin
      have hcst : ∀ v, a.eval (.const v) = v := fun _ => rfl
      have hfnc : ∀ f, a.eval (.func f) = .func (.func f) #[] #[] := fun _ => rfl
      refine want_yes rfl rfl h3 ?_
      unfold Oper.wp
      generalize a.eval = ρ at *
      go_simp
      try go_bits
      first | exact rel_val (Chg.refl _) | (go_simp; exact rel_val (Chg.refl _))
    case zo7 =>
      rintro a wx hE hin (h3 : a.eval (.tmp 59) = _) (h6 : a.eval (.tmp 62) = _)
      clear hin
      have hcst : ∀ v, a.eval (.const v) = v := fun _ => rfl
      have hfnc : ∀ f, a.eval (.func f) = .func (.func f) #[] #[] := fun _ => rfl
      refine want_none rfl ?_
      unfold Oper.wp
      generalize a.eval = ρ at *
      go_simp
      try go_bits
      first | exact rel_val (Chg.refl _) | (go_simp; exact rel_val (Chg.refl _))
    case zo8 =>
      rintro a wx hE hin (h7 : a.eval (.tmp 63) = _)
      clear hin
      have hcst : ∀ v, a.eval (.const v) = v := fun _ => rfl
      have hfnc : ∀ f, a.eval (.func f) = .func (.func f) #[] #[] := fun _ => rfl
      refine want_none rfl ?_
      unfold Oper.wp
      generalize a.eval = ρ at *
      go_simp
      try go_bits
      first | exact rel_val (Chg.refl _) | (go_simp; exact rel_val (Chg.refl _))
    case zo9 =>
      rintro a wx hE hin (h8 : a.eval (.tmp 64) = _)
      have i12 : a.eval (.tmp 12) = .pointer (some ⟨gv, 0, none⟩) := hin 12 rfl
      clear hin
      have hcst : ∀ v, a.eval (.const v) = v := fun _ => rfl
      have hfnc : ∀ f, a.eval (.func f) = .func (.func f) #[] #[] := fun _ => rfl
      refine want_yes rfl rfl h8 ?_
      exact wp_ldrQ 25 (.tmp 12) rfl ⟨gv, 0, none⟩ 4 (pktC k2 e2 q2 Av ps2.length cv) i12 (Kvw13.out.drew.chg hE id).rd (by kernel_rfl) (by kernel_rfl) rfl (rel_val (Chg.refl _))
    case zo10 =>
      rintro a wx hE hin (h8 : a.eval (.tmp 64) = _)
      have i14 : a.eval (.tmp 14) = .pointer (some ⟨gy, 0, none⟩) := hin 14 rfl
      clear hin
      have hcst : ∀ v, a.eval (.const v) = v := fun _ => rfl
      have hfnc : ∀ f, a.eval (.func f) = .func (.func f) #[] #[] := fun _ => rfl
      refine want_yes rfl rfl h8 ?_
      exact wp_ldrQ 25 (.tmp 14) rfl ⟨gy, 0, none⟩ 4 (pktC k2 e2 q2 Ay ps2.length cy) i14 (Kyw13.out.drew.chg hE id).rd (by kernel_rfl) (by kernel_rfl) rfl (rel_val (Chg.refl _))
    case zo11 =>
      rintro a wx hE hin (h8 : a.eval (.tmp 64) = _) (h9 : a.eval (.tmp 65) = _) (h10 : a.eval (.tmp 66) = _)
      clear hin
      have hcst : ∀ v, a.eval (.const v) = v := fun _ => rfl
      have hfnc : ∀ f, a.eval (.func f) = .func (.func f) #[] #[] := fun _ => rfl
      refine want_yes rfl rfl h8 ?_
      unfold Oper.wp
      generalize a.eval = ρ at *
      go_simp
      refine (keepPackets_calls ⟨k2, e2, q2, ps2⟩ ⟨k2, e2, q2, ps2⟩ Av Ay ps2.length ps2.length cv cy wx rfl rfl HPKv.out.2 (Rvw13.out.below (hE.undrew.below (Nat.le_refl _) (fun _ _ => id))) (Ryw13.out.below (hE.undrew.below (Nat.le_refl _) (fun _ _ => id))) HPKv.out.1 HPKv.out.1).mono ?_
      rintro e' w' ⟨rfl, hb⟩
      rw [pkEq_self]
      exact rel_val (.of_below hb)
    case zo12 =>
      rintro a wx hE hin (h8 : a.eval (.tmp 64) = _) (h11 : a.eval (.tmp 67) = _)
      clear hin
      have hcst : ∀ v, a.eval (.const v) = v := fun _ => rfl
      have hfnc : ∀ f, a.eval (.func f) = .func (.func f) #[] #[] := fun _ => rfl
      refine want_none rfl ?_
      unfold Oper.wp
      generalize a.eval = ρ at *
      go_simp
      try go_bits
      first | exact rel_val (Chg.refl _) | (go_simp; exact rel_val (Chg.refl _))
    case zo13 =>
      rintro a wx hE hin (h12 : a.eval (.tmp 68) = _)
      clear hin
      have hcst : ∀ v, a.eval (.const v) = v := fun _ => rfl
      have hfnc : ∀ f, a.eval (.func f) = .func (.func f) #[] #[] := fun _ => rfl
      refine want_none rfl ?_
      unfold Oper.wp
      generalize a.eval = ρ at *
      go_simp
      try go_bits
      first | exact rel_val (Chg.refl _) | (go_simp; exact rel_val (Chg.refl _))
    case zo14 =>
      rintro a wx hE hin (h13 : a.eval (.tmp 69) = _)
      have i13 : a.eval (.tmp 13) = .int .i64 z2 := hin 13 rfl
      clear hin
      have hcst : ∀ v, a.eval (.const v) = v := fun _ => rfl
      have hfnc : ∀ f, a.eval (.func f) = .func (.func f) #[] #[] := fun _ => rfl
      refine want_yes rfl rfl h13 ?_
      unfold Oper.wp
      generalize a.eval = ρ at *
      go_simp
      try go_bits
      first | exact rel_val (Chg.refl _) | (go_simp; exact rel_val (Chg.refl _))
    case zo15 =>
      rintro a wx hE hin (h13 : a.eval (.tmp 69) = _)
      have i15 : a.eval (.tmp 15) = .int .i64 z2 := hin 15 rfl
      clear hin
      have hcst : ∀ v, a.eval (.const v) = v := fun _ => rfl
      have hfnc : ∀ f, a.eval (.func f) = .func (.func f) #[] #[] := fun _ => rfl
      refine want_yes rfl rfl h13 ?_
      unfold Oper.wp
      generalize a.eval = ρ at *
      go_simp
      try go_bits
      first | exact rel_val (Chg.refl _) | (go_simp; exact rel_val (Chg.refl _))
    case zo16 =>
      rintro a wx hE hin (h13 : a.eval (.tmp 69) = _) (h14 : a.eval (.tmp 70) = _) (h15 : a.eval (.tmp 71) = _)
      clear hin
      have hcst : ∀ v, a.eval (.const v) = v := fun _ => rfl
      have hfnc : ∀ f, a.eval (.func f) = .func (.func f) #[] #[] := fun _ => rfl
      refine want_yes rfl rfl h13 ?_
      unfold Oper.wp
      generalize a.eval = ρ at *
      go_simp
      try go_bits
      first | exact rel_val (Chg.refl _) | (go_simp; exact rel_val (Chg.refl _))
    case zo17 =>
      rintro a wx hE hin (h13 : a.eval (.tmp 69) = _) (h16 : a.eval (.tmp 72) = _)
      clear hin
      have hcst : ∀ v, a.eval (.const v) = v := fun _ => rfl
      have hfnc : ∀ f, a.eval (.func f) = .func (.func f) #[] #[] := fun _ => rfl
      refine want_none rfl ?_
      unfold Oper.wp
      generalize a.eval = ρ at *
      go_simp
      try go_bits
      first | exact rel_val (Chg.refl _) | (go_simp; exact rel_val (Chg.refl _))
    case zo18 =>
      rintro a wx hE hin (h17 : a.eval (.tmp 73) = _)
      clear hin
      have hcst : ∀ v, a.eval (.const v) = v := fun _ => rfl
      have hfnc : ∀ f, a.eval (.func f) = .func (.func f) #[] #[] := fun _ => rfl
      refine want_none rfl ?_
      unfold Oper.wp
      generalize a.eval = ρ at *
      go_simp
      try go_bits
      first | exact rel_val (Chg.refl _) | (go_simp; exact rel_val (Chg.refl _))
    case zo19 =>
      rintro a wx hE hin (h18 : a.eval (.tmp 74) = _)
      have i7 : a.eval (.tmp 7) = .pointer (some ⟨go, 0, none⟩) := hin 7 rfl
      clear hin
      have hcst : ∀ v, a.eval (.const v) = v := fun _ => rfl
      have hfnc : ∀ f, a.eval (.func f) = .func (.func f) #[] #[] := fun _ => rfl
      refine want_yes rfl rfl h18 ?_
      exact wp_ldrQ 25 (.tmp 7) rfl ⟨go, 0, none⟩ 4 (pktC p.k p.e p.q Ao n co) i7 (Kow13.out.drew.chg hE id).rd (by kernel_rfl) (by kernel_rfl) rfl (rel_val (Chg.refl _))
    case zo20 =>
      rintro a wx hE hin (h18 : a.eval (.tmp 74) = _)
      have i4 : a.eval (.tmp 4) = .pointer (some ⟨w.heap.size + 1, 0, none⟩) := hin 4 rfl
      clear hin
      have hcst : ∀ v, a.eval (.const v) = v := fun _ => rfl
      have hfnc : ∀ f, a.eval (.func f) = .func (.func f) #[] #[] := fun _ => rfl
      refine want_yes rfl rfl h18 ?_
      exact wp_ldrQ 25 (.tmp 4) rfl ⟨(w.heap.size + 1), 0, none⟩ 4 (pktC r.k r.e r.q B m d) i4 (by have h := (Kuw13.out.drew.chg hE id).rd; rwa [← HBY.out] at h) (by kernel_rfl) (by kernel_rfl) rfl (rel_val (Chg.refl _))
    case zo21 =>
      rintro a wx hE hin (h18 : a.eval (.tmp 74) = _) (h20 : a.eval (.tmp 76) = _)
      clear hin
      have hcst : ∀ v, a.eval (.const v) = v := fun _ => rfl
      have hfnc : ∀ f, a.eval (.func f) = .func (.func f) #[] #[] := fun _ => rfl
      refine want_yes rfl rfl h18 ?_
      unfold Oper.wp
      generalize a.eval = ρ at *
      go_simp
      refine (own18_calls r B m d wx (HOR.out.below (Ew13.out.trans (hE.undrew.below Ew13.out.size (fun _ _ => id)))) (by omega)).mono ?_
      rintro e' w' ⟨A1, c1, rfl, hr, hb⟩
      exact ⟨_, rfl, ⟨A1, c1, rfl, hr⟩, .of_below hb⟩
    case zo22 =>
      rintro a wx hE hin (h18 : a.eval (.tmp 74) = _) (h19 : a.eval (.tmp 75) = _) ⟨A21, c21, h21, r21⟩
      clear hin
      have hcst : ∀ v, a.eval (.const v) = v := fun _ => rfl
      have hfnc : ∀ f, a.eval (.func f) = .func (.func f) #[] #[] := fun _ => rfl
      refine want_yes rfl rfl h18 ?_
      unfold Oper.wp
      generalize a.eval = ρ at *
      go_simp
      refine (packSame_calls p r Ao A21 n m co c21 wx HOK.out.len HOR.out.len (by omega) (Row13.out.below (hE.undrew.below (Nat.le_refl _) (fun _ _ => id))) r21 HOK.out.ok HOR.out.ok).mono ?_
      rintro e' w' ⟨rfl, hb⟩
      rw [HBQ.out]
      exact rel_val (.of_below hb)
    case zo23 =>
      rintro a wx hE hin (h18 : a.eval (.tmp 74) = _)
      have i3 : a.eval (.tmp 3) = .pointer (some ⟨w.heap.size, 0, none⟩) := hin 3 rfl
      clear hin
      have hcst : ∀ v, a.eval (.const v) = v := fun _ => rfl
      have hfnc : ∀ f, a.eval (.func f) = .func (.func f) #[] #[] := fun _ => rfl
      refine want_yes rfl rfl h18 ?_
      exact wp_ldrQ 25 (.tmp 3) rfl ⟨w.heap.size, 0, none⟩ 4 (pktC p.k p.e p.q A n c) i3 (by have h := (Ktw13.out.drew.chg hE id).rd; rwa [← HBX.out] at h) (by kernel_rfl) (by kernel_rfl) rfl (rel_val (Chg.refl _))
    case zo24 =>
      rintro a wx hE hin (h18 : a.eval (.tmp 74) = _)
      have i4 : a.eval (.tmp 4) = .pointer (some ⟨w.heap.size + 1, 0, none⟩) := hin 4 rfl
      clear hin
      have hcst : ∀ v, a.eval (.const v) = v := fun _ => rfl
      have hfnc : ∀ f, a.eval (.func f) = .func (.func f) #[] #[] := fun _ => rfl
      refine want_yes rfl rfl h18 ?_
      exact wp_ldrQ 25 (.tmp 4) rfl ⟨(w.heap.size + 1), 0, none⟩ 4 (pktC r.k r.e r.q B m d) i4 (by have h := (Kuw13.out.drew.chg hE id).rd; rwa [← HBY.out] at h) (by kernel_rfl) (by kernel_rfl) rfl (rel_val (Chg.refl _))
    case zo25 =>
      rintro a wx hE hin (h18 : a.eval (.tmp 74) = _) (h23 : a.eval (.tmp 79) = _) (h24 : a.eval (.tmp 80) = _)
      clear hin
      have hcst : ∀ v, a.eval (.const v) = v := fun _ => rfl
      have hfnc : ∀ f, a.eval (.func f) = .func (.func f) #[] #[] := fun _ => rfl
      refine want_yes rfl rfl h18 ?_
      unfold Oper.wp
      generalize a.eval = ρ at *
      go_simp
      refine (keepPackets_calls p r A B n m c d wx HOK.out.len HOR.out.len (by omega) (HOK.out.rd.below (Ew13.out.trans (hE.undrew.below Ew13.out.size (fun _ _ => id)))) (HOR.out.rd.below (Ew13.out.trans (hE.undrew.below Ew13.out.size (fun _ _ => id)))) HOK.out.ok HOR.out.ok).mono ?_
      rintro e' w' ⟨rfl, hb⟩
      rw [HBQ.out]
      exact rel_val (.of_below hb)
    case zo26 =>
      rintro a wx hE hin (h18 : a.eval (.tmp 74) = _) (h22 : a.eval (.tmp 78) = _) (h25 : a.eval (.tmp 81) = _)
      clear hin
      have hcst : ∀ v, a.eval (.const v) = v := fun _ => rfl
      have hfnc : ∀ f, a.eval (.func f) = .func (.func f) #[] #[] := fun _ => rfl
      refine want_yes rfl rfl h18 ?_
      unfold Oper.wp
      generalize a.eval = ρ at *
      go_simp
      try go_bits
      first | exact rel_val (Chg.refl _) | (go_simp; exact rel_val (Chg.refl _))
    case zo27 =>
      rintro a wx hE hin (h18 : a.eval (.tmp 74) = _) (h26 : a.eval (.tmp 82) = _)
      clear hin
      have hcst : ∀ v, a.eval (.const v) = v := fun _ => rfl
      have hfnc : ∀ f, a.eval (.func f) = .func (.func f) #[] #[] := fun _ => rfl
      refine want_none rfl ?_
      unfold Oper.wp
      generalize a.eval = ρ at *
      go_simp
      try go_bits
      first | exact rel_val (Chg.refl _) | (go_simp; exact rel_val (Chg.refl _))
    case zo28 =>
      rintro a wx hE hin (h27 : a.eval (.tmp 83) = _)
      clear hin
      have hcst : ∀ v, a.eval (.const v) = v := fun _ => rfl
      have hfnc : ∀ f, a.eval (.func f) = .func (.func f) #[] #[] := fun _ => rfl
      refine want_none rfl ?_
      unfold Oper.wp
      generalize a.eval = ρ at *
      go_simp
      try go_bits
      first | exact rel_val (Chg.refl _) | (go_simp; exact rel_val (Chg.refl _))
    case zo29 =>
      rintro a wx hE hin (h28 : a.eval (.tmp 84) = _)
      have i7 : a.eval (.tmp 7) = .pointer (some ⟨go, 0, none⟩) := hin 7 rfl
      clear hin
      have hcst : ∀ v, a.eval (.const v) = v := fun _ => rfl
      have hfnc : ∀ f, a.eval (.func f) = .func (.func f) #[] #[] := fun _ => rfl
      refine want_yes rfl rfl h28 ?_
      exact wp_ldrQ 25 (.tmp 7) rfl ⟨go, 0, none⟩ 4 (pktC p.k p.e p.q Ao n co) i7 (Kow13.out.drew.chg hE id).rd (by kernel_rfl) (by kernel_rfl) rfl (rel_val (Chg.refl _))
    case zo30 =>
      rintro a wx hE hin (h28 : a.eval (.tmp 84) = _)
      have i3 : a.eval (.tmp 3) = .pointer (some ⟨w.heap.size, 0, none⟩) := hin 3 rfl
      clear hin
      have hcst : ∀ v, a.eval (.const v) = v := fun _ => rfl
      have hfnc : ∀ f, a.eval (.func f) = .func (.func f) #[] #[] := fun _ => rfl
      refine want_yes rfl rfl h28 ?_
      exact wp_ldrQ 25 (.tmp 3) rfl ⟨w.heap.size, 0, none⟩ 4 (pktC p.k p.e p.q A n c) i3 (by have h := (Ktw13.out.drew.chg hE id).rd; rwa [← HBX.out] at h) (by kernel_rfl) (by kernel_rfl) rfl (rel_val (Chg.refl _))
    case zo31 =>
      rintro a wx hE hin (h28 : a.eval (.tmp 84) = _) (h29 : a.eval (.tmp 85) = _) (h30 : a.eval (.tmp 86) = _)
      clear hin
      have hcst : ∀ v, a.eval (.const v) = v := fun _ => rfl
      have hfnc : ∀ f, a.eval (.func f) = .func (.func f) #[] #[] := fun _ => rfl
      refine want_yes rfl rfl h28 ?_
      unfold Oper.wp
      generalize a.eval = ρ at *
      go_simp
      refine (keepPackets_calls p p Ao A n n co c wx HOK.out.len HOK.out.len (by omega) (Row13.out.below (hE.undrew.below (Nat.le_refl _) (fun _ _ => id))) (HOK.out.rd.below (Ew13.out.trans (hE.undrew.below Ew13.out.size (fun _ _ => id)))) HOK.out.ok HOK.out.ok).mono ?_
      rintro e' w' ⟨rfl, hb⟩
      rw [pkEq_self]
      exact rel_val (.of_below hb)
    case zo32 =>
      rintro a wx hE hin (h28 : a.eval (.tmp 84) = _) (h31 : a.eval (.tmp 87) = _)
      clear hin
      have hcst : ∀ v, a.eval (.const v) = v := fun _ => rfl
      have hfnc : ∀ f, a.eval (.func f) = .func (.func f) #[] #[] := fun _ => rfl
      refine want_none rfl ?_
      unfold Oper.wp
      generalize a.eval = ρ at *
      go_simp
      try go_bits
      first | exact rel_val (Chg.refl _) | (go_simp; exact rel_val (Chg.refl _))
    case zo33 =>
      rintro a wx hE hin (h32 : a.eval (.tmp 88) = _)
      clear hin
      have hcst : ∀ v, a.eval (.const v) = v := fun _ => rfl
      have hfnc : ∀ f, a.eval (.func f) = .func (.func f) #[] #[] := fun _ => rfl
      refine want_none rfl ?_
      unfold Oper.wp
      generalize a.eval = ρ at *
      go_simp
      try go_bits
      first | exact rel_val (Chg.refl _) | (go_simp; exact rel_val (Chg.refl _))
    case zo34 =>
      rintro a wx hE hin (h33 : a.eval (.tmp 89) = _)
      clear hin
      have hcst : ∀ v, a.eval (.const v) = v := fun _ => rfl
      have hfnc : ∀ f, a.eval (.func f) = .func (.func f) #[] #[] := fun _ => rfl
      refine want_yes rfl rfl h33 ?_
      unfold Oper.wp
      generalize a.eval = ρ at *
      go_simp
      refine (wakes18_calls wx).mono ?_
      rintro e' w' ⟨rfl, hb⟩
      exact rel_val (.of_below hb)
    case zo35 =>
      rintro a wx hE hin (h33 : a.eval (.tmp 89) = _) (h34 : a.eval (.tmp 90) = _)
      clear hin
      have hcst : ∀ v, a.eval (.const v) = v := fun _ => rfl
      have hfnc : ∀ f, a.eval (.func f) = .func (.func f) #[] #[] := fun _ => rfl
      refine want_none rfl ?_
      unfold Oper.wp
      generalize a.eval = ρ at *
      go_simp
      try go_bits
      first | exact rel_val (Chg.refl _) | (go_simp; exact rel_val (Chg.refl _))
  case zfin =>
    intro wx hE
    rintro _ rfl _ rfl _ rfl _ rfl _ rfl _ rfl _ rfl _ rfl _ rfl _ rfl _ rfl _ rfl _ rfl _ rfl _ rfl _ rfl _ rfl _ rfl _ rfl _ rfl _ rfl _ ⟨A21, c21, rfl, r21⟩ _ rfl _ rfl _ rfl _ rfl _ rfl _ rfl _ rfl _ rfl _ rfl _ rfl _ rfl _ rfl _ rfl _ rfl
    simp only [FinOk, List.take_succ_cons, List.take_zero, List.take_nil, List.drop_succ_cons, List.drop_zero, List.drop_nil, Act.put, List.setIfInBounds_toArray, List.set_cons_succ, List.set_cons_zero]
    have EX : Hid (Below w.heap.size w wx) := (Ew13.out.trans (hE.undrew.below Ew13.out.size (fun _ _ => id)))
    clear hE
    go_wp2_with fail
    (try simp only [Exit.inBlock, Exit.then])
    go_ret
    exact ⟨rfl, EX.out⟩
end Go.Proofs.Ytpldcmcldoidaaa
