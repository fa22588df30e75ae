
/- The walk of SenderNone. -/
import Derived.Test.YtjkkbkjejcjfiaaWakes24
import Derived.Test.YtjkkbkjejcjfiaaSndOpen
namespace Go.Proofs.Ytjkkbkjejcjfiaa
open Go.RowKit
set_option linter.unusedVariables false
set_option linter.unusedSimpArgs false

theorem fair24_one (s : StpS) : fair24 [s] = fairT s := by simp [fair24]
set_option maxRecDepth 100000 in
set_option maxHeartbeats 8000000 in
theorem senderNone_calls (w : World) (s : StpS) (hok : StsOk w s) : Calls Try.prog 9 #[.agg (stsC s).toArray] w fun e w' => e = .returned (.bool true) ∧ Below w.heap.size w w' := by
  have HOK := Lib.hid hok
  clear hok
  obtain ⟨bx, hbx⟩ : ∃ bx, stsC s = bx := ⟨_, rfl⟩
  have D5 : Hid (bx[5]? = some (.slice s.B s.m s.d)) := by rw [← hbx]; exact (rfl : _ = _)
  have D6 : Hid (bx[6]? = some (.bool s.er)) := by rw [← hbx]; exact (rfl : _ = _)
  have D1 : Hid ((bx.drop 1).take 4 = pktC s.p.k s.p.e s.p.q s.A s.n s.c) := by rw [← hbx]; exact (rfl : _ = _)
  have HBL : Hid (bx.length = 7) := by rw [← hbx]; exact (rfl : _ = _)
  have HBF : Hid ([s].flatMap stsC = bx) := by rw [← hbx]; show _ = _; simp
  rw [hbx]
  clear hbx
  go_enter Try.func9, Try.ntmps9
  go_wp2_with (first
    | (refine wpList_ld rfl 62 (.tmp 1) rfl w.heap.size 0 7 bx bx rfl (Bk.new w bx _) (by kernel_rfl) (by kernel_rfl) (by rw [HBL.out]; decide) (by rw [List.drop_zero, List.take_of_length_le (by rw [HBL.out]; exact Nat.le_refl _)]) ?_)
    | (refine wpList_bs1 rfl 51 62 (.tmp 10) rfl (.agg zSts.toArray) 7 bx Try.underlying51 infoSts rfl (by decide) (by decide) rfl HBL.out ?_))
  intro g0 w1 hg hbk hc
  have Ew1 : Hid (Below w.heap.size w w1) := ((Below.refl _ _).alloc (Nat.le_refl _) _).trans (hc.below (by simp) (fun _ _ => id))
  have KBw1 : Hid (Bk w1 w.heap.size bx) := (Bk.new w bx _).chg hc id
  have hrd : Rd w1 (some ⟨g0, 0, none⟩) ([s].flatMap stsC) := by rw [HBF.out]; exact hbk.rd
  have HRS := Lib.hid hrd
  clear hg hbk hc hrd
  go_wp2_with fail
  refine (fair24_calls w1 (some ⟨g0, 0, none⟩) 1 1 [s] rfl (by decide) HRS.out).mono ?_
  rintro en w' ⟨rfl, rfl⟩
  rw [fair24_one]
  by_cases hf : fairT s = true
  case neg =>
    rw [Bool.not_eq_true] at hf
    rw [hf]
    clear hf
    go_wp2_with fail
    refine (wakes24_calls w1).mono ?_
    rintro en wz ⟨rfl, hb⟩
    have EZ : Hid (Below w.heap.size w wz) := Ew1.out.trans (hb.mono Ew1.out.size)
    clear hb
    go_wp2_with fail
    (try simp only [Exit.inBlock, Exit.then])
    go_ret
    exact ⟨rfl, EZ.out⟩
  obtain ⟨hn50, hm50⟩ := fairT_at hf
  have HN := Lib.hid hn50
  rw [hf]
  clear hf hn50 hm50 HRS
  have c5 := KBw1.out.cell D5.out
  have c6 := KBw1.out.cell D6.out
  go_wp2_with fail
  refine (sndTouch_nil w1 _).mono ?_
  rintro en w' ⟨rfl, rfl⟩
  go_wp2_with fail
  refine (sndStop_nil w1 _).mono ?_
  rintro en w' ⟨rfl, rfl⟩
  go_wp2_with fail
  clear c5 c6
  refine (sndOut_nil w1).mono ?_
  rintro en w2 ⟨Aw2, cw2, rfl, hrn, hncw2, hmcw2, hb⟩
  have Ew2 : Hid (Below w.heap.size w w2) := Ew1.out.trans (hb.mono Ew1.out.size)
  have KBw2 : Hid (Bk w2 w.heap.size bx) := KBw1.out.below hb
  clear Ew1 KBw1
  have RNw2 := Lib.hid hrn
  clear hb hrn
  go_wp2_with (refine wpList_al rfl 25 rfl zPk (by kernel_rfl) ?_)
  intro ga w3 hg hb hc hs
  have HQa : Hid (Below w2.heap.size w2 w3) := hc.below (Nat.le_refl _) (fun _ _ => id)
  have HGa : Hid (ga = w2.heap.size) := hg
  have KZa := Lib.hid hb
  clear hg hb hc hs
  go_wp2_with (refine wpList_st rfl 25 (.tmp 4) (.tmp 26) rfl ga 0 4 zPk [.int .i64 (PkV.no).k, vu32 (PkV.no).e, vu32 (PkV.no).q, .slice Aw2 0 cw2] rfl rfl KZa.out (by kernel_rfl) rfl (by decide) (one_pkt _ _ _ _ _ _) ?_)
  intro w4 hbk hc
  rw [splice_whole zPk [.int .i64 (PkV.no).k, vu32 (PkV.no).e, vu32 (PkV.no).q, .slice Aw2 0 cw2] rfl] at hbk
  have hb : Below w2.heap.size w2 w4 := HQa.out.trans (hc.below HQa.out.size (fun q hq he => by have := HGa.out; omega))
  have ABa : Hid (w.heap.size < ga) := by show _ < _; have := KBw2.out.lt; have := HGa.out; omega
  have Ew4 : Hid (Below w.heap.size w w4) := Ew2.out.trans (hb.mono Ew2.out.size)
  have KBw4 : Hid (Bk w4 w.heap.size bx) := KBw2.out.below hb
  clear Ew2 KBw2
  have Kaw4 : Hid (Bk w4 ga [.int .i64 (PkV.no).k, vu32 (PkV.no).e, vu32 (PkV.no).q, .slice Aw2 0 cw2]) := hbk
  have Kaw4 : Hid (Bk w4 ga [.int .i64 (PkV.no).k, vu32 (PkV.no).e, vu32 (PkV.no).q, .slice Aw2 0 cw2]) := hbk
  clear hbk hb hc KZa HQa HGa
  go_wp2_with fail
  refine (sndEarly_nil w4).mono ?_
  rintro en w5 ⟨Aw5, cw5, rfl, hrn, hncw5, hmcw5, hb⟩
  have Ew5 : Hid (Below w.heap.size w w5) := Ew4.out.trans (hb.mono Ew4.out.size)
  have KBw5 : Hid (Bk w5 w.heap.size bx) := KBw4.out.below hb
  have Kaw5 : Hid (Bk w5 ga [.int .i64 (PkV.no).k, vu32 (PkV.no).e, vu32 (PkV.no).q, .slice Aw2 0 cw2]) := Kaw4.out.below hb
  clear Ew4 KBw4 Kaw4
  have RNw5 := Lib.hid hrn
  clear hb hrn
  go_wp2_with (refine wpList_al rfl 25 rfl zPk (by kernel_rfl) ?_)
  intro gb w6 hg hb hc hs
  have HQb : Hid (Below w5.heap.size w5 w6) := hc.below (Nat.le_refl _) (fun _ _ => id)
  have HGb : Hid (gb = w5.heap.size) := hg
  have KZb := Lib.hid hb
  clear hg hb hc hs
  go_wp2_with (refine wpList_st rfl 25 (.tmp 6) (.tmp 31) rfl gb 0 4 zPk [.int .i64 (PkV.no).k, vu32 (PkV.no).e, vu32 (PkV.no).q, .slice Aw5 0 cw5] rfl rfl KZb.out (by kernel_rfl) rfl (by decide) (one_pkt _ _ _ _ _ _) ?_)
  intro w7 hbk hc
  rw [splice_whole zPk [.int .i64 (PkV.no).k, vu32 (PkV.no).e, vu32 (PkV.no).q, .slice Aw5 0 cw5] rfl] at hbk
  have hb : Below w5.heap.size w5 w7 := HQb.out.trans (hc.below HQb.out.size (fun q hq he => by have := HGb.out; omega))
  have ABb : Hid (w.heap.size < gb) := by show _ < _; have := KBw5.out.lt; have := HGb.out; omega
  have Aab : Hid (ga < gb) := by show _ < _; have := Kaw5.out.lt; have := HGb.out; omega
  have Ew7 : Hid (Below w.heap.size w w7) := Ew5.out.trans (hb.mono Ew5.out.size)
  have KBw7 : Hid (Bk w7 w.heap.size bx) := KBw5.out.below hb
  have Kaw7 : Hid (Bk w7 ga [.int .i64 (PkV.no).k, vu32 (PkV.no).e, vu32 (PkV.no).q, .slice Aw2 0 cw2]) := Kaw5.out.below hb
  clear Ew5 KBw5 Kaw5
  have Kbw7 : Hid (Bk w7 gb [.int .i64 (PkV.no).k, vu32 (PkV.no).e, vu32 (PkV.no).q, .slice Aw5 0 cw5]) := hbk
  have Kbw7 : Hid (Bk w7 gb [.int .i64 (PkV.no).k, vu32 (PkV.no).e, vu32 (PkV.no).q, .slice Aw5 0 cw5]) := hbk
  clear hbk hb hc KZb HQb HGb
  go_wp2_with (refine wpList_ld rfl 25 (.tmp 35) rfl w.heap.size 1 4 bx _ rfl KBw7.out (by kernel_rfl) (by kernel_rfl) (by rw [HBL.out]; decide) D1.out ?_)
  refine (sndAcked_nil w7 s.p s.A s.n s.c).mono ?_
  rintro en w8 ⟨rfl, hb⟩
  have Ew8 : Hid (Below w.heap.size w w8) := Ew7.out.trans (hb.mono Ew7.out.size)
  have KBw8 : Hid (Bk w8 w.heap.size bx) := KBw7.out.below hb
  have Kaw8 : Hid (Bk w8 ga [.int .i64 (PkV.no).k, vu32 (PkV.no).e, vu32 (PkV.no).q, .slice Aw2 0 cw2]) := Kaw7.out.below hb
  have Kbw8 : Hid (Bk w8 gb [.int .i64 (PkV.no).k, vu32 (PkV.no).e, vu32 (PkV.no).q, .slice Aw5 0 cw5]) := Kbw7.out.below hb
  clear Ew7 KBw7 Kaw7 Kbw7
  clear hb
  go_wp2_with (refine wpList_ld rfl 25 (.tmp 41) rfl w.heap.size 1 4 bx _ rfl KBw8.out (by kernel_rfl) (by kernel_rfl) (by rw [HBL.out]; decide) D1.out ?_)
  refine (sndSend_nil w8 s.p s.A s.n s.c HOK.out.pk.len (by have := HN.out; omega) (HOK.out.pk.rd.below Ew8.out) HOK.out.pk.ok).mono ?_
  rintro en w9 ⟨rfl, hb⟩
  have Ew9 : Hid (Below w.heap.size w w9) := Ew8.out.trans (hb.mono Ew8.out.size)
  have KBw9 : Hid (Bk w9 w.heap.size bx) := KBw8.out.below hb
  have Kaw9 : Hid (Bk w9 ga [.int .i64 (PkV.no).k, vu32 (PkV.no).e, vu32 (PkV.no).q, .slice Aw2 0 cw2]) := Kaw8.out.below hb
  have Kbw9 : Hid (Bk w9 gb [.int .i64 (PkV.no).k, vu32 (PkV.no).e, vu32 (PkV.no).q, .slice Aw5 0 cw5]) := Kbw8.out.below hb
  clear Ew8 KBw8 Kaw8 Kbw8
  clear hb
  have ca0 : w9.cell? ⟨ga, 0, none⟩ = some (.int .i64 0) := Kaw9.out.cell (j := 0) rfl
  have cb0 : w9.cell? ⟨gb, 0, none⟩ = some (.int .i64 0) := Kbw9.out.cell (j := 0) rfl
  go_wp2_with fail
  refine (sndMissed_nil w9).mono ?_
  rintro en w' ⟨rfl, rfl⟩
  go_wp2_with fail
  clear ca0 cb0
  refine (wakes24_calls w9).mono ?_
  rintro en wz ⟨rfl, hb⟩
  have EZ : Hid (Below w.heap.size w wz) := Ew9.out.trans (hb.mono Ew9.out.size)
  clear hb
  go_wp2_with fail
  (try simp only [Exit.inBlock, Exit.then])
  go_ret
  exact ⟨rfl, EZ.out⟩
end Go.Proofs.Ytjkkbkjejcjfiaa
