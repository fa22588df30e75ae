
/- law24's sync and own trial. -/
import Derived.Test.YtjkkbkjejcjfiaaSndOps2
import Derived.Test.YtjkkbkjejcjfiaaSndAck
namespace Go.Proofs.Ytjkkbkjejcjfiaa
open Go.RowKit
set_option linter.unusedVariables false
set_option linter.unusedSimpArgs false

def syncP (a : Int) (s : UInt32) : PkV := ⟨2, 1, s, [⟨a, List.replicate 32 0⟩]⟩
theorem syncP_ok (a : Int) (s : UInt32) (h : 0 ≤ a ∧ a < 12) : PutsOk (syncP a s).ps := by
  intro p hp
  obtain rfl := List.mem_singleton.1 hp
  exact ⟨List.length_replicate, by show -9223372036854775808 ≤ a; omega, by show a ≤ 9223372036854775807; omega⟩
theorem syncP_good {a : Int} {s : UInt32} (h : 0 ≤ a ∧ a < 12) : goodP (syncP a s).k (syncP a s).ps = true := by
  rw [show goodP (syncP a s).k (syncP a s).ps = goodB [⟨a, List.replicate 32 0⟩] from goodP_put (.inr rfl)]
  exact decide_eq_true ⟨by simp, by simp, fun p hp => by obtain rfl := List.mem_singleton.1 hp; exact h, by simp⟩
theorem send_in {v : SV} {a : Int} {s : UInt32} (h : 0 ≤ a ∧ a < 12) (hi : v.is = false) : v.sendE (syncP a s) = 0 ∧ v.send (syncP a s) = ⟨true, syncP a s, v.was, v.y, 0, false⟩ := by
  have h1 : v.sendE (syncP a s) = 0 := by rw [SV.sendE, if_pos ⟨syncP_good h, .inr rfl⟩, if_neg (by rw [hi]; decide)]
  exact ⟨h1, by rw [SV.send, h1, if_pos rfl]⟩
theorem send_out {v : SV} {a : Int} {s : UInt32} (h : 0 ≤ a ∧ a < 12) (hi : v.is = true) : v.sendE (syncP a s) = 19 ∧ v.send (syncP a s) = v := by
  have h1 : v.sendE (syncP a s) = 19 := by rw [SV.sendE, if_pos ⟨syncP_good h, .inr rfl⟩, if_pos hi]
  exact ⟨h1, by rw [SV.send, h1, if_neg (by decide)]⟩
def SyncPost (w : World) (a : Int) (s : UInt32) (e : Ending) (w' : World) : Prop := ∃ A : Addr, e = .returned (.agg (pktC 2 1 s (some A) 1 1).toArray) ∧ Rd w' (some A) (putC ⟨a, List.replicate 32 0⟩) ∧ Below w.heap.size w w'
set_option maxRecDepth 100000 in
set_option maxHeartbeats 4000000 in
theorem sync_calls (a : Int) (s : UInt32) (w : World) : Calls Try.prog 39 #[.int .i64 a, vu32 s] w (SyncPost w a s) := by
  go_enter Try.func39, Try.ntmps39
  go_wp2_with (refine wpList_al rfl 25 rfl zPk (by kernel_rfl) ?_)
  intro g4 w1 hg hb hc hs
  subst hg
  have K1 := Lib.hid hb
  have E1 : Hid (Below w.heap.size w w1) := hc.below (Nat.le_refl _) (fun _ _ => id)
  clear hb hc hs
  go_wp2_with (first
    | (refine wpList_bld rfl 48 [(0, .tmp 6)] rfl (.int .i64 0 :: bts (List.replicate 32 0)) [(0, [.int .i64 a])] (putC ⟨a, List.replicate 32 0⟩) (by kernel_rfl) (by kernel_rfl) ⟨rfl, ⟨1, rfl, by kernel_rfl, by decide⟩, trivial⟩ rfl ?_)
    | (refine wpList_bs1 rfl 23 48 (.tmp 7) rfl zPut 33 (putC ⟨a, List.replicate 32 0⟩) Try.underlying23 infoPut rfl (by decide) (by decide) rfl rfl ?_))
  intro g8 w2 hg hbk hc
  have K2 := Lib.hid (K1.out.chg hc id)
  have R2 := Lib.hid hbk
  have L2 : Hid (w.heap.size < g8) := by show _ < _; rw [hg]; exact K1.out.lt
  have E2 : Hid (Below w.heap.size w w2) := E1.out.trans (hc.below E1.out.size (fun _ _ => id))
  clear hg hbk hc K1 E1
  go_wp2_with (first
    | (refine wpList_bld rfl 25 [(0, .const (.int .i64 2)), (1, .const (.int .u32 1)), (2, .tmp 5), (3, .tmp 8)] rfl zPk [(0, [.int .i64 2]), (1, [vu32 1]), (2, [vu32 s]), (3, [.slice (some ⟨g8, 0, none⟩) 1 1])] [.int .i64 2, vu32 1, vu32 s, .slice (some ⟨g8, 0, none⟩) 1 1] (by kernel_rfl) (by kernel_rfl) ⟨rfl, ⟨1, rfl, by kernel_rfl, by decide⟩, rfl, ⟨1, rfl, by kernel_rfl, by decide⟩, rfl, ⟨1, rfl, by kernel_rfl, by decide⟩, rfl, ⟨1, rfl, by kernel_rfl, by decide⟩, trivial⟩ rfl ?_)
    | (refine wpList_st rfl 25 (.tmp 4) (.tmp 9) rfl w.heap.size 0 4 zPk [.int .i64 2, vu32 1, vu32 s, .slice (some ⟨g8, 0, none⟩) 1 1] rfl rfl K2.out (by kernel_rfl) rfl (by decide) (one_pkt _ _ _ _ _ _) ?_))
  intro w3 hb hc
  rw [splice_whole zPk [.int .i64 2, vu32 1, vu32 s, .slice (some ⟨g8, 0, none⟩) 1 1] rfl] at hb
  have K3 := Lib.hid hb
  have R3 : Hid (Bk w3 g8 (putC ⟨a, List.replicate 32 0⟩)) := R2.out.chg hc (by have := L2.out; omega)
  have E3 : Hid (Below w.heap.size w w3) := E2.out.trans (hc.below E2.out.size (fun j hj he => by omega))
  clear hb hc
  go_wp2_with fail
  (try simp only [Exit.inBlock, Exit.then])
  refine bodyPost_ret (res_cell rfl _ _ w.heap.size 4 _ rfl K3.out (by kernel_rfl) (by kernel_rfl) rfl) rfl ?_
  exact ⟨⟨g8, 0, none⟩, rfl, R3.out.rd, E3.out⟩
theorem pick3 {r : Nat} {b : Bool} (h : PickR 3 r b) : r = 1 ∧ b = true := by
  rcases h with ⟨h1, _, _, h4, h5⟩ | ⟨_, h2, _⟩
  · refine ⟨?_, h5⟩
    by_cases hr : r = 1
    · exact hr
    · exact absurd (by decide) (h4 1 (by decide) (by omega))
  · exact absurd (by decide) (h2 1 (by decide) (by decide))
theorem pick1 {r : Nat} {b : Bool} (h : PickR 1 r b) : r = 0 ∧ b = true := by
  rcases h with ⟨h1, _, h3, _, _⟩ | ⟨h1, _, h3⟩
  · have : 2 ^ 1 ≤ 2 ^ r := Nat.pow_le_pow_right (by decide) h1
    rw [Nat.div_eq_of_lt (by omega)] at h3
    cases h3
  · exact ⟨h1, by rw [h3]; rfl⟩
def sk1 : SV := ⟨true, syncP 3 7, false, .no, 0, false⟩
def sk2 : SV := ⟨true, syncP 3 7, false, .no, 0, true⟩
def sk3 : SV := ⟨true, syncP 3 7, false, .no, 1, true⟩
def sk4 : SV := ⟨false, .no, true, syncP 3 7, 0, false⟩
theorem kw1 : SV.no.send (syncP 3 7) = sk1 := (send_in (by decide) rfl).2
theorem kw1e : SV.no.sendE (syncP 3 7) = 0 := (send_in (by decide) rfl).1
theorem kw2 : sk1.send (syncP 4 8) = sk1 := (send_out (by decide) rfl).2
theorem kw2e : sk1.sendE (syncP 4 8) = 19 := (send_out (by decide) rfl).1
theorem kw3 : sk1.touch [⟨3, List.replicate 32 0⟩] = sk2 := by rw [SV.touch, if_pos (by decide +kernel)]; rfl
theorem kw4 : sk2.missed = sk3 := rfl
theorem kw5 : sk3.acked ⟨3, 1, 8, []⟩ = sk3 := by rw [SV.acked, if_neg (by decide +kernel)]
theorem kw5b : sk3.ackB ⟨3, 1, 8, []⟩ = false := by decide +kernel
theorem kw6 : sk3.acked ⟨3, 1, 7, []⟩ = sk4 := by rw [SV.acked, if_pos (by decide +kernel)]; rfl
theorem kw6b : sk3.ackB ⟨3, 1, 7, []⟩ = true := by decide +kernel
set_option maxRecDepth 100000 in
set_option maxHeartbeats 8000000 in
theorem wakes24_calls (w : World) : Calls Try.prog 23 #[] w fun e w' => e = .returned (.bool true) ∧ Below w.heap.size w w' := by
  go_enter Try.func23, Try.ntmps23
  go_wp2_with (refine wpList_bld rfl 57 [] rfl (sndC .no none 0 0 none 0 0) [] (sndC .no none 0 0 none 0 0) (by kernel_rfl) (by kernel_rfl) trivial rfl ?_)
  refine calls_at fun w1 hw => ?_
  have Sw1 : Hid (SSt w1 w.heap.size .no) := SSt.new (by rw [← hw]; exact Bk.new w _ _)
  have Ew1 : Hid (Below w.heap.size w w1) := by rw [← hw]; exact (Below.refl _ _).alloc (Nat.le_refl _) _
  have GS : Hid (w.heap.size ≤ w.heap.size) := Nat.le_refl _
  clear hw
  refine (sync_calls 3 7 w1).mono ?_
  rintro en w2 ⟨Aw2, rfl, hr, hb⟩
  have Ew2 : Hid (Below w.heap.size w w2) := Ew1.out.trans (hb.mono Ew1.out.size)
  clear Ew1
  have Sw2 : Hid (SSt w2 w.heap.size .no) := Sw1.out.below hb
  clear Sw1
  have hrw2 : Rd w2 (some Aw2) ((syncP 3 7).ps.flatMap putC) := hr
  have RSw2 := Lib.hid hrw2
  clear hb hr hrw2
  go_wp2_with fail
  refine (sndSend_calls w2 w.heap.size .no Sw2.out (syncP 3 7) (some Aw2) 1 1 rfl (by decide) RSw2.out (syncP_ok _ _ (by omega))).mono ?_
  intro en w3 hp
  rw [kw1, kw1e] at hp
  obtain ⟨rfl, hst, hch⟩ := hp
  have Sw3 : Hid (SSt w3 w.heap.size sk1) := hst
  have Ew3 : Hid (Below w.heap.size w w3) := Ew2.out.trans (hch.below Ew2.out.size (fun q hq he => by have := GS.out; omega))
  clear hst hch Sw2 Ew2
  go_wp2_with fail
  refine (sync_calls 4 8 w3).mono ?_
  rintro en w4 ⟨Aw4, rfl, hr, hb⟩
  have Ew4 : Hid (Below w.heap.size w w4) := Ew3.out.trans (hb.mono Ew3.out.size)
  clear Ew3
  have Sw4 : Hid (SSt w4 w.heap.size sk1) := Sw3.out.below hb
  clear Sw3
  have hrw4 : Rd w4 (some Aw4) ((syncP 4 8).ps.flatMap putC) := hr
  have RSw4 := Lib.hid hrw4
  clear hb hr hrw4
  go_wp2_with fail
  refine (sndSend_calls w4 w.heap.size sk1 Sw4.out (syncP 4 8) (some Aw4) 1 1 rfl (by decide) RSw4.out (syncP_ok _ _ (by omega))).mono ?_
  intro en w5 hp
  rw [kw2, kw2e] at hp
  obtain ⟨rfl, hst, hch⟩ := hp
  have Sw5 : Hid (SSt w5 w.heap.size sk1) := hst
  have Ew5 : Hid (Below w.heap.size w w5) := Ew4.out.trans (hch.below Ew4.out.size (fun q hq he => by have := GS.out; omega))
  clear hst hch Sw4 Ew4
  go_wp2_with (first
    | (refine wpList_bld rfl 48 [(0, .const (.int .i64 3))] rfl (.int .i64 0 :: bts (List.replicate 32 0)) [(0, [.int .i64 3])] (putC ⟨3, List.replicate 32 0⟩) (by kernel_rfl) (by kernel_rfl) ⟨rfl, ⟨1, rfl, by kernel_rfl, by decide⟩, trivial⟩ rfl ?_)
    | (refine wpList_bs1 rfl 23 48 (.tmp 26) rfl zPut 33 (putC ⟨3, List.replicate 32 0⟩) Try.underlying23 infoPut rfl (by decide) (by decide) rfl rfl ?_))
  intro gt w6 hg hbk hc
  have hb : Below w5.heap.size w5 w6 := hc.below (Nat.le_refl _) (fun _ _ => id)
  have Ew6 : Hid (Below w.heap.size w w6) := Ew5.out.trans (hb.mono Ew5.out.size)
  clear Ew5
  have Sw6 : Hid (SSt w6 w.heap.size sk1) := Sw5.out.below hb
  clear Sw5
  have hrt : Rd w6 (some ⟨gt, 0, none⟩) ([(⟨3, List.replicate 32 0⟩ : PutV)].flatMap putC) := by have h := hbk.rd; simpa using h
  have RTw6 := Lib.hid hrt
  clear hg hbk hc hb hrt
  go_wp2_with fail
  refine (sndTouch_calls w6 w.heap.size sk1 Sw6.out [⟨3, List.replicate 32 0⟩] (some ⟨gt, 0, none⟩) 1 1 rfl (by decide) RTw6.out (syncP_ok _ 0 (by omega))).mono ?_
  intro en w7 hp
  rw [kw3] at hp
  obtain ⟨rfl, hst, hch⟩ := hp
  have Sw7 : Hid (SSt w7 w.heap.size sk2) := hst
  have Ew7 : Hid (Below w.heap.size w w7) := Ew6.out.trans (hch.below Ew6.out.size (fun q hq he => by have := GS.out; omega))
  clear hst hch Sw6 Ew6
  go_wp2_with fail
  refine (sndMissed_calls w7 w.heap.size sk2 Sw7.out (by decide)).mono ?_
  intro en w8 hp
  rw [kw4, show sk2.missedN = 1 from rfl] at hp
  obtain ⟨rfl, hst, hch⟩ := hp
  have Sw8 : Hid (SSt w8 w.heap.size sk3) := hst
  have Ew8 : Hid (Below w.heap.size w w8) := Ew7.out.trans (hch.below Ew7.out.size (fun q hq he => by have := GS.out; omega))
  clear hst hch Sw7 Ew7
  go_wp2_with (refine wpList_bld rfl 25 [(0, .const (.int .i64 3)), (1, .const (.int .u32 1)), (2, .const (.int .u32 8))] rfl zPk [(0, [.int .i64 3]), (1, [vu32 1]), (2, [vu32 8])] [.int .i64 3, vu32 1, vu32 8, .slice none 0 0] (by kernel_rfl) (by kernel_rfl) ⟨rfl, ⟨1, rfl, by kernel_rfl, by decide⟩, rfl, ⟨1, rfl, by kernel_rfl, by decide⟩, rfl, ⟨1, rfl, by kernel_rfl, by decide⟩, trivial⟩ rfl ?_)
  refine (sndAcked_calls w8 w.heap.size sk3 Sw8.out ⟨3, 1, 8, []⟩ none 0 0).mono ?_
  intro en w9 hp
  rw [kw5, kw5b] at hp
  obtain ⟨rfl, hst, hch⟩ := hp
  have Sw9 : Hid (SSt w9 w.heap.size sk3) := hst
  have Ew9 : Hid (Below w.heap.size w w9) := Ew8.out.trans (hch.below Ew8.out.size (fun q hq he => by have := GS.out; omega))
  clear hst hch Sw8 Ew8
  go_wp2_with (refine wpList_bld rfl 25 [(0, .const (.int .i64 3)), (1, .const (.int .u32 1)), (2, .const (.int .u32 7))] rfl zPk [(0, [.int .i64 3]), (1, [vu32 1]), (2, [vu32 7])] [.int .i64 3, vu32 1, vu32 7, .slice none 0 0] (by kernel_rfl) (by kernel_rfl) ⟨rfl, ⟨1, rfl, by kernel_rfl, by decide⟩, rfl, ⟨1, rfl, by kernel_rfl, by decide⟩, rfl, ⟨1, rfl, by kernel_rfl, by decide⟩, trivial⟩ rfl ?_)
  refine (sndAcked_calls w9 w.heap.size sk3 Sw9.out ⟨3, 1, 7, []⟩ none 0 0).mono ?_
  intro en w10 hp
  rw [kw6, kw6b] at hp
  obtain ⟨rfl, hst, hch⟩ := hp
  have Sw10 : Hid (SSt w10 w.heap.size sk4) := hst
  have Ew10 : Hid (Below w.heap.size w w10) := Ew9.out.trans (hch.below Ew9.out.size (fun q hq he => by have := GS.out; omega))
  clear hst hch Sw9 Ew9
  go_wp2_with fail
  refine (sndOut_calls w10 w.heap.size sk4 Sw10.out).mono ?_
  rintro en w11 ⟨Aw11, cw11, rfl, hrn, hncw11, hmcw11, hb⟩
  have Ew11 : Hid (Below w.heap.size w w11) := Ew10.out.trans (hb.mono Ew10.out.size)
  clear Ew10
  have Sw11 : Hid (SSt w11 w.heap.size sk4) := Sw10.out.below hb
  clear Sw10
  have RNw11 := Lib.hid hrn
  clear hb hrn
  go_wp2_with (refine wpList_al rfl 25 rfl zPk (by kernel_rfl) ?_)
  intro ga w12 hg hb hc hs
  have HQa : Hid (Below w11.heap.size w11 w12) := hc.below (Nat.le_refl _) (fun _ _ => id)
  have HGa : Hid (ga = w11.heap.size) := hg
  have KZa := Lib.hid hb
  clear hg hb hc hs
  go_wp2_with (refine wpList_st rfl 25 (.tmp 9) (.tmp 46) rfl ga 0 4 zPk [.int .i64 sk4.o.k, vu32 sk4.o.e, vu32 sk4.o.q, .slice Aw11 sk4.o.ps.length cw11] rfl rfl KZa.out (by kernel_rfl) rfl (by decide) (one_pkt _ _ _ _ _ _) ?_)
  intro w13 hbk hc
  rw [splice_whole zPk [.int .i64 sk4.o.k, vu32 sk4.o.e, vu32 sk4.o.q, .slice Aw11 sk4.o.ps.length cw11] rfl] at hbk
  have hb : Below w11.heap.size w11 w13 := HQa.out.trans (hc.below HQa.out.size (fun q hq he => by have := HGa.out; omega))
  have Ew13 : Hid (Below w.heap.size w w13) := Ew11.out.trans (hb.mono Ew11.out.size)
  clear Ew11
  have Sw13 : Hid (SSt w13 w.heap.size sk4) := Sw11.out.below hb
  clear Sw11
  have Kaw13 : Hid (Bk w13 ga [.int .i64 sk4.o.k, vu32 sk4.o.e, vu32 sk4.o.q, .slice Aw11 sk4.o.ps.length cw11]) := hbk
  have Kaw13 : Hid (Bk w13 ga [.int .i64 sk4.o.k, vu32 sk4.o.e, vu32 sk4.o.q, .slice Aw11 sk4.o.ps.length cw11]) := hbk
  clear hbk hb hc KZa HQa HGa
  go_wp2_with fail
  refine (sndEarly_calls w13 w.heap.size sk4 Sw13.out).mono ?_
  rintro en w14 ⟨Aw14, cw14, rfl, hrn, hncw14, hmcw14, hb⟩
  have Ew14 : Hid (Below w.heap.size w w14) := Ew13.out.trans (hb.mono Ew13.out.size)
  have Kaw14 : Hid (Bk w14 ga [.int .i64 sk4.o.k, vu32 sk4.o.e, vu32 sk4.o.q, .slice Aw11 sk4.o.ps.length cw11]) := Kaw13.out.below hb
  clear Ew13 Kaw13
  have Sw14 : Hid (SSt w14 w.heap.size sk4) := Sw13.out.below hb
  clear Sw13
  have RNw14 := Lib.hid hrn
  clear hb hrn
  go_wp2_with (refine wpList_al rfl 25 rfl zPk (by kernel_rfl) ?_)
  intro gb w15 hg hb hc hs
  have HQb : Hid (Below w14.heap.size w14 w15) := hc.below (Nat.le_refl _) (fun _ _ => id)
  have HGb : Hid (gb = w14.heap.size) := hg
  have KZb := Lib.hid hb
  clear hg hb hc hs
  go_wp2_with (refine wpList_st rfl 25 (.tmp 11) (.tmp 51) rfl gb 0 4 zPk [.int .i64 sk4.y.k, vu32 sk4.y.e, vu32 sk4.y.q, .slice Aw14 sk4.y.ps.length cw14] rfl rfl KZb.out (by kernel_rfl) rfl (by decide) (one_pkt _ _ _ _ _ _) ?_)
  intro w16 hbk hc
  rw [splice_whole zPk [.int .i64 sk4.y.k, vu32 sk4.y.e, vu32 sk4.y.q, .slice Aw14 sk4.y.ps.length cw14] rfl] at hbk
  have hb : Below w14.heap.size w14 w16 := HQb.out.trans (hc.below HQb.out.size (fun q hq he => by have := HGb.out; omega))
  have Aab : Hid (ga < gb) := by show _ < _; have := Kaw14.out.lt; have := HGb.out; omega
  have Ew16 : Hid (Below w.heap.size w w16) := Ew14.out.trans (hb.mono Ew14.out.size)
  have Kaw16 : Hid (Bk w16 ga [.int .i64 sk4.o.k, vu32 sk4.o.e, vu32 sk4.o.q, .slice Aw11 sk4.o.ps.length cw11]) := Kaw14.out.below hb
  clear Ew14 Kaw14
  have Sw16 : Hid (SSt w16 w.heap.size sk4) := Sw14.out.below hb
  clear Sw14
  have Kbw16 : Hid (Bk w16 gb [.int .i64 sk4.y.k, vu32 sk4.y.e, vu32 sk4.y.q, .slice Aw14 sk4.y.ps.length cw14]) := hbk
  have Kbw16 : Hid (Bk w16 gb [.int .i64 sk4.y.k, vu32 sk4.y.e, vu32 sk4.y.q, .slice Aw14 sk4.y.ps.length cw14]) := hbk
  clear hbk hb hc KZb HQb HGb
  have cb2 : w16.cell? ⟨gb, 2, none⟩ = some (.int .u32 7) := Kbw16.out.cell (j := 2) rfl
  go_wp2_with fail
  refine (pick_calls 3 (by decide) w16).mono ?_
  rintro en w' ⟨⟨r, b, rfl, hpr⟩, rfl⟩
  obtain ⟨rfl, rfl⟩ := pick3 hpr
  clear hpr
  go_wp2_with fail
  refine (pick_calls 1 (by decide) w16).mono ?_
  rintro en w' ⟨⟨r, b, rfl, hpr⟩, rfl⟩
  obtain ⟨rfl, rfl⟩ := pick1 hpr
  clear hpr
  go_wp2_with fail
  (try simp only [Exit.inBlock, Exit.then])
  go_ret
  exact ⟨rfl, Ew16.out⟩
end Go.Proofs.Ytjkkbkjejcjfiaa
