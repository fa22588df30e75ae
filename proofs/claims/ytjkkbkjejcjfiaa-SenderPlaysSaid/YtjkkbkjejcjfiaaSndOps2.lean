
/- Send, Touch, Acked of a sender; Pick. -/
import Derived.Test.YtjkkbkjejcjfiaaSndOps
namespace Go.Proofs.Ytjkkbkjejcjfiaa
open Go.RowKit
set_option linter.unusedVariables false
set_option linter.unusedSimpArgs false

theorem wpList_bs1 {P : Program} {o : Oper} {a : Act} {w : World} {Q : Exit → Act → World → Prop} {ops : Array Oper} {rest : List Oper} (hw : Region.wanted o (yielded ops a.tmps) = true) (t elem : TypeId) (x : Operand) (ho : o.op = .buildSlice t 1 #[(0, x)]) (z : Value) (n : Nat) (us : List Value) (hu : P.underlying t = some (.slice elem)) (hinfo : (P.info? elem).map (fun i => (i.zero, i.size)) = some (some z, n))
    (hz : z.cells.size = n) (hn : 0 < n) (hn2 : n ≤ 1000) (hx : (a.eval x).cells.toList = us) (hl : us.length = n)
    (h : ∀ g w', g = w.heap.size → Bk w' g us → Chg NoS w w' → wpList P ops Q rest (a.put o.dst (.slice (some ⟨g, 0, none⟩) 1 1)) w') : wpList P ops Q (o :: rest) a w :=
  wpl hw fun K hK => wp_bs1 t elem x ho z n us hu hinfo hz hn hn2 hx hl (hK _ _ (h _ _ rfl (Bk.new w us elem) ((Chg.refl w).alloc _)))
theorem EncPost.yes {w w' : World} {k : Int} {e q : UInt32} {ps : List PutV} {en : Ending} (h : EncPost w k e q ps en w') (hg : goodP k ps = true) : ∃ A n c, en = .returned (.tuple #[.slice A n c, .int .i64 0]) ∧ Below w.heap.size w w' := by
  rw [EncPost, if_pos hg] at h
  obtain ⟨A, c, h1, _, h2⟩ := h
  exact ⟨A, _, c, h1, h2⟩
theorem EncPost.no {w w' : World} {k : Int} {e q : UInt32} {ps : List PutV} {en : Ending} (h : EncPost w k e q ps en w') (hg : ¬ goodP k ps = true) : en = .returned (.tuple #[.slice none 0 0, .int .i64 11]) ∧ Below w.heap.size w w' := by
  rwa [EncPost, if_neg hg] at h
theorem EncPost.any {w w' : World} {k : Int} {e q : UInt32} {ps : List PutV} {en : Ending} (h : EncPost w k e q ps en w') : ∃ A n c z, en = .returned (.tuple #[.slice A n c, .int .i64 z]) ∧ Below w.heap.size w w' := by
  by_cases hg : goodP k ps = true
  · obtain ⟨A, n, c, h1, h2⟩ := h.yes hg
    exact ⟨A, n, c, 0, h1, h2⟩
  · obtain ⟨h1, h2⟩ := h.no hg
    exact ⟨none, 0, 0, 11, h1, h2⟩
set_option maxRecDepth 100000 in
set_option maxHeartbeats 4000000 in
theorem sndSend_nil (w : World) (p : PkV) (A1 : Option Addr) (n1 c1 : Nat) (hl : p.ps.length = n1) (hm : n1 ≤ 9223372036854775807) (hr : Rd w A1 (p.ps.flatMap putC)) (ho : PutsOk p.ps) : Calls Try.prog 24 #[.pointer none, .agg (pktC p.k p.e p.q A1 n1 c1).toArray] w fun e w' => e = .returned (.int .i64 1) ∧ Below w.heap.size w w' := by
  have HR := Lib.hid hr
  have HO := Lib.hid ho
  clear hr ho
  obtain ⟨bx, hbx⟩ : ∃ bx, pktC p.k p.e p.q A1 n1 c1 = bx := ⟨_, rfl⟩
  have HBX := Lib.hid hbx
  have D0 : Hid (bx[0]? = some (.int .i64 p.k)) := by rw [← hbx]; exact (rfl : _ = _)
  have D1 : Hid (bx[1]? = some (vu32 p.e)) := by rw [← hbx]; exact (rfl : _ = _)
  have D2 : Hid (bx[2]? = some (vu32 p.q)) := by rw [← hbx]; exact (rfl : _ = _)
  have HBL : Hid (bx.length = 4) := by show _ = _; rw [← hbx]; rfl
  rw [hbx]
  clear hbx
  go_enter Try.func24, Try.ntmps24
  go_wp2_with (refine wpList_ld rfl 25 (.tmp 3) rfl w.heap.size 0 4 bx bx rfl (Bk.new w bx _) (by kernel_rfl) (by kernel_rfl) (by rw [HBL.out]; decide) (by rw [List.drop_zero, List.take_of_length_le (by rw [HBL.out]; exact Nat.le_refl _)]) ?_)
  refine calls_at fun w0 hw0 => ?_
  have KX0 : Hid (Bk w0 w.heap.size bx) := by rw [← hw0]; exact Bk.new w bx _
  have E0 : Hid (Below w.heap.size w w0) := by rw [← hw0]; exact (Below.refl _ _).alloc (Nat.le_refl _) _
  clear hw0
  rw [← HBX.out]
  refine (packEncode_calls p.k p.e p.q p.ps A1 n1 c1 w0 hl hm (HR.out.below E0.out) HO.out).mono ?_
  intro en w1 hp
  obtain ⟨A5, n5, c5, z, rfl, hb⟩ := hp.any
  have E1 : Hid (Below w.heap.size w w1) := E0.out.trans (hb.mono E0.out.size)
  clear hb hp
  go_wp2_with fail
  (try simp only [Exit.inBlock, Exit.then])
  go_ret
  exact ⟨rfl, E1.out⟩
set_option maxRecDepth 100000 in
set_option maxHeartbeats 16000000 in
theorem sndSend_calls (w : World) (g : Nat) (v : SV) (hs : SSt w g v) (p : PkV) (A1 : Option Addr) (n1 c1 : Nat) (hl : p.ps.length = n1) (hm : n1 ≤ 9223372036854775807) (hr : Rd w A1 (p.ps.flatMap putC)) (ho : PutsOk p.ps) : Calls Try.prog 24 #[.pointer (some ⟨g, 0, none⟩), .agg (pktC p.k p.e p.q A1 n1 c1).toArray] w (SPost w g (v.send p) (.int .i64 (v.sendE p))) := by
  obtain ⟨A, n, c, B, m, d, h⟩ := hs
  have HS := Lib.hid h
  have HR := Lib.hid hr
  have HO := Lib.hid ho
  clear hr ho h
  obtain ⟨bx, hbx⟩ : ∃ bx, pktC p.k p.e p.q A1 n1 c1 = bx := ⟨_, rfl⟩
  have HBX := Lib.hid hbx
  have D0 : Hid (bx[0]? = some (.int .i64 p.k)) := by rw [← hbx]; exact (rfl : _ = _)
  have D1 : Hid (bx[1]? = some (vu32 p.e)) := by rw [← hbx]; exact (rfl : _ = _)
  have D2 : Hid (bx[2]? = some (vu32 p.q)) := by rw [← hbx]; exact (rfl : _ = _)
  have HBL : Hid (bx.length = 4) := by show _ = _; rw [← hbx]; rfl
  rw [hbx]
  clear hbx
  have HNO : Hid (∀ (z : Int) (w' : World), v.sendE p = z → ¬ z = 0 → Below w.heap.size w w' → SPost w g (v.send p) (.int .i64 (v.sendE p)) (.returned (.int .i64 z)) w') := fun z w' h1 h2 hb => by
    rw [SV.send, h1, if_neg h2]
    exact ⟨rfl, ⟨A, n, c, B, m, d, HS.out.below hb⟩, (Chg.of_below (S := NoS) hb).mono (fun _ hj => hj.elim)⟩
  go_enter Try.func24, Try.ntmps24
  go_wp2_with (refine wpList_ld rfl 25 (.tmp 3) rfl w.heap.size 0 4 bx bx rfl (Bk.new w bx _) (by kernel_rfl) (by kernel_rfl) (by rw [HBL.out]; decide) (by rw [List.drop_zero, List.take_of_length_le (by rw [HBL.out]; exact Nat.le_refl _)]) ?_)
  refine calls_at fun w0 hw0 => ?_
  have KX0 : Hid (Bk w0 w.heap.size bx) := by rw [← hw0]; exact Bk.new w bx _
  have E0 : Hid (Below w.heap.size w w0) := by rw [← hw0]; exact (Below.refl _ _).alloc (Nat.le_refl _) _
  clear hw0
  rw [← HBX.out]
  refine (packEncode_calls p.k p.e p.q p.ps A1 n1 c1 w0 hl hm (HR.out.below E0.out) HO.out).mono ?_
  intro en w1 hp
  by_cases hg : goodP p.k p.ps = true
  case neg =>
    obtain ⟨rfl, hb⟩ := hp.no hg
    have E1 : Hid (Below w.heap.size w w1) := E0.out.trans (hb.mono E0.out.size)
    have HF : Hid (v.sendE p = 1) := by show _ = _; rw [SV.sendE, if_neg (fun h => hg h.1)]
    clear hb hp hg
    go_wp2_with fail
    (try simp only [Exit.inBlock, Exit.then])
    go_ret
    exact HNO.out 1 _ HF.out (by decide) E1.out
  obtain ⟨A5, n5, c5, rfl, hb⟩ := hp.yes hg
  have KX1 := Lib.hid (KX0.out.below hb)
  have E1 : Hid (Below w.heap.size w w1) := E0.out.trans (hb.mono E0.out.size)
  have HG := Lib.hid hg
  have hgp := goodP_at hg
  have c0 := KX1.out.cell D0.out
  clear hb hp hg KX0 E0
  by_cases hk : p.k = 1 ∨ p.k = 2
  case neg =>
    have HF : Hid (v.sendE p = 1) := by show _ = _; rw [SV.sendE, if_neg (fun h => hk h.2)]
    have h34 : p.k = 3 ∨ p.k = 4 := Decidable.byContradiction fun h => by have h2 := HG.out; rw [goodP_no hk h] at h2; cases h2
    obtain ⟨kk, hkq⟩ : ∃ kk, p.k = kk := ⟨_, rfl⟩
    rw [hkq] at c0 h34
    clear hk hgp hkq
    rcases h34 with rfl | rfl
    all_goals
      go_wp2_with fail
      (try simp only [Exit.inBlock, Exit.then])
      go_ret
      exact HNO.out 1 _ HF.out (by decide) E1.out
  have HK := Lib.hid hk
  have HS1 := Lib.hid (HS.out.below E1.out)
  have hn5 : n1 ≤ 5 := by rw [← hl]; exact hgp.2.2.1
  have c4 : w1.cell? ⟨g, 4, none⟩ = some (.bool v.is) := HS1.out.bk.cell rfl
  have hkk : p.k = 1 ∨ p.k = 2 := hk
  clear hk hgp
  cases hi : v.is with
  | true =>
    have HF : Hid (v.sendE p = 19) := by show _ = _; rw [SV.sendE, if_pos ⟨HG.out, HK.out⟩, if_pos hi]
    rw [hi] at c4
    clear hi
    rcases hkk with hkk | hkk
    all_goals
      rw [hkk] at c0
      clear hkk
      go_wp2_with fail
      (try simp only [Exit.inBlock, Exit.then])
      go_ret
      exact HNO.out 19 _ HF.out (by decide) E1.out
  | false =>
    have HF : Hid (v.sendE p = 0) := by show _ = _; rw [SV.sendE, if_pos ⟨HG.out, HK.out⟩, if_neg (by rw [hi]; decide)]
    rw [hi] at c4
    clear hi
    obtain ⟨kk, hkq⟩ : ∃ kk, p.k = kk := ⟨_, rfl⟩
    have HKQ := Lib.hid hkq
    have h12 : kk = 1 ∨ kk = 2 := by rw [← hkq]; exact hkk
    rw [hkq] at c0
    clear hkk hkq
    have PRE : Hid ((bx.drop 0).take 4 = [.int .i64 p.k, vu32 p.e, vu32 p.q, .slice A1 n1 c1]) := by show _ = _; rw [← HBX.out]; rfl
    rcases h12 with rfl | rfl
    all_goals
      go_wp2_with (first
        | (refine wpList_ld rfl 25 (.tmp 3) rfl w.heap.size 0 4 bx [.int .i64 p.k, vu32 p.e, vu32 p.q, .slice A1 n1 c1] rfl KX1.out (by kernel_rfl) (by kernel_rfl) (by rw [HBL.out]; decide) PRE.out ?_)
        | (refine wpList_bld rfl 55 [(0, .tmp 34)] rfl zSl [(0, [.int .i64 p.k, vu32 p.e, vu32 p.q, .slice A1 n1 c1])] (slotC p A1 n1 c1 false) (by kernel_rfl) (by kernel_rfl) ⟨rfl, ⟨4, rfl, by kernel_rfl, by decide⟩, trivial⟩ rfl ?_))
      refine (slotOwn_calls w1 p A1 n1 c1 false hl (by omega) (HR.out.below E1.out) HO.out).mono ?_
      rintro en w2 ⟨A2, c2, rfl, hrn, hc2, hm2, hb⟩
      have KX2 := Lib.hid (KX1.out.below hb)
      have E2 : Hid (Below w.heap.size w w2) := E1.out.trans (hb.mono E1.out.size)
      have LX : Hid (w.heap.size < w1.heap.size) := KX1.out.lt
      have RN := Lib.hid hrn
      clear hb hrn hc2 hm2 c0 c4
      go_wp2_with (refine wpList_st rfl 25 (.tmp 3) (.tmp 37) rfl w.heap.size 0 4 bx [.int .i64 p.k, vu32 p.e, vu32 p.q, .slice A2 n1 c2] rfl rfl KX2.out (by kernel_rfl) rfl (by rw [HBL.out]; decide) (one_pkt _ _ _ _ _ _) ?_)
      intro w3 hb hc
      rw [splice_whole bx [.int .i64 p.k, vu32 p.e, vu32 p.q, .slice A2 n1 c2] (by rw [HBL.out]; rfl)] at hb
      have KX3 := Lib.hid hb
      have E3 : Hid (Below w.heap.size w w3) := E2.out.trans (hc.below E2.out.size (fun j hj he => by omega))
      have RN3 : Hid (RdN w1.heap.size w3 A2 (p.ps.flatMap putC)) := RN.out.chg hc (fun j hj => by have := LX.out; omega)
      have HS3 := Lib.hid (HS.out.below E3.out)
      have LG : Hid (g + 2 ≤ w1.heap.size) := by show _ ≤ _; have := HS.out.bk.lt; have := KX1.out.lt; omega
      clear hb hc
      go_wp2_with (first
        | (refine wpList_ld rfl 25 (.tmp 3) rfl w.heap.size 0 4 [.int .i64 p.k, vu32 p.e, vu32 p.q, .slice A2 n1 c2] [.int .i64 p.k, vu32 p.e, vu32 p.q, .slice A2 n1 c2] rfl KX3.out (by kernel_rfl) (by kernel_rfl) (Nat.le_refl 4) rfl ?_)
        | (refine wpList_bld rfl 55 [(0, .tmp 42), (1, .const (.bool true))] rfl zSl [(0, [.int .i64 p.k, vu32 p.e, vu32 p.q, .slice A2 n1 c2]), (4, [.bool true])] (slotC p A2 n1 c2 true) (by kernel_rfl) (by kernel_rfl) ⟨rfl, ⟨4, rfl, by kernel_rfl, by decide⟩, rfl, ⟨1, rfl, by kernel_rfl, by decide⟩, trivial⟩ rfl ?_)
        | (refine wpList_st rfl 55 (.tmp 45) (.tmp 43) rfl g 0 5 (sndC v A n c B m d) (slotC p A2 n1 c2 true) rfl rfl HS3.out.bk (by kernel_rfl) rfl (by show _ ≤ 12; decide) (one_slot _ _ _ _ _) ?_))
      intro w4 hb4 hc4
      have KB4 := Lib.hid hb4
      have CC4 := Lib.hid hc4
      clear hb4 hc4
      go_wp2_with (refine wpList_st rfl 3 (.tmp 47) (.const (.int .i64 0)) rfl g 10 1 (splice (sndC v A n c B m d) 0 (slotC p A2 n1 c2 true)) [.int .i64 0] rfl rfl KB4.out (by kernel_rfl) rfl (by show _ ≤ 12; decide) (fun u hu => by obtain rfl := List.mem_singleton.1 hu; rfl) ?_)
      intro w5 hb5 hc5
      have KB5 := Lib.hid hb5
      have CC5 := Lib.hid hc5
      clear hb5 hc5
      go_wp2_with (refine wpList_st rfl 4 (.tmp 49) (.const (.bool false)) rfl g 11 1 (splice (splice (sndC v A n c B m d) 0 (slotC p A2 n1 c2 true)) 10 [.int .i64 0]) [.bool false] rfl rfl KB5.out (by kernel_rfl) rfl (by show _ ≤ 12; decide) (fun u hu => by obtain rfl := List.mem_singleton.1 hu; rfl) ?_)
      intro w6 hb6 hc6
      have CC6 : Hid (Chg (· = g) w3 w6) := (CC4.out.trans CC5.out).trans hc6
      have HS6 : Hid (SAt w6 g ⟨true, p, v.was, v.y, 0, false⟩ A2 n1 c2 B m d) := ⟨hb6, hl, (RN3.out.chg CC6.out (fun j hj => by have := LG.out; omega)).mono LG.out, HO.out, HS3.out.lm, HS3.out.rb.chg CC6.out (fun j hj => by omega), HS3.out.ob, hn5, HS3.out.m5, fun _ => ⟨HG.out, HK.out⟩⟩
      have CW : Hid (Chg (· = g) w w6) := ((Chg.of_below (S := NoS) E3.out).mono (fun _ hj => hj.elim)).trans CC6.out
      clear hb6 hc6
      go_wp2_with fail
      (try simp only [Exit.inBlock, Exit.then])
      go_ret
      refine ⟨by rw [HF.out]; rfl, ?_, CW.out⟩
      rw [SV.send, HF.out, if_pos rfl]
      exact ⟨_, _, _, _, _, _, HS6.out⟩
/-! ### Touch -/
set_option maxHeartbeats 1000000 in
theorem sndTouch_nil (w : World) (v1 : Value) : Calls Try.prog 29 #[.pointer none, v1] w fun e w' => e = .returned (.tuple #[]) ∧ w = w' := by
  go_enter Try.func29, Try.ntmps29
  go_wp2_with fail
  (try simp only [Exit.inBlock, Exit.then])
  exact bodyPost_end (results_none rfl _ _ _) rfl ⟨rfl, rfl⟩
theorem and_u16 {a b : Nat} (ha : a < 4096) (hb : b < 4096) : Go.bits .and .u16 (a : Int) (b : Int) = ((a &&& b : Nat) : Int) := (bits_u16 a b (by omega) (by omega)).2.1
set_option maxRecDepth 100000 in
set_option maxHeartbeats 8000000 in
theorem sndTouch_calls (w : World) (g : Nat) (v : SV) (hs : SSt w g v) (ps : List PutV) (A1 : Option Addr) (n1 c1 : Nat) (hl : ps.length = n1) (hm : n1 ≤ 9223372036854775807) (hr : Rd w A1 (ps.flatMap putC)) (ho : PutsOk ps) : Calls Try.prog 29 #[.pointer (some ⟨g, 0, none⟩), .slice A1 n1 c1] w (SPost w g (v.touch ps) (.tuple #[])) := by
  obtain ⟨A, n, c, B, m, d, h⟩ := hs
  have HS := Lib.hid h
  have HR := Lib.hid hr
  have HO := Lib.hid ho
  have c4 : w.cell? ⟨g, 4, none⟩ = some (.bool v.is) := h.bk.cell rfl
  have c0 : w.cell? ⟨g, 0, none⟩ = some (.int .i64 v.o.k) := h.bk.cell rfl
  have c3 : w.cell? ⟨g, 3, none⟩ = some (.slice A n c) := h.bk.cell rfl
  clear hr ho h
  have HNO : Hid (hitB v ps = false → ∀ w', Below w.heap.size w w' → SPost w g (v.touch ps) (.tuple #[]) (.returned (.tuple #[])) w') := fun h1 w' hb => by
    rw [SV.touch, h1, if_neg (by decide)]
    exact ⟨rfl, ⟨A, n, c, B, m, d, HS.out.below hb⟩, (Chg.of_below (S := NoS) hb).mono (fun _ hj => hj.elim)⟩
  cases hi : v.is with
  | false =>
    have HF : Hid (hitB v ps = false) := by show _ = _; rw [hitB, hi]; rfl
    rw [hi] at c4
    clear hi
    go_enter Try.func29, Try.ntmps29
    go_wp2_with fail
    (try simp only [Exit.inBlock, Exit.then])
    exact bodyPost_end (results_none rfl _ _ _) rfl (HNO.out HF.out _ (Below.refl _ _))
  | true =>
    by_cases hk : v.o.k = 2
    case neg =>
      have HF : Hid (hitB v ps = false) := by show _ = _; rw [hitB, decide_eq_false hk, Bool.and_false, Bool.false_and]
      have n2 : (v.o.k == 2) = false := by rw [beq_eq_false_iff_ne]; exact hk
      rw [hi] at c4
      clear hi hk
      go_enter Try.func29, Try.ntmps29
      go_wp2_with fail
      (try simp only [Exit.inBlock, Exit.then])
      exact bodyPost_end (results_none rfl _ _ _) rfl (HNO.out HF.out _ (Below.refl _ _))
    have HI := Lib.hid hi
    have HKK := Lib.hid hk
    have hgd := (HS.out.good hi).1
    rw [hk, goodP_put (.inr rfl)] at hgd
    have hg1 : 1 ≤ v.o.ps.length := (of_decide_eq_true hgd : 1 ≤ v.o.ps.length ∧ v.o.ps.length ≤ 5 ∧ (∀ p ∈ v.o.ps, 0 ≤ p.at_ ∧ p.at_ < 12) ∧ (v.o.ps.map (·.at_)).Nodup).1
    have hn1 : 0 < n := by rw [← HS.out.ln]; omega
    have hn1i : (0 : Int) < (n : Int) := by omega
    obtain ⟨ad, hA⟩ := puts_some HS.out.ra.rd (show 0 < v.o.ps.length by omega)
    have hpr := put_rd (by rw [← hA]; exact HS.out.ra.rd) HS.out.oa (show 0 < v.o.ps.length by omega)
    have hpd := (HS.out.oa _ (List.getElem_mem (show 0 < v.o.ps.length by omega)))
    have ht1 : v.o.ps.take 1 = [v.o.ps[0]] := by
      rw [List.take_succ_eq_append_getElem (by omega), List.take_zero]
      rfl
    obtain ⟨p0, hp0⟩ : ∃ p0, v.o.ps[0] = p0 := ⟨_, rfl⟩
    rw [hp0] at hpr hpd ht1
    have HPR := Lib.hid hpr
    have HPD := Lib.hid hpd
    have HT1 := Lib.hid ht1
    have HPL := Lib.hid (putC_len hpd.1)
    rw [hi] at c4
    rw [hk] at c0
    rw [hA] at c3
    clear hi hk hgd hpr hpd ht1 hp0 hA
    go_enter Try.func29, Try.ntmps29
    go_wp2_with (first
      | (refine wpList_ldr2 rfl 48 (.tmp 29) rfl (ad.add (0 * 33)) 33 (putC p0) rfl HPR.out (by kernel_rfl) (by kernel_rfl) HPL.out ?_)
      | (refine wpList_bs1 rfl 23 48 (.tmp 30) rfl zPut 33 (putC p0) Try.underlying23 infoPut rfl (by decide) (by decide) rfl HPL.out ?_))
    intro g2 w2 hg hb hc
    have K2 := Lib.hid hb
    have E2 : Hid (Below w.heap.size w w2) := hc.below (Nat.le_refl _) (fun _ _ => id)
    clear hg hb hc c0 c3 c4
    go_wp2_with fail
    refine (bits_calls [p0] (some ⟨g2, 0, none⟩) 1 1 w2 rfl (by decide) (by have h := K2.out.rd; simpa using h) (fun p hp => by obtain rfl := List.mem_singleton.1 hp; exact HPD.out)).mono ?_
    rintro en w3 ⟨rfl, hb⟩
    have E3 : Hid (Below w.heap.size w w3) := E2.out.trans (hb.mono E2.out.size)
    clear hb
    go_wp2_with fail
    refine (bits_calls ps A1 n1 c1 w3 hl hm (HR.out.below E3.out) HO.out).mono ?_
    rintro en w4 ⟨rfl, hb⟩
    have E4 : Hid (Below w.heap.size w w4) := E3.out.trans (hb.mono E3.out.size)
    clear hb
    have hand := and_u16 (bitsN_lt [p0]) (bitsN_lt ps)
    have HBT : Hid (bitsN (v.o.ps.take 1) = bitsN [p0]) := by show _ = _; rw [HT1.out]
    obtain ⟨z, hz⟩ : ∃ z, bitsN [p0] &&& bitsN ps = z := ⟨_, rfl⟩
    have HZ := Lib.hid hz
    rw [hz] at hand
    clear hz
    by_cases hz0 : z = 0
    · have HF : Hid (hitB v ps = false) := by show _ = _; rw [hitB, HBT.out, HZ.out, hz0]; simp
      subst hz0
      go_wp2_with fail
      (try simp only [Exit.inBlock, Exit.then])
      exact bodyPost_end (results_none rfl _ _ _) rfl (HNO.out HF.out _ E4.out)
    · have HF : Hid (hitB v ps = true) := by show _ = _; rw [hitB, HBT.out, HZ.out, HI.out, decide_eq_true HKK.out, decide_eq_true hz0]; rfl
      have hzi : ¬ ((z : Int) = 0) := by omega
      have HS4 := Lib.hid (HS.out.below E4.out)
      go_wp2_with (refine wpList_st rfl 4 (.tmp 40) (.const (.bool true)) rfl g 11 1 (sndC v A n c B m d) [.bool true] rfl rfl HS4.out.bk (by kernel_rfl) rfl (by show _ ≤ 12; decide) (fun u hu => by obtain rfl := List.mem_singleton.1 hu; rfl) ?_)
      intro w5 hb hc
      have HS5 : Hid (SAt w5 g { v with tc := true } A n c B m d) := ⟨hb, HS4.out.ln, HS4.out.ra.chg hc (fun j hj => by omega), HS4.out.oa, HS4.out.lm, HS4.out.rb.chg hc (fun j hj => by omega), HS4.out.ob, HS4.out.n5, HS4.out.m5, HS4.out.good⟩
      have CW : Hid (Chg (· = g) w w5) := ((Chg.of_below (S := NoS) E4.out).mono (fun _ hj => hj.elim)).trans hc
      clear hb hc
      go_wp2_with fail
      (try simp only [Exit.inBlock, Exit.then])
      refine bodyPost_end (results_none rfl _ _ _) rfl ⟨rfl, ?_, CW.out⟩
      rw [SV.touch, HF.out, if_pos rfl]
      exact ⟨_, _, _, _, _, _, HS5.out⟩
end Go.Proofs.Ytjkkbkjejcjfiaa
