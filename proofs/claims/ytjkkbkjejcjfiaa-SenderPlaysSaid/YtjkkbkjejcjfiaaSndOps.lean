
/- What a sender's methods do. -/
import Derived.Test.YtjkkbkjejcjfiaaSndOwn
namespace Go.Proofs.Ytjkkbkjejcjfiaa
open Go.RowKit
set_option linter.unusedVariables false
set_option linter.unusedSimpArgs false

set_option maxRecDepth 100000 in
set_option maxHeartbeats 4000000 in
theorem sndOut_calls (w : World) (g : Nat) (v : SV) (hs : SSt w g v) : Calls Try.prog 35 #[.pointer (some ⟨g, 0, none⟩)] w (SlotPost w v.o v.o.ps.length v.is) := by
  obtain ⟨A, n, c, B, m, d, h⟩ := hs
  have HS := Lib.hid h
  clear h
  go_enter Try.func35, Try.ntmps35
  go_wp2_with (refine wpList_al rfl 25 rfl zPk (by kernel_rfl) ?_)
  intro g2 w1 hg hb hc hs
  subst hg
  have K2 := Lib.hid hb
  have E1 : Hid (Below w.heap.size w w1) := hc.below (Nat.le_refl _) (fun _ _ => id)
  have HS1 := Lib.hid (HS.out.below E1.out)
  clear hb hc hs
  go_wp2_with (refine wpList_ld rfl 55 (.tmp 9) rfl g 0 5 (sndC v A n c B m d) (slotC v.o A n c v.is) rfl HS1.out.bk (by kernel_rfl) (by kernel_rfl) (by show _ ≤ 12; decide) rfl ?_)
  refine (slotOwn_calls w1 v.o A n c v.is HS1.out.ln (by have := HS1.out.n5; omega) HS1.out.ra.rd HS1.out.oa).mono ?_
  rintro en w2 ⟨A2, c2, rfl, hrn, hc2, hm2, hb⟩
  have K2a := Lib.hid (K2.out.below hb)
  have E2 : Hid (Below w.heap.size w w2) := E1.out.trans (hb.mono E1.out.size)
  have L1 : Hid (w.heap.size < w1.heap.size) := K2.out.lt
  have RN := Lib.hid hrn
  have HC2 := Lib.hid hc2
  have HM2 := Lib.hid hm2
  clear hb hrn hc2 hm2 K2
  go_wp2_with (refine wpList_st rfl 25 (.tmp 2) (.tmp 12) rfl w.heap.size 0 4 zPk [.int .i64 v.o.k, vu32 v.o.e, vu32 v.o.q, .slice A2 n c2] rfl rfl K2a.out (by kernel_rfl) rfl (by decide) (one_pkt _ _ _ _ _ _) ?_)
  intro w3 hb hc
  rw [splice_whole zPk [.int .i64 v.o.k, vu32 v.o.e, vu32 v.o.q, .slice A2 n c2] rfl] at hb
  have K3 := Lib.hid hb
  have RN3 : Hid (RdN w.heap.size w3 A2 (v.o.ps.flatMap putC)) := (RN.out.chg hc (fun j hj => by have := L1.out; omega)).mono (Nat.le_of_lt L1.out)
  have E3 : Hid (Below w.heap.size w w3) := E2.out.trans (hc.below E2.out.size (fun j hj he => by omega))
  clear hb hc
  go_wp2_with fail
  (try simp only [Exit.inBlock, Exit.then])
  refine bodyPost_ret (res_cell_tmp rfl _ _ w.heap.size 4 _ rfl K3.out (by kernel_rfl) (by kernel_rfl) rfl) rfl ?_
  have hln := HS.out.ln
  exact ⟨A2, c2, by rw [hln]; rfl, RN3.out, by rw [hln]; exact HC2.out, HM2.out, E3.out⟩
set_option maxRecDepth 100000 in
set_option maxHeartbeats 4000000 in
theorem sndOut_nil (w : World) : Calls Try.prog 35 #[.pointer none] w (SlotPost w .no 0 false) := by
  go_enter Try.func35, Try.ntmps35
  go_wp2_with (refine wpList_al rfl 25 rfl zPk (by kernel_rfl) ?_)
  intro g2 w1 hg hb hc hs
  subst hg
  have K2 := Lib.hid hb
  have E1 : Hid (Below w.heap.size w w1) := hc.below (Nat.le_refl _) (fun _ _ => id)
  clear hb hc hs
  go_wp2_with (first
    | (refine wpList_bld rfl 25 [] rfl zPk [] zPk (by kernel_rfl) (by kernel_rfl) trivial rfl ?_)
    | (refine wpList_st rfl 25 (.tmp 2) (.tmp 6) rfl w.heap.size 0 4 zPk zPk rfl rfl K2.out (by kernel_rfl) rfl (by decide) (one_pkt _ _ _ _ _ _) ?_))
  intro w3 hb hc
  rw [splice_whole zPk zPk rfl] at hb
  have K3 := Lib.hid hb
  have E3 : Hid (Below w.heap.size w w3) := E1.out.trans (hc.below E1.out.size (fun j hj he => by omega))
  clear hb hc
  go_wp2_with fail
  (try simp only [Exit.inBlock, Exit.then])
  refine bodyPost_ret (res_cell_tmp rfl _ _ w.heap.size 4 _ rfl K3.out (by kernel_rfl) (by kernel_rfl) rfl) rfl ?_
  exact ⟨none, 0, rfl, RdN.nil, Nat.le_refl _, by decide, E3.out⟩
set_option maxRecDepth 100000 in
set_option maxHeartbeats 4000000 in
theorem sndEarly_calls (w : World) (g : Nat) (v : SV) (hs : SSt w g v) : Calls Try.prog 36 #[.pointer (some ⟨g, 0, none⟩)] w (SlotPost w v.y v.y.ps.length v.was) := by
  obtain ⟨A, n, c, B, m, d, h⟩ := hs
  have HS := Lib.hid h
  clear h
  go_enter Try.func36, Try.ntmps36
  go_wp2_with (refine wpList_al rfl 25 rfl zPk (by kernel_rfl) ?_)
  intro g2 w1 hg hb hc hs
  subst hg
  have K2 := Lib.hid hb
  have E1 : Hid (Below w.heap.size w w1) := hc.below (Nat.le_refl _) (fun _ _ => id)
  have HS1 := Lib.hid (HS.out.below E1.out)
  clear hb hc hs
  go_wp2_with (refine wpList_ld rfl 55 (.tmp 9) rfl g 5 5 (sndC v A n c B m d) (slotC v.y B m d v.was) rfl HS1.out.bk (by kernel_rfl) (by kernel_rfl) (by show _ ≤ 12; decide) rfl ?_)
  refine (slotOwn_calls w1 v.y B m d v.was HS1.out.lm (by have := HS1.out.m5; omega) HS1.out.rb.rd HS1.out.ob).mono ?_
  rintro en w2 ⟨A2, c2, rfl, hrn, hc2, hm2, hb⟩
  have K2a := Lib.hid (K2.out.below hb)
  have E2 : Hid (Below w.heap.size w w2) := E1.out.trans (hb.mono E1.out.size)
  have L1 : Hid (w.heap.size < w1.heap.size) := K2.out.lt
  have RN := Lib.hid hrn
  have HC2 := Lib.hid hc2
  have HM2 := Lib.hid hm2
  clear hb hrn hc2 hm2 K2
  go_wp2_with (refine wpList_st rfl 25 (.tmp 2) (.tmp 12) rfl w.heap.size 0 4 zPk [.int .i64 v.y.k, vu32 v.y.e, vu32 v.y.q, .slice A2 m c2] rfl rfl K2a.out (by kernel_rfl) rfl (by decide) (one_pkt _ _ _ _ _ _) ?_)
  intro w3 hb hc
  rw [splice_whole zPk [.int .i64 v.y.k, vu32 v.y.e, vu32 v.y.q, .slice A2 m c2] rfl] at hb
  have K3 := Lib.hid hb
  have RN3 : Hid (RdN w.heap.size w3 A2 (v.y.ps.flatMap putC)) := (RN.out.chg hc (fun j hj => by have := L1.out; omega)).mono (Nat.le_of_lt L1.out)
  have E3 : Hid (Below w.heap.size w w3) := E2.out.trans (hc.below E2.out.size (fun j hj he => by omega))
  clear hb hc
  go_wp2_with fail
  (try simp only [Exit.inBlock, Exit.then])
  refine bodyPost_ret (res_cell_tmp rfl _ _ w.heap.size 4 _ rfl K3.out (by kernel_rfl) (by kernel_rfl) rfl) rfl ?_
  have hln := HS.out.lm
  exact ⟨A2, c2, by rw [hln]; rfl, RN3.out, by rw [hln]; exact HC2.out, HM2.out, E3.out⟩
set_option maxRecDepth 100000 in
set_option maxHeartbeats 4000000 in
theorem sndEarly_nil (w : World) : Calls Try.prog 36 #[.pointer none] w (SlotPost w .no 0 false) := by
  go_enter Try.func36, Try.ntmps36
  go_wp2_with (refine wpList_al rfl 25 rfl zPk (by kernel_rfl) ?_)
  intro g2 w1 hg hb hc hs
  subst hg
  have K2 := Lib.hid hb
  have E1 : Hid (Below w.heap.size w w1) := hc.below (Nat.le_refl _) (fun _ _ => id)
  clear hb hc hs
  go_wp2_with (first
    | (refine wpList_bld rfl 25 [] rfl zPk [] zPk (by kernel_rfl) (by kernel_rfl) trivial rfl ?_)
    | (refine wpList_st rfl 25 (.tmp 2) (.tmp 6) rfl w.heap.size 0 4 zPk zPk rfl rfl K2.out (by kernel_rfl) rfl (by decide) (one_pkt _ _ _ _ _ _) ?_))
  intro w3 hb hc
  rw [splice_whole zPk zPk rfl] at hb
  have K3 := Lib.hid hb
  have E3 : Hid (Below w.heap.size w w3) := E1.out.trans (hc.below E1.out.size (fun j hj he => by omega))
  clear hb hc
  go_wp2_with fail
  (try simp only [Exit.inBlock, Exit.then])
  refine bodyPost_ret (res_cell_tmp rfl _ _ w.heap.size 4 _ rfl K3.out (by kernel_rfl) (by kernel_rfl) rfl) rfl ?_
  exact ⟨none, 0, rfl, RdN.nil, Nat.le_refl _, by decide, E3.out⟩
/-! ### Missed -/
set_option maxHeartbeats 2000000 in
theorem sndMissed_calls (w : World) (g : Nat) (v : SV) (hs : SSt w g v) (hw : v.wt ≤ 1000000) : Calls Try.prog 27 #[.pointer (some ⟨g, 0, none⟩)] w (SPost w g v.missed (.int .i64 (v.missedN : Nat))) := by
  obtain ⟨A, n, c, B, m, d, h⟩ := hs
  have HS := Lib.hid h
  have c4 : w.cell? ⟨g, 4, none⟩ = some (.bool v.is) := h.bk.cell rfl
  clear h
  cases hi : v.is with
  | false =>
    have HM : Hid (v.missed = v) := by show _ = _; rw [SV.missed, if_neg (by rw [hi]; decide)]
    have HN : Hid (v.missedN = 0) := by show _ = _; rw [SV.missedN, if_neg (by rw [hi]; decide)]
    rw [hi] at c4
    clear hi
    go_enter Try.func27, Try.ntmps27
    go_wp2_with fail
    (try simp only [Exit.inBlock, Exit.then])
    go_ret
    refine ⟨by rw [HN.out]; rfl, ?_, Chg.refl _⟩
    rw [HM.out]
    exact ⟨A, n, c, B, m, d, HS.out⟩
  | true =>
    have HM : Hid (v.missed = { v with wt := v.wt + 1 }) := by show _ = _; rw [SV.missed, if_pos hi]
    have HN : Hid (v.missedN = v.wt + 1) := by show _ = _; rw [SV.missedN, if_pos hi]
    have c10 : w.cell? ⟨g, 10, none⟩ = some (.int .i64 (v.wt : Nat)) := HS.out.bk.cell rfl
    rw [hi] at c4
    clear hi
    go_enter Try.func27, Try.ntmps27
    go_wp2_with (refine wpList_st rfl 3 (.tmp 19) (.tmp 17) rfl g 10 1 (sndC v A n c B m d) [.int .i64 ((v.wt : Int) + 1)] rfl rfl HS.out.bk (by kernel_rfl) rfl (by show _ ≤ 12; decide) (fun u hu => by obtain rfl := List.mem_singleton.1 hu; rfl) ?_)
    intro w2 hb hc
    have HS2 : Hid (SAt w2 g { v with wt := v.wt + 1 } A n c B m d) := ⟨hb, HS.out.ln, HS.out.ra.chg hc (fun j hj => by omega), HS.out.oa, HS.out.lm, HS.out.rb.chg hc (fun j hj => by omega), HS.out.ob, HS.out.n5, HS.out.m5, HS.out.good⟩
    have C2 := Lib.hid hc
    clear hb hc c4 c10
    have c10 : w2.cell? ⟨g, 10, none⟩ = some (.int .i64 ((v.wt + 1 : Nat))) := HS2.out.bk.cell rfl
    go_wp2_with fail
    (try simp only [Exit.inBlock, Exit.then])
    go_ret
    refine ⟨by rw [HN.out]; rfl, ?_, C2.out⟩
    rw [HM.out]
    exact ⟨A, n, c, B, m, d, HS2.out⟩
set_option maxHeartbeats 1000000 in
theorem sndMissed_nil (w : World) : Calls Try.prog 27 #[.pointer none] w fun e w' => e = .returned (.int .i64 0) ∧ w = w' := by
  go_enter Try.func27, Try.ntmps27
  go_wp2_with fail
  (try simp only [Exit.inBlock, Exit.then])
  go_ret
  exact ⟨rfl, rfl⟩
/-! ### Stop -/
def zSl : List Value := [.int .i64 0, vu32 0, vu32 0, .slice none 0 0, .bool false]
theorem one_zSl : ∀ u ∈ zSl, u.oneCell' = true := by
  intro u hu
  simp only [zSl, List.mem_cons, List.not_mem_nil, or_false] at hu
  rcases hu with rfl | rfl | rfl | rfl | rfl <;> rfl
set_option maxHeartbeats 1000000 in
theorem sndStop_nil (w : World) (b : Bool) : Calls Try.prog 33 #[.pointer none, .bool b] w fun e w' => e = .returned (.tuple #[]) ∧ w = w' := by
  go_enter Try.func33, Try.ntmps33
  go_wp2
  exact bodyPost_ret (results_none rfl _ _ _) rfl ⟨rfl, rfl⟩
set_option maxRecDepth 100000 in
set_option maxHeartbeats 8000000 in
theorem sndStop_calls (w : World) (g : Nat) (v : SV) (early : Bool) (hs : SSt w g v) : Calls Try.prog 33 #[.pointer (some ⟨g, 0, none⟩), .bool early] w (SPost w g (v.stop early) (.tuple #[])) := by
  obtain ⟨A, n, c, B, m, d, h⟩ := hs
  have HS := Lib.hid h
  have c4 : w.cell? ⟨g, 4, none⟩ = some (.bool v.is) := h.bk.cell rfl
  clear h
  have FIN : ∀ (w2 : World) (v2 : SV) (A2 : Option Addr) (n2 c2 : Nat) (B2 : Option Addr) (m2 d2 : Nat), SAt w2 g v2 A2 n2 c2 B2 m2 d2 → Chg (· = g) w w2 → ∀ w3 w4 w5, Bk w3 g (splice (sndC v2 A2 n2 c2 B2 m2 d2) 0 zSl) → Chg (· = g) w2 w3 → Chg (· = g) w3 w4 → Chg (· = g) w4 w5 → Bk w5 g (splice (splice (splice (sndC v2 A2 n2 c2 B2 m2 d2) 0 zSl) 10 [.int .i64 0]) 11 [.bool false]) → SAt w5 g ⟨false, .no, v2.was, v2.y, 0, false⟩ none 0 0 B2 m2 d2 ∧ Chg (· = g) w w5 :=
    fun w2 v2 A2 n2 c2 B2 m2 d2 h2 hc w3 w4 w5 _ hc3 hc4 hc5 hb5 => ⟨⟨hb5, rfl, .nil, (fun p hp => by cases hp), h2.lm, h2.rb.chg ((hc3.trans hc4).trans hc5) (fun j hj => by omega), h2.ob, by decide, h2.m5, (fun h => by cases h)⟩, ((hc.trans hc3).trans hc4).trans hc5⟩
  have HF := Lib.hid FIN
  clear FIN
  cases early with
  | false =>
    have HST : Hid (v.stop false = ⟨false, .no, false, .no, 0, false⟩) := rfl
    clear c4
    go_enter Try.func33, Try.ntmps33
    go_wp2_with (first
      | (refine wpList_bld rfl 55 [] rfl zSl [] zSl (by kernel_rfl) (by kernel_rfl) trivial rfl ?_)
      | (refine wpList_st rfl 55 (.tmp 13) (.tmp 11) rfl g 5 5 (sndC v A n c B m d) zSl rfl rfl HS.out.bk (by kernel_rfl) rfl (by show _ ≤ 12; decide) one_zSl ?_))
    intro w2 hb hc
    have HS2 : Hid (SAt w2 g { v with was := false, y := .no } A n c none 0 0) := ⟨hb, HS.out.ln, HS.out.ra.chg hc (fun j hj => by omega), HS.out.oa, rfl, .nil, (fun p hp => by cases hp), HS.out.n5, by decide, HS.out.good⟩
    have C2 := Lib.hid hc
    clear hb hc
    obtain ⟨v2, hv2⟩ : ∃ v2, ({ v with was := false, y := .no } : SV) = v2 := ⟨_, rfl⟩
    have HV2 : Hid (v.stop false = ⟨false, .no, v2.was, v2.y, 0, false⟩) := by show _ = _; rw [← hv2]; rfl
    rw [hv2] at HS2
    clear hv2 HST
    obtain ⟨A2, hA2⟩ : ∃ A2, A = A2 := ⟨_, rfl⟩
    subst hA2
    go_wp2_with (first
      | (refine wpList_bld rfl 55 [] rfl zSl [] zSl (by kernel_rfl) (by kernel_rfl) trivial rfl ?_)
      | (refine wpList_st rfl 55 (.tmp 32) (.tmp 30) rfl g 0 5 (sndC v2 A n c none 0 0) zSl rfl rfl HS2.out.bk (by kernel_rfl) rfl (by show _ ≤ 12; decide) one_zSl ?_))
    intro w3 hb3 hc3
    have KB3 := Lib.hid hb3
    have CC3 := Lib.hid hc3
    clear hb3 hc3
    go_wp2_with (refine wpList_st rfl 3 (.tmp 34) (.const (.int .i64 0)) rfl g 10 1 (splice (sndC v2 A n c none 0 0) 0 zSl) [.int .i64 0] rfl rfl KB3.out (by kernel_rfl) rfl (by show _ ≤ 12; decide) (fun u hu => by obtain rfl := List.mem_singleton.1 hu; rfl) ?_)
    intro w4 hb4 hc4
    have KB4 := Lib.hid hb4
    have CC4 := Lib.hid hc4
    clear hb4 hc4
    go_wp2_with (refine wpList_st rfl 4 (.tmp 36) (.const (.bool false)) rfl g 11 1 (splice (splice (sndC v2 A n c none 0 0) 0 zSl) 10 [.int .i64 0]) [.bool false] rfl rfl KB4.out (by kernel_rfl) rfl (by show _ ≤ 12; decide) (fun u hu => by obtain rfl := List.mem_singleton.1 hu; rfl) ?_)
    intro w5 hb5 hc5
    have HFX := Lib.hid (HF.out _ _ _ _ _ _ _ _ HS2.out C2.out w3 w4 w5 KB3.out CC3.out CC4.out hc5 hb5)
    clear hb5 hc5
    go_wp2_with fail
    (try simp only [Exit.inBlock, Exit.then])
    refine bodyPost_end (results_none rfl _ _ _) rfl ⟨rfl, ?_, HFX.out.2⟩
    rw [HV2.out]
    exact ⟨_, _, _, _, _, _, HFX.out.1⟩
  | true =>
    cases hi : v.is with
    | false =>
      have HV2 : Hid (v.stop true = ⟨false, .no, v.was, v.y, 0, false⟩) := by show _ = _; rw [SV.stop, if_pos rfl, if_pos rfl, hi]; rfl
      rw [hi] at c4
      clear hi
      have HS2 := HS
      have C2 : Hid (Chg (· = g) w w) := Chg.refl _
      go_enter Try.func33, Try.ntmps33
      go_wp2_with (first
        | (refine wpList_bld rfl 55 [] rfl zSl [] zSl (by kernel_rfl) (by kernel_rfl) trivial rfl ?_)
        | (refine wpList_st rfl 55 (.tmp 32) (.tmp 30) rfl g 0 5 (sndC v A n c B m d) zSl rfl rfl HS2.out.bk (by kernel_rfl) rfl (by show _ ≤ 12; decide) one_zSl ?_))
      intro w3 hb3 hc3
      have KB3 := Lib.hid hb3
      have CC3 := Lib.hid hc3
      clear hb3 hc3
      go_wp2_with (refine wpList_st rfl 3 (.tmp 34) (.const (.int .i64 0)) rfl g 10 1 (splice (sndC v A n c B m d) 0 zSl) [.int .i64 0] rfl rfl KB3.out (by kernel_rfl) rfl (by show _ ≤ 12; decide) (fun u hu => by obtain rfl := List.mem_singleton.1 hu; rfl) ?_)
      intro w4 hb4 hc4
      have KB4 := Lib.hid hb4
      have CC4 := Lib.hid hc4
      clear hb4 hc4
      go_wp2_with (refine wpList_st rfl 4 (.tmp 36) (.const (.bool false)) rfl g 11 1 (splice (splice (sndC v A n c B m d) 0 zSl) 10 [.int .i64 0]) [.bool false] rfl rfl KB4.out (by kernel_rfl) rfl (by show _ ≤ 12; decide) (fun u hu => by obtain rfl := List.mem_singleton.1 hu; rfl) ?_)
      intro w5 hb5 hc5
      have HFX := Lib.hid (HF.out _ _ _ _ _ _ _ _ HS2.out C2.out w3 w4 w5 KB3.out CC3.out CC4.out hc5 hb5)
      clear hb5 hc5
      go_wp2_with fail
      (try simp only [Exit.inBlock, Exit.then])
      refine bodyPost_end (results_none rfl _ _ _) rfl ⟨rfl, ?_, HFX.out.2⟩
      rw [HV2.out]
      exact ⟨_, _, _, _, _, _, HFX.out.1⟩
    | true =>
      have HV2 : Hid (v.stop true = ⟨false, .no, true, v.o, 0, false⟩) := by show _ = _; rw [SV.stop, if_pos rfl, if_pos rfl, hi]; rfl
      have HI := Lib.hid hi
      rw [hi] at c4
      clear hi
      go_enter Try.func33, Try.ntmps33
      go_wp2_with (first
        | (refine wpList_ld rfl 55 (.tmp 23) rfl g 0 5 (sndC v A n c B m d) (slotC v.o A n c v.is) rfl HS.out.bk (by kernel_rfl) (by kernel_rfl) (by show _ ≤ 12; decide) rfl ?_)
        | (refine wpList_st rfl 55 (.tmp 26) (.tmp 24) rfl g 5 5 (sndC v A n c B m d) (slotC v.o A n c v.is) rfl rfl HS.out.bk (by kernel_rfl) rfl (by show _ ≤ 12; decide) (one_slot _ _ _ _ _) ?_))
      intro w2 hb hc
      have HS2 : Hid (SAt w2 g { v with was := v.is, y := v.o } A n c A n c) := ⟨hb, HS.out.ln, HS.out.ra.chg hc (fun j hj => by omega), HS.out.oa, HS.out.ln, HS.out.ra.chg hc (fun j hj => by omega), HS.out.oa, HS.out.n5, HS.out.n5, HS.out.good⟩
      have C2 := Lib.hid hc
      clear hb hc c4
      obtain ⟨v2, hv2⟩ : ∃ v2, ({ v with was := v.is, y := v.o } : SV) = v2 := ⟨_, rfl⟩
      have HV3 : Hid (v.stop true = ⟨false, .no, v2.was, v2.y, 0, false⟩) := by show _ = _; rw [← hv2, HV2.out]; show _ = SV.mk false .no v.is v.o 0 false; rw [HI.out]
      rw [hv2] at HS2
      clear hv2
      go_wp2_with (first
        | (refine wpList_bld rfl 55 [] rfl zSl [] zSl (by kernel_rfl) (by kernel_rfl) trivial rfl ?_)
        | (refine wpList_st rfl 55 (.tmp 32) (.tmp 30) rfl g 0 5 (sndC v2 A n c A n c) zSl rfl rfl HS2.out.bk (by kernel_rfl) rfl (by show _ ≤ 12; decide) one_zSl ?_))
      intro w3 hb3 hc3
      have KB3 := Lib.hid hb3
      have CC3 := Lib.hid hc3
      clear hb3 hc3
      go_wp2_with (refine wpList_st rfl 3 (.tmp 34) (.const (.int .i64 0)) rfl g 10 1 (splice (sndC v2 A n c A n c) 0 zSl) [.int .i64 0] rfl rfl KB3.out (by kernel_rfl) rfl (by show _ ≤ 12; decide) (fun u hu => by obtain rfl := List.mem_singleton.1 hu; rfl) ?_)
      intro w4 hb4 hc4
      have KB4 := Lib.hid hb4
      have CC4 := Lib.hid hc4
      clear hb4 hc4
      go_wp2_with (refine wpList_st rfl 4 (.tmp 36) (.const (.bool false)) rfl g 11 1 (splice (splice (sndC v2 A n c A n c) 0 zSl) 10 [.int .i64 0]) [.bool false] rfl rfl KB4.out (by kernel_rfl) rfl (by show _ ≤ 12; decide) (fun u hu => by obtain rfl := List.mem_singleton.1 hu; rfl) ?_)
      intro w5 hb5 hc5
      have HFX := Lib.hid (HF.out _ _ _ _ _ _ _ _ HS2.out C2.out w3 w4 w5 KB3.out CC3.out CC4.out hc5 hb5)
      clear hb5 hc5
      go_wp2_with fail
      (try simp only [Exit.inBlock, Exit.then])
      refine bodyPost_end (results_none rfl _ _ _) rfl ⟨rfl, ?_, HFX.out.2⟩
      rw [HV3.out]
      exact ⟨_, _, _, _, _, _, HFX.out.1⟩
end Go.Proofs.Ytjkkbkjejcjfiaa
