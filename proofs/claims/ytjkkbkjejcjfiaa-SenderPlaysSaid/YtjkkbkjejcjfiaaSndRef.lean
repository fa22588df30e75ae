
/- law24's reference sender: Missed, Stop, Pick; keep.Packets. -/
import Derived.Test.YtjkkbkjejcjfiaaSndOps2
import Derived.Test.YtjkkbkjejcjfiaaSndAck
import Derived.Test.YtjkkbkjejcjfiaaKeepPuts
namespace Go.Proofs.Ytjkkbkjejcjfiaa
open Go.RowKit
set_option linter.unusedVariables false
set_option linter.unusedSimpArgs false

def refC (v : SV) (A : Option Addr) (n c : Nat) (B : Option Addr) (m d : Nat) : List Value := [.bool v.is, .bool v.was, .int .i64 v.o.k, vu32 v.o.e, vu32 v.o.q, .slice A n c, .int .i64 v.y.k, vu32 v.y.e, vu32 v.y.q, .slice B m d, .int .i64 (v.wt : Nat), .bool v.tc]
theorem one_zPk : ∀ u ∈ zPk, u.oneCell' = true := one_pkt _ _ _ _ _ _
/-- The reference's block, and the rows of its packets. -/
structure QAt (w : World) (q : Nat) (v : SV) (A : Option Addr) (n c : Nat) (B : Option Addr) (m d : Nat) : Prop where
  bk : Bk w q (refC v A n c B m d)
  ln : v.o.ps.length = n
  ra : RdN (q + 1) w A (v.o.ps.flatMap putC)
  oa : PutsOk v.o.ps
  lm : v.y.ps.length = m
  rb : RdN (q + 1) w B (v.y.ps.flatMap putC)
  ob : PutsOk v.y.ps
  n5 : n ≤ 5
  m5 : m ≤ 5
def QSt (w : World) (q : Nat) (v : SV) : Prop := ∃ A n c B m d, QAt w q v A n c B m d
theorem QAt.below {w w' : World} {g : Nat} {v : SV} {A : Option Addr} {n c : Nat} {B : Option Addr} {m d : Nat} (h : QAt w g v A n c B m d) (hb : Below w.heap.size w w') : QAt w' g v A n c B m d :=
  ⟨h.bk.below hb, h.ln, h.ra.chg (Chg.of_below (S := NoS) hb) (fun _ hj => hj.elim), h.oa, h.lm, h.rb.chg (Chg.of_below (S := NoS) hb) (fun _ hj => hj.elim), h.ob, h.n5, h.m5⟩
theorem QSt.below {w w' : World} {g : Nat} {v : SV} (h : QSt w g v) (hb : Below w.heap.size w w') : QSt w' g v := by
  obtain ⟨A, n, c, B, m, d, h⟩ := h
  exact ⟨A, n, c, B, m, d, h.below hb⟩
theorem QSt.chgN {w w' : World} {g : Nat} {v : SV} (h : QSt w g v) (hb : Chg NoS w w') : QSt w' g v := h.below (hb.below (Nat.le_refl _) (fun _ _ => id))
theorem QSt.lt {w : World} {g : Nat} {v : SV} (h : QSt w g v) : g < w.heap.size := by
  obtain ⟨A, n, c, B, m, d, h⟩ := h
  exact h.bk.lt
/-- Other blocks below turn. -/
theorem QSt.chg {w w' : World} {q g : Nat} {v : SV} (h : QSt w q v) (hc : Chg (· = g) w w') (hg : g < q) : QSt w' q v := by
  obtain ⟨A, n, c, B, m, d, h⟩ := h
  exact ⟨A, n, c, B, m, d, ⟨h.bk.chg hc (by omega), h.ln, h.ra.chg hc (fun j hj => by omega), h.oa, h.lm, h.rb.chg hc (fun j hj => by omega), h.ob, h.n5, h.m5⟩⟩
theorem SSt.chgq {w w' : World} {g q : Nat} {v : SV} (h : SSt w g v) (hc : Chg (· = q) w w') (hq : q = g + 1) : SSt w' g v := by
  obtain ⟨A, n, c, B, m, d, h⟩ := h
  exact ⟨A, n, c, B, m, d, ⟨h.bk.chg hc (by omega), h.ln, h.ra.chg hc (fun j hj => by omega), h.oa, h.lm, h.rb.chg hc (fun j hj => by omega), h.ob, h.n5, h.m5, h.good⟩⟩
theorem QSt.new {w : World} {g g' : Nat} (h : Bk w g' (refC .no none 0 0 none 0 0)) (e : g' = g) : QSt w g .no := by
  subst e
  exact ⟨none, 0, 0, none, 0, 0, ⟨h, rfl, RdN.nil, (fun p hp => by cases hp), rfl, RdN.nil, (fun p hp => by cases hp), (by decide), (by decide)⟩⟩
/-- What an operation leaves of a reference sender. -/
def QPost (w : World) (q : Nat) (v : SV) (r : Value) (e : Ending) (w' : World) : Prop := e = .returned r ∧ QSt w' q v ∧ Chg (· = q) w w'
/-! ### Missed -/
set_option maxRecDepth 100000 in
set_option maxHeartbeats 4000000 in
theorem refMissed_calls (w : World) (q : Nat) (v : SV) (hs : QSt w q v) (hw : v.wt ≤ 1000000) : Calls Try.prog 28 #[.pointer (some ⟨q, 0, none⟩)] w (QPost w q v.missed (.int .i64 (v.missedN : Nat))) := by
  obtain ⟨A, n, c, B, m, d, h⟩ := hs
  have HS := Lib.hid h
  have c0 : w.cell? ⟨q, 0, none⟩ = some (.bool v.is) := h.bk.cell rfl
  clear h
  cases hi : v.is with
  | false =>
    have HM : Hid (v.missed = v) := by show _ = _; rw [SV.missed, if_neg (by rw [hi]; decide)]
    have HN : Hid (v.missedN = 0) := by show _ = _; rw [SV.missedN, if_neg (by rw [hi]; decide)]
    rw [hi] at c0
    clear hi
    go_enter Try.func28, Try.ntmps28
    go_wp2_with fail
    (try simp only [Exit.inBlock, Exit.then])
    go_ret
    exact ⟨by rw [HN.out]; rfl, by rw [HM.out]; exact ⟨A, n, c, B, m, d, HS.out⟩, Chg.refl _⟩
  | true =>
    have HM : Hid (v.missed = { v with wt := v.wt + 1 }) := by show _ = _; rw [SV.missed, if_pos hi]
    have HN : Hid (v.missedN = v.wt + 1) := by show _ = _; rw [SV.missedN, if_pos hi]
    have c10 : w.cell? ⟨q, 10, none⟩ = some (.int .i64 (v.wt : Nat)) := HS.out.bk.cell rfl
    rw [hi] at c0
    clear hi
    go_enter Try.func28, Try.ntmps28
    go_wp2_with (refine wpList_st rfl 3 (.tmp 14) (.tmp 12) rfl q 10 1 (refC v A n c B m d) [.int .i64 ((v.wt : Int) + 1)] rfl rfl HS.out.bk (by kernel_rfl) rfl (by show _ ≤ 12; decide) (fun u hu => by obtain rfl := List.mem_singleton.1 hu; rfl) ?_)
    intro w2 hb hc
    have HS2 : Hid (QAt w2 q { v with wt := v.wt + 1 } A n c B m d) := ⟨hb, HS.out.ln, HS.out.ra.chg hc (fun j hj => by omega), HS.out.oa, HS.out.lm, HS.out.rb.chg hc (fun j hj => by omega), HS.out.ob, HS.out.n5, HS.out.m5⟩
    have C2 := Lib.hid hc
    clear hb hc c0 c10
    have c10 : w2.cell? ⟨q, 10, none⟩ = some (.int .i64 ((v.wt + 1 : Nat))) := HS2.out.bk.cell rfl
    go_wp2_with fail
    (try simp only [Exit.inBlock, Exit.then])
    go_ret
    refine ⟨by rw [HN.out]; rfl, ?_, C2.out⟩
    rw [HM.out]
    exact ⟨A, n, c, B, m, d, HS2.out⟩
/-! ### Stop -/
theorem QAt.stopped {w w' : World} {q : Nat} {v : SV} {was : Bool} {y : PkV} {A : Option Addr} {n c : Nat} {B : Option Addr} {m d : Nat} (h : Bk w' q (refC ⟨false, .no, was, y, 0, false⟩ none 0 0 B m d)) (hl : y.ps.length = m) (hr : RdN (q + 1) w' B (y.ps.flatMap putC)) (ho : PutsOk y.ps) (h5 : m ≤ 5) : QSt w' q ⟨false, .no, was, y, 0, false⟩ :=
  ⟨none, 0, 0, B, m, d, ⟨h, rfl, RdN.nil, (fun p hp => by cases hp), hl, hr, ho, by decide, h5⟩⟩
set_option maxRecDepth 100000 in
set_option maxHeartbeats 8000000 in
theorem refStop_calls (w : World) (q : Nat) (v : SV) (early : Bool) (hs : QSt w q v) : Calls Try.prog 34 #[.pointer (some ⟨q, 0, none⟩), .bool early] w (QPost w q (v.stop early) (.tuple #[])) := by
  obtain ⟨A, n, c, B, m, d, h⟩ := hs
  have HS := Lib.hid h
  have KQ0 := Lib.hid h.bk
  have c0 : w.cell? ⟨q, 0, none⟩ = some (.bool v.is) := h.bk.cell rfl
  clear h
  cases early with
  | false =>
    have HST : Hid (v.stop false = ⟨false, .no, false, .no, 0, false⟩) := rfl
    clear c0
    go_enter Try.func34, Try.ntmps34
    go_wp2_with (first
      | (refine wpList_bld rfl 25 [] rfl zPk [] zPk (by kernel_rfl) (by kernel_rfl) trivial rfl ?_)
      | (refine wpList_st rfl 4 (.tmp 11) (.const (.bool false)) rfl q 1 1 (refC v A n c B m d) [.bool false] rfl rfl KQ0.out (by kernel_rfl) rfl (by show _ ≤ 12; decide) (fun u hu => by obtain rfl := List.mem_singleton.1 hu; rfl) ?_))
    intro q1 hb hc
    have Kq1 : Hid (Bk q1 q (refC ⟨v.is, v.o, false, v.y, v.wt, v.tc⟩ A n c B m d)) := hb
    have Cq1 : Hid (Chg (· = q) w q1) := hc
    clear hb hc
    go_wp2_with (first
      | (refine wpList_st rfl 25 (.tmp 13) (.tmp 9) rfl q 6 4 (refC ⟨v.is, v.o, false, v.y, v.wt, v.tc⟩ A n c B m d) zPk rfl rfl Kq1.out (by kernel_rfl) rfl (by show _ ≤ 12; decide) one_zPk ?_))
    intro q2 hb hc
    have Kq2 : Hid (Bk q2 q (refC ⟨v.is, v.o, false, .no, v.wt, v.tc⟩ A n c none 0 0)) := hb
    have Cq2 : Hid (Chg (· = q) w q2) := Cq1.out.trans hc
    clear Cq1
    clear hb hc
    clear Kq1
    obtain ⟨v2, hv2⟩ : ∃ v2, (⟨v.is, v.o, false, .no, v.wt, v.tc⟩ : SV) = v2 := ⟨_, rfl⟩
    rw [hv2] at Kq2
    have HW : Hid (v2.was = false ∧ v2.y = .no) := by show _ ∧ _; rw [← hv2]; exact ⟨rfl, rfl⟩
    clear hv2
    go_wp2_with (first
      | (refine wpList_bld rfl 25 [] rfl zPk [] zPk (by kernel_rfl) (by kernel_rfl) trivial rfl ?_)
      | (refine wpList_st rfl 4 (.tmp 35) (.const (.bool false)) rfl q 0 1 (refC v2 A n c none 0 0) [.bool false] rfl rfl Kq2.out (by kernel_rfl) rfl (by show _ ≤ 12; decide) (fun u hu => by obtain rfl := List.mem_singleton.1 hu; rfl) ?_))
    intro q3 hb hc
    have Kq3 : Hid (Bk q3 q (refC ⟨false, v2.o, v2.was, v2.y, v2.wt, v2.tc⟩ A n c none 0 0)) := hb
    have Cq3 : Hid (Chg (· = q) w q3) := Cq2.out.trans hc
    clear Cq2
    clear hb hc
    clear Kq2
    go_wp2_with (first
      | (refine wpList_st rfl 25 (.tmp 37) (.tmp 33) rfl q 2 4 (refC ⟨false, v2.o, v2.was, v2.y, v2.wt, v2.tc⟩ A n c none 0 0) zPk rfl rfl Kq3.out (by kernel_rfl) rfl (by show _ ≤ 12; decide) one_zPk ?_))
    intro q4 hb hc
    have Kq4 : Hid (Bk q4 q (refC ⟨false, .no, v2.was, v2.y, v2.wt, v2.tc⟩ none 0 0 none 0 0)) := hb
    have Cq4 : Hid (Chg (· = q) w q4) := Cq3.out.trans hc
    clear Cq3
    clear hb hc
    clear Kq3
    go_wp2_with (first
      | (refine wpList_st rfl 3 (.tmp 39) (.const (.int .i64 0)) rfl q 10 1 (refC ⟨false, .no, v2.was, v2.y, v2.wt, v2.tc⟩ none 0 0 none 0 0) [.int .i64 0] rfl rfl Kq4.out (by kernel_rfl) rfl (by show _ ≤ 12; decide) (fun u hu => by obtain rfl := List.mem_singleton.1 hu; rfl) ?_))
    intro q5 hb hc
    have Kq5 : Hid (Bk q5 q (refC ⟨false, .no, v2.was, v2.y, 0, v2.tc⟩ none 0 0 none 0 0)) := hb
    have Cq5 : Hid (Chg (· = q) w q5) := Cq4.out.trans hc
    clear Cq4
    clear hb hc
    clear Kq4
    go_wp2_with (first
      | (refine wpList_st rfl 4 (.tmp 41) (.const (.bool false)) rfl q 11 1 (refC ⟨false, .no, v2.was, v2.y, 0, v2.tc⟩ none 0 0 none 0 0) [.bool false] rfl rfl Kq5.out (by kernel_rfl) rfl (by show _ ≤ 12; decide) (fun u hu => by obtain rfl := List.mem_singleton.1 hu; rfl) ?_))
    intro q6 hb hc
    have Kq6 : Hid (Bk q6 q (refC ⟨false, .no, v2.was, v2.y, 0, false⟩ none 0 0 none 0 0)) := hb
    have Cq6 : Hid (Chg (· = q) w q6) := Cq5.out.trans hc
    clear Cq5
    clear hb hc
    clear Kq5
    go_wp2_with fail
    (try simp only [Exit.inBlock, Exit.then])
    refine bodyPost_end (results_none rfl _ _ _) rfl ⟨rfl, ?_, Cq6.out⟩
    rw [HST.out]
    rw [HW.out.1, HW.out.2] at Kq6
    exact QAt.stopped (v := v) (w := w) (A := A) (n := n) (c := c) Kq6.out rfl RdN.nil (fun p hp => by cases hp) (by decide)
  | true =>
    cases hi : v.is with
    | false =>
      have HST : Hid (v.stop true = ⟨false, .no, v.was, v.y, 0, false⟩) := by show _ = _; rw [SV.stop, if_pos rfl, if_pos rfl, hi]; rfl
      rw [hi] at c0
      clear hi
      go_enter Try.func34, Try.ntmps34
      go_wp2_with (first
        | (refine wpList_bld rfl 25 [] rfl zPk [] zPk (by kernel_rfl) (by kernel_rfl) trivial rfl ?_)
        | (refine wpList_st rfl 4 (.tmp 35) (.const (.bool false)) rfl q 0 1 (refC v A n c B m d) [.bool false] rfl rfl KQ0.out (by kernel_rfl) rfl (by show _ ≤ 12; decide) (fun u hu => by obtain rfl := List.mem_singleton.1 hu; rfl) ?_))
      intro q1 hb hc
      have Kq1 : Hid (Bk q1 q (refC ⟨false, v.o, v.was, v.y, v.wt, v.tc⟩ A n c B m d)) := hb
      have Cq1 : Hid (Chg (· = q) w q1) := hc
      clear hb hc
      go_wp2_with (first
        | (refine wpList_st rfl 25 (.tmp 37) (.tmp 33) rfl q 2 4 (refC ⟨false, v.o, v.was, v.y, v.wt, v.tc⟩ A n c B m d) zPk rfl rfl Kq1.out (by kernel_rfl) rfl (by show _ ≤ 12; decide) one_zPk ?_))
      intro q2 hb hc
      have Kq2 : Hid (Bk q2 q (refC ⟨false, .no, v.was, v.y, v.wt, v.tc⟩ none 0 0 B m d)) := hb
      have Cq2 : Hid (Chg (· = q) w q2) := Cq1.out.trans hc
      clear Cq1
      clear hb hc
      clear Kq1
      go_wp2_with (first
        | (refine wpList_st rfl 3 (.tmp 39) (.const (.int .i64 0)) rfl q 10 1 (refC ⟨false, .no, v.was, v.y, v.wt, v.tc⟩ none 0 0 B m d) [.int .i64 0] rfl rfl Kq2.out (by kernel_rfl) rfl (by show _ ≤ 12; decide) (fun u hu => by obtain rfl := List.mem_singleton.1 hu; rfl) ?_))
      intro q3 hb hc
      have Kq3 : Hid (Bk q3 q (refC ⟨false, .no, v.was, v.y, 0, v.tc⟩ none 0 0 B m d)) := hb
      have Cq3 : Hid (Chg (· = q) w q3) := Cq2.out.trans hc
      clear Cq2
      clear hb hc
      clear Kq2
      go_wp2_with (first
        | (refine wpList_st rfl 4 (.tmp 41) (.const (.bool false)) rfl q 11 1 (refC ⟨false, .no, v.was, v.y, 0, v.tc⟩ none 0 0 B m d) [.bool false] rfl rfl Kq3.out (by kernel_rfl) rfl (by show _ ≤ 12; decide) (fun u hu => by obtain rfl := List.mem_singleton.1 hu; rfl) ?_))
      intro q4 hb hc
      have Kq4 : Hid (Bk q4 q (refC ⟨false, .no, v.was, v.y, 0, false⟩ none 0 0 B m d)) := hb
      have Cq4 : Hid (Chg (· = q) w q4) := Cq3.out.trans hc
      clear Cq3
      clear hb hc
      clear Kq3
      go_wp2_with fail
      (try simp only [Exit.inBlock, Exit.then])
      refine bodyPost_end (results_none rfl _ _ _) rfl ⟨rfl, ?_, Cq4.out⟩
      rw [HST.out]
      exact QAt.stopped (v := v) (w := w) (A := A) (n := n) (c := c) Kq4.out HS.out.lm (HS.out.rb.chg Cq4.out (fun j hj => by omega)) HS.out.ob HS.out.m5
    | true =>
      have HST : Hid (v.stop true = ⟨false, .no, true, v.o, 0, false⟩) := by show _ = _; rw [SV.stop, if_pos rfl, if_pos rfl, hi]; rfl
      rw [hi] at c0
      clear hi
      go_enter Try.func34, Try.ntmps34
      go_wp2_with (first
        | (refine wpList_ld rfl 25 (.tmp 23) rfl q 2 4 (refC v A n c B m d) (pktC v.o.k v.o.e v.o.q A n c) rfl KQ0.out (by kernel_rfl) (by kernel_rfl) (by show _ ≤ 12; decide) rfl ?_)
        | (refine wpList_st rfl 4 (.tmp 26) (.const (.bool true)) rfl q 1 1 (refC v A n c B m d) [.bool true] rfl rfl KQ0.out (by kernel_rfl) rfl (by show _ ≤ 12; decide) (fun u hu => by obtain rfl := List.mem_singleton.1 hu; rfl) ?_))
      intro q1 hb hc
      have Kq1 : Hid (Bk q1 q (refC ⟨v.is, v.o, true, v.y, v.wt, v.tc⟩ A n c B m d)) := hb
      have Cq1 : Hid (Chg (· = q) w q1) := hc
      clear hb hc
      go_wp2_with (first
        | (refine wpList_st rfl 25 (.tmp 28) (.tmp 24) rfl q 6 4 (refC ⟨v.is, v.o, true, v.y, v.wt, v.tc⟩ A n c B m d) (pktC v.o.k v.o.e v.o.q A n c) rfl rfl Kq1.out (by kernel_rfl) rfl (by show _ ≤ 12; decide) (one_pkt _ _ _ _ _ _) ?_))
      intro q2 hb hc
      have Kq2 : Hid (Bk q2 q (refC ⟨v.is, v.o, true, v.o, v.wt, v.tc⟩ A n c A n c)) := hb
      have Cq2 : Hid (Chg (· = q) w q2) := Cq1.out.trans hc
      clear Cq1
      clear hb hc
      clear Kq1
      obtain ⟨v2, hv2⟩ : ∃ v2, (⟨v.is, v.o, true, v.o, v.wt, v.tc⟩ : SV) = v2 := ⟨_, rfl⟩
      rw [hv2] at Kq2
      have HW : Hid (v2.was = true ∧ v2.y = v.o) := by show _ ∧ _; rw [← hv2]; exact ⟨rfl, rfl⟩
      clear hv2 c0
      go_wp2_with (first
        | (refine wpList_bld rfl 25 [] rfl zPk [] zPk (by kernel_rfl) (by kernel_rfl) trivial rfl ?_)
        | (refine wpList_st rfl 4 (.tmp 35) (.const (.bool false)) rfl q 0 1 (refC v2 A n c A n c) [.bool false] rfl rfl Kq2.out (by kernel_rfl) rfl (by show _ ≤ 12; decide) (fun u hu => by obtain rfl := List.mem_singleton.1 hu; rfl) ?_))
      intro q3 hb hc
      have Kq3 : Hid (Bk q3 q (refC ⟨false, v2.o, v2.was, v2.y, v2.wt, v2.tc⟩ A n c A n c)) := hb
      have Cq3 : Hid (Chg (· = q) w q3) := Cq2.out.trans hc
      clear Cq2
      clear hb hc
      clear Kq2
      go_wp2_with (first
        | (refine wpList_st rfl 25 (.tmp 37) (.tmp 33) rfl q 2 4 (refC ⟨false, v2.o, v2.was, v2.y, v2.wt, v2.tc⟩ A n c A n c) zPk rfl rfl Kq3.out (by kernel_rfl) rfl (by show _ ≤ 12; decide) one_zPk ?_))
      intro q4 hb hc
      have Kq4 : Hid (Bk q4 q (refC ⟨false, .no, v2.was, v2.y, v2.wt, v2.tc⟩ none 0 0 A n c)) := hb
      have Cq4 : Hid (Chg (· = q) w q4) := Cq3.out.trans hc
      clear Cq3
      clear hb hc
      clear Kq3
      go_wp2_with (first
        | (refine wpList_st rfl 3 (.tmp 39) (.const (.int .i64 0)) rfl q 10 1 (refC ⟨false, .no, v2.was, v2.y, v2.wt, v2.tc⟩ none 0 0 A n c) [.int .i64 0] rfl rfl Kq4.out (by kernel_rfl) rfl (by show _ ≤ 12; decide) (fun u hu => by obtain rfl := List.mem_singleton.1 hu; rfl) ?_))
      intro q5 hb hc
      have Kq5 : Hid (Bk q5 q (refC ⟨false, .no, v2.was, v2.y, 0, v2.tc⟩ none 0 0 A n c)) := hb
      have Cq5 : Hid (Chg (· = q) w q5) := Cq4.out.trans hc
      clear Cq4
      clear hb hc
      clear Kq4
      go_wp2_with (first
        | (refine wpList_st rfl 4 (.tmp 41) (.const (.bool false)) rfl q 11 1 (refC ⟨false, .no, v2.was, v2.y, 0, v2.tc⟩ none 0 0 A n c) [.bool false] rfl rfl Kq5.out (by kernel_rfl) rfl (by show _ ≤ 12; decide) (fun u hu => by obtain rfl := List.mem_singleton.1 hu; rfl) ?_))
      intro q6 hb hc
      have Kq6 : Hid (Bk q6 q (refC ⟨false, .no, v2.was, v2.y, 0, false⟩ none 0 0 A n c)) := hb
      have Cq6 : Hid (Chg (· = q) w q6) := Cq5.out.trans hc
      clear Cq5
      clear hb hc
      clear Kq5
      go_wp2_with fail
      (try simp only [Exit.inBlock, Exit.then])
      refine bodyPost_end (results_none rfl _ _ _) rfl ⟨rfl, ?_, Cq6.out⟩
      rw [HST.out]
      rw [HW.out.1, HW.out.2] at Kq6
      exact QAt.stopped (v := v) (w := w) (A := A) (n := n) (c := c) Kq6.out HS.out.ln (HS.out.ra.chg Cq6.out (fun j hj => by omega)) HS.out.oa HS.out.n5
/-! ### Pick -/
def RPickPost (D : Nat) (w : World) (e : Ending) (w' : World) : Prop := (∃ z : Int, e = .returned (.int .i64 z) ∧ ∀ r b, PickR D r b → z = if b = true then (r : Int) else -1) ∧ w = w'
set_option maxHeartbeats 4000000 in
theorem refPick_calls (D : Nat) (h : D < 65536) (w : World) : Calls Try.prog 38 #[.int .u16 D] w (RPickPost D w) := by
  go_enter Try.func38, Try.ntmps38
  go_wp2_with fail
  go_loop [3] (fun v4 => ∃ k : Nat, 1 ≤ k ∧ k ≤ 12 ∧ v4 = .int .i64 k ∧ ∀ j, 1 ≤ j → j < k → ¬ D / 2 ^ j % 2 = 1) (fun v4 => 12 - (intOf v4).toNat)
  case atStart => exact ⟨1, Nat.le_refl _, by decide, rfl, fun j h1 h2 => by omega⟩
  case round =>
    obtain ⟨k, hk1, hk2, rfl, hall⟩ := hrel
    have HA := Lib.hid hall
    clear hall
    by_cases hlt : k < 12
    · have hki : (k : Int) < 12 := by omega
      have hk0 : (0 : Int) ≤ (k : Int) := by omega
      have hbit := bit16 D k h
      obtain ⟨z, hz⟩ : ∃ z, D / 2 ^ k % 2 = z := ⟨_, rfl⟩
      have HZ := Lib.hid hz
      rw [hz] at hbit
      clear hz
      by_cases hz1 : z = 1
      · subst hz1
        go_wp2
        (try simp only [Exit.inBlock, Exit.then])
        go_ret
        refine ⟨⟨k, rfl, fun r b hp => ?_⟩, rfl⟩
        rcases hp with ⟨h1, h2, h3, h4, rfl⟩ | ⟨_, h2, _⟩
        · rw [if_pos rfl]
          rcases Nat.lt_trichotomy r k with h5 | h5 | h5
          · exact absurd h3 (HA.out r h1 h5)
          · rw [h5]
          · exact absurd HZ.out (h4 k hk1 h5)
        · exact absurd HZ.out (h2 k hk1 (by omega))
      · have hzi : ¬ ((z : Int) = 1) := by omega
        have hzb : ((z : Int) == 1) = false := by rw [beq_eq_false_iff_ne]; exact hzi
        go_wp2
        go_round
        case rel => exact ⟨k + 1, by omega, by omega, by go_num, fun j h1 h2 => by
          by_cases hjk : j = k
          · rw [hjk, HZ.out]; exact hz1
          · exact HA.out j h1 (by omega)⟩
        case measure => simp [intOf]; omega
    · have hke : k = 12 := by omega
      subst hke
      have hki : ¬ (((12 : Nat) : Int) < 12) := by omega
      have hbit := and1_u16 D h
      obtain ⟨z, hz⟩ : ∃ z, D % 2 = z := ⟨_, rfl⟩
      have HZ := Lib.hid hz
      rw [hz] at hbit
      have hz2 : z = 0 ∨ z = 1 := by omega
      clear hz
      rcases hz2 with rfl | rfl
      all_goals
        go_wp2
        (try simp only [Exit.inBlock, Exit.then])
        go_ret
        refine ⟨⟨_, rfl, fun r b hp => ?_⟩, rfl⟩
        rcases hp with ⟨h1, h2, h3, _, _⟩ | ⟨rfl, _, rfl⟩
        · exact absurd h3 (HA.out r h1 (by omega))
        · rw [HZ.out]; rfl
/-! ### keep.Packets -/
def pkEq (p r : PkV) : Bool := decide (p.k = r.k) && decide (p.e = r.e) && decide (p.q = r.q) && decide (p.ps = r.ps)
theorem pkEq_self (p : PkV) : pkEq p p = true := by simp [pkEq]
set_option maxRecDepth 100000 in
set_option maxHeartbeats 4000000 in
theorem keepPackets_calls (p r : PkV) (A B : Option Addr) (n m c d : Nat) (w : World) (hl : p.ps.length = n) (hm : r.ps.length = m) (hnn : n ≤ 9223372036854775807) (hr : Rd w A (p.ps.flatMap putC)) (hr2 : Rd w B (r.ps.flatMap putC)) (ho : PutsOk p.ps) (ho2 : PutsOk r.ps) :
    Calls Try.prog 18 #[.agg (pktC p.k p.e p.q A n c).toArray, .agg (pktC r.k r.e r.q B m d).toArray] w fun e w' => e = .returned (.bool (pkEq p r)) ∧ Below w.heap.size w w' := by
  have HR := Lib.hid hr
  have HR2 := Lib.hid hr2
  have HO := Lib.hid ho
  have HO2 := Lib.hid ho2
  have HL := Lib.hid hl
  have HM := Lib.hid hm
  have HN := Lib.hid hnn
  clear hr hr2 ho ho2 hl hm hnn
  obtain ⟨bx, hbx⟩ : ∃ bx, pktC p.k p.e p.q A n c = bx := ⟨_, rfl⟩
  obtain ⟨by_, hby⟩ : ∃ by_, pktC r.k r.e r.q B m d = by_ := ⟨_, rfl⟩
  have HX : Hid (Bk ((w.alloc (.cells bx.toArray 25)).alloc (.cells by_.toArray 25)) w.heap.size bx) := (Bk.new w bx _).below ((Below.refl _ _).alloc (Nat.le_refl _) _)
  have HY : Hid (Bk ((w.alloc (.cells bx.toArray 25)).alloc (.cells by_.toArray 25)) (w.heap.size + 1) by_) := by
    have h := Bk.new (w.alloc (.cells bx.toArray 25)) by_ 25
    have hs : (w.alloc (.cells bx.toArray 25)).heap.size = w.heap.size + 1 := by simp
    rwa [hs] at h
  have HE : Hid (Below w.heap.size w ((w.alloc (.cells bx.toArray 25)).alloc (.cells by_.toArray 25))) := ((Below.refl _ _).alloc (Nat.le_refl _) _).alloc (by simp) _
  have c0 := HX.out.cell (j := 0) (v := .int .i64 p.k) (by rw [← hbx]; exact (rfl : _ = _))
  have c1 := HX.out.cell (j := 1) (v := vu32 p.e) (by rw [← hbx]; exact (rfl : _ = _))
  have c2 := HX.out.cell (j := 2) (v := vu32 p.q) (by rw [← hbx]; exact (rfl : _ = _))
  have c3 := HX.out.cell (j := 3) (v := .slice A n c) (by rw [← hbx]; exact (rfl : _ = _))
  have d0 := HY.out.cell (j := 0) (v := .int .i64 r.k) (by rw [← hby]; exact (rfl : _ = _))
  have d1 := HY.out.cell (j := 1) (v := vu32 r.e) (by rw [← hby]; exact (rfl : _ = _))
  have d2 := HY.out.cell (j := 2) (v := vu32 r.q) (by rw [← hby]; exact (rfl : _ = _))
  have d3 := HY.out.cell (j := 3) (v := .slice B m d) (by rw [← hby]; exact (rfl : _ = _))
  rw [hbx, hby]
  clear hbx hby HX HY
  by_cases h1 : p.k = r.k
  case neg =>
    have n1 : (p.k == r.k) = false := by rw [beq_eq_false_iff_ne]; exact h1
    have HF : Hid (pkEq p r = false) := by show _ = _; simp [pkEq, h1]
    clear h1
    go_enter Try.func18, Try.ntmps18
    go_wp2_with fail
    (try simp only [Exit.inBlock, Exit.then])
    go_ret
    exact ⟨by rw [HF.out]; rfl, HE.out⟩
  by_cases h2 : p.e = r.e
  case neg =>
    have n2 : (((p.e.toNat : Nat) : Int) == ((r.e.toNat : Nat) : Int)) = false := by rw [beq_eq_false_iff_ne]; exact fun h => h2 (UInt32.toNat_inj.1 (by omega))
    have HF : Hid (pkEq p r = false) := by show _ = _; simp [pkEq, h2]
    clear h2
    rw [← h1] at d0
    clear h1
    go_enter Try.func18, Try.ntmps18
    go_wp2_with fail
    (try simp only [Exit.inBlock, Exit.then])
    go_ret
    exact ⟨by rw [HF.out]; rfl, HE.out⟩
  by_cases h3 : p.q = r.q
  case neg =>
    have n3 : (((p.q.toNat : Nat) : Int) == ((r.q.toNat : Nat) : Int)) = false := by rw [beq_eq_false_iff_ne]; exact fun h => h3 (UInt32.toNat_inj.1 (by omega))
    have HF : Hid (pkEq p r = false) := by show _ = _; simp [pkEq, h3]
    clear h3
    rw [← h1] at d0
    rw [← h2] at d1
    clear h1 h2
    go_enter Try.func18, Try.ntmps18
    go_wp2_with fail
    (try simp only [Exit.inBlock, Exit.then])
    go_ret
    exact ⟨by rw [HF.out]; rfl, HE.out⟩
  have HF : Hid (pkEq p r = decide (p.ps = r.ps)) := by show _ = _; simp [pkEq, h1, h2, h3]
  rw [← h1] at d0
  rw [← h2] at d1
  rw [← h3] at d2
  clear h1 h2 h3
  go_enter Try.func18, Try.ntmps18
  go_wp2_with fail
  refine (keepPuts_calls p.ps r.ps A B n m c d _ HL.out HM.out HN.out (HR.out.below HE.out) (HR2.out.below HE.out) HO.out HO2.out).mono ?_
  rintro en w2 ⟨rfl, hb⟩
  have E2 : Hid (Below w.heap.size w w2) := HE.out.trans (hb.mono HE.out.size)
  clear hb c0 c1 c2 c3 d0 d1 d2 d3 HE
  rw [← HF.out]
  go_wp2_with fail
  (try simp only [Exit.inBlock, Exit.then])
  go_ret
  exact ⟨rfl, E2.out⟩
end Go.Proofs.Ytjkkbkjejcjfiaa
