
import Derived.Test.YtcmfkdfegfablaaRelR
import Derived.Test.YtcmfkdfegfablaaG1
import Derived.Test.YtcmfkdfegfablaaProg
import Derived.RangeFuncNested
import Derived.RangeFuncBound
import Derived.RangeFuncCalls
import Derived.RangeFuncLeaves
import Derived.RangeFuncBox
import Derived.Shelf.Abstract
import Derived.OwnWalkIn
import Derived.TacticsInMore
import Derived.LoopNIn
import Derived.LoopIn

/- slices.Chunk over bytes, in pieces of 33: the iterator's contract. -/
namespace Go.Proofs.Ytcmfkdfegfablaa
open Go.RowKit Go.Shelf
set_option linter.unusedVariables false
set_option linter.unusedSimpArgs false
attribute [local go_sem] Oper.semAt_some

/-- What a round keeps: the blocks below n₀, but for those of S. -/
def KpX (n₀ : Nat) (S : Nat → Prop) (A B : World) : Prop := ∀ j, j < n₀ → ¬ S j → B.heap[j]? = A.heap[j]?
theorem KpX.refl (n₀ : Nat) (S : Nat → Prop) (A : World) : KpX n₀ S A A := fun _ _ _ => rfl
theorem KpX.trans {n₀ : Nat} {S : Nat → Prop} {A B C : World} (h : KpX n₀ S A B) (k : KpX n₀ S B C) : KpX n₀ S A C := fun j h1 h2 => (k j h1 h2).trans (h j h1 h2)
theorem KpX.cell {n₀ : Nat} {S : Nat → Prop} {A B : World} (h : KpX n₀ S A B) {g i : Nat} {v : Value} (hg : g < n₀) (hS : ¬ S g) (hc : A.cell? ⟨g, i, none⟩ = some v) : B.cell? ⟨g, i, none⟩ = some v :=
  (World.cell?_of_block (w := A) (a := ⟨g, i, none⟩) (h g hg hS)).trans hc
theorem range_snoc (k : Nat) : List.range (k + 1) = List.range k ++ [k] := List.range_succ
set_option maxRecDepth 100000 in
set_option maxHeartbeats 2000000 in
theorem chunk1_in (n l Bs Bn n₀ : Nat) (S : Nat → Prop) (A : Addr) (N L cap : Nat) (hL : 33 * N = L) (hLc : L ≤ cap) (hcm : cap ≤ 9223372036854775807) (hLm : L ≤ 1000000) (hs : Bs < n₀) (hn : Bn < n₀) (hsS : ¬ S Bs) (hnS : ¬ S Bn) (J Jx : List Nat → World → Prop) (hJd : ∀ s W1, J s W1 → J s W1.drew)
    (hY : ∀ pre x W, J pre W → pre.length < N → x = pre.length → YieldAt Fence.wide (n - 1) Try.prog l #[.slice (some (A.add (33 * x))) 33 33] W fun e W' =>
      (e = .returned (.bool true) ∧ J (pre ++ [x]) W' ∧ KpX n₀ S W W') ∨ (e = .returned (.bool false) ∧ Jx (pre ++ [x]) W'))
    (W : World) (hcs : W.cell? ⟨Bs, 0, none⟩ = some (.slice (some A) L cap)) (hcn : W.cell? ⟨Bn, 0, none⟩ = some (.int .i64 33)) (h0 : J [] W) :
    CallsIn Fence.wide n Try.prog 70 #[.func (.yield l) #[] #[], .pointer (some ⟨Bs, 0, none⟩), .pointer (some ⟨Bn, 0, none⟩)] W fun e W' => (∃ v, e = .returned v) ∧
      ((∃ ys, ys = List.range N ∧ J ys W') ∨ (∃ pre, (∃ k, k ≤ N ∧ pre = List.range k) ∧ Jx pre W')) := by
  refine callsIn_of_wp Try.func70 rfl trivial ?_ rfl
  simp only [Try.ntmps70, List.size_toArray, List.length_cons, List.length_nil, Nat.reduceAdd, Nat.reduceSub, Array.replicate_succ, Array.replicate_zero, List.push_toArray, List.append_toArray, List.nil_append, List.cons_append]
  gi_wp2
  gi_loopw [4] (fun v wr => ∃ k : Nat, k ≤ N ∧ v = .int .i64 ((33 * k : Nat) : Int) ∧ J (List.range k) wr ∧ KpX n₀ S W wr) (fun v _ => L - (intOf v).toNat)
  case atStart => exact ⟨0, Nat.zero_le _, rfl, h0, KpX.refl _ _ _⟩
  case round =>
    obtain ⟨k, hk, rfl, hJs, hnx⟩ := hrel
    have hc1 := hnx.cell hs hsS hcs
    have hc2 := hnx.cell hn hnS hcn
    by_cases hlt : k < N
    · obtain ⟨i, hi⟩ : ∃ i, 33 * k = i := ⟨_, rfl⟩
      rw [hi]
      have hiL : i + 33 ≤ L := by omega
      have h1 : (i : Int) < (L : Int) := by omega
      have h2 : (0 : Int) ≤ (i : Int) := by omega
      have h3 : (i : Int) + 33 ≤ (L : Int) := by omega
      have h4 : (33 : Int) ≤ (L : Int) - (i : Int) := by omega
      have h5 : (L : Int) ≤ (cap : Int) := by omega
      have h6 : (cap : Int) ≤ 9223372036854775807 := by omega
      have h6b : (L : Int) ≤ 1000000 := by omega
      have h7 : i ≤ L := by omega
      have h8 : ¬ (cap = i) := by omega
      obtain ⟨m, hm⟩ : ∃ m, L - i = m := ⟨_, rfl⟩
      have h9 : (33 : Int) ≤ (m : Int) := by omega
      have h10 : ¬ ((m : Int) < 33) := by omega
      gi_wp2
      refine wpIn_wide.2 ?_
      apply wp_region_rel 6 Eq [(Veq _), (Veq _), (Veq _), (Veq _), (Veq _), (Veq _)] [[], [], [], [1, 2], [3], [0, 4]] [13, 14, 15, 16, 17, 18] (by kernel_rfl) (by kernel_rfl) rfl rfl rfl (fun _ => rfl) (fun _ _ _ => Eq.trans) ⟨Veq.lasts, Veq.lasts, Veq.lasts, Veq.lasts, Veq.lasts, Veq.lasts, trivial⟩ ?aops ?afin
      case aops =>
        refine ⟨?ao0, ?ao1, ?ao2, ?ao3, ?ao4, ?ao5, trivial⟩
        case ao0 =>
          intro a wx hE hin
          have i2 : a.eval (.tmp 2) = .pointer (some ⟨Bn, 0, none⟩) := hin 2 rfl
          clear hin
          have hcst : ∀ v, a.eval (.const v) = v := fun _ => rfl
          have hfnc : ∀ f, a.eval (.func f) = .func (.func f) #[] #[] := fun _ => rfl
          refine want_none rfl ?_
          unfold Oper.wp
          generalize a.eval = ρ at *
          have c : wx.cell? ⟨Bn, 0, none⟩ = some (.int .i64 33) := by rw [← hE]; exact hc2
          go_simp
          try go_bits
          first | exact rel_val rfl | (go_simp; exact rel_val rfl)
        case ao1 =>
          intro a wx hE hin
          have i1 : a.eval (.tmp 1) = .pointer (some ⟨Bs, 0, none⟩) := hin 1 rfl
          clear hin
          have hcst : ∀ v, a.eval (.const v) = v := fun _ => rfl
          have hfnc : ∀ f, a.eval (.func f) = .func (.func f) #[] #[] := fun _ => rfl
          refine want_none rfl ?_
          unfold Oper.wp
          generalize a.eval = ρ at *
          have c : wx.cell? ⟨Bs, 0, none⟩ = some (.slice (some A) L cap) := by rw [← hE]; exact hc1
          go_simp
          try go_bits
          first | exact rel_val rfl | (go_simp; exact rel_val rfl)
        case ao2 =>
          intro a wx hE hin
          have i4 : a.eval (.tmp 4) = .int .i64 i := hin 4 rfl
          clear hin
          have hcst : ∀ v, a.eval (.const v) = v := fun _ => rfl
          have hfnc : ∀ f, a.eval (.func f) = .func (.func f) #[] #[] := fun _ => rfl
          refine want_none rfl ?_
          unfold Oper.wp
          generalize a.eval = ρ at *
          go_simp
          try go_bits
          first | exact rel_val rfl | (go_simp; exact rel_val rfl)
        case ao3 =>
          rintro a wx hE hin (h1 : a.eval (.tmp 14) = _) (h2 : a.eval (.tmp 15) = _)
          clear hin
          have hcst : ∀ v, a.eval (.const v) = v := fun _ => rfl
          have hfnc : ∀ f, a.eval (.func f) = .func (.func f) #[] #[] := fun _ => rfl
          refine want_none rfl ?_
          unfold Oper.wp
          generalize a.eval = ρ at *
          go_simp
          try go_bits
          first | exact rel_val rfl | (go_simp; exact rel_val rfl)
        case ao4 =>
          rintro a wx hE hin (h3 : a.eval (.tmp 16) = _)
          clear hin
          have hcst : ∀ v, a.eval (.const v) = v := fun _ => rfl
          have hfnc : ∀ f, a.eval (.func f) = .func (.func f) #[] #[] := fun _ => rfl
          refine want_none rfl ?_
          unfold Oper.wp
          generalize a.eval = ρ at *
          go_simp
          try go_bits
          first | exact rel_val rfl | (go_simp; exact rel_val rfl)
        case ao5 =>
          rintro a wx hE hin (h0 : a.eval (.tmp 13) = _) (h4 : a.eval (.tmp 17) = _)
          clear hin
          have hcst : ∀ v, a.eval (.const v) = v := fun _ => rfl
          have hfnc : ∀ f, a.eval (.func f) = .func (.func f) #[] #[] := fun _ => rfl
          refine want_none rfl ?_
          unfold Oper.wp
          generalize a.eval = ρ at *
          go_simp
          try go_bits
          first | exact rel_val rfl | (go_simp; exact rel_val rfl)
      case afin =>
        intro wx hE
        rintro _ rfl _ rfl _ rfl _ rfl _ rfl _ rfl
        simp only [FinOk, List.take_succ_cons, List.take_zero, List.take_nil, List.drop_succ_cons, List.drop_zero, List.drop_nil, Act.put, List.setIfInBounds_toArray, List.set_cons_succ, List.set_cons_zero]
        subst hE
        have hd1 : wr.drew.cell? ⟨Bs, 0, none⟩ = some (.slice (some A) L cap) := hc1
        obtain ⟨fn, tmps, assign, body, hy, hR⟩ := hY _ k wr.drew (hJd _ _ hJs) (by rw [List.length_range]; exact hlt) (by rw [List.length_range])
        rw [hi] at hy
        go_wp2_with fail
        gi_wp2
        refine ⟨fun h => by simp [Fence.wide] at h, hR.mono ?_⟩
        rintro e W3 (⟨rfl, hJ3, hk3⟩ | ⟨rfl, hJx3⟩)
        · have hc3 : W3.cell? ⟨Bn, 0, none⟩ = some (.int .i64 33) := hk3.cell hn hnS (show wr.drew.cell? _ = _ from hc2)
          have hnx3 : KpX n₀ S W W3 := hnx.trans hk3
          clear hR hy hd1
          gi_wp2
          go_roundw
          case rel => exact ⟨k + 1, by omega, by congr 1; omega, by rw [range_snoc]; exact hJ3, hnx3⟩
          case measure => simp [intOf]; omega
        · gi_wp2
          refine bodyPost_ret (results_none rfl _ _ _) rfl ?_
          exact ⟨⟨_, rfl⟩, .inr ⟨_, ⟨k + 1, by omega, (range_snoc _).symm⟩, hJx3⟩⟩
    · obtain rfl : k = N := by omega
      rw [hL]
      have h1 : ¬ ((L : Int) < (L : Int)) := by omega
      gi_wp2
      go_end0
      exact ⟨⟨_, rfl⟩, .inl hJs⟩
end Go.Proofs.Ytcmfkdfegfablaa
