
import Derived.Test.YtcmfkdfegfablaaLe
import Derived.Test.YtcmfkdfegfablaaG3
import Derived.Test.YtcmfkdfegfablaaRefGood
import Derived.Test.YtcmfkdfegfablaaZeros
import Derived.Test.YtcmfkdfegfablaaG1

/- What packet.Encode calls: four, good, Grow, Concat. -/
namespace Go.Proofs.Ytcmfkdfegfablaa
open Go.RowKit
set_option linter.unusedVariables false
set_option linter.unusedSimpArgs false

def PkFourPost (w : World) (l : List UInt8) (e : Ending) (w' : World) : Prop := ∃ g, e = .returned (.slice (some ⟨g, 0, none⟩) 4 4) ∧ Bk w' g (bts l) ∧ w.heap.size ≤ g ∧ Below w.heap.size w w'
set_option maxHeartbeats 1000000 in
theorem pkFour_calls (x : UInt32) (w : World) : Calls Try.prog 67 #[vu32 x] w (PkFourPost w (le x.toNat 4)) := by
  obtain ⟨X, hX⟩ : ∃ X, x.toNat = X := ⟨_, rfl⟩
  have hlt : X < 4294967296 := by rw [← hX]; exact x.toNat_lt
  have HB := Lib.hid (bts_le4 X hlt)
  rw [show vu32 x = .int .u32 (X : Nat) by rw [← hX], hX]
  clear hX
  go_enter Try.func67, Try.ntmps67
  go_wp2
  go_ret
  exact ⟨w.heap.size, rfl, by rw [HB.out]; exact Bk.new w _ _, Nat.le_refl _, (Below.refl _ _).alloc (Nat.le_refl _) _⟩
/-! ### good -/
def pktC (k : Int) (e q : UInt32) (A : Option Addr) (n c : Nat) : List Value := [.int .i64 k, vu32 e, vu32 q, .slice A n c]
def goodP (k : Int) (ps : List PutV) : Bool := if k = 1 ∨ k = 2 then goodB ps else if k = 3 ∨ k = 4 then decide (ps.length = 0) else false
theorem goodP_put {k : Int} {ps : List PutV} (h : k = 1 ∨ k = 2) : goodP k ps = goodB ps := if_pos h
theorem goodP_ack {k : Int} {ps : List PutV} (h : ¬ (k = 1 ∨ k = 2)) (h2 : k = 3 ∨ k = 4) : goodP k ps = decide (ps.length = 0) := by rw [goodP, if_neg h, if_pos h2]
theorem goodP_no {k : Int} {ps : List PutV} (h : ¬ (k = 1 ∨ k = 2)) (h2 : ¬ (k = 3 ∨ k = 4)) : goodP k ps = false := by rw [goodP, if_neg h, if_neg h2]
set_option maxRecDepth 20000 in
set_option maxHeartbeats 2000000 in
theorem packGood_calls (k : Int) (e q : UInt32) (ps : List PutV) (A : Option Addr) (n c : Nat) (w : World) (hl : ps.length = n) (hm : n ≤ 9223372036854775807) (hr : Rd w A (ps.flatMap putC)) (ho : PutsOk ps) :
    Calls Try.prog 65 #[.agg (pktC k e q A n c).toArray] w fun e w' => e = .returned (.bool (goodP k ps)) ∧ Below w.heap.size w w' := by
  subst hl
  have HR := Lib.hid hr
  have HO := Lib.hid ho
  clear hr ho
  obtain ⟨bx, hbx⟩ : ∃ bx, pktC k e q A ps.length c = bx := ⟨_, rfl⟩
  have D0 : Hid (bx[0]? = some (.int .i64 k)) := by rw [← hbx]; exact (rfl : _ = _)
  have D3 : Hid (bx[3]? = some (.slice A ps.length c)) := by rw [← hbx]; exact (rfl : _ = _)
  rw [hbx]
  clear hbx
  have d0 := (Bk.new w bx 67).cell D0.out
  have d3 := (Bk.new w bx 67).cell D3.out
  by_cases h12 : k = 1 ∨ k = 2
  · have HG := Lib.hid (goodP_put (ps := ps) h12)
    rcases h12 with rfl | rfl
    all_goals
      go_enter Try.func65, Try.ntmps65
      go_wp2_with fail
      refine calls_at fun w1 hw1 => ?_
      have E1 : Hid (Below w.heap.size w w1) := by rw [← hw1]; exact (Below.refl _ _).alloc (Nat.le_refl _) _
      clear hw1 d0 d3
      refine (good_calls ps A ps.length c w1 rfl (HR.out.below E1.out) HO.out).mono ?_
      rintro en w2 ⟨rfl, hb⟩
      have E2 : Hid (Below w.heap.size w w2) := E1.out.trans (hb.mono E1.out.size)
      clear hb
      rw [← HG.out]
      go_wp2_with fail
      (try simp only [Exit.inBlock, Exit.then])
      go_ret
      exact ⟨rfl, E2.out⟩
  · have n1 : (k == 1) = false := by rw [beq_eq_false_iff_ne]; exact fun h => h12 (.inl h)
    have n2 : (k == 2) = false := by rw [beq_eq_false_iff_ne]; exact fun h => h12 (.inr h)
    by_cases h34 : k = 3 ∨ k = 4
    · have HG := Lib.hid (goodP_ack (ps := ps) h12 h34)
      clear h12
      have hz : (((ps.length : Nat) : Int) == 0) = decide (ps.length = 0) := by rw [Bool.eq_iff_iff, beq_iff_eq, decide_eq_true_iff]; omega
      have HZ := Lib.hid hz
      clear hz
      rcases h34 with rfl | rfl
      all_goals
        go_enter Try.func65, Try.ntmps65
        go_wp2_with fail
        (try simp only [Exit.inBlock, Exit.then])
        go_ret
        exact ⟨by rw [HG.out, ← HZ.out]; rfl, (Below.refl _ _).alloc (Nat.le_refl _) _⟩
    · have HG := Lib.hid (goodP_no (ps := ps) h12 h34)
      have n3 : (k == 3) = false := by rw [beq_eq_false_iff_ne]; exact fun h => h34 (.inl h)
      have n4 : (k == 4) = false := by rw [beq_eq_false_iff_ne]; exact fun h => h34 (.inr h)
      clear h12 h34
      go_enter Try.func65, Try.ntmps65
      go_wp2_with fail
      (try simp only [Exit.inBlock, Exit.then])
      go_ret
      exact ⟨by rw [HG.out]; rfl, (Below.refl _ _).alloc (Nat.le_refl _) _⟩
set_option maxRecDepth 20000 in
set_option maxHeartbeats 2000000 in
theorem refPackGood_calls (k : Int) (e q : UInt32) (ps : List PutV) (A : Option Addr) (n c : Nat) (w : World) (hl : ps.length = n) (hm : n ≤ 9223372036854775807) (hr : Rd w A (ps.flatMap putC)) (ho : PutsOk ps) :
    Calls Try.prog 57 #[.agg (pktC k e q A n c).toArray] w fun e w' => e = .returned (.bool (goodP k ps)) ∧ Below w.heap.size w w' := by
  subst hl
  have HR := Lib.hid hr
  have HO := Lib.hid ho
  clear hr ho
  obtain ⟨bx, hbx⟩ : ∃ bx, pktC k e q A ps.length c = bx := ⟨_, rfl⟩
  have D0 : Hid (bx[0]? = some (.int .i64 k)) := by rw [← hbx]; exact (rfl : _ = _)
  have D3 : Hid (bx[3]? = some (.slice A ps.length c)) := by rw [← hbx]; exact (rfl : _ = _)
  rw [hbx]
  clear hbx
  have d0 := (Bk.new w bx 67).cell D0.out
  have d3 := (Bk.new w bx 67).cell D3.out
  by_cases h12 : k = 1 ∨ k = 2
  · have HG := Lib.hid (goodP_put (ps := ps) h12)
    rcases h12 with rfl | rfl
    all_goals
      go_enter Try.func57, Try.ntmps57
      go_wp2_with fail
      refine calls_at fun w1 hw1 => ?_
      have E1 : Hid (Below w.heap.size w w1) := by rw [← hw1]; exact (Below.refl _ _).alloc (Nat.le_refl _) _
      clear hw1 d0 d3
      refine (refGood_calls ps A ps.length c w1 rfl hm (HR.out.below E1.out) HO.out).mono ?_
      rintro en w2 ⟨rfl, hb⟩
      have E2 : Hid (Below w.heap.size w w2) := E1.out.trans (hb.mono E1.out.size)
      clear hb
      rw [← HG.out]
      go_wp2_with fail
      (try simp only [Exit.inBlock, Exit.then])
      go_ret
      exact ⟨rfl, E2.out⟩
  · have n1 : (k == 1) = false := by rw [beq_eq_false_iff_ne]; exact fun h => h12 (.inl h)
    have n2 : (k == 2) = false := by rw [beq_eq_false_iff_ne]; exact fun h => h12 (.inr h)
    by_cases h34 : k = 3 ∨ k = 4
    · have HG := Lib.hid (goodP_ack (ps := ps) h12 h34)
      clear h12
      have hz : (((ps.length : Nat) : Int) == 0) = decide (ps.length = 0) := by rw [Bool.eq_iff_iff, beq_iff_eq, decide_eq_true_iff]; omega
      have HZ := Lib.hid hz
      clear hz
      rcases h34 with rfl | rfl
      all_goals
        go_enter Try.func57, Try.ntmps57
        go_wp2_with fail
        (try simp only [Exit.inBlock, Exit.then])
        go_ret
        exact ⟨by rw [HG.out, ← HZ.out]; rfl, (Below.refl _ _).alloc (Nat.le_refl _) _⟩
    · have HG := Lib.hid (goodP_no (ps := ps) h12 h34)
      have n3 : (k == 3) = false := by rw [beq_eq_false_iff_ne]; exact fun h => h34 (.inl h)
      have n4 : (k == 4) = false := by rw [beq_eq_false_iff_ne]; exact fun h => h34 (.inr h)
      clear h12 h34
      go_enter Try.func57, Try.ntmps57
      go_wp2_with fail
      (try simp only [Exit.inBlock, Exit.then])
      go_ret
      exact ⟨by rw [HG.out]; rfl, (Below.refl _ _).alloc (Nat.le_refl _) _⟩
/-! ### Grow, Concat -/
theorem own_front {w : World} {B n : Nat} {e : TypeId} {size c : Nat} {A : Option Addr} {xs : List Value} (h : w.ownsRow B e size (.slice A n c) n xs) : w.ownsRow B e size (.slice A 0 c) 0 [] := by
  refine ⟨by simp, ?_⟩
  rcases h.2 with ⟨hv, hn⟩ | ⟨g, cap, cur, hv, hbg, hh, h1, h2, h3, h4⟩
  · injection hv with e1 e2 e3
    subst e1 e2 e3
    exact .inl ⟨rfl, rfl⟩
  · injection hv with e1 e2 e3
    subst e1 e3
    exact .inr ⟨g, c, cur, rfl, hbg, hh, Nat.zero_le _, h2, h3, by simp⟩
theorem info_u8g : (Try.prog.info? 5).map (fun i => (i.zero, i.size, i.bytes)) = some (some (.int .u8 0), 1, 1) := by kernel_rfl
def GrowPost (w : World) (e : Ending) (w' : World) : Prop := ∃ A c, e = .returned (.slice A 0 c) ∧ w'.ownsRow w.heap.size 5 1 (.slice A 0 c) 0 [] ∧ Below w.heap.size w w'
set_option maxRecDepth 20000 in
set_option maxHeartbeats 2000000 in
theorem grow_calls (n : Nat) (w : World) (hn : n ≤ 1000000) : Calls Try.prog 71 #[.slice none 0 0, .int .i64 n] w (GrowPost w) := by
  by_cases h0 : n = 0
  · subst h0
    go_enter Try.func71, Try.ntmps71
    go_wp2_with fail
    (try simp only [Exit.inBlock, Exit.then])
    go_ret
    exact ⟨none, 0, rfl, ⟨rfl, .inl ⟨rfl, rfl⟩⟩, Below.refl _ _⟩
  · have hpos : (0 : Int) < (n : Int) := by omega
    have hng : ¬ ((n : Int) < 0) := by omega
    go_enter Try.func71, Try.ntmps71
    go_wp2_with (at_builtin; refine wpList_append_zr rfl (.tmp 20) (.tmp 21) 56 3 rfl w.heap.size 5 (.int .u8 0) 1 1 Try.underlying56 Try.underlying3 info_u8g rfl (by decide) (by decide) (.slice none 0 0) 0 [] rfl ⟨rfl, .inl ⟨rfl, rfl⟩⟩ .i64 n rfl (bts (List.replicate n 0)) (zeroCells_u8 n) (one_bts _) (by omega) (Nat.le_refl _) ?_)
    intro v1 w1 hown hg hat
    obtain ⟨A1, c1, rfl, _, hc1, hm1⟩ := own_rd hown
    have hown2 : w1.ownsRow w.heap.size 5 1 (.slice A1 n c1) n (bts (List.replicate n 0)) := by simpa using hown
    have O1 := Lib.hid (own_front hown2)
    have B1 : Hid (Below w.heap.size w w1) := below_grown hg (Nat.le_refl _) (by intro k hk; simp [Value.ownBlock] at hk)
    have hc0 : (0 : Int) ≤ (c1 : Int) := by omega
    clear hown hown2 hg hat
    go_wp2_with fail
    (try simp only [Exit.inBlock, Exit.then])
    go_ret
    exact ⟨A1, c1, rfl, O1.out, B1.out⟩
def sumL (ps : List Pt) : Nat := (ptl ps).length
def CatRel (w : World) (ps : List Pt) (v3 v11 : Value) (wr : World) : Prop := ∃ k : Nat, k ≤ ps.length ∧ v11 = .int .i64 k ∧ v3 = .int .i64 ((ptl (ps.take k)).length : Nat) ∧ wr = w
def CatRel2 (w : World) (ps : List Pt) (v6 v27 : Value) (wr : World) : Prop := ∃ k : Nat, k ≤ ps.length ∧ v27 = .int .i64 k ∧ wr.ownsRow w.heap.size 5 1 v6 (ptl (ps.take k)).length (bts (ptl (ps.take k))) ∧ Below w.heap.size w wr
theorem ptl_succ {ps : List Pt} {k : Nat} (h : k < ps.length) : ptl (ps.take (k + 1)) = ptl (ps.take k) ++ ps[k].l := by
  rw [List.take_succ_eq_append_getElem h, ptl, ptl, List.flatMap_append, List.flatMap_cons, List.flatMap_nil, List.append_nil]
theorem ptl_le {ps : List Pt} : ∀ {k : Nat}, (ptl (ps.take k)).length ≤ (ptl ps).length := by
  intro k
  have : ptl ps = ptl (ps.take k) ++ ptl (ps.drop k) := by rw [ptl, ptl, ptl, ← List.flatMap_append, List.take_append_drop]
  rw [this, List.length_append]
  omega
def CatPost (w : World) (l : List UInt8) (e : Ending) (w' : World) : Prop := ∃ A c, e = .returned (.slice A l.length c) ∧ w'.ownsRow w.heap.size 5 1 (.slice A l.length c) l.length (bts l) ∧ Below w.heap.size w w'
set_option maxRecDepth 100000 in
set_option maxHeartbeats 4000000 in
theorem concat_calls (ps : List Pt) (A : Option Addr) (n cap : Nat) (w : World) (hn : ps.length = n) (hm : n ≤ 1000) (hr : Rd w A (ps.map ptv)) (hp : Pts w ps) (hs : (ptl ps).length ≤ 1000000) :
    Calls Try.prog 66 #[.slice A n cap] w (CatPost w (ptl ps)) := by
  subst hn
  have HR := Lib.hid hr
  have HP := Lib.hid hp
  have HS := Lib.hid hs
  clear hr hp
  go_enter Try.func66, Try.ntmps66
  go_wp2_with fail
  go_loopw [3, 11] (fun v3 v11 wr => CatRel w ps v3 v11 wr) (fun _ v11 _ => ps.length - (intOf v11).toNat)
  case atStart => exact ⟨0, Nat.zero_le _, rfl, rfl, rfl⟩
  case round =>
    obtain ⟨k, hk, rfl, rfl, rfl⟩ := hrel
    by_cases hlt : k < ps.length
    · have hki : (k : Int) < (ps.length : Int) := by omega
      obtain ⟨ad, hA, h0⟩ := HR.out k (ptv ps[k]) (by rw [List.getElem?_map, List.getElem?_eq_getElem hlt]; rfl)
      subst hA
      have HRW := Lib.hid h0
      have RP0 := Lib.hid (HP.out _ (List.getElem_mem hlt))
      obtain ⟨p, hp⟩ : ∃ p, ps[k] = p := ⟨_, rfl⟩
      have hpk := Lib.hid hp
      rw [hp] at HRW RP0
      clear hp h0
      have c0 : wr.cell? (ad.add k) = some (.slice p.A p.l.length p.c) := HRW.out
      have HNX : Hid ((ptl (ps.take (k + 1))).length = (ptl (ps.take k)).length + p.l.length) := by show _ = _; rw [ptl_succ hlt, List.length_append, hpk.out]
      have hle1 : (ptl (ps.take (k + 1))).length ≤ 1000000 := Nat.le_trans ptl_le HS.out
      obtain ⟨z, hz⟩ : ∃ z, (ptl (ps.take k)).length = z := ⟨_, rfl⟩
      have HZ := Lib.hid hz
      obtain ⟨m, hm2⟩ : ∃ m, p.l.length = m := ⟨_, rfl⟩
      rw [hz, hm2] at HNX
      rw [hm2] at c0
      rw [hz]
      have hzm : z + m ≤ 1000000 := by have := HNX.out; omega
      have hnn : ¬ ((z : Int) + (m : Int) < 0) := by omega
      clear hz hm2 hle1
      go_wp2_with fail
      go_roundw
      case rel => exact ⟨k + 1, by omega, by go_num, by rw [HNX.out]; go_num, rfl⟩
      case measure => simp [intOf]; omega
    · have hke : k = ps.length := by omega
      subst hke
      have hki : ¬ (((ps.length : Nat) : Int) < (ps.length : Int)) := by omega
      rw [List.take_length]
      obtain ⟨w0, hw0⟩ : ∃ w0, w0 = wr := ⟨_, rfl⟩
      subst hw0
      go_wp2_with fail
      refine (grow_calls (ptl ps).length w0 HS.out).mono ?_
      rintro en w1 ⟨A1, c1, rfl, ho, hb⟩
      have H2 : Hid (CatRel2 w0 ps (.slice A1 0 c1) (.int .i64 0) w1) := ⟨0, Nat.zero_le _, rfl, ho, hb⟩
      clear ho hb
      go_wp2_with fail
      go_loopw [6, 27] (fun v6 v27 wr => CatRel2 w0 ps v6 v27 wr) (fun _ v27 _ => ps.length - (intOf v27).toNat)
      case atStart => exact H2.out
      case round =>
        obtain ⟨k, hk, rfl, ho, hb⟩ := hrel
        have OR := Lib.hid ho
        have BR := Lib.hid hb
        clear ho hb H2
        by_cases hlt : k < ps.length
        · have hki2 : (k : Int) < (ps.length : Int) := by omega
          obtain ⟨ad, hA, h0⟩ := HR.out k (ptv ps[k]) (by rw [List.getElem?_map, List.getElem?_eq_getElem hlt]; rfl)
          subst hA
          have HRW := Lib.hid h0
          have RP0 := Lib.hid (HP.out _ (List.getElem_mem hlt))
          obtain ⟨p, hp⟩ : ∃ p, ps[k] = p := ⟨_, rfl⟩
          have hpk := Lib.hid hp
          rw [hp] at HRW RP0
          clear hp h0
          have c0 : wr.cell? (ad.add k) = some (.slice p.A p.l.length p.c) := by
            obtain ⟨ad2, hA2, h2⟩ := (HR.out.below BR.out) k (ptv p) (by rw [List.getElem?_map, List.getElem?_eq_getElem hlt, hpk.out]; rfl)
            injection hA2 with hA2
            subst hA2
            exact h2
          have RP := Lib.hid (RP0.out.below BR.out).1
          have HNX : Hid (ptl (ps.take (k + 1)) = ptl (ps.take k) ++ p.l) := by show _ = _; rw [ptl_succ hlt, hpk.out]
          have hle1 : Hid ((ptl (ps.take k)).length + p.l.length ≤ 1000000) := by show _ ≤ _; rw [← List.length_append, ← HNX.out]; exact Nat.le_trans ptl_le HS.out
          obtain ⟨A7, c7, rfl, _, _, _⟩ := own_rd OR.out
          obtain ⟨lk, hlk⟩ : ∃ lk, ptl (ps.take k) = lk := ⟨_, rfl⟩
          rw [hlk] at OR HNX hle1 ⊢
          clear hlk
          obtain ⟨z, hz⟩ : ∃ z, lk.length = z := ⟨_, rfl⟩
          have HZ := Lib.hid hz
          rw [hz] at OR hle1 ⊢
          clear hz
          go_wp2_with (at_builtin; refine wpList_append_rd rfl (.tmp 31) (.tmp 32) 56 rfl w0.heap.size 5 (.int .u8 0) 1 1 Try.underlying56 info_u8g rfl (by decide) (by decide) (.slice A7 z c7) z (bts lk) rfl OR.out p.A p.l.length p.c (bts p.l) rfl (by rw [bts_length, Nat.mul_one]) RP.out (one_bts _) (by have := hle1.out; omega) BR.out.size ?_)
          intro v1 w9 hown hg hat
          have O9 : Hid (w9.ownsRow w0.heap.size 5 1 v1 (ptl (ps.take (k + 1))).length (bts (ptl (ps.take (k + 1))))) := by
            show World.ownsRow _ _ _ _ _ _ _
            rw [HNX.out, bts_append, List.length_append, HZ.out]
            exact hown
          have B9 : Hid (Below w0.heap.size w0 w9) := BR.out.trans (below_grown hg BR.out.size (fun j hj => (OR.out.lt _ hj).1))
          clear hown hg hat c0
          go_wp2_with fail
          go_roundw
          case rel => exact ⟨k + 1, by omega, by go_num, O9.out, B9.out⟩
          case measure => simp [intOf]; omega
        · have hke : k = ps.length := by omega
          subst hke
          have hki2 : ¬ (((ps.length : Nat) : Int) < (ps.length : Int)) := by omega
          obtain ⟨A7, c7, rfl, _, _, _⟩ := own_rd OR.out
          have O7 := OR.out
          rw [List.take_length] at O7 ⊢
          have OX := Lib.hid O7
          clear O7
          go_wp2_with fail
          (try simp only [Exit.inBlock, Exit.then])
          go_ret
          exact ⟨A7, c7, rfl, OX.out, BR.out⟩
end Go.Proofs.Ytcmfkdfegfablaa
