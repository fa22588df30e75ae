/- The walk of CrcChecks: Fair, Copy, and the statement. -/
import Derived.Test.YtnjaldafejbdgaaWakes4
import Derived.Test.YtnjaldafejbdgaaOpen
namespace Go.Proofs.Ytnjaldafejbdgaa
open Go.RowKit
set_option linter.unusedVariables false
set_option linter.unusedSimpArgs false

theorem info_u8c : (Try.prog.info? 5).map (fun i => (i.zero, i.size, i.bytes)) = some (some (.int .u8 0), 1, 1) := by kernel_rfl
theorem info_bytes : (Try.prog.info? 26).map (fun i => (i.zero, i.size, i.bytes)) = some (some (.slice none 0 0), 1, 24) := by kernel_rfl
def sumMin (ps : List Pt) : Nat := (ps.map fun p => min p.l.length 3001).sum
theorem sumMin_take (ps : List Pt) (k : Nat) (h : k < ps.length) : sumMin (ps.take (k+1)) = sumMin (ps.take k) + min ps[k].l.length 3001 := by
  rw [sumMin, sumMin, List.take_succ_eq_append_getElem h, List.map_append, List.sum_append]; simp
theorem sumMin_le (ps : List Pt) (k : Nat) : sumMin (ps.take k) ≤ sumMin ps := by
  conv => rhs; rw [← List.take_append_drop k ps]
  rw [sumMin, sumMin, List.map_append, List.sum_append]
  omega
def fairB (ps : List Pt) : Bool := decide (sumMin ps ≤ 3000 ∧ ps.length ≤ 60)
theorem fair_len {ps : List Pt} (h : fairB ps = true) : ps.length ≤ 60 ∧ ∀ p, p ∈ ps → p.l.length ≤ 3000 := by
  have h0 := of_decide_eq_true h
  refine ⟨h0.2, fun p hp => ?_⟩
  have h1 := h0.1
  clear h0 h
  induction ps with
  | nil => cases hp
  | cons q ps ih =>
    simp only [sumMin, List.map_cons, List.sum_cons] at h1 ih
    rcases List.mem_cons.1 hp with rfl | hp
    · omega
    · exact ih hp (by omega)
theorem fair_no {ps : List Pt} (k : Nat) (h : 3000 < sumMin (ps.take k)) : fairB ps = false := by
  have := sumMin_le ps k
  exact decide_eq_false (by omega)
set_option maxHeartbeats 1000000 in
theorem fair_calls (ps : List Pt) (A : Option Addr) (n cap : Nat) (w : World) (hn : ps.length = n) (hm : n ≤ 9223372036854775807) (hr : Rd w A (ps.map ptv)) (hp : Pts w ps) :
    Calls Try.prog 11 #[.slice A n cap] w fun e w' => e = .returned (.bool (fairB ps)) ∧ w = w' := by
  subst hn
  have HR := Lib.hid hr
  have HP := Lib.hid hp
  clear hr hp
  go_enter Try.func11, Try.ntmps11
  go_wp2
  go_loop [3, 4] (fun v3 v4 => ∃ k : Nat, k ≤ ps.length ∧ v4 = .int .i64 k ∧ v3 = .int .i64 (sumMin (ps.take k) : Nat) ∧ sumMin (ps.take k) ≤ 3000) (fun _ v4 => ps.length - (intOf v4).toNat)
  case atStart => exact ⟨0, by omega, rfl, rfl, by simp [sumMin]⟩
  case round =>
    obtain ⟨k, hk, rfl, rfl, hs⟩ := hrel
    by_cases hlt : k < ps.length
    · obtain ⟨ad, rfl, hc⟩ := HR.out.at_ k (by simpa using hlt)
      rw [List.getElem_map] at hc
      have hpk := HP.out _ (List.getElem_mem hlt)
      have hb := sumMin_take ps k hlt
      have hno := fair_no (ps := ps) (k + 1)
      rw [hb] at hno
      generalize hd : ps[k] = p at hc hb hpk hno
      obtain ⟨pA, pc, l⟩ := p
      simp only [ptv] at hc
      simp only at hb hno
      have hl0 : l.length ≤ 9223372036854775807 := Nat.le_trans hpk.2.1 hpk.2.2
      generalize sumMin (ps.take k) = s at hs hb hno
      have HB := Lib.hid hb
      have HN := Lib.hid hno
      clear hb hno hd hpk
      by_cases h1 : 3001 < l.length
      · have h1i : (3001 : Int) < (l.length : Int) := by omega
        have h2i : (3000 : Int) < (s : Int) + 3001 := by omega
        go_wp2
        go_ret
        exact ⟨by rw [HN.out (by omega)]; rfl, rfl⟩
      · have h1i : ¬ ((3001 : Int) < (l.length : Int)) := by omega
        by_cases h2 : 3000 < s + l.length
        · have h2i : (3000 : Int) < (s : Int) + (l.length : Int) := by omega
          go_wp2
          go_ret
          exact ⟨by rw [HN.out (by omega)]; rfl, rfl⟩
        · have h2i : ¬ ((3000 : Int) < (s : Int) + (l.length : Int)) := by omega
          go_wp2
          go_round
          case rel =>
            have := HB.out
            exact ⟨k + 1, by omega, by go_num, by rw [this, Nat.min_eq_left (by omega)]; go_num, by omega⟩
          case measure => simp [intOf]; omega
    · have hkn : k = ps.length := by omega
      subst hkn
      rw [List.take_length] at hs
      go_wp2
      go_ret
      refine ⟨?_, rfl⟩
      show Ending.returned (.bool _) = .returned (.bool _)
      congr 2
      unfold fairB
      rw [decide_eq_decide]
      omega

/-- Rows of the call's own, one behind the other. -/
def OwnPts (w : World) (base : Nat) (qs : List Pt) : Prop := ∀ q, q ∈ qs → w.ownsRow base 5 1 (ptv q) q.l.length (bts q.l)
theorem OwnPts.pts {w : World} {base : Nat} {qs : List Pt} (h : OwnPts w base qs) : Pts w qs := by
  intro q hq
  obtain ⟨A, c, he, hr, h1, h2⟩ := own_rd (h q hq)
  obtain ⟨qA, qc, ql⟩ := q
  simp only [ptv] at he
  obtain ⟨rfl, rfl⟩ : qA = A ∧ qc = c := by injection he with a b c; exact ⟨a, c⟩
  exact ⟨hr, h1, h2⟩
theorem own_ne {w : World} {b b' : Nat} {e e' : TypeId} {s s' n n' : Nat} {v v' : Value} {xs xs' : List Value} (h : w.ownsRow b e s v n xs) (h' : w.ownsRow b' e' s' v' n' xs') (hne : e ≠ e') : v.ownBlock = none ∨ v.ownBlock ≠ v'.ownBlock := by
  rcases h.2 with ⟨rfl, _⟩ | ⟨g, cap, cur, rfl, _, hh, _⟩
  · exact .inl rfl
  · refine .inr fun hk => ?_
    rcases h'.2 with ⟨rfl, _⟩ | ⟨g', cap', cur', rfl, _, hh', _⟩
    · simp [Value.ownBlock] at hk
    · have : g = g' := by simpa [Value.ownBlock] using hk
      subst this
      rw [hh] at hh'
      injection hh' with hh'
      injection hh' with _ ht
      exact hne ht
def CopyRel (w : World) (ps : List Pt) (v3 v4 : Value) (wr : World) : Prop :=
  ∃ (k : Nat) (D : Option Addr) (cd : Nat) (qs : List Pt), k ≤ ps.length ∧ v4 = .int .i64 k ∧ v3 = .slice D k cd ∧ qs.length = k ∧ qs.map (·.l) = (ps.take k).map (·.l) ∧
    wr.ownsRow w.heap.size 26 1 v3 k (qs.map ptv) ∧ OwnPts wr w.heap.size qs ∧ Below w.heap.size w wr
def CopyPost (w : World) (ps : List Pt) (e : Ending) (w' : World) : Prop :=
  ∃ (D : Option Addr) (cd : Nat) (qs : List Pt), e = .returned (.slice D ps.length cd) ∧ qs.length = ps.length ∧ qs.map (·.l) = ps.map (·.l) ∧ Rd w' D (qs.map ptv) ∧ Pts w' qs ∧ Below w.heap.size w w'
theorem one_ptv (ps : List Pt) : ∀ u ∈ ps.map ptv, u.oneCell' = true := by
  intro u hu
  obtain ⟨p, _, rfl⟩ := List.mem_map.1 hu
  rfl
set_option maxHeartbeats 2000000 in
theorem copy_calls (ps : List Pt) (A : Option Addr) (n cap : Nat) (w : World) (hn : ps.length = n) (hm : n ≤ 60) (hr : Rd w A (ps.map ptv)) (hp : Pts w ps) (hs : ∀ p, p ∈ ps → p.l.length ≤ 3000) :
    Calls Try.prog 14 #[.slice A n cap] w (CopyPost w ps) := by
  subst hn
  have HR := Lib.hid hr
  have HP := Lib.hid hp
  have HS := Lib.hid hs
  clear hr hp hs
  go_enter Try.func14, Try.ntmps14
  go_wp2
  go_loopw [3, 4] (fun v3 v4 wr => CopyRel w ps v3 v4 wr) (fun _ v4 _ => ps.length - (intOf v4).toNat)
  case atStart => exact ⟨0, none, 0, [], by omega, rfl, rfl, rfl, by simp, ⟨by simp, .inl ⟨rfl, rfl⟩⟩, (fun q hq => by cases hq), Below.refl _ _⟩
  case round =>
    obtain ⟨k, D, cd, qs, hk, rfl, rfl, hql, hqm, hown, hop, hbel⟩ := hrel
    have HO := Lib.hid hown
    have HQ := Lib.hid hop
    have HB := Lib.hid hbel
    have HQL := Lib.hid hql
    have HQM := Lib.hid hqm
    clear hown hop hbel hql hqm
    by_cases hlt : k < ps.length
    · obtain ⟨ad, rfl, hc0⟩ := HR.out.at_ k (by simpa using hlt)
      have hc := (HB.out.cell (World.block_lt_of_cell? w _ hc0)).trans hc0
      rw [List.getElem_map] at hc
      have hpk := (HP.out _ (List.getElem_mem hlt)).below HB.out
      have hsk := HS.out _ (List.getElem_mem hlt)
      have hmk : (ps.take (k+1)).map (·.l) = (ps.take k).map (·.l) ++ [ps[k].l] := by
        rw [List.take_succ_eq_append_getElem hlt, List.map_append]; rfl
      generalize hd : ps[k] = p at hc hpk hsk hmk
      obtain ⟨pA, pc, l⟩ := p
      simp only [ptv] at hc
      simp only at hsk hmk
      have HK := Lib.hid hpk
      have HM := Lib.hid hmk
      have hca : (wr.alloc (.cells #[] 5)).cell? (ad.add k) = some (.slice pA l.length pc) := (((Below.refl _ _).alloc (Nat.le_refl _) _ : Below wr.heap.size wr (wr.alloc (.cells #[] 5))).cell (World.block_lt_of_cell? wr _ hc)).trans hc
      clear hd hpk hmk hc0 hc
      go_wp2_with (at_builtin; refine wpList_append_rd rfl _ _ 26 rfl wr.heap.size 5 (.int .u8 0) 1 1 Try.underlying26 info_u8c rfl (by decide) (by decide) (.slice (some ⟨wr.heap.size, 0, none⟩) 0 0) 0 [] rfl ?own pA l.length pc (bts l) rfl ?len ?rd (one_bts _) ?bytes ?base ?_)
      case own => exact empty_own' _ _ rfl
      case rd => exact HK.out.1.alloc _
      case bytes => omega
      intro v1 w1 hown1 hg1 hat1
      have hb1 : Below wr.heap.size wr w1 := ((Below.refl _ _).alloc (Nat.le_refl _) _).trans (below_grown hg1 (by simp) (by intro k hk; simp [Value.ownBlock] at hk; omega))
      have hown1' : w1.ownsRow w.heap.size 5 1 v1 l.length (bts l) := by
        refine ⟨by simp, ?_⟩
        have h2 := hown1.2
        rcases h2 with h2 | ⟨g, cap', cur, hv, hbg, r⟩
        · exact .inl h2
        · exact .inr ⟨g, cap', cur, hv, Nat.le_trans HB.out.size hbg, r⟩
      obtain ⟨A1, c1, rfl, _, _, _⟩ := own_rd hown1'
      have HO1 := Lib.hid hown1'
      have HB1 := Lib.hid hb1
      have HOo := Lib.hid (own_chg HO.out (Chg.of_below (S := NoS) hb1) (fun _ _ => id))
      have HQo : Hid (OwnPts w1 w.heap.size qs) := fun q hq => own_chg (HQ.out q hq) (Chg.of_below (S := NoS) hb1) (fun _ _ => id)
      have HBw := Lib.hid (HB.out.trans (hb1.mono HB.out.size))
      clear hown1 hg1 hat1 hb1 hown1'
      go_wp2_with (at_builtin; refine wpList_append_rd rfl _ _ 22 rfl w.heap.size 26 (.slice none 0 0) 1 24 Try.underlying22 info_bytes rfl (by decide) (by decide) (.slice D k cd) k (qs.map ptv) rfl ?own2 (some ⟨w1.heap.size, 0, none⟩) 1 1 [.slice A1 l.length c1] rfl ?len2 ?rd2 ?one2 ?bytes2 ?base2 ?_)
      case own2 => exact own_chg HOo.out ((Chg.refl (S := NoS) w1).alloc _) (fun _ _ => id)
      case len2 => rfl
      case rd2 => exact Rd.of_block (hal_new rfl)
      case one2 => intro u hu; simp at hu; subst hu; rfl
      case bytes2 => omega
      case base2 => have := HBw.out.size; simp; omega
      intro v2 w2 hown2 hg2 hat2
      have ha2 : Below w.heap.size w1 (w1.alloc (.cells #[.slice A1 l.length c1] 26)) := (Below.refl _ _).alloc HBw.out.size _
      have hb2 : Below w.heap.size w w2 := (HBw.out.trans ha2).trans (below_grown hg2 (by have := HBw.out.size; simp; omega) (fun j hj => (HOo.out.lt j hj).1))
      have hq2 : OwnPts w2 w.heap.size (qs ++ [⟨A1, c1, l⟩]) := by
        intro q hq
        have h1 : w1.ownsRow w.heap.size 5 1 (ptv q) q.l.length (bts q.l) := by
          rcases List.mem_append.1 hq with hq | hq
          · exact HQo.out q hq
          · obtain rfl : q = ⟨A1, c1, l⟩ := by simpa using hq
            exact HO1.out
        exact (World.ownsRow.alloc h1 _).kept hg2 (own_ne h1 HOo.out (by decide))
      have hown2' : w2.ownsRow w.heap.size 26 1 v2 (k + 1) ((qs ++ [(⟨A1, c1, l⟩ : Pt)]).map ptv) := by
        rw [List.map_append]; exact hown2
      obtain ⟨A2, c2, rfl, _, _, _⟩ := own_rd hown2'
      have HO2 := Lib.hid hown2'
      have HQ2 := Lib.hid hq2
      have HB2 := Lib.hid hb2
      clear hown2 hg2 hat2 ha2 hb2 hq2 hown2'
      go_wp2_with fail
      go_roundw
      case rel => exact ⟨k + 1, A2, c2, qs ++ [⟨A1, c1, l⟩], by omega, by go_num, rfl, by rw [List.length_append, HQL.out]; rfl, by rw [List.map_append, HQM.out, HM.out]; rfl, HO2.out, HQ2.out, HB2.out⟩
      case measure => simp [intOf]; omega
    · have hkn : k = ps.length := by omega
      subst hkn
      obtain ⟨A1, c1, hD, hr1, hc1, hm1⟩ := own_rd HO.out
      obtain ⟨rfl, rfl⟩ : D = A1 ∧ cd = c1 := by injection hD with h1 h2 h3; exact ⟨h1, h3⟩
      have RD := Lib.hid hr1
      clear hr1 hD
      go_wp2
      go_ret
      exact ⟨D, cd, qs, rfl, HQL.out, by rw [HQM.out, List.take_length], RD.out, HQ.out.pts, HB.out⟩
theorem ptl_of_map {ps qs : List Pt} (h : qs.map (·.l) = ps.map (·.l)) : ptl qs = ptl ps := by
  have e : ∀ xs : List Pt, ptl xs = (xs.map (·.l)).flatten := by intro xs; simp [ptl, List.flatMap]
  rw [e, e, h]
theorem parts_of {H : Type} {enc : TypeId × Value → H} {W : World} : ∀ (n : Nat) (vs : List Value), vs.length = n → (∀ i, i < n → TC enc Try.prog W 26 ((vs.drop i).take 1)) → ∃ ps : List Pt, ps.length = n ∧ vs = ps.map ptv ∧ Pts W ps
  | 0, vs, hl, _ => ⟨[], rfl, by simpa using hl, fun p hp => by cases hp⟩
  | n + 1, [], hl, _ => by simp at hl
  | n + 1, v :: vs, hl, h => by
    obtain ⟨A, m, c, l, h0, h1, h2, h3, h4⟩ := (h 0 (by omega)).bytes Try.underlying26 Try.underlying5 (by kernel_rfl)
    obtain ⟨ps, g1, g2, g3⟩ := parts_of n vs (by simpa using hl) (fun i hi => by have := h (i + 1) (by omega); simpa using this)
    refine ⟨⟨A, c, l⟩ :: ps, by simpa using g1, ?_, ?_⟩
    · simp at h0
      rw [h0, g2, ← h1]
      rfl
    · intro p hp
      rcases List.mem_cons.1 hp with rfl | hp
      · exact ⟨h4, by rw [h1]; exact h2, h3⟩
      · exact g3 p hp
set_option maxHeartbeats 2000000 in
theorem CrcChecks_walk (A : Option Addr) (n cap : Nat) (ps : List Pt) (c : UInt16) (w : World) (hn : ps.length = n) (hc : n ≤ cap) (hm : cap ≤ 9223372036854775807) (hr : Rd w A (ps.map ptv)) (hp : Pts w ps) :
    Calls Try.prog 3 #[.slice A n cap, vu16 c] w fun e w' => e = .returned (.bool true) ∧ Below w.heap.size w w' := by
  have HR := Lib.hid hr
  have HP := Lib.hid hp
  have HL := Lib.hid hn
  clear hr hp hn
  cases hf : fairB ps with
  | false =>
    have HF := Lib.hid hf
    clear hf
    go_enter Try.func3, Try.ntmps3
    go_wp2_with fail
    refine (fair_calls ps A n cap w HL.out (by omega) HR.out HP.out).mono ?_
    rintro e w' ⟨rfl, rfl⟩
    rw [HF.out]
    go_wp2_with (go_at_call 12; refine (wakes4_calls _).mono ?_; rintro e w' ⟨rfl, hb⟩)
    go_ret
    exact ⟨rfl, hb⟩
  | true =>
    obtain ⟨h60, hall⟩ := fair_len hf
    have hn60 : n ≤ 60 := by rw [← HL.out]; exact h60
    have HA := Lib.hid hall
    have HF := Lib.hid hf
    clear hf h60 hall
    -- the first part, or none
    obtain ⟨q, hq1, hq2, hq3⟩ : ∃ q : Pt, (0 < n → ∃ ad, A = some ad ∧ w.cell? (ad.add 0) = some (ptv q)) ∧ (n = 0 → q = ⟨some ⟨w.heap.size, 0, none⟩, 0, []⟩) ∧ (0 < n → PtOk w q ∧ q.l.length ≤ 3000) := by
      cases hps : ps with
      | nil =>
        have : n = 0 := by rw [← HL.out, hps]; rfl
        exact ⟨_, fun h => by omega, fun _ => rfl, fun h => by omega⟩
      | cons q qs =>
        have hmem : q ∈ ps := by rw [hps]; exact List.mem_cons_self
        obtain ⟨ad, h1, h2⟩ := HR.out 0 (ptv q) (by rw [hps]; rfl)
        exact ⟨q, fun _ => ⟨ad, h1, h2⟩, fun h => by rw [← HL.out, hps] at h; simp at h, fun _ => ⟨HP.out q hmem, HA.out q hmem⟩⟩
    obtain ⟨qA, qc, l⟩ := q
    have hcont : ∀ (w1 : World), Below w.heap.size w w1 → PtOk w1 ⟨qA, qc, l⟩ → l.length ≤ 3000 → True := fun _ _ _ _ => trivial
    clear hcont
    have hl3 : l.length ≤ 3000 := by
      by_cases h0 : n = 0
      · have := hq2 h0
        injection this with _ _ h3
        rw [h3]; simp
      · exact (hq3 (by omega)).2
    by_cases h0 : n = 0
    · subst h0
      obtain ⟨rfl, rfl, rfl⟩ : qA = some ⟨w.heap.size, 0, none⟩ ∧ qc = 0 ∧ l = [] := by
        have := hq2 rfl
        injection this with h1 h2 h3
        exact ⟨h1, h2, h3⟩
      clear hq1 hq2 hq3
      go_enter Try.func3, Try.ntmps3
      go_wp2_with fail
      refine (fair_calls ps A 0 cap w HL.out (by omega) HR.out HP.out).mono ?_
      rintro e w' ⟨rfl, rfl⟩
      rw [HF.out]
      go_wp2_with fail
      refine (copy_calls ps A 0 cap _ HL.out (by omega) (HR.out.alloc _) (HP.out.below ((Below.refl _ _).alloc (Nat.le_refl _) _)) HA.out).mono ?_
      rintro e w1 ⟨D, cd, qs, rfl, hq1, hq2, hq3, hq4, hq5⟩
      rw [HL.out]
      have H3 := Lib.hid hq3
      have H4 := Lib.hid hq4
      have H5 := Lib.hid hq5
      have hqe := ptl_of_map hq2
      have H2 := Lib.hid hqe
      have H1 := Lib.hid (hq1.trans HL.out)
      clear hq1 hq2 hq3 hq4 hq5 hqe
      have hbw : Below w.heap.size w w1 := ((Below.refl _ _).alloc (Nat.le_refl _) _).trans (H5.out.mono (by simp))
      have HBW := Lib.hid hbw
      clear hbw
      go_wp2_with fail
      refine (check_calls qs D 0 cd w1 H1.out (by omega) H3.out H4.out).mono ?_
      rintro e w' ⟨rfl, rfl⟩
      rw [H2.out]
      generalize hcc : crcCheck (ptl ps) = s
      have HC := Lib.hid hcc
      clear hcc
      go_wp2_with fail
      refine (refCheck_calls ps A 0 cap w1 HL.out (by omega) (HR.out.below HBW.out) (HP.out.below HBW.out)).mono ?_
      rintro e w' ⟨rfl, rfl⟩
      rw [HC.out]
      go_wp2_with (at_builtin; refine wpList_append_rd rfl _ _ 26 rfl w1.heap.size 5 (.int .u8 0) 1 1 Try.underlying26 info_u8c rfl (by decide) (by decide) (.slice (some ⟨w1.heap.size, 0, none⟩) 0 0) 0 [] rfl ?own (some ⟨w.heap.size, 0, none⟩) 0 0 [] rfl ?len ?rd ?one ?bytes ?base ?_)
      case own => exact empty_own' _ _ rfl
      case len => rfl
      case rd => exact Rd.nil _ _
      case one => intro u hu; cases hu
      case bytes => omega
      case base => simp
      intro v1 w2 hown1 hg1 hat1
      obtain ⟨A1, c1, rfl, hr1, _, hm1⟩ := own_rd hown1
      have hb1 : Below w1.heap.size w1 w2 := ((Below.refl _ _).alloc (Nat.le_refl _) _).trans (below_grown hg1 (by simp) (by intro k hk; simp [Value.ownBlock] at hk; omega))
      have HB1 := Lib.hid hb1
      have HR1 := Lib.hid hr1
      clear hown1 hg1 hat1 hb1 hr1
      go_wp2_with fail
      refine (more_calls c A1 0 c1 [] w2 rfl (by omega) (Rd.nil _ _)).mono ?_
      rintro e w' ⟨rfl, rfl⟩
      go_wp2_with fail
      refine (refMore_calls c _ 0 0 [] w2 rfl (by omega) (Rd.nil _ _)).mono ?_
      rintro e w' ⟨rfl, rfl⟩
      go_wp2_with (go_at_call 12; refine (wakes4_calls _).mono ?_; rintro e w' ⟨rfl, hb⟩)
      go_ret
      exact ⟨rfl, (HBW.out.trans (HB1.out.mono HBW.out.size)).trans (hb.mono (Nat.le_trans HBW.out.size HB1.out.size))⟩
    · have hpos : 0 < n := by omega
      have hpi : (0 : Int) < (n : Int) := by omega
      obtain ⟨ad, rfl, hcell⟩ := hq1 hpos
      obtain ⟨hok, _⟩ := hq3 hpos
      simp only [ptv] at hcell
      have hqc := hok.2
      simp only at hqc
      have HOK := Lib.hid hok
      have HCE := Lib.hid hcell
      clear hq1 hq2 hq3 hok hcell
      go_enter Try.func3, Try.ntmps3
      go_wp2_with fail
      refine (fair_calls ps _ n cap w HL.out (by omega) HR.out HP.out).mono ?_
      rintro e w' ⟨rfl, rfl⟩
      rw [HF.out]
      have hcell : (w.alloc (.cells #[] 5)).cell? ad = some (.slice qA l.length qc) := (((Below.refl _ _).alloc (Nat.le_refl _) _ : Below w.heap.size w (w.alloc (.cells #[] 5))).cell (World.block_lt_of_cell? w _ HCE.out)).trans HCE.out
      go_wp2_with fail
      clear hcell
      refine (copy_calls ps _ n cap _ HL.out (by omega) (HR.out.alloc _) (HP.out.below ((Below.refl _ _).alloc (Nat.le_refl _) _)) HA.out).mono ?_
      rintro e w1 ⟨D, cd, qs, rfl, hq1, hq2, hq3, hq4, hq5⟩
      rw [HL.out]
      have H3 := Lib.hid hq3
      have H4 := Lib.hid hq4
      have H5 := Lib.hid hq5
      have hqe := ptl_of_map hq2
      have H2 := Lib.hid hqe
      have H1 := Lib.hid (hq1.trans HL.out)
      clear hq1 hq2 hq3 hq4 hq5 hqe
      have hbw : Below w.heap.size w w1 := ((Below.refl _ _).alloc (Nat.le_refl _) _).trans (H5.out.mono (by simp))
      have HBW := Lib.hid hbw
      clear hbw
      go_wp2_with fail
      refine (check_calls qs D n cd w1 H1.out (by omega) H3.out H4.out).mono ?_
      rintro e w' ⟨rfl, rfl⟩
      rw [H2.out]
      generalize hcc : crcCheck (ptl ps) = s
      have HC := Lib.hid hcc
      clear hcc
      go_wp2_with fail
      refine (refCheck_calls ps _ n cap w1 HL.out (by omega) (HR.out.below HBW.out) (HP.out.below HBW.out)).mono ?_
      rintro e w' ⟨rfl, rfl⟩
      rw [HC.out]
      have HOK1 := Lib.hid (HOK.out.below HBW.out)
      go_wp2_with (at_builtin; refine wpList_append_rd rfl _ _ 26 rfl w1.heap.size 5 (.int .u8 0) 1 1 Try.underlying26 info_u8c rfl (by decide) (by decide) (.slice (some ⟨w1.heap.size, 0, none⟩) 0 0) 0 [] rfl ?own qA l.length qc (bts l) rfl ?len ?rd (one_bts _) ?bytes ?base ?_)
      case own => exact empty_own' _ _ rfl
      case len => simp
      case rd => exact HOK1.out.1.alloc _
      case bytes => omega
      case base => simp
      intro v1 w2 hown1 hg1 hat1
      obtain ⟨A1, c1, rfl, hr1, hlc1, hm1⟩ := own_rd hown1
      have hb1 : Below w1.heap.size w1 w2 := ((Below.refl _ _).alloc (Nat.le_refl _) _).trans (below_grown hg1 (by simp) (by intro k hk; simp [Value.ownBlock] at hk; omega))
      have HB1 := Lib.hid hb1
      have HR1 := Lib.hid hr1
      clear hown1 hg1 hat1 hb1 hr1
      go_wp2_with fail
      refine (more_calls c A1 _ c1 l w2 (by omega) (by omega) (by simpa using HR1.out)).mono ?_
      rintro e w' ⟨rfl, rfl⟩
      generalize hmm : crcMore c l = s2
      have HMM := Lib.hid hmm
      clear hmm
      go_wp2_with fail
      refine (refMore_calls c qA _ qc l w2 rfl (by omega) (HOK1.out.1.below HB1.out)).mono ?_
      rintro e w' ⟨rfl, rfl⟩
      rw [HMM.out]
      go_wp2_with (go_at_call 12; refine (wakes4_calls _).mono ?_; rintro e w' ⟨rfl, hb⟩)
      go_ret
      exact ⟨rfl, (HBW.out.trans (HB1.out.mono HBW.out.size)).trans (hb.mono (Nat.le_trans HBW.out.size HB1.out.size))⟩
end Go.Proofs.Ytnjaldafejbdgaa
