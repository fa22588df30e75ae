import Derived.Test.YtchcnkobgdbdkaaLf

/- The walk of WalGood. -/
namespace Go.Proofs.Ytchcnkobgdbdkaa
open Go.RowKit
set_option linter.unusedVariables false
set_option linter.unusedSimpArgs false

theorem goodB_reverse (ps : List PutV) : goodB ps.reverse = goodB ps := by
  have key : ∀ {us : List PutV}, goodB us = true → goodB us.reverse = true := by
    intro us h
    obtain ⟨h1, h2, h3, h4⟩ := goodB_at h
    exact decide_eq_true ⟨by rw [List.length_reverse]; exact h1, by rw [List.length_reverse]; exact h2, fun p hp => h3 p (List.mem_reverse.1 hp), by rw [List.map_reverse]; exact List.pairwise_reverse.2 (h4.imp (fun h => Ne.symm h))⟩
  rw [Bool.eq_iff_iff]
  exact ⟨fun h => by have := key h; rwa [List.reverse_reverse] at this, key⟩
theorem wpList_bs1 {P : Program} {o : Oper} {a : Act} {w : World} {Q : Exit → Act → World → Prop} {ops : Array Oper} {rest : List Oper} (hw : Region.wanted o (yielded ops a.tmps) = true) (t elem : TypeId) (x : Operand) (ho : o.op = .buildSlice t 1 #[(0, x)]) (z : Value) (n : Nat) (us : List Value) (hu : P.underlying t = some (.slice elem)) (hinfo : (P.info? elem).map (fun i => (i.zero, i.size)) = some (some z, n))
    (hz : z.cells.size = n) (hn : 0 < n) (hn2 : n ≤ 1000) (hx : (a.eval x).cells.toList = us) (hl : us.length = n)
    (h : ∀ g w', g = w.heap.size → Bk w' g us → Chg NoS w w' → wpList P ops Q rest (a.put o.dst (.slice (some ⟨g, 0, none⟩) 1 1)) w') : wpList P ops Q (o :: rest) a w :=
  wpl hw fun K hK => wp_bs1 t elem x ho z n us hu hinfo hz hn hn2 hx hl (hK _ _ (h _ _ rfl (Bk.new w us elem) ((Chg.refl w).alloc _)))
/-- The blocks that were met. -/
def metC (ps : List PutV) (k : Nat) : List Value := (List.range 12).map fun (j : Nat) => Value.bool (decide ((j : Int) ∈ (ps.take k).map (·.at_)))
theorem metC_len (ps : List PutV) (k : Nat) : (metC ps k).length = 12 := by simp [metC]
theorem metC_get (ps : List PutV) (k j : Nat) (h : j < 12) : (metC ps k)[j]? = some (.bool (decide ((j : Int) ∈ (ps.take k).map (·.at_)))) := by
  rw [metC, List.getElem?_map, List.getElem?_range h]
  rfl
theorem metC_one (ps : List PutV) (k : Nat) : ∀ u ∈ metC ps k, u.oneCell' = true := by
  intro u hu
  obtain ⟨j, _, rfl⟩ := List.mem_map.1 hu
  rfl
theorem metC_set {ps : List PutV} {k a : Nat} (hk : k < ps.length) (ha : ps[k].at_ = (a : Int)) (h12 : a < 12) : splice (metC ps k) a [.bool true] = metC ps (k + 1) := by
  apply List.ext_getElem?
  intro j
  have hs : splice (metC ps k) a [.bool true] = (metC ps k).set a (.bool true) := by
    rw [List.set_eq_take_append_cons_drop, if_pos (by rw [metC_len]; exact h12)]
    simp [splice]
  rw [hs, List.getElem?_set]
  by_cases hj : j < 12
  · rw [metC_get ps (k + 1) j hj, List.take_succ_eq_append_getElem hk, List.map_append, List.map_cons, List.map_nil, ha]
    by_cases haj : a = j
    · subst haj
      rw [if_pos rfl, if_pos (by rw [metC_len]; exact h12)]
      simp
    · rw [if_neg haj, metC_get ps k j hj]
      congr 2
      rw [decide_eq_decide, List.mem_append, List.mem_singleton]
      exact ⟨.inl, fun h => h.elim id (fun h => by omega)⟩
  · rw [List.getElem?_eq_none (by rw [metC_len]; omega), if_neg (by omega), List.getElem?_eq_none (by rw [metC_len]; omega)]
structure MetOk (ps : List PutV) (k : Nat) : Prop where
  rng : ∀ i (hi : i < ps.length), i < k → 0 ≤ ps[i].at_ ∧ ps[i].at_ < 12
  nd : ((ps.take k).map (·.at_)).Nodup
theorem MetOk.zero (ps : List PutV) : MetOk ps 0 := ⟨fun i hi h => by omega, by simp⟩
theorem MetOk.succ {ps : List PutV} {k : Nat} (h : MetOk ps k) (hk : k < ps.length) (h1 : 0 ≤ ps[k].at_ ∧ ps[k].at_ < 12) (h2 : ¬ ps[k].at_ ∈ (ps.take k).map (·.at_)) : MetOk ps (k + 1) := by
  refine ⟨fun i hi hik => ?_, ?_⟩
  · by_cases he : i = k
    · subst he
      exact h1
    · exact h.rng i hi (by omega)
  · rw [List.take_succ_eq_append_getElem hk, List.map_append, List.nodup_append]
    refine ⟨h.nd, by simp, ?_⟩
    intro a ha b hb
    obtain rfl : b = ps[k].at_ := by simpa using hb
    intro he
    subst he
    exact h2 ha
theorem MetOk.good {ps : List PutV} (h : MetOk ps ps.length) : goodB ps = (decide (1 ≤ ps.length) && decide (ps.length ≤ 5)) := by
  rw [Bool.eq_iff_iff, Bool.and_eq_true, decide_eq_true_iff, decide_eq_true_iff]
  constructor
  · intro hg
    exact ⟨(goodB_at hg).1, (goodB_at hg).2.1⟩
  · rintro ⟨h1, h2⟩
    refine decide_eq_true ⟨h1, h2, fun p hp => ?_, ?_⟩
    · obtain ⟨i, hi, rfl⟩ := List.getElem_of_mem hp
      exact h.rng i hi hi
    · have := h.nd
      rwa [List.take_length] at this
theorem good_rng {ps : List PutV} {k : Nat} (hk : k < ps.length) (h : ¬ (0 ≤ ps[k].at_ ∧ ps[k].at_ < 12)) : goodB ps = false := by
  rw [Bool.eq_false_iff]
  intro hg
  exact h ((goodB_at hg).2.2.1 _ (List.getElem_mem hk))
theorem good_met {ps : List PutV} {k : Nat} (hk : k < ps.length) (h : ps[k].at_ ∈ (ps.take k).map (·.at_)) : goodB ps = false := by
  rw [Bool.eq_false_iff]
  intro hg
  have hn := (goodB_at hg).2.2.2
  have hd : ps.map (·.at_) = (ps.take k).map (·.at_) ++ (ps.drop k).map (·.at_) := by rw [← List.map_append, List.take_append_drop]
  rw [hd, List.drop_eq_getElem_cons hk, List.map_cons, List.nodup_append] at hn
  exact hn.2.2 _ h _ List.mem_cons_self rfl
def GoodLawRel (w : World) (ps : List PutV) (g4 : Nat) (v : Value) (wr : World) : Prop := ∃ k : Nat, k ≤ ps.length ∧ v = .int .i64 k ∧ Bk wr g4 (metC ps k) ∧ MetOk ps k ∧ Below w.heap.size w wr
def BackRel (w : World) (ps : List PutV) (v7 v8 : Value) (wr : World) : Prop := ∃ k : Nat, k ≤ ps.length ∧ v8 = .int .i64 k ∧ wr.ownsRow w.heap.size 39 33 v7 k ((ps.reverse.take k).flatMap putC) ∧ Below w.heap.size w wr
set_option maxRecDepth 100000 in
set_option maxHeartbeats 8000000 in
theorem walGoodLaw_calls (w : World) (A : Option Addr) (n c : Nat) (ps : List PutV) (hl : ps.length = n) (hnc : n ≤ c) (hm : c ≤ 9223372036854775807) (hr : Rd w A (ps.flatMap putC)) (ho : PutsOk ps) : Calls Try.prog 4 #[.slice A n c] w fun e w' => e = .returned (.bool true) ∧ Below w.heap.size w w' := by
  subst hl
  have HR := Lib.hid hr
  have HO := Lib.hid ho
  clear hr ho
  by_cases h20 : 20 < ps.length
  · have h20i : (20 : Int) < (ps.length : Int) := by omega
    go_enter Try.func4, Try.ntmps4
    go_wp2_with fail
    refine (wakes8_calls w).mono ?_
    rintro en wz ⟨rfl, hb⟩
    have EZ := Lib.hid hb
    clear hb
    go_wp2_with fail
    (try simp only [Exit.inBlock, Exit.then])
    go_ret
    exact ⟨rfl, EZ.out⟩
  have h20i : ¬ (20 : Int) < (ps.length : Int) := by omega
  have HRT : Hid (∀ v : Value, v = .bool (decide (1 ≤ ps.length) && decide (ps.length ≤ 5)) → v = .bool (decide (1 ≤ ps.length) && decide (ps.length ≤ 5))) := fun _ h => h
  obtain ⟨b1, hb1⟩ : ∃ b1, decide (1 ≤ ps.length) = b1 := ⟨_, rfl⟩
  obtain ⟨b2, hb2⟩ : ∃ b2, decide (ps.length ≤ 5) = b2 := ⟨_, rfl⟩
  have HB1 := Lib.hid hb1
  have HB2 := Lib.hid hb2
  have h1i : (decide ((1 : Int) ≤ (ps.length : Int))) = b1 := by rw [← hb1, decide_eq_decide]; omega
  have h2i : (decide ((ps.length : Int) ≤ 5)) = b2 := by rw [← hb2, decide_eq_decide]; omega
  clear hb1 hb2 HRT
  go_enter Try.func4, Try.ntmps4
  cases b1 <;> cases b2 <;> (try simp only [decide_eq_true_eq, decide_eq_false_iff_not] at h1i h2i)
  case false.false => omega
  case true.true =>
    go_wp2_with (refine wpList_al rfl 35 rfl (metC ps 0) (by kernel_rfl) ?_)
    intro g4 w1 hg hb hc hs
    have G4 : Hid (w.heap.size ≤ g4) := by show _ ≤ _; omega
    have K1 := Lib.hid hb
    have E1 : Hid (Below w.heap.size w w1) := hc.below (Nat.le_refl _) (fun _ _ => id)
    have H0 : Hid (GoodLawRel w ps g4 (.int .i64 0) w1) := ⟨0, Nat.zero_le _, rfl, K1.out, .zero ps, E1.out⟩
    clear hg hb hc hs
    go_wp2_with fail
    go_loopw [3, 5] (fun v3 v5 wr => v3 = .bool true ∧ GoodLawRel w ps g4 v5 wr) (fun _ v5 _ => ps.length - (intOf v5).toNat)
    case atStart => exact ⟨rfl, H0.out⟩
    case round =>
      obtain ⟨rfl, k, hk, rfl, hbk, hmo, hb⟩ := hrel
      have KR := Lib.hid hbk
      have MR := Lib.hid hmo
      have EB := Lib.hid hb
      clear hbk hmo hb H0
      by_cases hlt : k < ps.length
      · have hki : (k : Int) < (ps.length : Int) := by omega
        obtain ⟨ad, hA⟩ := puts_some HR.out hlt
        have hcl := put_at (by rw [← hA]; exact HR.out.below EB.out) HO.out hlt
        have HAA := Lib.hid hA
        by_cases hrng : 0 ≤ ps[k].at_ ∧ ps[k].at_ < 12
        · obtain ⟨a, ha⟩ := Int.eq_ofNat_of_zero_le hrng.1
          have h12 : a < 12 := by have := hrng.2; omega
          have h12i : (a : Int) < 12 := by omega
          have cm := KR.out.cell (metC_get ps k a h12)
          rw [ha] at hcl
          by_cases hmet : (a : Int) ∈ (ps.take k).map (·.at_)
          · have HGB : Hid (goodB ps = false) := good_met hlt (by rw [ha]; exact hmet)
            rw [decide_eq_true hmet] at cm
            rw [hA]
            clear hmet hrng ha hA
            go_wp2_with fail
            (try simp only [Exit.inBlock, Exit.then])
            rw [← HAA.out]
            have H2 : Hid (BackRel w ps (.slice none 0 0) (.int .i64 0) wr) := ⟨0, Nat.zero_le _, rfl, ⟨rfl, .inl ⟨rfl, rfl⟩⟩, EB.out⟩
            go_wp2_with fail
            go_loopw [7, 8] (fun v7 v8 wr => BackRel w ps v7 v8 wr) (fun _ v8 _ => ps.length - (intOf v8).toNat)
            case atStart => exact H2.out
            case round =>
              obtain ⟨k, hk, rfl, ho, hb⟩ := hrel
              have OR := Lib.hid ho
              have ER := Lib.hid hb
              clear ho hb H2
              by_cases hlt : k < ps.length
              · have hki : (k : Int) < (ps.length : Int) := by omega
                obtain ⟨m, hm⟩ : ∃ m, ps.length = m + 1 + k := ⟨ps.length - 1 - k, by omega⟩
                have hidx : (ps.length : Int) - 1 - (k : Int) = (m : Int) := by omega
                have hmi : (m : Int) < (ps.length : Int) := by omega
                have hml : m < ps.length := by omega
                obtain ⟨ad, hA⟩ := puts_some HR.out hml
                have HPR : Hid (Rd wr (some (ad.add (m * 33))) (putC ps[m])) := put_rd (by rw [← hA]; exact HR.out.below ER.out) HO.out hml
                have HPD := Lib.hid (HO.out _ (List.getElem_mem hml)).1
                have HRV : Hid (ps.reverse.take (k + 1) = ps.reverse.take k ++ [ps[m]]) := by
                  show _ = _
                  rw [List.take_succ_eq_append_getElem (by rw [List.length_reverse]; exact hlt), List.getElem_reverse]
                  congr 3
                  omega
                obtain ⟨p, hp⟩ : ∃ p, ps[m] = p := ⟨_, rfl⟩
                rw [hp] at HPR HPD HRV
                have HPL := Lib.hid (putC_len HPD.out)
                have HAA := Lib.hid hA
                have HN20 : Hid (k < 20) := by show _ < _; omega
                clear hp hm
                obtain ⟨A7, c7, rfl, _, _, _⟩ := own_rd OR.out
                rw [hA]
                clear hA
                go_wp2_with (first
                  | (refine wpList_ldr2 rfl 39 (.tmp 58) rfl (ad.add (m * 33)) 33 (putC p) rfl HPR.out (by kernel_rfl) (by kernel_rfl) HPL.out ?_)
                  | (refine wpList_bs1 rfl 23 39 (.tmp 59) rfl zPut 33 (putC p) Try.underlying23 infoPut rfl (by decide) (by decide) rfl HPL.out ?_))
                intro g8 w8 hg hbk hc
                have K8 := Lib.hid hbk
                have E8 : Hid (Below w.heap.size w w8) := ER.out.trans (hc.below ER.out.size (fun _ _ => id))
                have O8 := Lib.hid (own_chg OR.out hc (fun _ _ => id))
                clear hg hbk hc
                go_wp2_with (at_builtin; refine wpList_append_rd rfl (.tmp 51) (.tmp 60) 23 rfl w.heap.size 39 zPut 33 40 Try.underlying23 infoPut3 rfl (by decide) (by decide) (.slice A7 k c7) k ((ps.reverse.take k).flatMap putC) rfl O8.out (some ⟨g8, 0, none⟩) 1 1 (putC p) rfl HPL.out K8.out.rd (one_put _) (by have := HN20.out; omega) E8.out.size ?_)
                intro v1 w9 hown hg hat
                have O9 : Hid (w9.ownsRow w.heap.size 39 33 v1 (k + 1) ((ps.reverse.take (k + 1)).flatMap putC)) := by
                  show World.ownsRow _ _ _ _ _ _ _
                  rw [HRV.out, flat_snoc]
                  exact hown
                have E9 : Hid (Below w.heap.size w w9) := E8.out.trans (below_grown hg E8.out.size (fun j hj => (O8.out.lt _ hj).1))
                clear hown hg hat
                go_wp2_with fail
                go_roundw
                case rel => exact ⟨k + 1, by omega, by go_num, O9.out, E9.out⟩
                case measure => simp [intOf]; omega
              · have hke : k = ps.length := by omega
                subst hke
                have hki : ¬ (((ps.length : Nat) : Int) < (ps.length : Int)) := by omega
                obtain ⟨A7, c7, rfl, rd7, _, _⟩ := own_rd OR.out
                rw [show ps.reverse.take ps.length = ps.reverse by rw [List.take_of_length_le (by rw [List.length_reverse]; exact Nat.le_refl _)]] at rd7
                have RD7 := Lib.hid rd7
                clear rd7
                go_wp2_with fail
                refine (good_calls ps A ps.length c wr rfl (HR.out.below ER.out) HO.out).mono ?_
                rintro en w8 ⟨rfl, hb⟩
                have E8 : Hid (Below w.heap.size w w8) := ER.out.trans (hb.mono ER.out.size)
                have RD8 := Lib.hid (RD7.out.below hb)
                clear hb
                rw [HGB.out]
                go_wp2_with fail
                refine (good_calls ps.reverse A7 ps.length c7 w8 (by rw [List.length_reverse]) RD8.out (fun p hp => HO.out p (List.mem_reverse.1 hp))).mono ?_
                rintro en w9 ⟨rfl, hb⟩
                have E9 : Hid (Below w.heap.size w w9) := E8.out.trans (hb.mono E8.out.size)
                clear hb
                rw [goodB_reverse, HGB.out]
                go_wp2_with fail
                refine (wakes8_calls w9).mono ?_
                rintro en wz ⟨rfl, hb⟩
                have EZ : Hid (Below w.heap.size w wz) := E9.out.trans (hb.mono E9.out.size)
                clear hb
                go_wp2_with fail
                (try simp only [Exit.inBlock, Exit.then])
                go_ret
                exact ⟨rfl, EZ.out⟩
          · have MS : Hid (MetOk ps (k + 1)) := MR.out.succ hlt hrng (by rw [ha]; exact hmet)
            have HMS := Lib.hid (metC_set hlt ha h12)
            have HML := Lib.hid (metC_len ps k)
            rw [decide_eq_false hmet] at cm
            rw [hA]
            clear hmet hrng ha hA
            go_wp2_with (refine wpList_st rfl 4 (.tmp 44) (.const (.bool true)) rfl g4 a 1 (metC ps k) [.bool true] rfl rfl KR.out (by kernel_rfl) rfl (by rw [HML.out]; omega) (by intro u hu; obtain rfl := List.mem_singleton.1 hu; rfl) ?_)
            intro w3 hbk hc
            rw [HMS.out] at hbk
            have K3 := Lib.hid hbk
            have E3 : Hid (Below w.heap.size w w3) := EB.out.trans (hc.below EB.out.size (fun j hj he => by have := G4.out; omega))
            clear hbk hc cm hcl
            go_wp2_with fail
            go_roundw
            case rel => exact ⟨rfl, k + 1, by omega, by go_num, K3.out, MS.out, E3.out⟩
            case measure => simp [intOf]; omega
        · have HGB : Hid (goodB ps = false) := good_rng hlt hrng
          by_cases hneg : ps[k].at_ < 0
          · rw [hA]
            obtain ⟨z, hz⟩ : ∃ z, ps[k].at_ = z := ⟨_, rfl⟩
            rw [hz] at hcl hneg
            clear hz hrng hA
            go_wp2_with fail
            (try simp only [Exit.inBlock, Exit.then])
            rw [← HAA.out]
            have H2 : Hid (BackRel w ps (.slice none 0 0) (.int .i64 0) wr) := ⟨0, Nat.zero_le _, rfl, ⟨rfl, .inl ⟨rfl, rfl⟩⟩, EB.out⟩
            go_wp2_with fail
            go_loopw [7, 8] (fun v7 v8 wr => BackRel w ps v7 v8 wr) (fun _ v8 _ => ps.length - (intOf v8).toNat)
            case atStart => exact H2.out
            case round =>
              obtain ⟨k, hk, rfl, ho, hb⟩ := hrel
              have OR := Lib.hid ho
              have ER := Lib.hid hb
              clear ho hb H2
              by_cases hlt : k < ps.length
              · have hki : (k : Int) < (ps.length : Int) := by omega
                obtain ⟨m, hm⟩ : ∃ m, ps.length = m + 1 + k := ⟨ps.length - 1 - k, by omega⟩
                have hidx : (ps.length : Int) - 1 - (k : Int) = (m : Int) := by omega
                have hmi : (m : Int) < (ps.length : Int) := by omega
                have hml : m < ps.length := by omega
                obtain ⟨ad, hA⟩ := puts_some HR.out hml
                have HPR : Hid (Rd wr (some (ad.add (m * 33))) (putC ps[m])) := put_rd (by rw [← hA]; exact HR.out.below ER.out) HO.out hml
                have HPD := Lib.hid (HO.out _ (List.getElem_mem hml)).1
                have HRV : Hid (ps.reverse.take (k + 1) = ps.reverse.take k ++ [ps[m]]) := by
                  show _ = _
                  rw [List.take_succ_eq_append_getElem (by rw [List.length_reverse]; exact hlt), List.getElem_reverse]
                  congr 3
                  omega
                obtain ⟨p, hp⟩ : ∃ p, ps[m] = p := ⟨_, rfl⟩
                rw [hp] at HPR HPD HRV
                have HPL := Lib.hid (putC_len HPD.out)
                have HAA := Lib.hid hA
                have HN20 : Hid (k < 20) := by show _ < _; omega
                clear hp hm
                obtain ⟨A7, c7, rfl, _, _, _⟩ := own_rd OR.out
                rw [hA]
                clear hA
                go_wp2_with (first
                  | (refine wpList_ldr2 rfl 39 (.tmp 58) rfl (ad.add (m * 33)) 33 (putC p) rfl HPR.out (by kernel_rfl) (by kernel_rfl) HPL.out ?_)
                  | (refine wpList_bs1 rfl 23 39 (.tmp 59) rfl zPut 33 (putC p) Try.underlying23 infoPut rfl (by decide) (by decide) rfl HPL.out ?_))
                intro g8 w8 hg hbk hc
                have K8 := Lib.hid hbk
                have E8 : Hid (Below w.heap.size w w8) := ER.out.trans (hc.below ER.out.size (fun _ _ => id))
                have O8 := Lib.hid (own_chg OR.out hc (fun _ _ => id))
                clear hg hbk hc
                go_wp2_with (at_builtin; refine wpList_append_rd rfl (.tmp 51) (.tmp 60) 23 rfl w.heap.size 39 zPut 33 40 Try.underlying23 infoPut3 rfl (by decide) (by decide) (.slice A7 k c7) k ((ps.reverse.take k).flatMap putC) rfl O8.out (some ⟨g8, 0, none⟩) 1 1 (putC p) rfl HPL.out K8.out.rd (one_put _) (by have := HN20.out; omega) E8.out.size ?_)
                intro v1 w9 hown hg hat
                have O9 : Hid (w9.ownsRow w.heap.size 39 33 v1 (k + 1) ((ps.reverse.take (k + 1)).flatMap putC)) := by
                  show World.ownsRow _ _ _ _ _ _ _
                  rw [HRV.out, flat_snoc]
                  exact hown
                have E9 : Hid (Below w.heap.size w w9) := E8.out.trans (below_grown hg E8.out.size (fun j hj => (O8.out.lt _ hj).1))
                clear hown hg hat
                go_wp2_with fail
                go_roundw
                case rel => exact ⟨k + 1, by omega, by go_num, O9.out, E9.out⟩
                case measure => simp [intOf]; omega
              · have hke : k = ps.length := by omega
                subst hke
                have hki : ¬ (((ps.length : Nat) : Int) < (ps.length : Int)) := by omega
                obtain ⟨A7, c7, rfl, rd7, _, _⟩ := own_rd OR.out
                rw [show ps.reverse.take ps.length = ps.reverse by rw [List.take_of_length_le (by rw [List.length_reverse]; exact Nat.le_refl _)]] at rd7
                have RD7 := Lib.hid rd7
                clear rd7
                go_wp2_with fail
                refine (good_calls ps A ps.length c wr rfl (HR.out.below ER.out) HO.out).mono ?_
                rintro en w8 ⟨rfl, hb⟩
                have E8 : Hid (Below w.heap.size w w8) := ER.out.trans (hb.mono ER.out.size)
                have RD8 := Lib.hid (RD7.out.below hb)
                clear hb
                rw [HGB.out]
                go_wp2_with fail
                refine (good_calls ps.reverse A7 ps.length c7 w8 (by rw [List.length_reverse]) RD8.out (fun p hp => HO.out p (List.mem_reverse.1 hp))).mono ?_
                rintro en w9 ⟨rfl, hb⟩
                have E9 : Hid (Below w.heap.size w w9) := E8.out.trans (hb.mono E8.out.size)
                clear hb
                rw [goodB_reverse, HGB.out]
                go_wp2_with fail
                refine (wakes8_calls w9).mono ?_
                rintro en wz ⟨rfl, hb⟩
                have EZ : Hid (Below w.heap.size w wz) := E9.out.trans (hb.mono E9.out.size)
                clear hb
                go_wp2_with fail
                (try simp only [Exit.inBlock, Exit.then])
                go_ret
                exact ⟨rfl, EZ.out⟩
          · have hge : (12 : Int) ≤ ps[k].at_ := by omega
            rw [hA]
            obtain ⟨z, hz⟩ : ∃ z, ps[k].at_ = z := ⟨_, rfl⟩
            rw [hz] at hcl hneg hge
            clear hz hrng hA
            go_wp2_with fail
            (try simp only [Exit.inBlock, Exit.then])
            rw [← HAA.out]
            have H2 : Hid (BackRel w ps (.slice none 0 0) (.int .i64 0) wr) := ⟨0, Nat.zero_le _, rfl, ⟨rfl, .inl ⟨rfl, rfl⟩⟩, EB.out⟩
            go_wp2_with fail
            go_loopw [7, 8] (fun v7 v8 wr => BackRel w ps v7 v8 wr) (fun _ v8 _ => ps.length - (intOf v8).toNat)
            case atStart => exact H2.out
            case round =>
              obtain ⟨k, hk, rfl, ho, hb⟩ := hrel
              have OR := Lib.hid ho
              have ER := Lib.hid hb
              clear ho hb H2
              by_cases hlt : k < ps.length
              · have hki : (k : Int) < (ps.length : Int) := by omega
                obtain ⟨m, hm⟩ : ∃ m, ps.length = m + 1 + k := ⟨ps.length - 1 - k, by omega⟩
                have hidx : (ps.length : Int) - 1 - (k : Int) = (m : Int) := by omega
                have hmi : (m : Int) < (ps.length : Int) := by omega
                have hml : m < ps.length := by omega
                obtain ⟨ad, hA⟩ := puts_some HR.out hml
                have HPR : Hid (Rd wr (some (ad.add (m * 33))) (putC ps[m])) := put_rd (by rw [← hA]; exact HR.out.below ER.out) HO.out hml
                have HPD := Lib.hid (HO.out _ (List.getElem_mem hml)).1
                have HRV : Hid (ps.reverse.take (k + 1) = ps.reverse.take k ++ [ps[m]]) := by
                  show _ = _
                  rw [List.take_succ_eq_append_getElem (by rw [List.length_reverse]; exact hlt), List.getElem_reverse]
                  congr 3
                  omega
                obtain ⟨p, hp⟩ : ∃ p, ps[m] = p := ⟨_, rfl⟩
                rw [hp] at HPR HPD HRV
                have HPL := Lib.hid (putC_len HPD.out)
                have HAA := Lib.hid hA
                have HN20 : Hid (k < 20) := by show _ < _; omega
                clear hp hm
                obtain ⟨A7, c7, rfl, _, _, _⟩ := own_rd OR.out
                rw [hA]
                clear hA
                go_wp2_with (first
                  | (refine wpList_ldr2 rfl 39 (.tmp 58) rfl (ad.add (m * 33)) 33 (putC p) rfl HPR.out (by kernel_rfl) (by kernel_rfl) HPL.out ?_)
                  | (refine wpList_bs1 rfl 23 39 (.tmp 59) rfl zPut 33 (putC p) Try.underlying23 infoPut rfl (by decide) (by decide) rfl HPL.out ?_))
                intro g8 w8 hg hbk hc
                have K8 := Lib.hid hbk
                have E8 : Hid (Below w.heap.size w w8) := ER.out.trans (hc.below ER.out.size (fun _ _ => id))
                have O8 := Lib.hid (own_chg OR.out hc (fun _ _ => id))
                clear hg hbk hc
                go_wp2_with (at_builtin; refine wpList_append_rd rfl (.tmp 51) (.tmp 60) 23 rfl w.heap.size 39 zPut 33 40 Try.underlying23 infoPut3 rfl (by decide) (by decide) (.slice A7 k c7) k ((ps.reverse.take k).flatMap putC) rfl O8.out (some ⟨g8, 0, none⟩) 1 1 (putC p) rfl HPL.out K8.out.rd (one_put _) (by have := HN20.out; omega) E8.out.size ?_)
                intro v1 w9 hown hg hat
                have O9 : Hid (w9.ownsRow w.heap.size 39 33 v1 (k + 1) ((ps.reverse.take (k + 1)).flatMap putC)) := by
                  show World.ownsRow _ _ _ _ _ _ _
                  rw [HRV.out, flat_snoc]
                  exact hown
                have E9 : Hid (Below w.heap.size w w9) := E8.out.trans (below_grown hg E8.out.size (fun j hj => (O8.out.lt _ hj).1))
                clear hown hg hat
                go_wp2_with fail
                go_roundw
                case rel => exact ⟨k + 1, by omega, by go_num, O9.out, E9.out⟩
                case measure => simp [intOf]; omega
              · have hke : k = ps.length := by omega
                subst hke
                have hki : ¬ (((ps.length : Nat) : Int) < (ps.length : Int)) := by omega
                obtain ⟨A7, c7, rfl, rd7, _, _⟩ := own_rd OR.out
                rw [show ps.reverse.take ps.length = ps.reverse by rw [List.take_of_length_le (by rw [List.length_reverse]; exact Nat.le_refl _)]] at rd7
                have RD7 := Lib.hid rd7
                clear rd7
                go_wp2_with fail
                refine (good_calls ps A ps.length c wr rfl (HR.out.below ER.out) HO.out).mono ?_
                rintro en w8 ⟨rfl, hb⟩
                have E8 : Hid (Below w.heap.size w w8) := ER.out.trans (hb.mono ER.out.size)
                have RD8 := Lib.hid (RD7.out.below hb)
                clear hb
                rw [HGB.out]
                go_wp2_with fail
                refine (good_calls ps.reverse A7 ps.length c7 w8 (by rw [List.length_reverse]) RD8.out (fun p hp => HO.out p (List.mem_reverse.1 hp))).mono ?_
                rintro en w9 ⟨rfl, hb⟩
                have E9 : Hid (Below w.heap.size w w9) := E8.out.trans (hb.mono E8.out.size)
                clear hb
                rw [goodB_reverse, HGB.out]
                go_wp2_with fail
                refine (wakes8_calls w9).mono ?_
                rintro en wz ⟨rfl, hb⟩
                have EZ : Hid (Below w.heap.size w wz) := E9.out.trans (hb.mono E9.out.size)
                clear hb
                go_wp2_with fail
                (try simp only [Exit.inBlock, Exit.then])
                go_ret
                exact ⟨rfl, EZ.out⟩
      · have hke : k = ps.length := by omega
        subst hke
        have hki : ¬ (((ps.length : Nat) : Int) < (ps.length : Int)) := by omega
        have HGB : Hid (goodB ps = true) := by
          show _ = _
          rw [MR.out.good, HB1.out, HB2.out]
          rfl
        go_wp2_with fail
        (try simp only [Exit.inBlock, Exit.then])
        have H2 : Hid (BackRel w ps (.slice none 0 0) (.int .i64 0) wr) := ⟨0, Nat.zero_le _, rfl, ⟨rfl, .inl ⟨rfl, rfl⟩⟩, EB.out⟩
        go_wp2_with fail
        go_loopw [7, 8] (fun v7 v8 wr => BackRel w ps v7 v8 wr) (fun _ v8 _ => ps.length - (intOf v8).toNat)
        case atStart => exact H2.out
        case round =>
          obtain ⟨k, hk, rfl, ho, hb⟩ := hrel
          have OR := Lib.hid ho
          have ER := Lib.hid hb
          clear ho hb H2
          by_cases hlt : k < ps.length
          · have hki : (k : Int) < (ps.length : Int) := by omega
            obtain ⟨m, hm⟩ : ∃ m, ps.length = m + 1 + k := ⟨ps.length - 1 - k, by omega⟩
            have hidx : (ps.length : Int) - 1 - (k : Int) = (m : Int) := by omega
            have hmi : (m : Int) < (ps.length : Int) := by omega
            have hml : m < ps.length := by omega
            obtain ⟨ad, hA⟩ := puts_some HR.out hml
            have HPR : Hid (Rd wr (some (ad.add (m * 33))) (putC ps[m])) := put_rd (by rw [← hA]; exact HR.out.below ER.out) HO.out hml
            have HPD := Lib.hid (HO.out _ (List.getElem_mem hml)).1
            have HRV : Hid (ps.reverse.take (k + 1) = ps.reverse.take k ++ [ps[m]]) := by
              show _ = _
              rw [List.take_succ_eq_append_getElem (by rw [List.length_reverse]; exact hlt), List.getElem_reverse]
              congr 3
              omega
            obtain ⟨p, hp⟩ : ∃ p, ps[m] = p := ⟨_, rfl⟩
            rw [hp] at HPR HPD HRV
            have HPL := Lib.hid (putC_len HPD.out)
            have HAA := Lib.hid hA
            have HN20 : Hid (k < 20) := by show _ < _; omega
            clear hp hm
            obtain ⟨A7, c7, rfl, _, _, _⟩ := own_rd OR.out
            rw [hA]
            clear hA
            go_wp2_with (first
              | (refine wpList_ldr2 rfl 39 (.tmp 58) rfl (ad.add (m * 33)) 33 (putC p) rfl HPR.out (by kernel_rfl) (by kernel_rfl) HPL.out ?_)
              | (refine wpList_bs1 rfl 23 39 (.tmp 59) rfl zPut 33 (putC p) Try.underlying23 infoPut rfl (by decide) (by decide) rfl HPL.out ?_))
            intro g8 w8 hg hbk hc
            have K8 := Lib.hid hbk
            have E8 : Hid (Below w.heap.size w w8) := ER.out.trans (hc.below ER.out.size (fun _ _ => id))
            have O8 := Lib.hid (own_chg OR.out hc (fun _ _ => id))
            clear hg hbk hc
            go_wp2_with (at_builtin; refine wpList_append_rd rfl (.tmp 51) (.tmp 60) 23 rfl w.heap.size 39 zPut 33 40 Try.underlying23 infoPut3 rfl (by decide) (by decide) (.slice A7 k c7) k ((ps.reverse.take k).flatMap putC) rfl O8.out (some ⟨g8, 0, none⟩) 1 1 (putC p) rfl HPL.out K8.out.rd (one_put _) (by have := HN20.out; omega) E8.out.size ?_)
            intro v1 w9 hown hg hat
            have O9 : Hid (w9.ownsRow w.heap.size 39 33 v1 (k + 1) ((ps.reverse.take (k + 1)).flatMap putC)) := by
              show World.ownsRow _ _ _ _ _ _ _
              rw [HRV.out, flat_snoc]
              exact hown
            have E9 : Hid (Below w.heap.size w w9) := E8.out.trans (below_grown hg E8.out.size (fun j hj => (O8.out.lt _ hj).1))
            clear hown hg hat
            go_wp2_with fail
            go_roundw
            case rel => exact ⟨k + 1, by omega, by go_num, O9.out, E9.out⟩
            case measure => simp [intOf]; omega
          · have hke : k = ps.length := by omega
            subst hke
            have hki : ¬ (((ps.length : Nat) : Int) < (ps.length : Int)) := by omega
            obtain ⟨A7, c7, rfl, rd7, _, _⟩ := own_rd OR.out
            rw [show ps.reverse.take ps.length = ps.reverse by rw [List.take_of_length_le (by rw [List.length_reverse]; exact Nat.le_refl _)]] at rd7
            have RD7 := Lib.hid rd7
            clear rd7
            go_wp2_with fail
            refine (good_calls ps A ps.length c wr rfl (HR.out.below ER.out) HO.out).mono ?_
            rintro en w8 ⟨rfl, hb⟩
            have E8 : Hid (Below w.heap.size w w8) := ER.out.trans (hb.mono ER.out.size)
            have RD8 := Lib.hid (RD7.out.below hb)
            clear hb
            rw [HGB.out]
            go_wp2_with fail
            refine (good_calls ps.reverse A7 ps.length c7 w8 (by rw [List.length_reverse]) RD8.out (fun p hp => HO.out p (List.mem_reverse.1 hp))).mono ?_
            rintro en w9 ⟨rfl, hb⟩
            have E9 : Hid (Below w.heap.size w w9) := E8.out.trans (hb.mono E8.out.size)
            clear hb
            rw [goodB_reverse, HGB.out]
            go_wp2_with fail
            refine (wakes8_calls w9).mono ?_
            rintro en wz ⟨rfl, hb⟩
            have EZ : Hid (Below w.heap.size w wz) := E9.out.trans (hb.mono E9.out.size)
            clear hb
            go_wp2_with fail
            (try simp only [Exit.inBlock, Exit.then])
            go_ret
            exact ⟨rfl, EZ.out⟩
  case true.false =>
    go_wp2_with (refine wpList_al rfl 35 rfl (metC ps 0) (by kernel_rfl) ?_)
    intro g4 w1 hg hb hc hs
    have G4 : Hid (w.heap.size ≤ g4) := by show _ ≤ _; omega
    have K1 := Lib.hid hb
    have E1 : Hid (Below w.heap.size w w1) := hc.below (Nat.le_refl _) (fun _ _ => id)
    have H0 : Hid (GoodLawRel w ps g4 (.int .i64 0) w1) := ⟨0, Nat.zero_le _, rfl, K1.out, .zero ps, E1.out⟩
    clear hg hb hc hs
    go_wp2_with fail
    go_loopw [3, 5] (fun v3 v5 wr => v3 = .bool false ∧ GoodLawRel w ps g4 v5 wr) (fun _ v5 _ => ps.length - (intOf v5).toNat)
    case atStart => exact ⟨rfl, H0.out⟩
    case round =>
      obtain ⟨rfl, k, hk, rfl, hbk, hmo, hb⟩ := hrel
      have KR := Lib.hid hbk
      have MR := Lib.hid hmo
      have EB := Lib.hid hb
      clear hbk hmo hb H0
      by_cases hlt : k < ps.length
      · have hki : (k : Int) < (ps.length : Int) := by omega
        obtain ⟨ad, hA⟩ := puts_some HR.out hlt
        have hcl := put_at (by rw [← hA]; exact HR.out.below EB.out) HO.out hlt
        have HAA := Lib.hid hA
        by_cases hrng : 0 ≤ ps[k].at_ ∧ ps[k].at_ < 12
        · obtain ⟨a, ha⟩ := Int.eq_ofNat_of_zero_le hrng.1
          have h12 : a < 12 := by have := hrng.2; omega
          have h12i : (a : Int) < 12 := by omega
          have cm := KR.out.cell (metC_get ps k a h12)
          rw [ha] at hcl
          by_cases hmet : (a : Int) ∈ (ps.take k).map (·.at_)
          · have HGB : Hid (goodB ps = false) := good_met hlt (by rw [ha]; exact hmet)
            rw [decide_eq_true hmet] at cm
            rw [hA]
            clear hmet hrng ha hA
            go_wp2_with fail
            (try simp only [Exit.inBlock, Exit.then])
            rw [← HAA.out]
            have H2 : Hid (BackRel w ps (.slice none 0 0) (.int .i64 0) wr) := ⟨0, Nat.zero_le _, rfl, ⟨rfl, .inl ⟨rfl, rfl⟩⟩, EB.out⟩
            go_wp2_with fail
            go_loopw [7, 8] (fun v7 v8 wr => BackRel w ps v7 v8 wr) (fun _ v8 _ => ps.length - (intOf v8).toNat)
            case atStart => exact H2.out
            case round =>
              obtain ⟨k, hk, rfl, ho, hb⟩ := hrel
              have OR := Lib.hid ho
              have ER := Lib.hid hb
              clear ho hb H2
              by_cases hlt : k < ps.length
              · have hki : (k : Int) < (ps.length : Int) := by omega
                obtain ⟨m, hm⟩ : ∃ m, ps.length = m + 1 + k := ⟨ps.length - 1 - k, by omega⟩
                have hidx : (ps.length : Int) - 1 - (k : Int) = (m : Int) := by omega
                have hmi : (m : Int) < (ps.length : Int) := by omega
                have hml : m < ps.length := by omega
                obtain ⟨ad, hA⟩ := puts_some HR.out hml
                have HPR : Hid (Rd wr (some (ad.add (m * 33))) (putC ps[m])) := put_rd (by rw [← hA]; exact HR.out.below ER.out) HO.out hml
                have HPD := Lib.hid (HO.out _ (List.getElem_mem hml)).1
                have HRV : Hid (ps.reverse.take (k + 1) = ps.reverse.take k ++ [ps[m]]) := by
                  show _ = _
                  rw [List.take_succ_eq_append_getElem (by rw [List.length_reverse]; exact hlt), List.getElem_reverse]
                  congr 3
                  omega
                obtain ⟨p, hp⟩ : ∃ p, ps[m] = p := ⟨_, rfl⟩
                rw [hp] at HPR HPD HRV
                have HPL := Lib.hid (putC_len HPD.out)
                have HAA := Lib.hid hA
                have HN20 : Hid (k < 20) := by show _ < _; omega
                clear hp hm
                obtain ⟨A7, c7, rfl, _, _, _⟩ := own_rd OR.out
                rw [hA]
                clear hA
                go_wp2_with (first
                  | (refine wpList_ldr2 rfl 39 (.tmp 58) rfl (ad.add (m * 33)) 33 (putC p) rfl HPR.out (by kernel_rfl) (by kernel_rfl) HPL.out ?_)
                  | (refine wpList_bs1 rfl 23 39 (.tmp 59) rfl zPut 33 (putC p) Try.underlying23 infoPut rfl (by decide) (by decide) rfl HPL.out ?_))
                intro g8 w8 hg hbk hc
                have K8 := Lib.hid hbk
                have E8 : Hid (Below w.heap.size w w8) := ER.out.trans (hc.below ER.out.size (fun _ _ => id))
                have O8 := Lib.hid (own_chg OR.out hc (fun _ _ => id))
                clear hg hbk hc
                go_wp2_with (at_builtin; refine wpList_append_rd rfl (.tmp 51) (.tmp 60) 23 rfl w.heap.size 39 zPut 33 40 Try.underlying23 infoPut3 rfl (by decide) (by decide) (.slice A7 k c7) k ((ps.reverse.take k).flatMap putC) rfl O8.out (some ⟨g8, 0, none⟩) 1 1 (putC p) rfl HPL.out K8.out.rd (one_put _) (by have := HN20.out; omega) E8.out.size ?_)
                intro v1 w9 hown hg hat
                have O9 : Hid (w9.ownsRow w.heap.size 39 33 v1 (k + 1) ((ps.reverse.take (k + 1)).flatMap putC)) := by
                  show World.ownsRow _ _ _ _ _ _ _
                  rw [HRV.out, flat_snoc]
                  exact hown
                have E9 : Hid (Below w.heap.size w w9) := E8.out.trans (below_grown hg E8.out.size (fun j hj => (O8.out.lt _ hj).1))
                clear hown hg hat
                go_wp2_with fail
                go_roundw
                case rel => exact ⟨k + 1, by omega, by go_num, O9.out, E9.out⟩
                case measure => simp [intOf]; omega
              · have hke : k = ps.length := by omega
                subst hke
                have hki : ¬ (((ps.length : Nat) : Int) < (ps.length : Int)) := by omega
                obtain ⟨A7, c7, rfl, rd7, _, _⟩ := own_rd OR.out
                rw [show ps.reverse.take ps.length = ps.reverse by rw [List.take_of_length_le (by rw [List.length_reverse]; exact Nat.le_refl _)]] at rd7
                have RD7 := Lib.hid rd7
                clear rd7
                go_wp2_with fail
                refine (good_calls ps A ps.length c wr rfl (HR.out.below ER.out) HO.out).mono ?_
                rintro en w8 ⟨rfl, hb⟩
                have E8 : Hid (Below w.heap.size w w8) := ER.out.trans (hb.mono ER.out.size)
                have RD8 := Lib.hid (RD7.out.below hb)
                clear hb
                rw [HGB.out]
                go_wp2_with fail
                refine (good_calls ps.reverse A7 ps.length c7 w8 (by rw [List.length_reverse]) RD8.out (fun p hp => HO.out p (List.mem_reverse.1 hp))).mono ?_
                rintro en w9 ⟨rfl, hb⟩
                have E9 : Hid (Below w.heap.size w w9) := E8.out.trans (hb.mono E8.out.size)
                clear hb
                rw [goodB_reverse, HGB.out]
                go_wp2_with fail
                refine (wakes8_calls w9).mono ?_
                rintro en wz ⟨rfl, hb⟩
                have EZ : Hid (Below w.heap.size w wz) := E9.out.trans (hb.mono E9.out.size)
                clear hb
                go_wp2_with fail
                (try simp only [Exit.inBlock, Exit.then])
                go_ret
                exact ⟨rfl, EZ.out⟩
          · have MS : Hid (MetOk ps (k + 1)) := MR.out.succ hlt hrng (by rw [ha]; exact hmet)
            have HMS := Lib.hid (metC_set hlt ha h12)
            have HML := Lib.hid (metC_len ps k)
            rw [decide_eq_false hmet] at cm
            rw [hA]
            clear hmet hrng ha hA
            go_wp2_with (refine wpList_st rfl 4 (.tmp 44) (.const (.bool true)) rfl g4 a 1 (metC ps k) [.bool true] rfl rfl KR.out (by kernel_rfl) rfl (by rw [HML.out]; omega) (by intro u hu; obtain rfl := List.mem_singleton.1 hu; rfl) ?_)
            intro w3 hbk hc
            rw [HMS.out] at hbk
            have K3 := Lib.hid hbk
            have E3 : Hid (Below w.heap.size w w3) := EB.out.trans (hc.below EB.out.size (fun j hj he => by have := G4.out; omega))
            clear hbk hc cm hcl
            go_wp2_with fail
            go_roundw
            case rel => exact ⟨rfl, k + 1, by omega, by go_num, K3.out, MS.out, E3.out⟩
            case measure => simp [intOf]; omega
        · have HGB : Hid (goodB ps = false) := good_rng hlt hrng
          by_cases hneg : ps[k].at_ < 0
          · rw [hA]
            obtain ⟨z, hz⟩ : ∃ z, ps[k].at_ = z := ⟨_, rfl⟩
            rw [hz] at hcl hneg
            clear hz hrng hA
            go_wp2_with fail
            (try simp only [Exit.inBlock, Exit.then])
            rw [← HAA.out]
            have H2 : Hid (BackRel w ps (.slice none 0 0) (.int .i64 0) wr) := ⟨0, Nat.zero_le _, rfl, ⟨rfl, .inl ⟨rfl, rfl⟩⟩, EB.out⟩
            go_wp2_with fail
            go_loopw [7, 8] (fun v7 v8 wr => BackRel w ps v7 v8 wr) (fun _ v8 _ => ps.length - (intOf v8).toNat)
            case atStart => exact H2.out
            case round =>
              obtain ⟨k, hk, rfl, ho, hb⟩ := hrel
              have OR := Lib.hid ho
              have ER := Lib.hid hb
              clear ho hb H2
              by_cases hlt : k < ps.length
              · have hki : (k : Int) < (ps.length : Int) := by omega
                obtain ⟨m, hm⟩ : ∃ m, ps.length = m + 1 + k := ⟨ps.length - 1 - k, by omega⟩
                have hidx : (ps.length : Int) - 1 - (k : Int) = (m : Int) := by omega
                have hmi : (m : Int) < (ps.length : Int) := by omega
                have hml : m < ps.length := by omega
                obtain ⟨ad, hA⟩ := puts_some HR.out hml
                have HPR : Hid (Rd wr (some (ad.add (m * 33))) (putC ps[m])) := put_rd (by rw [← hA]; exact HR.out.below ER.out) HO.out hml
                have HPD := Lib.hid (HO.out _ (List.getElem_mem hml)).1
                have HRV : Hid (ps.reverse.take (k + 1) = ps.reverse.take k ++ [ps[m]]) := by
                  show _ = _
                  rw [List.take_succ_eq_append_getElem (by rw [List.length_reverse]; exact hlt), List.getElem_reverse]
                  congr 3
                  omega
                obtain ⟨p, hp⟩ : ∃ p, ps[m] = p := ⟨_, rfl⟩
                rw [hp] at HPR HPD HRV
                have HPL := Lib.hid (putC_len HPD.out)
                have HAA := Lib.hid hA
                have HN20 : Hid (k < 20) := by show _ < _; omega
                clear hp hm
                obtain ⟨A7, c7, rfl, _, _, _⟩ := own_rd OR.out
                rw [hA]
                clear hA
                go_wp2_with (first
                  | (refine wpList_ldr2 rfl 39 (.tmp 58) rfl (ad.add (m * 33)) 33 (putC p) rfl HPR.out (by kernel_rfl) (by kernel_rfl) HPL.out ?_)
                  | (refine wpList_bs1 rfl 23 39 (.tmp 59) rfl zPut 33 (putC p) Try.underlying23 infoPut rfl (by decide) (by decide) rfl HPL.out ?_))
                intro g8 w8 hg hbk hc
                have K8 := Lib.hid hbk
                have E8 : Hid (Below w.heap.size w w8) := ER.out.trans (hc.below ER.out.size (fun _ _ => id))
                have O8 := Lib.hid (own_chg OR.out hc (fun _ _ => id))
                clear hg hbk hc
                go_wp2_with (at_builtin; refine wpList_append_rd rfl (.tmp 51) (.tmp 60) 23 rfl w.heap.size 39 zPut 33 40 Try.underlying23 infoPut3 rfl (by decide) (by decide) (.slice A7 k c7) k ((ps.reverse.take k).flatMap putC) rfl O8.out (some ⟨g8, 0, none⟩) 1 1 (putC p) rfl HPL.out K8.out.rd (one_put _) (by have := HN20.out; omega) E8.out.size ?_)
                intro v1 w9 hown hg hat
                have O9 : Hid (w9.ownsRow w.heap.size 39 33 v1 (k + 1) ((ps.reverse.take (k + 1)).flatMap putC)) := by
                  show World.ownsRow _ _ _ _ _ _ _
                  rw [HRV.out, flat_snoc]
                  exact hown
                have E9 : Hid (Below w.heap.size w w9) := E8.out.trans (below_grown hg E8.out.size (fun j hj => (O8.out.lt _ hj).1))
                clear hown hg hat
                go_wp2_with fail
                go_roundw
                case rel => exact ⟨k + 1, by omega, by go_num, O9.out, E9.out⟩
                case measure => simp [intOf]; omega
              · have hke : k = ps.length := by omega
                subst hke
                have hki : ¬ (((ps.length : Nat) : Int) < (ps.length : Int)) := by omega
                obtain ⟨A7, c7, rfl, rd7, _, _⟩ := own_rd OR.out
                rw [show ps.reverse.take ps.length = ps.reverse by rw [List.take_of_length_le (by rw [List.length_reverse]; exact Nat.le_refl _)]] at rd7
                have RD7 := Lib.hid rd7
                clear rd7
                go_wp2_with fail
                refine (good_calls ps A ps.length c wr rfl (HR.out.below ER.out) HO.out).mono ?_
                rintro en w8 ⟨rfl, hb⟩
                have E8 : Hid (Below w.heap.size w w8) := ER.out.trans (hb.mono ER.out.size)
                have RD8 := Lib.hid (RD7.out.below hb)
                clear hb
                rw [HGB.out]
                go_wp2_with fail
                refine (good_calls ps.reverse A7 ps.length c7 w8 (by rw [List.length_reverse]) RD8.out (fun p hp => HO.out p (List.mem_reverse.1 hp))).mono ?_
                rintro en w9 ⟨rfl, hb⟩
                have E9 : Hid (Below w.heap.size w w9) := E8.out.trans (hb.mono E8.out.size)
                clear hb
                rw [goodB_reverse, HGB.out]
                go_wp2_with fail
                refine (wakes8_calls w9).mono ?_
                rintro en wz ⟨rfl, hb⟩
                have EZ : Hid (Below w.heap.size w wz) := E9.out.trans (hb.mono E9.out.size)
                clear hb
                go_wp2_with fail
                (try simp only [Exit.inBlock, Exit.then])
                go_ret
                exact ⟨rfl, EZ.out⟩
          · have hge : (12 : Int) ≤ ps[k].at_ := by omega
            rw [hA]
            obtain ⟨z, hz⟩ : ∃ z, ps[k].at_ = z := ⟨_, rfl⟩
            rw [hz] at hcl hneg hge
            clear hz hrng hA
            go_wp2_with fail
            (try simp only [Exit.inBlock, Exit.then])
            rw [← HAA.out]
            have H2 : Hid (BackRel w ps (.slice none 0 0) (.int .i64 0) wr) := ⟨0, Nat.zero_le _, rfl, ⟨rfl, .inl ⟨rfl, rfl⟩⟩, EB.out⟩
            go_wp2_with fail
            go_loopw [7, 8] (fun v7 v8 wr => BackRel w ps v7 v8 wr) (fun _ v8 _ => ps.length - (intOf v8).toNat)
            case atStart => exact H2.out
            case round =>
              obtain ⟨k, hk, rfl, ho, hb⟩ := hrel
              have OR := Lib.hid ho
              have ER := Lib.hid hb
              clear ho hb H2
              by_cases hlt : k < ps.length
              · have hki : (k : Int) < (ps.length : Int) := by omega
                obtain ⟨m, hm⟩ : ∃ m, ps.length = m + 1 + k := ⟨ps.length - 1 - k, by omega⟩
                have hidx : (ps.length : Int) - 1 - (k : Int) = (m : Int) := by omega
                have hmi : (m : Int) < (ps.length : Int) := by omega
                have hml : m < ps.length := by omega
                obtain ⟨ad, hA⟩ := puts_some HR.out hml
                have HPR : Hid (Rd wr (some (ad.add (m * 33))) (putC ps[m])) := put_rd (by rw [← hA]; exact HR.out.below ER.out) HO.out hml
                have HPD := Lib.hid (HO.out _ (List.getElem_mem hml)).1
                have HRV : Hid (ps.reverse.take (k + 1) = ps.reverse.take k ++ [ps[m]]) := by
                  show _ = _
                  rw [List.take_succ_eq_append_getElem (by rw [List.length_reverse]; exact hlt), List.getElem_reverse]
                  congr 3
                  omega
                obtain ⟨p, hp⟩ : ∃ p, ps[m] = p := ⟨_, rfl⟩
                rw [hp] at HPR HPD HRV
                have HPL := Lib.hid (putC_len HPD.out)
                have HAA := Lib.hid hA
                have HN20 : Hid (k < 20) := by show _ < _; omega
                clear hp hm
                obtain ⟨A7, c7, rfl, _, _, _⟩ := own_rd OR.out
                rw [hA]
                clear hA
                go_wp2_with (first
                  | (refine wpList_ldr2 rfl 39 (.tmp 58) rfl (ad.add (m * 33)) 33 (putC p) rfl HPR.out (by kernel_rfl) (by kernel_rfl) HPL.out ?_)
                  | (refine wpList_bs1 rfl 23 39 (.tmp 59) rfl zPut 33 (putC p) Try.underlying23 infoPut rfl (by decide) (by decide) rfl HPL.out ?_))
                intro g8 w8 hg hbk hc
                have K8 := Lib.hid hbk
                have E8 : Hid (Below w.heap.size w w8) := ER.out.trans (hc.below ER.out.size (fun _ _ => id))
                have O8 := Lib.hid (own_chg OR.out hc (fun _ _ => id))
                clear hg hbk hc
                go_wp2_with (at_builtin; refine wpList_append_rd rfl (.tmp 51) (.tmp 60) 23 rfl w.heap.size 39 zPut 33 40 Try.underlying23 infoPut3 rfl (by decide) (by decide) (.slice A7 k c7) k ((ps.reverse.take k).flatMap putC) rfl O8.out (some ⟨g8, 0, none⟩) 1 1 (putC p) rfl HPL.out K8.out.rd (one_put _) (by have := HN20.out; omega) E8.out.size ?_)
                intro v1 w9 hown hg hat
                have O9 : Hid (w9.ownsRow w.heap.size 39 33 v1 (k + 1) ((ps.reverse.take (k + 1)).flatMap putC)) := by
                  show World.ownsRow _ _ _ _ _ _ _
                  rw [HRV.out, flat_snoc]
                  exact hown
                have E9 : Hid (Below w.heap.size w w9) := E8.out.trans (below_grown hg E8.out.size (fun j hj => (O8.out.lt _ hj).1))
                clear hown hg hat
                go_wp2_with fail
                go_roundw
                case rel => exact ⟨k + 1, by omega, by go_num, O9.out, E9.out⟩
                case measure => simp [intOf]; omega
              · have hke : k = ps.length := by omega
                subst hke
                have hki : ¬ (((ps.length : Nat) : Int) < (ps.length : Int)) := by omega
                obtain ⟨A7, c7, rfl, rd7, _, _⟩ := own_rd OR.out
                rw [show ps.reverse.take ps.length = ps.reverse by rw [List.take_of_length_le (by rw [List.length_reverse]; exact Nat.le_refl _)]] at rd7
                have RD7 := Lib.hid rd7
                clear rd7
                go_wp2_with fail
                refine (good_calls ps A ps.length c wr rfl (HR.out.below ER.out) HO.out).mono ?_
                rintro en w8 ⟨rfl, hb⟩
                have E8 : Hid (Below w.heap.size w w8) := ER.out.trans (hb.mono ER.out.size)
                have RD8 := Lib.hid (RD7.out.below hb)
                clear hb
                rw [HGB.out]
                go_wp2_with fail
                refine (good_calls ps.reverse A7 ps.length c7 w8 (by rw [List.length_reverse]) RD8.out (fun p hp => HO.out p (List.mem_reverse.1 hp))).mono ?_
                rintro en w9 ⟨rfl, hb⟩
                have E9 : Hid (Below w.heap.size w w9) := E8.out.trans (hb.mono E8.out.size)
                clear hb
                rw [goodB_reverse, HGB.out]
                go_wp2_with fail
                refine (wakes8_calls w9).mono ?_
                rintro en wz ⟨rfl, hb⟩
                have EZ : Hid (Below w.heap.size w wz) := E9.out.trans (hb.mono E9.out.size)
                clear hb
                go_wp2_with fail
                (try simp only [Exit.inBlock, Exit.then])
                go_ret
                exact ⟨rfl, EZ.out⟩
      · have hke : k = ps.length := by omega
        subst hke
        have hki : ¬ (((ps.length : Nat) : Int) < (ps.length : Int)) := by omega
        have HGB : Hid (goodB ps = false) := by
          show _ = _
          rw [MR.out.good, HB1.out, HB2.out]
          rfl
        go_wp2_with fail
        (try simp only [Exit.inBlock, Exit.then])
        have H2 : Hid (BackRel w ps (.slice none 0 0) (.int .i64 0) wr) := ⟨0, Nat.zero_le _, rfl, ⟨rfl, .inl ⟨rfl, rfl⟩⟩, EB.out⟩
        go_wp2_with fail
        go_loopw [7, 8] (fun v7 v8 wr => BackRel w ps v7 v8 wr) (fun _ v8 _ => ps.length - (intOf v8).toNat)
        case atStart => exact H2.out
        case round =>
          obtain ⟨k, hk, rfl, ho, hb⟩ := hrel
          have OR := Lib.hid ho
          have ER := Lib.hid hb
          clear ho hb H2
          by_cases hlt : k < ps.length
          · have hki : (k : Int) < (ps.length : Int) := by omega
            obtain ⟨m, hm⟩ : ∃ m, ps.length = m + 1 + k := ⟨ps.length - 1 - k, by omega⟩
            have hidx : (ps.length : Int) - 1 - (k : Int) = (m : Int) := by omega
            have hmi : (m : Int) < (ps.length : Int) := by omega
            have hml : m < ps.length := by omega
            obtain ⟨ad, hA⟩ := puts_some HR.out hml
            have HPR : Hid (Rd wr (some (ad.add (m * 33))) (putC ps[m])) := put_rd (by rw [← hA]; exact HR.out.below ER.out) HO.out hml
            have HPD := Lib.hid (HO.out _ (List.getElem_mem hml)).1
            have HRV : Hid (ps.reverse.take (k + 1) = ps.reverse.take k ++ [ps[m]]) := by
              show _ = _
              rw [List.take_succ_eq_append_getElem (by rw [List.length_reverse]; exact hlt), List.getElem_reverse]
              congr 3
              omega
            obtain ⟨p, hp⟩ : ∃ p, ps[m] = p := ⟨_, rfl⟩
            rw [hp] at HPR HPD HRV
            have HPL := Lib.hid (putC_len HPD.out)
            have HAA := Lib.hid hA
            have HN20 : Hid (k < 20) := by show _ < _; omega
            clear hp hm
            obtain ⟨A7, c7, rfl, _, _, _⟩ := own_rd OR.out
            rw [hA]
            clear hA
            go_wp2_with (first
              | (refine wpList_ldr2 rfl 39 (.tmp 58) rfl (ad.add (m * 33)) 33 (putC p) rfl HPR.out (by kernel_rfl) (by kernel_rfl) HPL.out ?_)
              | (refine wpList_bs1 rfl 23 39 (.tmp 59) rfl zPut 33 (putC p) Try.underlying23 infoPut rfl (by decide) (by decide) rfl HPL.out ?_))
            intro g8 w8 hg hbk hc
            have K8 := Lib.hid hbk
            have E8 : Hid (Below w.heap.size w w8) := ER.out.trans (hc.below ER.out.size (fun _ _ => id))
            have O8 := Lib.hid (own_chg OR.out hc (fun _ _ => id))
            clear hg hbk hc
            go_wp2_with (at_builtin; refine wpList_append_rd rfl (.tmp 51) (.tmp 60) 23 rfl w.heap.size 39 zPut 33 40 Try.underlying23 infoPut3 rfl (by decide) (by decide) (.slice A7 k c7) k ((ps.reverse.take k).flatMap putC) rfl O8.out (some ⟨g8, 0, none⟩) 1 1 (putC p) rfl HPL.out K8.out.rd (one_put _) (by have := HN20.out; omega) E8.out.size ?_)
            intro v1 w9 hown hg hat
            have O9 : Hid (w9.ownsRow w.heap.size 39 33 v1 (k + 1) ((ps.reverse.take (k + 1)).flatMap putC)) := by
              show World.ownsRow _ _ _ _ _ _ _
              rw [HRV.out, flat_snoc]
              exact hown
            have E9 : Hid (Below w.heap.size w w9) := E8.out.trans (below_grown hg E8.out.size (fun j hj => (O8.out.lt _ hj).1))
            clear hown hg hat
            go_wp2_with fail
            go_roundw
            case rel => exact ⟨k + 1, by omega, by go_num, O9.out, E9.out⟩
            case measure => simp [intOf]; omega
          · have hke : k = ps.length := by omega
            subst hke
            have hki : ¬ (((ps.length : Nat) : Int) < (ps.length : Int)) := by omega
            obtain ⟨A7, c7, rfl, rd7, _, _⟩ := own_rd OR.out
            rw [show ps.reverse.take ps.length = ps.reverse by rw [List.take_of_length_le (by rw [List.length_reverse]; exact Nat.le_refl _)]] at rd7
            have RD7 := Lib.hid rd7
            clear rd7
            go_wp2_with fail
            refine (good_calls ps A ps.length c wr rfl (HR.out.below ER.out) HO.out).mono ?_
            rintro en w8 ⟨rfl, hb⟩
            have E8 : Hid (Below w.heap.size w w8) := ER.out.trans (hb.mono ER.out.size)
            have RD8 := Lib.hid (RD7.out.below hb)
            clear hb
            rw [HGB.out]
            go_wp2_with fail
            refine (good_calls ps.reverse A7 ps.length c7 w8 (by rw [List.length_reverse]) RD8.out (fun p hp => HO.out p (List.mem_reverse.1 hp))).mono ?_
            rintro en w9 ⟨rfl, hb⟩
            have E9 : Hid (Below w.heap.size w w9) := E8.out.trans (hb.mono E8.out.size)
            clear hb
            rw [goodB_reverse, HGB.out]
            go_wp2_with fail
            refine (wakes8_calls w9).mono ?_
            rintro en wz ⟨rfl, hb⟩
            have EZ : Hid (Below w.heap.size w wz) := E9.out.trans (hb.mono E9.out.size)
            clear hb
            go_wp2_with fail
            (try simp only [Exit.inBlock, Exit.then])
            go_ret
            exact ⟨rfl, EZ.out⟩
  case false.true =>
    go_wp2_with (refine wpList_al rfl 35 rfl (metC ps 0) (by kernel_rfl) ?_)
    intro g4 w1 hg hb hc hs
    have G4 : Hid (w.heap.size ≤ g4) := by show _ ≤ _; omega
    have K1 := Lib.hid hb
    have E1 : Hid (Below w.heap.size w w1) := hc.below (Nat.le_refl _) (fun _ _ => id)
    have H0 : Hid (GoodLawRel w ps g4 (.int .i64 0) w1) := ⟨0, Nat.zero_le _, rfl, K1.out, .zero ps, E1.out⟩
    clear hg hb hc hs
    go_wp2_with fail
    go_loopw [3, 5] (fun v3 v5 wr => v3 = .bool false ∧ GoodLawRel w ps g4 v5 wr) (fun _ v5 _ => ps.length - (intOf v5).toNat)
    case atStart => exact ⟨rfl, H0.out⟩
    case round =>
      obtain ⟨rfl, k, hk, rfl, hbk, hmo, hb⟩ := hrel
      have KR := Lib.hid hbk
      have MR := Lib.hid hmo
      have EB := Lib.hid hb
      clear hbk hmo hb H0
      by_cases hlt : k < ps.length
      · exact absurd hlt (by omega)
      · have hke : k = ps.length := by omega
        subst hke
        have hki : ¬ (((ps.length : Nat) : Int) < (ps.length : Int)) := by omega
        have HGB : Hid (goodB ps = false) := by
          show _ = _
          rw [MR.out.good, HB1.out, HB2.out]
          rfl
        go_wp2_with fail
        (try simp only [Exit.inBlock, Exit.then])
        have H2 : Hid (BackRel w ps (.slice none 0 0) (.int .i64 0) wr) := ⟨0, Nat.zero_le _, rfl, ⟨rfl, .inl ⟨rfl, rfl⟩⟩, EB.out⟩
        go_wp2_with fail
        go_loopw [7, 8] (fun v7 v8 wr => BackRel w ps v7 v8 wr) (fun _ v8 _ => ps.length - (intOf v8).toNat)
        case atStart => exact H2.out
        case round =>
          obtain ⟨k, hk, rfl, ho, hb⟩ := hrel
          have OR := Lib.hid ho
          have ER := Lib.hid hb
          clear ho hb H2
          by_cases hlt : k < ps.length
          · exact absurd hlt (by omega)
          · have hke : k = ps.length := by omega
            subst hke
            have hki : ¬ (((ps.length : Nat) : Int) < (ps.length : Int)) := by omega
            obtain ⟨A7, c7, rfl, rd7, _, _⟩ := own_rd OR.out
            rw [show ps.reverse.take ps.length = ps.reverse by rw [List.take_of_length_le (by rw [List.length_reverse]; exact Nat.le_refl _)]] at rd7
            have RD7 := Lib.hid rd7
            clear rd7
            go_wp2_with fail
            refine (good_calls ps A ps.length c wr rfl (HR.out.below ER.out) HO.out).mono ?_
            rintro en w8 ⟨rfl, hb⟩
            have E8 : Hid (Below w.heap.size w w8) := ER.out.trans (hb.mono ER.out.size)
            have RD8 := Lib.hid (RD7.out.below hb)
            clear hb
            rw [HGB.out]
            go_wp2_with fail
            refine (good_calls ps.reverse A7 ps.length c7 w8 (by rw [List.length_reverse]) RD8.out (fun p hp => HO.out p (List.mem_reverse.1 hp))).mono ?_
            rintro en w9 ⟨rfl, hb⟩
            have E9 : Hid (Below w.heap.size w w9) := E8.out.trans (hb.mono E8.out.size)
            clear hb
            rw [goodB_reverse, HGB.out]
            go_wp2_with fail
            refine (wakes8_calls w9).mono ?_
            rintro en wz ⟨rfl, hb⟩
            have EZ : Hid (Below w.heap.size w wz) := E9.out.trans (hb.mono E9.out.size)
            clear hb
            go_wp2_with fail
            (try simp only [Exit.inBlock, Exit.then])
            go_ret
            exact ⟨rfl, EZ.out⟩
end Go.Proofs.Ytchcnkobgdbdkaa
