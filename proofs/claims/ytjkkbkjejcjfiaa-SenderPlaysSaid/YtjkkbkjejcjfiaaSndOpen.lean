
/- Steps of law24: how they are read; fair; own. -/
import Derived.Test.YtjkkbkjejcjfiaaPkOpen
import Derived.Test.YtjkkbkjejcjfiaaSndOps2
namespace Go.Proofs.Ytjkkbkjejcjfiaa
open Go.ChangeShapes Go.WideShapes Go.RowKit Go.Deep
set_option linter.unusedVariables false
set_option linter.unusedSimpArgs false

structure StpS where
  k : Int
  p : PkV
  A : Option Addr
  n : Nat
  c : Nat
  ts : List PutV
  B : Option Addr
  m : Nat
  d : Nat
  er : Bool
def stsC (s : StpS) : List Value := [.int .i64 s.k, .int .i64 s.p.k, vu32 s.p.e, vu32 s.p.q, .slice s.A s.n s.c, .slice s.B s.m s.d, .bool s.er]
def zSts : List Value := [.int .i64 0, .int .i64 0, vu32 0, vu32 0, .slice none 0 0, .slice none 0 0, .bool false]
theorem infoSts : (Try.prog.info? 62).map (fun i => (i.zero, i.size)) = some (some (.agg zSts.toArray), 7) := by kernel_rfl
structure StsOk (W : World) (s : StpS) : Prop where
  k1 : -9223372036854775808 ≤ s.k
  k2 : s.k ≤ 9223372036854775807
  pk : PkOk W s.p s.A s.n s.c
  len : s.ts.length = s.m
  cap : s.m ≤ s.d
  max : s.d ≤ 9223372036854775807
  rd : Rd W s.B (s.ts.flatMap putC)
  ok : PutsOk s.ts
theorem StsOk.below {w w' : World} {s : StpS} (h : StsOk w s) (hb : Below w.heap.size w w') : StsOk w' s := ⟨h.k1, h.k2, h.pk.below hb, h.len, h.cap, h.max, h.rd.below hb, h.ok⟩
section
variable {H : Type} {enc : TypeId × Value → H} {W : World}
theorem stsCells : Try.prog.cellsOf 62 = 7 := by kernel_rfl
set_option maxRecDepth 100000 in
theorem TC.sts {cs : List Value} (h : TC enc Try.prog W 62 cs) : ∃ s, cs = stsC s ∧ StsOk W s := by
  obtain ⟨hl, hf⟩ := h.struct Try.underlying62
  rw [stsCells] at hl
  match cs, hl with
  | [a, b, c, d, e, f, g], _ =>
    have f0 : TC enc Try.prog W 3 (([a, b, c, d, e, f, g].drop 0).take (Try.prog.cellsOf 3)) := hf 0 _ rfl
    have f2 : TC enc Try.prog W 25 (([a, b, c, d, e, f, g].drop 1).take (Try.prog.cellsOf 25)) := hf 1 _ rfl
    have f3 : TC enc Try.prog W 23 (([a, b, c, d, e, f, g].drop 5).take (Try.prog.cellsOf 23)) := hf 2 _ rfl
    have f4 : TC enc Try.prog W 4 (([a, b, c, d, e, f, g].drop 6).take (Try.prog.cellsOf 4)) := hf 3 _ rfl
    rw [show Try.prog.cellsOf 3 = 1 by kernel_rfl] at f0
    rw [pktCells] at f2
    rw [show Try.prog.cellsOf 23 = 1 by kernel_rfl] at f3
    rw [show Try.prog.cellsOf 4 = 1 by kernel_rfl] at f4
    obtain ⟨x0, hx0, b0⟩ := f0.int Try.underlying3
    obtain ⟨p, A3, n3, c3, hr, rok⟩ := f2.pkt
    obtain ⟨A4, n4, c4, l4, hx4, hl4, hc4, hm4, hr4, ho4⟩ := f3.puts
    obtain ⟨x5, hx5⟩ := f4.bool Try.underlying4
    simp [pktC] at hx0 hr hx4 hx5
    have B0 := Go.bounds_i64 b0
    exact ⟨⟨x0, p, A3, n3, c3, l4, A4, n4, c4, x5⟩, by simp [stsC, hx0, hr, hx4, hx5], ⟨B0.1, B0.2, rok, hl4, hc4, hm4, hr4, ho4⟩⟩
theorem stss_of : ∀ (n : Nat) (vs : List Value), vs.length = n * 7 → (∀ i, i < n → TC enc Try.prog W 62 ((vs.drop (i * 7)).take 7)) → ∃ l : List StpS, l.length = n ∧ vs = l.flatMap stsC ∧ ∀ s ∈ l, StsOk W s
  | 0, vs, hl, _ => ⟨[], rfl, List.eq_nil_of_length_eq_zero (by omega), fun s hs => by cases hs⟩
  | n + 1, vs, hl, h => by
    obtain ⟨s, hs, hok⟩ := (h 0 (by omega)).sts
    obtain ⟨l, h1, h2, h3⟩ := stss_of n (vs.drop 7) (by rw [List.length_drop]; omega) (fun i hi => by
      have := h (i + 1) (by omega)
      rwa [show (i + 1) * 7 = 7 + i * 7 by omega, ← List.drop_drop] at this)
    refine ⟨s :: l, by simp [h1], ?_, ?_⟩
    · rw [List.flatMap_cons, ← h2, ← hs, Nat.zero_mul, List.drop_zero, List.take_append_drop]
    · intro x hx
      rcases List.mem_cons.1 hx with rfl | hx
      · exact hok
      · exact h3 x hx
theorem TC.stss {cs : List Value} (h : TC enc Try.prog W 51 cs) :
    ∃ (A : Option Addr) (n cap : Nat) (l : List StpS), cs = [.slice A n cap] ∧ l.length = n ∧ n ≤ cap ∧ cap ≤ 9223372036854775807 ∧ Rd W A (l.flatMap stsC) ∧ ∀ s ∈ l, StsOk W s := by
  obtain ⟨A, n, cap, vs, h0, h1, h2, h3, h4, h5⟩ := h.slice Try.underlying51
  rw [stsCells] at h3 h5
  obtain ⟨l, hl, rfl, hk⟩ := stss_of n vs h3 h5
  exact ⟨A, n, cap, l, h0, hl, h1, h2, h4, hk⟩
end
theorem sts_get {l : List StpS} {k : Nat} (hk : k < l.length) (j : Nat) (hj : j < 7) : (l.flatMap stsC)[k * 7 + j]? = (stsC l[k])[j]? := by
  have h := flat_piece stsC 7 l k l[k] (fun _ _ => rfl) (List.getElem?_eq_getElem hk)
  have h2 := congrArg (·[j]?) h
  simp only [List.getElem?_take, List.getElem?_drop] at h2
  rwa [if_pos hj] at h2
theorem sts_some {w : World} {A : Option Addr} {l : List StpS} (hr : Rd w A (l.flatMap stsC)) {k : Nat} (hk : k < l.length) : ∃ ad, A = some ad := by
  obtain ⟨ad, hA, _⟩ := hr _ _ (sts_get hk 0 (by decide))
  exact ⟨ad, hA⟩
theorem sts_rd {w : World} {ad : Addr} {l : List StpS} (hr : Rd w (some ad) (l.flatMap stsC)) {k : Nat} (hk : k < l.length) : Rd w (some (ad.add (k * 7))) (stsC l[k]) := by
  have h := (hr.drop (k * 7)).take 7
  rwa [flat_piece stsC 7 l k l[k] (fun _ _ => rfl) (List.getElem?_eq_getElem hk)] at h
theorem sts_at {w : World} {ad : Addr} {l : List StpS} (hr : Rd w (some ad) (l.flatMap stsC)) {k : Nat} (hk : k < l.length) (j : Nat) (hj : j < 7) {v : Value} (hv : (stsC l[k])[j]? = some v) (h0 : 0 < j := by decide) : w.cell? ⟨(ad.add (k * 7)).block, (ad.add (k * 7)).off + j, none⟩ = some v := by
  obtain ⟨ad', hA, h⟩ := hr _ v (by rw [sts_get hk j hj]; exact hv)
  injection hA with hA
  subst hA
  rw [← add_add] at h
  cases j with
  | zero => exact absurd h0 (by decide)
  | succ j => exact h
theorem one_sts (s : StpS) : ∀ u ∈ stsC s, u.oneCell' = true := by
  intro u hu
  simp only [stsC, List.mem_cons, List.not_mem_nil, or_false] at hu
  rcases hu with rfl | rfl | rfl | rfl | rfl | rfl | rfl <;> rfl
def fairT (s : StpS) : Bool := decide (s.n ≤ 50) && decide (s.m ≤ 50)
def fair24 (l : List StpS) : Bool := l.all fairT && decide (l.length ≤ 120)
theorem fairT_at {s : StpS} (h : fairT s = true) : s.n ≤ 50 ∧ s.m ≤ 50 := by
  simp only [fairT, Bool.and_eq_true, decide_eq_true_eq] at h
  exact h
theorem fair24_at {l : List StpS} (h : fair24 l = true) : (∀ s ∈ l, s.n ≤ 50 ∧ s.m ≤ 50) ∧ l.length ≤ 120 := by
  rw [fair24, Bool.and_eq_true] at h
  exact ⟨fun s hs => fairT_at (List.all_eq_true.1 h.1 s hs), of_decide_eq_true h.2⟩
theorem fair24_no {l : List StpS} {k : Nat} (hk : k < l.length) (h : fairT l[k] = false) : fair24 l = false := by
  rw [fair24, Bool.and_eq_false_iff]
  left
  rw [List.all_eq_false]
  exact ⟨l[k], List.getElem_mem hk, by simp [h]⟩
theorem fair24_yes {l : List StpS} (h : ∀ j (hj : j < l.length), fairT l[j] = true) : fair24 l = decide (l.length ≤ 120) := by
  rw [fair24, List.all_eq_true.2, Bool.true_and]
  intro s hs
  obtain ⟨j, hj, rfl⟩ := List.getElem_of_mem hs
  exact h j hj
set_option maxRecDepth 20000 in
set_option maxHeartbeats 4000000 in
theorem fair24_calls (w : World) (A : Option Addr) (n c : Nat) (l : List StpS) (hl : l.length = n) (hm : n ≤ 9223372036854775807) (hr : Rd w A (l.flatMap stsC)) :
    Calls Try.prog 22 #[.slice A n c] w fun e w' => e = .returned (.bool (fair24 l)) ∧ w = w' := by
  subst hl
  have HR := Lib.hid hr
  clear hr
  go_enter Try.func22, Try.ntmps22
  go_wp2_with fail
  go_loop [3] (fun v => ∃ k : Nat, k ≤ l.length ∧ v = .int .i64 k ∧ ∀ j (hj : j < l.length), j < k → fairT l[j] = true) (fun v => l.length - (intOf v).toNat)
  case atStart => exact ⟨0, by omega, rfl, fun j _ h => by omega⟩
  case round =>
    obtain ⟨k, hk, rfl, hall⟩ := hrel
    have HA := Lib.hid hall
    clear hall
    by_cases hlt : k < l.length
    · have hki : (k : Int) < (l.length : Int) := by omega
      obtain ⟨ad, hA⟩ := sts_some HR.out hlt
      subst hA
      have c4 : w.cell? ⟨(ad.add (k * 7)).block, (ad.add (k * 7)).off + 1 + 3, none⟩ = some (.slice l[k].A l[k].n l[k].c) := sts_at HR.out hlt 4 (by decide) rfl
      have c5 : w.cell? ⟨(ad.add (k * 7)).block, (ad.add (k * 7)).off + 5, none⟩ = some (.slice l[k].B l[k].m l[k].d) := sts_at HR.out hlt 5 (by decide) rfl
      by_cases h1 : l[k].n ≤ 50
      · have h1i : ¬ ((50 : Int) < (l[k].n : Int)) := by omega
        by_cases h2 : l[k].m ≤ 50
        · have h2i : ¬ ((50 : Int) < (l[k].m : Int)) := by omega
          have HS : Hid (fairT l[k] = true) := by show _ = _; simp [fairT, h1, h2]
          clear h1 h2
          go_wp2
          go_round
          case rel => exact ⟨k + 1, by omega, by go_num, fun j hj hjk => by
              rcases Nat.lt_or_ge j k with h | h
              · exact HA.out j hj h
              · obtain rfl : j = k := by omega
                exact HS.out⟩
          case measure => simp [intOf]; omega
        · have h2i : ((50 : Int) < (l[k].m : Int)) := by omega
          have HF : Hid (fair24 l = false) := fair24_no hlt (by simp [fairT, h2])
          clear h1 h2
          go_wp2
          go_ret
          exact ⟨by rw [HF.out]; rfl, rfl⟩
      · have h1i : ((50 : Int) < (l[k].n : Int)) := by omega
        have HF : Hid (fair24 l = false) := fair24_no hlt (by simp [fairT, h1])
        clear h1
        go_wp2
        go_ret
        exact ⟨by rw [HF.out]; rfl, rfl⟩
    · have hke : k = l.length := by omega
      subst hke
      have hki : ¬ (((l.length : Nat) : Int) < (l.length : Int)) := by omega
      have HF : Hid (fair24 l = decide (l.length ≤ 120)) := fair24_yes (fun j hj => HA.out j hj hj)
      by_cases h80 : l.length ≤ 120
      · have h80i : ((l.length : Nat) : Int) ≤ 120 := by omega
        have HF2 : Hid (fair24 l = true) := by show _ = _; rw [HF.out, decide_eq_true h80]
        clear h80
        go_wp2
        go_ret
        exact ⟨by rw [HF2.out]; (try rfl), rfl⟩
      · have h80i : ¬ ((l.length : Nat) : Int) ≤ 120 := by omega
        have HF2 : Hid (fair24 l = false) := by show _ = _; rw [HF.out, decide_eq_false h80]
        clear h80
        go_wp2
        go_ret
        exact ⟨by rw [HF2.out]; (try rfl), rfl⟩
/-! ### own -/
def PkPost (w : World) (p : PkV) (n : Nat) (e : Ending) (w' : World) : Prop := ∃ A c, e = .returned (.agg (pktC p.k p.e p.q A n c).toArray) ∧ RdN w.heap.size w' A (p.ps.flatMap putC) ∧ Below w.heap.size w w'
set_option maxRecDepth 100000 in
set_option maxHeartbeats 8000000 in
theorem own24_calls (w : World) (p : PkV) (A : Option Addr) (n c : Nat) (hl : p.ps.length = n) (hn : n ≤ 1000) (hr : Rd w A (p.ps.flatMap putC)) (ho : PutsOk p.ps) :
    Calls Try.prog 25 #[.agg (pktC p.k p.e p.q A n c).toArray] w (PkPost w p n) := by
  have HR := Lib.hid hr
  have HO := Lib.hid ho
  have HL := Lib.hid hl
  have HN := Lib.hid hn
  clear hr ho hl hn
  obtain ⟨bx, hbx⟩ : ∃ bx, pktC p.k p.e p.q A n c = bx := ⟨_, rfl⟩
  have HBX := Lib.hid hbx
  rw [hbx]
  clear hbx
  go_enter Try.func25, Try.ntmps25
  go_wp2_with (refine wpList_al rfl 25 rfl zPk (by kernel_rfl) ?_)
  intro g2 w1 hg hb hc hs
  have L02 : Hid (w.heap.size < g2) := by show _ < _; rw [hg]; simp
  have K2 := Lib.hid hb
  have KX1 : Hid (Bk w1 w.heap.size [.int .i64 p.k, vu32 p.e, vu32 p.q, .slice A n c]) := by have h := (Bk.new w bx 25).chg hc id; rw [← HBX.out] at h; exact h
  have E1 : Hid (Below w.heap.size w w1) := ((Below.refl _ _).alloc (Nat.le_refl _) _).trans (hc.below (by simp) (fun _ _ => id))
  clear hg hb hc hs
  have c3 : (w1.alloc (Obj.cells #[] 48)).cell? ⟨w.heap.size, 3, none⟩ = some (.slice A n c) := (KX1.out.below ((Below.refl _ _).alloc (Nat.le_refl _) _)).cell (j := 3) rfl
  go_wp2_with (refine wpList_append_new rfl (.tmp 3) (.tmp 5) 23 rfl 48 zPut 33 40 Try.underlying23 infoPut3 rfl (by decide) (by decide) ⟨w1.heap.size, 0, none⟩ rfl A n c (p.ps.flatMap putC) rfl (by rw [puts_length HO.out, HL.out]) (HR.out.below (E1.out.alloc E1.out.size _)) (by have := HN.out; omega) (one_puts _) ?_)
  intro A2 c2 w4 hrn hch0
  have hch : Chg NoS w1 w4 := ((Chg.refl w1).alloc _).trans hch0
  have RN4 : Hid (RdN w1.heap.size w4 A2 (p.ps.flatMap putC)) := hrn.mono (by simp)
  have KX4 := Lib.hid (KX1.out.chg hch id)
  have K24 := Lib.hid (K2.out.chg hch id)
  have L1 : Hid (g2 < w1.heap.size) := K2.out.lt
  have E4 : Hid (Below w.heap.size w w4) := E1.out.trans (hch.below E1.out.size (fun _ _ => id))
  clear hrn hch hch0 c3 K2 KX1 E1
  go_wp2_with (refine wpList_st rfl 23 (.tmp 7) (.tmp 6) rfl w.heap.size 3 1 [.int .i64 p.k, vu32 p.e, vu32 p.q, .slice A n c] [.slice A2 n c2] rfl rfl KX4.out (by kernel_rfl) rfl (by simp) (fun u hu => by obtain rfl := List.mem_singleton.1 hu; rfl) ?_)
  intro w5 hb hc
  have KX5 : Hid (Bk w5 w.heap.size [.int .i64 p.k, vu32 p.e, vu32 p.q, .slice A2 n c2]) := hb
  have K25 : Hid (Bk w5 g2 zPk) := K24.out.chg hc (by have := L02.out; omega)
  have E5 : Hid (Below w.heap.size w w5) := E4.out.trans (hc.below E4.out.size (fun j hj he => by omega))
  have RN5 : Hid (RdN w1.heap.size w5 A2 (p.ps.flatMap putC)) := RN4.out.chg hc (fun j hj => by have := L02.out; have := L1.out; omega)
  clear hb hc KX4 K24 E4 RN4
  go_wp2_with (first
    | (refine wpList_ld rfl 25 (.tmp 1) rfl w.heap.size 0 4 [.int .i64 p.k, vu32 p.e, vu32 p.q, .slice A2 n c2] [.int .i64 p.k, vu32 p.e, vu32 p.q, .slice A2 n c2] rfl KX5.out (by kernel_rfl) (by kernel_rfl) (Nat.le_refl 4) rfl ?_)
    | (refine wpList_st rfl 25 (.tmp 2) (.tmp 8) rfl g2 0 4 zPk [.int .i64 p.k, vu32 p.e, vu32 p.q, .slice A2 n c2] rfl rfl K25.out (by kernel_rfl) rfl (by decide) (one_pkt _ _ _ _ _ _) ?_))
  intro w6 hb hc
  rw [splice_whole zPk [.int .i64 p.k, vu32 p.e, vu32 p.q, .slice A2 n c2] rfl] at hb
  have K6 := Lib.hid hb
  have E6 : Hid (Below w.heap.size w w6) := E5.out.trans (hc.below E5.out.size (fun j hj he => by have := L02.out; omega))
  have RN6 : Hid (RdN w.heap.size w6 A2 (p.ps.flatMap putC)) := (RN5.out.chg hc (fun j hj => by have := L1.out; omega)).mono (by have := L02.out; have := L1.out; omega)
  clear hb hc K25 KX5 E5 RN5
  go_wp2_with fail
  (try simp only [Exit.inBlock, Exit.then])
  refine bodyPost_ret (res_cell rfl _ _ g2 4 _ rfl K6.out (by kernel_rfl) (by kernel_rfl) rfl) rfl ?_
  exact ⟨A2, c2, rfl, RN6.out, E6.out⟩
end Go.Proofs.Ytjkkbkjejcjfiaa
