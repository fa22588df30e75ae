
import Derived.Test.YtcmfkdfegfablaaPkChunk
import Derived.Test.YtcmfkdfegfablaaG3
import Derived.Test.YtcmfkdfegfablaaG1

/- slices.Chunk; the puts of a packet that is read: a range over a function. -/
namespace Go.Proofs.Ytcmfkdfegfablaa
open Go.RowKit Go.Shelf
set_option linter.unusedVariables false
set_option linter.unusedSimpArgs false
attribute [local go_sem] Oper.semAt_some

theorem wp_ldrQ {P : Program} {o : Oper} {a : Act} {w : World} {K : Act → World → Prop} {Q : Exit → Act → World → Prop} (ty : TypeId) (x : Operand) (ho : o.op = .load ty x) (ad : Addr) (n : Nat) (vs : List Value) (hx : a.eval x = .pointer (some ad)) (hr : Rd w (some ad) vs)
    (hagg : (match P.underlying ty with | some (.struct _) | some (.array _ _) => true | _ => false) = true) (hsz : (P.info? ty).map (·.size) = some n) (hn : vs.length = n)
    (h : K (a.put o.dst (.agg vs.toArray)) w) : o.wp P a w K Q := by
  subst hn
  unfold Oper.wp execOp
  simp only [ho, hx, Instr.loadAt, Instr.sureAddr, Sem.run_bind, Sem.run_pure, Result.andThen_ok, run_loadVar_rd2 w ty ad vs hr hagg hsz]
  exact h
theorem infoPutQ : (Try.prog.info? 54).map (fun i => (i.zero, i.size, i.bytes)) = some (some zPut, 33, 40) := by kernel_rfl
def OwnQ (base n : Nat) (ps : List PutV) (m : Nat) (u : Value) : Fact := fun w v => w.ownsRow base 54 33 v n (ps.flatMap putC) ∧ (v.ownBlock = u.ownBlock ∨ ∃ j, v.ownBlock = some j ∧ m ≤ j)
theorem OwnQ.lasts {base n m : Nat} {ps : List PutV} {u : Value} : ∀ w w' v, Chg NoS w w' → OwnQ base n ps m u w v → OwnQ base n ps m u w' v := fun _ _ _ h ho => ⟨own_chg ho.1 h (fun _ _ => id), ho.2⟩
def LvQ (u : Value) : Nat → Prop := fun j => u.ownBlock = some j
/-- The put that stands in the bytes at a place. -/
def putAt (b : List UInt8) (j : Nat) : PutV := ⟨((b.getD (10 + 33 * j) 0).toNat : Int), (b.drop (11 + 33 * j)).take 32⟩
def putsN (b : List UInt8) (N : Nat) : List PutV := (List.range N).map (putAt b)
theorem putsN_len (b : List UInt8) (N : Nat) : (putsN b N).length = N := by simp [putsN]
theorem putAt_len {b : List UInt8} {j N : Nat} (hb : b.length = 33 * N + 12) (hj : j < N) : (putAt b j).data.length = 32 := by
  show ((b.drop (11 + 33 * j)).take 32).length = 32
  rw [List.length_take, List.length_drop]
  omega
theorem putsN_ok {b : List UInt8} {N : Nat} (hb : b.length = 33 * N + 12) : PutsOk (putsN b N) := by
  intro p hp
  obtain ⟨j, hj, rfl⟩ := List.mem_map.1 hp
  refine ⟨putAt_len hb (List.mem_range.1 hj), ?_, ?_⟩
  · show (-9223372036854775808 : Int) ≤ ((b.getD (10 + 33 * j) 0).toNat : Int); omega
  · show ((b.getD (10 + 33 * j) 0).toNat : Int) ≤ 9223372036854775807
    have := (b.getD (10 + 33 * j) 0).toNat_lt
    omega
theorem put_splice {p : PutV} (h : p.data.length = 32) : splices (.int .i64 0 :: bts (List.replicate 32 0)) [(0, [.int .i64 p.at_]), (1, bts p.data)] = putC p := by
  show splice (splice (.int .i64 0 :: bts (List.replicate 32 0)) 0 [.int .i64 p.at_]) 1 (bts p.data) = _
  have hz : (bts (List.replicate 32 (0 : UInt8))).length = 32 := by simp
  simp only [splice, List.take_zero, List.nil_append, List.length_singleton, Nat.zero_add, List.drop_succ_cons, List.drop_zero, List.cons_append, List.take_succ_cons, bts_length, h, Nat.reduceAdd]
  rw [List.drop_eq_nil_of_le (by rw [hz]; exact Nat.le_refl _), List.append_nil]
  rfl
/-- The value that Chunk hands back. -/
def ChunkF (B : Nat) (A : Addr) (L cap : Nat) : Fact := fun w v => ∃ Bs Bn, v = .func (.func 70) #[] #[.pointer (some ⟨Bs, 0, none⟩), .pointer (some ⟨Bn, 0, none⟩)] ∧ B ≤ Bs ∧ B ≤ Bn ∧ Bs ≠ Bn ∧ Bk w Bs [.slice (some A) L cap] ∧ Bk w Bn [.int .i64 33]
theorem ChunkF.lasts {B : Nat} {A : Addr} {L cap : Nat} : ∀ w w' v, Chg NoS w w' → ChunkF B A L cap w v → ChunkF B A L cap w' v := fun _ _ _ h ⟨Bs, Bn, h1, h2, h3, h4, h5, h6⟩ => ⟨Bs, Bn, h1, h2, h3, h4, h5.chg h id, h6.chg h id⟩
set_option maxRecDepth 100000 in
set_option maxHeartbeats 2000000 in
theorem chunk_calls (A : Addr) (L cap : Nat) (w : World) : Calls Try.prog 64 #[.slice (some A) L cap, .int .i64 33] w fun e w' => ∃ Bs Bn, e = .returned (.func (.func 70) #[] #[.pointer (some ⟨Bs, 0, none⟩), .pointer (some ⟨Bn, 0, none⟩)]) ∧ w.heap.size ≤ Bs ∧ w.heap.size ≤ Bn ∧ Bs ≠ Bn ∧ Bk w' Bs [.slice (some A) L cap] ∧ Bk w' Bn [.int .i64 33] ∧ Below w.heap.size w w' := by
  have hmf : ∀ (fn : Fn) (first cap : Array Value) (w : World), (Instr.makeFunc fn first cap).run Try.prog w = .ok (.func fn first cap) w := fun _ _ _ _ => rfl
  have c2 : ((w.alloc (.cells #[.slice (some A) L cap] 56)).alloc (.cells #[.int .i64 33] 3)).cell? ⟨w.heap.size + 1, 0, none⟩ = some (.int .i64 33) := (Bk.new_at (by simp) rfl : Bk _ (w.heap.size + 1) [.int .i64 33]).cell (j := 0) rfl
  go_enter Try.func64, Try.ntmps64
  go_wp2_with fail
  (try simp only [Exit.inBlock, Exit.then])
  go_ret
  exact ⟨w.heap.size, w.heap.size + 1, rfl, Nat.le_refl _, by omega, by omega, (Bk.new w [.slice (some A) L cap] 56).alloc _, Bk.new_at (by simp) rfl, ((Below.refl _ _).alloc (Nat.le_refl _) _).alloc (by simp) _⟩
theorem chunk_stops (n Bs Bn n₀ : Nat) (S : Nat → Prop) (A : Addr) (N L cap : Nat) (hL : 33 * N = L) (hLc : L ≤ cap) (hcm : cap ≤ 9223372036854775807) (hLm : L ≤ 1000000) (hs : Bs < n₀) (hn : Bn < n₀) (hsS : ¬ S Bs) (hnS : ¬ S Bn) (w : World) (h0 : n₀ ≤ w.heap.size)
    (hcs : w.cell? ⟨Bs, 0, none⟩ = some (.slice (some A) L cap)) (hcn : w.cell? ⟨Bn, 0, none⟩ = some (.int .i64 33)) :
    SeqStopsK Fence.wide n Try.prog 70 #[.pointer (some ⟨Bs, 0, none⟩), .pointer (some ⟨Bn, 0, none⟩)] (fun x : Fin N => #[.slice (some (A.add (33 * x.val))) 33 33]) (KpX n₀ S) (fun ys => ys.map (·.val) = List.range N) (fun pre => ∃ k, k ≤ N ∧ pre.map (·.val) = List.range k) N w := fun l J Jx W hW hJ hJx hY hJ0 => by
  have h := chunk1_in n l Bs Bn n₀ S A N L cap hL hLc hcm hLm hs hn hsS hnS (fun p W => ∃ pre : List (Fin N), pre.map (·.val) = p ∧ J pre W) (fun p W => ∃ pre : List (Fin N), pre.map (·.val) = p ∧ Jx pre W)
    (fun s W1 ⟨pre, he, h⟩ => ⟨pre, he, hJ pre W1 W1.drew none h ⟨rfl, rfl, rfl, Nat.le_refl _, fun _ _ _ => rfl⟩ (fun r e => by cases e)⟩)
    (fun p x W1 ⟨pre, he, h⟩ hlen hx => by
      subst he
      rw [List.length_map] at hlen hx
      obtain ⟨fn, tmps, assign, body, hy, hR⟩ := hY pre ⟨x, by omega⟩ W1 h hlen
      refine ⟨fn, tmps, assign, body, hy, hR.mono ?_⟩
      rintro e W' (⟨h1, h2, h3⟩ | ⟨h1, h2⟩)
      · exact .inl ⟨h1, ⟨_, by rw [List.map_append]; rfl, h2⟩, h3⟩
      · exact .inr ⟨h1, ⟨_, by rw [List.map_append]; rfl, h2⟩⟩) W
    ((hW.cell (p := ⟨Bs, 0, none⟩) (by show Bs < _; omega)).trans hcs) ((hW.cell (p := ⟨Bn, 0, none⟩) (by show Bn < _; omega)).trans hcn) ⟨[], rfl, hJ0⟩
  refine h.mono ?_
  rintro e W' ⟨h1, ⟨ys, rfl, pre, h2, h3⟩ | ⟨p, ⟨k, hk, rfl⟩, pre, h2, h3⟩⟩
  · exact ⟨h1, .inl ⟨pre, h2, h3⟩⟩
  · exact ⟨h1, .inr ⟨pre, ⟨k, hk, h2⟩, h3⟩⟩
theorem then2 {S T : Nat → Prop} {a b c : World} (h : Chg S a b) (k : Chg T b c) (hT : ∀ j, T j → j < a.heap.size → S j) : Chg S a c :=
  ⟨k.os.trans h.os, k.tape.trans h.tape, k.output.trans h.output, Nat.le_trans h.size k.size, fun j hj hn => (k.block j (Nat.lt_of_lt_of_le hj h.size) (fun ht => hn (hT j ht hj))).trans (h.block j hj hn)⟩
theorem own_lowerQ {w : World} {B B' n : Nat} {e : TypeId} {size : Nat} {v : Value} {xs : List Value} (h : w.ownsRow B e size v n xs) (hB : B' ≤ B) : w.ownsRow B' e size v n xs := by
  refine ⟨h.1, ?_⟩
  rcases h.2 with h2 | ⟨g, cap, cur, hv, hbg, r⟩
  · exact .inl h2
  · exact .inr ⟨g, cap, cur, hv, Nat.le_trans hB hbg, r⟩
theorem chg_of_grown {W W' : World} {row : Option Nat} (h : W.grownBy W' row) : Chg (fun j => row = some j) W W' := ⟨h.os, h.tape, h.output, h.size, fun k hk hS => h.block k hk (fun he => hS he.symm)⟩
theorem own_cells {w : World} {base n k : Nat} {e : TypeId} {size : Nat} {v : Value} {xs : List Value} (h : w.ownsRow base e size v n xs) (hk : v.ownBlock = some k) : ∃ cs t fr, w.heap[k]? = some (.cells cs t fr) := by
  rcases h.2 with ⟨hv, _⟩ | ⟨g, cap, cur, rfl, _, hg, _⟩
  · subst hv
    cases hk
  · cases hk
    exact ⟨_, _, _, hg⟩
theorem kpx_put {n₀ : Nat} {S : Nat → Prop} (W : World) (l : Nat) (o o' : Obj) (hl : n₀ ≤ l) (ho : W.heap[l]? = some o) : KpX n₀ S W (W.putObj l o') := fun j hj _ => by
  have hlt := (Array.getElem?_eq_some_iff.1 ho).1
  exact (grownBy_putObj' W l o').block j (by omega) (fun h => by cases h; omega)
/-- Between two rounds. -/
def PutsI (w : World) (B g : Nat) (K : Int) (e q : UInt32) (A : Addr) (N n c : Nat) (b : List UInt8) (pre : List (Fin N)) (W : World) : Prop :=
  ∃ v, Bk W g [.int .i64 K, vu32 e, vu32 q, v, .slice (some A) n c] ∧ W.ownsRow B 54 33 v pre.length ((pre.map fun x => putAt b x.val).flatMap putC) ∧ Bk W w.heap.size [.pointer (some ⟨g, 0, none⟩)] ∧ Chg (· = g) w W ∧ B ≤ W.heap.size
theorem PutsI.own {w : World} {B g : Nat} {K : Int} {e q : UInt32} {A : Addr} {N n c : Nat} {b : List UInt8} (hB : w.heap.size ≤ B) : OwnFrom B (PutsI w B g K e q A N n c b) := by
  rintro pre W W' row ⟨v, h1, h2, h3, h4, h5⟩ hg hr
  have hc := chg_of_grown hg
  have no : ∀ k, (∃ cs t fr, W.heap[k]? = some (.cells cs t fr)) → ¬ (row = some k) := fun k ⟨cs, t, fr, hk⟩ he => by
    obtain ⟨_, o, ho, hoc⟩ := hr k he
    rw [hk] at ho
    cases ho
    cases hoc
  refine ⟨v, h1.chg hc (no _ (by obtain ⟨t, hk⟩ := h1; exact ⟨_, t, _, hk⟩)), own_chg h2 hc (fun k hk => no k (own_cells h2 hk)), h3.chg hc (no _ (by obtain ⟨t, hk⟩ := h3; exact ⟨_, t, _, hk⟩)), then2 h4 hc (fun j hj hlt => ?_), Nat.le_trans h5 hg.size⟩
  have := (hr j hj).1
  omega
set_option maxRecDepth 100000 in
set_option maxHeartbeats 8000000 in
theorem readPuts_calls (w : World) (g : Nat) (K : Int) (e q : UInt32) (A : Addr) (N n c : Nat) (b : List UInt8) (hb : Bk w g [.int .i64 K, vu32 e, vu32 q, .slice none 0 0, .slice (some A) n c]) (hn : n = 33 * N + 12) (hl : b.length = n) (hnc : n ≤ c) (hcm : c ≤ 9223372036854775807) (hN : N ≤ 1000)
    (hrd : ∀ w', Chg (· = g) w w' → Rd w' (some A) (bts b)) :
    Calls Try.prog 54 #[.pointer (some ⟨g, 0, none⟩)] w fun en w' => en = .returned (.tuple #[]) ∧ ∃ v, Bk w' g [.int .i64 K, vu32 e, vu32 q, v, .slice (some A) n c] ∧ w'.ownsRow w.heap.size 54 33 v N ((putsN b N).flatMap putC) ∧ Chg (· = g) w w' := by
  have HB := Lib.hid hb
  have HRDW := Lib.hid hrd
  have HGW := Lib.hid hb.lt
  clear hb hrd
  refine callsIn_wide.1 (callsIn_of_wp_marks (F := Fence.wide) (n := 5) Try.func54 rfl trivial ?_ rfl)
  simp only [Try.ntmps54, List.size_toArray, List.length_cons, List.length_nil, Nat.reduceAdd, Nat.reduceSub, Array.replicate_succ, Array.replicate_zero, List.push_toArray, List.append_toArray, List.nil_append, List.cons_append]
  refine wpIn_wide.2 ?_
  go_wp2_with fail
  refine code_at fun w1 hw1 => ?_
  have KX : Hid (Bk w1 w.heap.size [.pointer (some ⟨g, 0, none⟩)]) := by rw [← hw1]; exact Bk.new w _ _
  have KG : Hid (Bk w1 g [.int .i64 K, vu32 e, vu32 q, .slice none 0 0, .slice (some A) n c]) := by rw [← hw1]; exact HB.out.alloc _
  have E1 : Hid (Below w.heap.size w w1) := by rw [← hw1]; exact (Below.refl _ _).alloc (Nat.le_refl _) _
  have S1 : Hid (w1.heap.size = w.heap.size + 1) := by rw [← hw1]; exact (World.size_alloc _ _ : _)
  clear hw1
  obtain ⟨L, hL⟩ : ∃ L, 33 * N = L := ⟨_, rfl⟩
  have HL := Lib.hid hL
  obtain ⟨m2, hm2⟩ : ∃ m2 : Nat, n - 2 = m2 := ⟨_, rfl⟩
  have h0 : (n : Int) - 2 = (m2 : Int) := by omega
  have h1 : 10 ≤ m2 := by omega
  have h2 : m2 ≤ c := by omega
  have h3 : (n : Int) ≤ 1000000 := by omega
  have h4 : m2 - 10 = L := by omega
  have h5 : ¬ (c = 10) := by omega
  have h6 : (10 : Int) ≤ (m2 : Int) := by omega
  have HN := Lib.hid hn
  have HLM : Hid (L ≤ 1000000) := by show _ ≤ _; omega
  have HLC : Hid (L ≤ c - 10) := by show _ ≤ _; omega
  have HNL : Hid (b.length = 33 * N + 12) := by show _ = _; omega
  clear hn hl hL hm2
  apply wp_region_rel 12 (Chg NoS) [(Veq _), (Veq _), (Veq _), (Veq _), (Veq _), (Veq _), (Veq _), (Veq _), (Veq _), (Veq _), (Veq _), (ChunkF w1.heap.size (A.add 10) L (c - 10))] [[], [0], [1], [2], [], [4], [5], [6], [7], [8], [3, 9], [10]] [3, 4, 5, 6, 7, 8, 9, 10, 11, 12, 13, 14] (by kernel_rfl) (by kernel_rfl) rfl rfl rfl Chg.refl (fun _ _ _ => Chg.trans) ⟨Veq.lasts, Veq.lasts, Veq.lasts, Veq.lasts, Veq.lasts, Veq.lasts, Veq.lasts, Veq.lasts, Veq.lasts, Veq.lasts, Veq.lasts, ChunkF.lasts, trivial⟩ ?aops ?afin
  case aops =>
    refine ⟨?ao0, ?ao1, ?ao2, ?ao3, ?ao4, ?ao5, ?ao6, ?ao7, ?ao8, ?ao9, ?ao10, ?ao11, trivial⟩
    case ao0 =>
      intro a wx hE hin
      have i1 : a.eval (.tmp 1) = .pointer (some ⟨w.heap.size, 0, none⟩) := hin 1 rfl
      clear hin
      have hcst : ∀ v, a.eval (.const v) = v := fun _ => rfl
      have hfnc : ∀ f, a.eval (.func f) = .func (.func f) #[] #[] := fun _ => rfl
      refine want_none rfl ?_
      unfold Oper.wp
      generalize a.eval = ρ at *
      have c : wx.cell? ⟨w.heap.size, 0, none⟩ = some (.pointer (some ⟨g, 0, none⟩)) := Bk.cell (j := 0) (KX.out.drew.chg hE id) rfl
      go_simp
      try go_bits
      first | exact rel_val (Chg.refl _) | (go_simp; exact rel_val (Chg.refl _))
    case ao1 =>
      rintro a wx hE hin (h0 : a.eval (.tmp 3) = _)
      clear hin
      have hcst : ∀ v, a.eval (.const v) = v := fun _ => rfl
      have hfnc : ∀ f, a.eval (.func f) = .func (.func f) #[] #[] := fun _ => rfl
      refine want_none rfl ?_
      unfold Oper.wp
      generalize a.eval = ρ at *
      go_simp
      try go_bits
      first | exact rel_val (Chg.refl _) | (go_simp; exact rel_val (Chg.refl _))
    case ao2 =>
      rintro a wx hE hin (h1 : a.eval (.tmp 4) = _)
      clear hin
      have hcst : ∀ v, a.eval (.const v) = v := fun _ => rfl
      have hfnc : ∀ f, a.eval (.func f) = .func (.func f) #[] #[] := fun _ => rfl
      refine want_none rfl ?_
      unfold Oper.wp
      generalize a.eval = ρ at *
      go_simp
      try go_bits
      first | exact rel_val (Chg.refl _) | (go_simp; exact rel_val (Chg.refl _))
    case ao3 =>
      rintro a wx hE hin (h2 : a.eval (.tmp 5) = _)
      clear hin
      have hcst : ∀ v, a.eval (.const v) = v := fun _ => rfl
      have hfnc : ∀ f, a.eval (.func f) = .func (.func f) #[] #[] := fun _ => rfl
      refine want_none rfl ?_
      unfold Oper.wp
      generalize a.eval = ρ at *
      have c : wx.cell? ⟨g, 4, none⟩ = some (.slice (some A) n c) := Bk.cell (j := 4) (KG.out.drew.chg hE id) rfl
      go_simp
      try go_bits
      first | exact rel_val (Chg.refl _) | (go_simp; exact rel_val (Chg.refl _))
    case ao4 =>
      intro a wx hE hin
      have i1 : a.eval (.tmp 1) = .pointer (some ⟨w.heap.size, 0, none⟩) := hin 1 rfl
      clear hin
      have hcst : ∀ v, a.eval (.const v) = v := fun _ => rfl
      have hfnc : ∀ f, a.eval (.func f) = .func (.func f) #[] #[] := fun _ => rfl
      refine want_none rfl ?_
      unfold Oper.wp
      generalize a.eval = ρ at *
      have c : wx.cell? ⟨w.heap.size, 0, none⟩ = some (.pointer (some ⟨g, 0, none⟩)) := Bk.cell (j := 0) (KX.out.drew.chg hE id) rfl
      go_simp
      try go_bits
      first | exact rel_val (Chg.refl _) | (go_simp; exact rel_val (Chg.refl _))
    case ao5 =>
      rintro a wx hE hin (h4 : a.eval (.tmp 7) = _)
      clear hin
      have hcst : ∀ v, a.eval (.const v) = v := fun _ => rfl
      have hfnc : ∀ f, a.eval (.func f) = .func (.func f) #[] #[] := fun _ => rfl
      refine want_none rfl ?_
      unfold Oper.wp
      generalize a.eval = ρ at *
      go_simp
      try go_bits
      first | exact rel_val (Chg.refl _) | (go_simp; exact rel_val (Chg.refl _))
    case ao6 =>
      rintro a wx hE hin (h5 : a.eval (.tmp 8) = _)
      clear hin
      have hcst : ∀ v, a.eval (.const v) = v := fun _ => rfl
      have hfnc : ∀ f, a.eval (.func f) = .func (.func f) #[] #[] := fun _ => rfl
      refine want_none rfl ?_
      unfold Oper.wp
      generalize a.eval = ρ at *
      go_simp
      try go_bits
      first | exact rel_val (Chg.refl _) | (go_simp; exact rel_val (Chg.refl _))
    case ao7 =>
      rintro a wx hE hin (h6 : a.eval (.tmp 9) = _)
      clear hin
      have hcst : ∀ v, a.eval (.const v) = v := fun _ => rfl
      have hfnc : ∀ f, a.eval (.func f) = .func (.func f) #[] #[] := fun _ => rfl
      refine want_none rfl ?_
      unfold Oper.wp
      generalize a.eval = ρ at *
      have c : wx.cell? ⟨g, 4, none⟩ = some (.slice (some A) n c) := Bk.cell (j := 4) (KG.out.drew.chg hE id) rfl
      go_simp
      try go_bits
      first | exact rel_val (Chg.refl _) | (go_simp; exact rel_val (Chg.refl _))
    case ao8 =>
      rintro a wx hE hin (h7 : a.eval (.tmp 10) = _)
      clear hin
      have hcst : ∀ v, a.eval (.const v) = v := fun _ => rfl
      have hfnc : ∀ f, a.eval (.func f) = .func (.func f) #[] #[] := fun _ => rfl
      refine want_none rfl ?_
      unfold Oper.wp
      generalize a.eval = ρ at *
      go_simp
      try go_bits
      first | exact rel_val (Chg.refl _) | (go_simp; exact rel_val (Chg.refl _))
    case ao9 =>
      rintro a wx hE hin (h8 : a.eval (.tmp 11) = _)
      clear hin
      have hcst : ∀ v, a.eval (.const v) = v := fun _ => rfl
      have hfnc : ∀ f, a.eval (.func f) = .func (.func f) #[] #[] := fun _ => rfl
      refine want_none rfl ?_
      unfold Oper.wp
      generalize a.eval = ρ at *
      go_simp
      try go_bits
      first | exact rel_val (Chg.refl _) | (go_simp; exact rel_val (Chg.refl _))
    case ao10 =>
      rintro a wx hE hin (h3 : a.eval (.tmp 6) = _) (h9 : a.eval (.tmp 12) = _)
      clear hin
      have hcst : ∀ v, a.eval (.const v) = v := fun _ => rfl
      have hfnc : ∀ f, a.eval (.func f) = .func (.func f) #[] #[] := fun _ => rfl
      refine want_none rfl ?_
      unfold Oper.wp
      generalize a.eval = ρ at *
      go_simp
      try go_bits
      first | exact rel_val (Chg.refl _) | (go_simp; exact rel_val (Chg.refl _))
    case ao11 =>
      rintro a wx hE hin (h10 : a.eval (.tmp 13) = _)
      clear hin
      have hcst : ∀ v, a.eval (.const v) = v := fun _ => rfl
      have hfnc : ∀ f, a.eval (.func f) = .func (.func f) #[] #[] := fun _ => rfl
      refine want_none rfl ?_
      unfold Oper.wp
      generalize a.eval = ρ at *
      go_simp
      refine (chunk_calls _ _ _ wx).mono ?_
      rintro e w' ⟨Bs, Bn, rfl, h1, h2, h3, h4, h5, hb⟩
      exact ⟨_, rfl, ⟨Bs, Bn, rfl, Nat.le_trans hE.size h1, Nat.le_trans hE.size h2, h3, h4, h5⟩, .of_below hb⟩
  case afin =>
    intro wx hE
    rintro _ rfl _ rfl _ rfl _ rfl _ rfl _ rfl _ rfl _ rfl _ rfl _ rfl _ rfl _ ⟨Bs, Bn, rfl, hs1, hs2, hs3, hs4, hs5⟩
    simp only [FinOk, List.take_succ_cons, List.take_zero, List.take_nil, List.drop_succ_cons, List.drop_zero, List.drop_nil, Act.put, List.setIfInBounds_toArray, List.set_cons_succ, List.set_cons_zero]
    have KX2 : Hid (Bk wx w.heap.size [.pointer (some ⟨g, 0, none⟩)]) := KX.out.drew.chg hE id
    have KG2 : Hid (Bk wx g [.int .i64 K, vu32 e, vu32 q, .slice none 0 0, .slice (some A) n c]) := KG.out.drew.chg hE id
    have C2 : Hid (Chg (· = g) w wx) := (Chg.of_below E1.out).trans ((hE.undrew).mono fun _ hk => hk.elim)
    have HS4 := Lib.hid hs4
    have HS5 := Lib.hid hs5
    have HBB : Hid (Bs ≠ g ∧ Bn ≠ g ∧ w.heap.size < wx.heap.size) := ⟨by have := S1.out; have := HGW.out; omega, by have := S1.out; have := HGW.out; omega, by have := S1.out; have := hE.size; show _ < _; have h : w1.drew.heap.size = w1.heap.size := rfl; omega⟩
    clear hE hs4 hs5 KX KG E1 hs1 hs2 hs3
    go_wp2_with fail
    refine (wpIn_wide (n := 5)).1 ?_
    refine wpIn_rangeFunc_ownG (F := Fence.wide) (n := 5) rfl (by decide) (gf := 70) (lb := #[.pointer (some ⟨Bs, 0, none⟩), .pointer (some ⟨Bn, 0, none⟩)]) rfl trivial (enters_of Try.func70 (by kernel_rfl) rfl)
      (chunk_stops 4 Bs Bn wx.heap.size (· = g) (A.add 10) N L (c - 10) HL.out HLC.out (by omega) HLM.out HS4.out.lt HS5.out.lt HBB.out.1 HBB.out.2.1 wx (Nat.le_refl _) (HS4.out.cell (j := 0) rfl) (HS5.out.cell (j := 0) rfl))
      (fun h k => h.trans k) (fun W l o o' hl ho _ _ => kpx_put W l o o' hl ho) (Below.refl _ _) (fun _ => rfl)
      (PutsI w wx.heap.size g K e q A N n c b) (fun _ _ _ => False) (PutsI.own (Nat.le_of_lt HBB.out.2.2)) (fun _ _ _ _ _ hs _ _ => hs)
      ⟨_, KG2.out, ⟨rfl, .inl ⟨rfl, rfl⟩⟩, KX2.out, C2.out, Nat.le_refl _⟩
      (fun x => { tmps := #[.pointer (some ⟨g, 0, none⟩), .pointer (some ⟨w.heap.size, 0, none⟩), .slice (some ((A.add 10).add (33 * x.val))) 33 33, .pointer (some ⟨g, 0, none⟩), .pointer (some ⟨g, 0, none⟩), .pointer (some ⟨g, 4, none⟩), .slice (some A) n c, .pointer (some ⟨g, 0, none⟩), .pointer (some ⟨g, 0, none⟩), .pointer (some ⟨g, 4, none⟩), .slice (some A) n c, .int .i64 n, .int .i64 m2, .slice (some ⟨A.block, A.off + 10, none⟩) L (c - 10), .func (.func 70) #[] #[.pointer (some ⟨Bs, 0, none⟩), .pointer (some ⟨Bn, 0, none⟩)], .slice (some ((A.add 10).add (33 * x.val))) 33 33, undef, undef, undef, undef, undef, undef, undef, undef, undef, undef, undef, undef, undef, undef, undef, undef, undef, undef, undef, undef], defers := [] }) ?assign ?body ?done ?stop
    case assign =>
      intro l x W K hK
      obtain ⟨AX, hAX⟩ : ∃ AX, (A.add 10).add (33 * x.val) = AX := ⟨_, rfl⟩
      dsimp only at hK ⊢
      rw [hAX] at hK ⊢
      clear hAX
      gi_wp2
      exact hK
    case stop =>
      rintro D cc pre W _ _ h _
      exact h.elim
    case done =>
      rintro D ys W hD hys ⟨v, h1, h2, h3, h4, h5⟩ hK
      have HK := Lib.hid hK
      have H1 := Lib.hid h1
      have H2 := Lib.hid h2
      have H4 := Lib.hid h4
      clear hK h1 h2 h3 h4
      simp only [Exit.inBlock, Exit.then]
      refine ⟨by simp, .inl ⟨_, _, rfl, run_takeDeferred HK.out, ?_⟩⟩
      have hc : Chg (fun j => j = D) W (W.putObj D (.deferred none)) := (chg_of_grown (grownBy_putObj' W D (.deferred none))).mono fun j hj => by cases hj; rfl
      have nD : ∀ k, (∃ cs t fr, W.heap[k]? = some (.cells cs t fr)) → ¬ (k = D) := fun k ⟨cs, t, fr, hk⟩ he => by
        rw [he, HK.out] at hk
        cases hk
      have hlen : ys.length = N := by rw [← List.length_map (f := (·.val)), hys, List.length_range]
      have hmap : (ys.map fun x => putAt b x.val) = putsN b N := by rw [putsN, ← hys, List.map_map]; rfl
      refine ⟨_, Go.results_none rfl _ _ _, rfl, v, H1.out.chg hc (nD _ (by obtain ⟨t, hk⟩ := H1.out; exact ⟨_, t, _, hk⟩)), ?_, then2 H4.out hc (fun j hj hlt => by have := HBB.out.2.2; omega)⟩
      have ho := own_chg H2.out hc (fun k hk => nD k (own_cells H2.out hk))
      rw [hmap, hlen] at ho
      exact own_lowerQ ho (Nat.le_of_lt HBB.out.2.2)
    case body =>
      rintro l pre x W ⟨v, h1, h2, h3, h4, h5⟩ hlen
      have KGr := Lib.hid h1
      have OR := Lib.hid h2
      have KXr := Lib.hid h3
      have CR := Lib.hid h4
      have HWS := Lib.hid h5
      clear h1 h2 h3 h4 h5 KX2 KG2 C2
      have hx := x.isLt
      obtain ⟨xn, hxn⟩ : ∃ xn, x.val = xn := ⟨_, rfl⟩
      have HXN := Lib.hid hxn
      rw [hxn] at hx
      obtain ⟨AX, hAX⟩ : ∃ AX, (A.add 10).add (33 * xn) = AX := ⟨_, rfl⟩
      have HAX : Hid (AX = A.add (10 + 33 * xn)) := by show _ = _; rw [← hAX, add_add]
      have NGV : Hid (¬ LvQ v g) := fun h => by have h1 := (OR.out.lt g h).1; have h2 := HBB.out.2.2; have h3 := HGW.out; omega
      have NXV : Hid (¬ LvQ v w.heap.size) := fun h => by have h1 := (OR.out.lt _ h).1; have h2 := HBB.out.2.2; omega
      have HNX : Hid (∀ j, W.heap.size ≤ j → ¬ LvQ v j) := fun j hj h => by have := (OR.out.lt j h).2; omega
      have HPL : Hid ((putAt b xn).data.length = 32) := putAt_len HNL.out hx
      have HN5 : Hid ((pre.length + 1) * 40 ≤ 140737488355328) := by show _ ≤ _; omega
      have HRA : Hid (∀ u, Chg (LvQ v) W.drew u → Rd u (some A) (bts b)) := fun u hu => HRDW.out u (then2 CR.out hu.undrew (fun j hj hlt => by have h1 := (OR.out.lt j hj).1; have h2 := HBB.out.2.2; omega))
      obtain ⟨bv, hbv⟩ : ∃ bv, (b.getD (10 + 33 * xn) 0).toNat = bv := ⟨_, rfl⟩
      have hbv256 : bv < 256 := by rw [← hbv]; exact (b.getD (10 + 33 * xn) 0).toNat_lt
      have HAT : Hid ((putAt b xn).at_ = (bv : Int)) := by show ((b.getD (10 + 33 * xn) 0).toNat : Int) = _; rw [hbv]
      have HBY : Hid (∀ u, Chg (LvQ v) W.drew u → u.cell? AX = some (.int .u8 (bv : Int))) := fun u hu => by
        obtain ⟨ad, ha, hcell⟩ := (HRA.out u hu).bt (10 + 33 * xn) (by rw [HNL.out]; omega)
        injection ha with ha
        subst ha
        rw [HAX.out, ← hbv]
        exact hcell
      have HRD : Hid (∀ u, Chg (LvQ v) W.drew u → Rd u (some (AX.add 1)) (bts (putAt b xn).data)) := fun u hu => by
        have h := ((HRA.out u hu).drop (11 + 33 * xn)).take 32
        rw [HAX.out, add_add, show 10 + 33 * xn + 1 = 11 + 33 * xn by omega]
        rw [bts_drop, bts_take] at h
        exact h
      dsimp only
      rw [hxn, hAX]
      clear hAX hxn hbv
      refine wpIn_block ?_
      apply wpIn_region_relt _ _ (by kernel_rfl) (fun ⟨_, _, h⟩ => h) 17 16 32 (OwnQ wx.heap.size (pre.length + 1) ((pre ++ [x]).map (fun x => putAt b x.val)) W.heap.size v) (Chg (LvQ v)) (Chg NoS) (Chg (LvQ v)) [(Veq _), (Veq _), (Veq _), (Veq _), (Veq _), (Veq _), (Veq _), (Veq _), (Veq _), (Veq _), (Veq _), (Veq _), (Veq _), (Veq (.agg (bts (putAt b xn).data).toArray)), (Veq (.agg (putC (putAt b xn)).toArray)), (RowAt (LvQ v) 1 (putC (putAt b xn))), (fun _ _ => True)] [[], [], [1], [2], [3], [4], [], [6], [7], [8], [], [10], [11], [12], [9, 13], [14], [5, 15]] [16, 17, 18, 19, 20, 21, 22, 23, 24, 25, 26, 27, 28, 29, 30, 31, 32] (by kernel_rfl) (by kernel_rfl) rfl rfl rfl (by kernel_rfl) Chg.refl (fun _ _ _ => Chg.trans) (fun _ _ _ => Chg.trans) (fun _ _ h => h.mono (fun _ hk => hk.elim)) (fun _ _ h => h) ⟨Veq.lasts, Veq.lasts, Veq.lasts, Veq.lasts, Veq.lasts, Veq.lasts, Veq.lasts, Veq.lasts, Veq.lasts, Veq.lasts, Veq.lasts, Veq.lasts, Veq.lasts, Veq.lasts, Veq.lasts, (fun w w' v h => RowAt.lasts w w' v (h.mono (fun _ hk => hk.elim))), (fun _ _ _ _ _ => trivial), trivial⟩ ⟨Veq.lasts, Veq.lasts, Veq.lasts, Veq.lasts, Veq.lasts, Veq.lasts, Veq.lasts, Veq.lasts, Veq.lasts, Veq.lasts, Veq.lasts, Veq.lasts, Veq.lasts, Veq.lasts, Veq.lasts, RowAt.lasts, (fun _ _ _ _ _ => trivial), trivial⟩ OwnQ.lasts (fun F h w v => by cases h; trivial) ?bops ?bfin
      case bops =>
        refine ⟨?bo0, ?bo1, ?bo2, ?bo3, ?bo4, ?bo5, ?bo6, ?bo7, ?bo8, ?bo9, ?bo10, ?bo11, ?bo12, ?bo13, ?bo14, ?bo15, ?bo16, trivial⟩
        case bo0 =>
          rw [if_neg (by decide)]
          intro a wz hE hin
          have i1 : a.eval (.tmp 1) = .pointer (some ⟨w.heap.size, 0, none⟩) := hin 1 rfl
          clear hin
          have hcst : ∀ v, a.eval (.const v) = v := fun _ => rfl
          have hfnc : ∀ f, a.eval (.func f) = .func (.func f) #[] #[] := fun _ => rfl
          refine want_none rfl ?_
          unfold Oper.wp
          generalize a.eval = ρ at *
          have c : wz.cell? ⟨w.heap.size, 0, none⟩ = some (.pointer (some ⟨g, 0, none⟩)) := Bk.cell (j := 0) (KXr.out.drew.chg hE NXV.out) rfl
          go_simp
          try go_bits
          first | exact rel_val (Chg.refl _) | (go_simp; exact rel_val (Chg.refl _))
        case bo1 =>
          rw [if_neg (by decide)]
          intro a wz hE hin
          have i1 : a.eval (.tmp 1) = .pointer (some ⟨w.heap.size, 0, none⟩) := hin 1 rfl
          clear hin
          have hcst : ∀ v, a.eval (.const v) = v := fun _ => rfl
          have hfnc : ∀ f, a.eval (.func f) = .func (.func f) #[] #[] := fun _ => rfl
          refine want_none rfl ?_
          unfold Oper.wp
          generalize a.eval = ρ at *
          have c : wz.cell? ⟨w.heap.size, 0, none⟩ = some (.pointer (some ⟨g, 0, none⟩)) := Bk.cell (j := 0) (KXr.out.drew.chg hE NXV.out) rfl
          go_simp
          try go_bits
          first | exact rel_val (Chg.refl _) | (go_simp; exact rel_val (Chg.refl _))
        case bo2 =>
          rw [if_neg (by decide)]
          rintro a wz hE hin (h1 : a.eval (.tmp 17) = _)
          clear hin
          have hcst : ∀ v, a.eval (.const v) = v := fun _ => rfl
          have hfnc : ∀ f, a.eval (.func f) = .func (.func f) #[] #[] := fun _ => rfl
          refine want_none rfl ?_
          unfold Oper.wp
          generalize a.eval = ρ at *
          go_simp
          try go_bits
          first | exact rel_val (Chg.refl _) | (go_simp; exact rel_val (Chg.refl _))
        case bo3 =>
          rw [if_neg (by decide)]
          rintro a wz hE hin (h2 : a.eval (.tmp 18) = _)
          clear hin
          have hcst : ∀ v, a.eval (.const v) = v := fun _ => rfl
          have hfnc : ∀ f, a.eval (.func f) = .func (.func f) #[] #[] := fun _ => rfl
          refine want_none rfl ?_
          unfold Oper.wp
          generalize a.eval = ρ at *
          go_simp
          try go_bits
          first | exact rel_val (Chg.refl _) | (go_simp; exact rel_val (Chg.refl _))
        case bo4 =>
          rw [if_neg (by decide)]
          rintro a wz hE hin (h3 : a.eval (.tmp 19) = _)
          clear hin
          have hcst : ∀ v, a.eval (.const v) = v := fun _ => rfl
          have hfnc : ∀ f, a.eval (.func f) = .func (.func f) #[] #[] := fun _ => rfl
          refine want_none rfl ?_
          unfold Oper.wp
          generalize a.eval = ρ at *
          go_simp
          try go_bits
          first | exact rel_val (Chg.refl _) | (go_simp; exact rel_val (Chg.refl _))
        case bo5 =>
          rw [if_neg (by decide)]
          rintro a wz hE hin (h4 : a.eval (.tmp 20) = _)
          clear hin
          have hcst : ∀ v, a.eval (.const v) = v := fun _ => rfl
          have hfnc : ∀ f, a.eval (.func f) = .func (.func f) #[] #[] := fun _ => rfl
          refine want_none rfl ?_
          unfold Oper.wp
          generalize a.eval = ρ at *
          have c : wz.cell? ⟨g, 3, none⟩ = some v := Bk.cell (j := 3) (KGr.out.drew.chg hE NGV.out) rfl
          go_simp
          try go_bits
          first | exact rel_val (Chg.refl _) | (go_simp; exact rel_val (Chg.refl _))
        case bo6 =>
          rw [if_neg (by decide)]
          intro a wz hE hin
          have i2 : a.eval (.tmp 2) = .slice (some AX) 33 33 := hin 2 rfl
          clear hin
          have hcst : ∀ v, a.eval (.const v) = v := fun _ => rfl
          have hfnc : ∀ f, a.eval (.func f) = .func (.func f) #[] #[] := fun _ => rfl
          refine want_none rfl ?_
          unfold Oper.wp
          generalize a.eval = ρ at *
          go_simp
          try go_bits
          first | exact rel_val (Chg.refl _) | (go_simp; exact rel_val (Chg.refl _))
        case bo7 =>
          rw [if_neg (by decide)]
          rintro a wz hE hin (h6 : a.eval (.tmp 22) = _)
          clear hin
          have hcst : ∀ v, a.eval (.const v) = v := fun _ => rfl
          have hfnc : ∀ f, a.eval (.func f) = .func (.func f) #[] #[] := fun _ => rfl
          refine want_none rfl ?_
          unfold Oper.wp
          generalize a.eval = ρ at *
          go_simp
          try go_bits
          first | exact rel_val (Chg.refl _) | (go_simp; exact rel_val (Chg.refl _))
        case bo8 =>
          rw [if_neg (by decide)]
          rintro a wz hE hin (h7 : a.eval (.tmp 23) = _)
          clear hin
          have hcst : ∀ v, a.eval (.const v) = v := fun _ => rfl
          have hfnc : ∀ f, a.eval (.func f) = .func (.func f) #[] #[] := fun _ => rfl
          refine want_none rfl ?_
          unfold Oper.wp
          generalize a.eval = ρ at *
          have c : wz.cell? AX = some (.int .u8 (bv : Int)) := (HBY.out wz hE)
          go_simp
          try go_bits
          first | exact rel_val (Chg.refl _) | (go_simp; exact rel_val (Chg.refl _))
        case bo9 =>
          rw [if_neg (by decide)]
          rintro a wz hE hin (h8 : a.eval (.tmp 24) = _)
          clear hin
          have hcst : ∀ v, a.eval (.const v) = v := fun _ => rfl
          have hfnc : ∀ f, a.eval (.func f) = .func (.func f) #[] #[] := fun _ => rfl
          refine want_none rfl ?_
          unfold Oper.wp
          generalize a.eval = ρ at *
          go_simp
          try go_bits
          first | exact rel_val (Chg.refl _) | (go_simp; exact rel_val (Chg.refl _))
        case bo10 =>
          rw [if_neg (by decide)]
          intro a wz hE hin
          have i2 : a.eval (.tmp 2) = .slice (some AX) 33 33 := hin 2 rfl
          clear hin
          have hcst : ∀ v, a.eval (.const v) = v := fun _ => rfl
          have hfnc : ∀ f, a.eval (.func f) = .func (.func f) #[] #[] := fun _ => rfl
          refine want_none rfl ?_
          unfold Oper.wp
          generalize a.eval = ρ at *
          go_simp
          try go_bits
          first | exact rel_val (Chg.refl _) | (go_simp; exact rel_val (Chg.refl _))
        case bo11 =>
          rw [if_neg (by decide)]
          rintro a wz hE hin (h10 : a.eval (.tmp 26) = _)
          clear hin
          have hcst : ∀ v, a.eval (.const v) = v := fun _ => rfl
          have hfnc : ∀ f, a.eval (.func f) = .func (.func f) #[] #[] := fun _ => rfl
          refine want_none rfl ?_
          unfold Oper.wp
          generalize a.eval = ρ at *
          go_simp
          try go_bits
          first | exact rel_val (Chg.refl _) | (go_simp; exact rel_val (Chg.refl _))
        case bo12 =>
          rw [if_neg (by decide)]
          rintro a wz hE hin (h11 : a.eval (.tmp 27) = _)
          clear hin
          have hcst : ∀ v, a.eval (.const v) = v := fun _ => rfl
          have hfnc : ∀ f, a.eval (.func f) = .func (.func f) #[] #[] := fun _ => rfl
          refine want_none rfl ?_
          unfold Oper.wp
          generalize a.eval = ρ at *
          go_simp
          try go_bits
          first | exact rel_val (Chg.refl _) | (go_simp; exact rel_val (Chg.refl _))
        case bo13 =>
          rw [if_neg (by decide)]
          rintro a wz hE hin (h12 : a.eval (.tmp 28) = _)
          clear hin
          have hcst : ∀ v, a.eval (.const v) = v := fun _ => rfl
          have hfnc : ∀ f, a.eval (.func f) = .func (.func f) #[] #[] := fun _ => rfl
          refine want_none rfl ?_
          exact wp_ldrQ 35 _ rfl _ 32 (bts (putAt b xn).data) h12 (HRD.out wz hE) (by kernel_rfl) (by kernel_rfl) (by rw [bts_length]; exact HPL.out) (rel_val (Chg.refl _))
        case bo14 =>
          rw [if_neg (by decide)]
          rintro a wz hE hin (h9 : a.eval (.tmp 25) = _) (h13 : a.eval (.tmp 29) = _)
          clear hin
          have hcst : ∀ v, a.eval (.const v) = v := fun _ => rfl
          have hfnc : ∀ f, a.eval (.func f) = .func (.func f) #[] #[] := fun _ => rfl
          refine want_none rfl ?_
          exact wp_bld 54 [(0, .tmp 25), (1, .tmp 29)] rfl (.int .i64 0 :: bts (List.replicate 32 0)) [(0, [.int .i64 (putAt b xn).at_]), (1, bts (putAt b xn).data)] (putC (putAt b xn)) (by kernel_rfl) (by kernel_rfl) ⟨by rw [h9, HAT.out]; rfl, ⟨1, rfl, by kernel_rfl, by decide⟩, by rw [h13]; rfl, ⟨32, by rw [bts_length]; exact HPL.out, by kernel_rfl, by decide⟩, trivial⟩ (put_splice HPL.out) (rel_val (Chg.refl _))
        case bo15 =>
          rw [if_neg (by decide)]
          rintro a wz hE hin (h14 : a.eval (.tmp 30) = _)
          clear hin
          have hcst : ∀ v, a.eval (.const v) = v := fun _ => rfl
          have hfnc : ∀ f, a.eval (.func f) = .func (.func f) #[] #[] := fun _ => rfl
          refine want_none rfl ?_
          exact wp_bs1 23 54 _ rfl zPut 33 (putC (putAt b xn)) Try.underlying23 infoPut rfl (by decide) (by decide) (by rw [h14]; rfl) (putC_len HPL.out) ⟨_, rfl, ⟨wz.heap.size, rfl, HNX.out _ hE.size, _, _, heap_alloc_new wz _⟩, (Chg.refl _).alloc _⟩
        case bo16 =>
          rw [if_pos (by decide)]
          rintro a wz hE hin (h5 : a.eval (.tmp 21) = _) ⟨g9s, h9, s9, t9, f9, c9⟩
          clear hin
          have hcst : ∀ v, a.eval (.const v) = v := fun _ => rfl
          have hfnc : ∀ f, a.eval (.func f) = .func (.func f) #[] #[] := fun _ => rfl
          refine step_append_rd _ _ 23 rfl wx.heap.size 54 zPut 33 40 Try.underlying23 infoPutQ rfl (by decide) (by decide) v pre.length ((pre.map fun x => putAt b x.val).flatMap putC) h5 (own_chg (own_drew OR.out) hE (fun _ _ => id)) (some ⟨g9s, 0, none⟩) 1 1 (putC (putAt b xn)) h9 (putC_len HPL.out) (Rd.row (S := NoS) c9) (one_put _) (by have := HN5.out; omega) (Nat.le_trans HWS.out hE.size) ?_
          intro v1 w1 ho1 hg1 hat1
          refine ⟨v1, rfl, ?_, ⟨hg1.os, hg1.tape, hg1.output, hg1.size, fun j hj hne => hg1.block j hj (fun he => hne he.symm)⟩⟩
          rw [if_pos rfl]
          refine ⟨?_, hat1.imp id (fun h => ⟨_, h, hE.size⟩)⟩
          rw [List.map_append, List.flatMap_append, List.map_singleton, List.flatMap_singleton, HXN.out]
          exact ho1
      case bfin =>
        intro wz hE
        rintro _ rfl _ rfl _ rfl _ rfl _ rfl v rfl _ rfl _ rfl _ rfl _ rfl _ rfl _ rfl _ rfl _ rfl _ rfl _ ⟨g15, rfl, s15, t15, f15, c15⟩ vsp _ hsp
        simp only [FinOk, List.take_succ_cons, List.take_zero, List.take_nil, List.drop_succ_cons, List.drop_zero, List.drop_nil, Act.put, List.setIfInBounds_toArray, List.set_cons_succ, List.set_cons_zero]
        simp only [Act.put, List.setIfInBounds_toArray, List.set_cons_succ, List.set_cons_zero] at hsp
        have hsp' : OwnQ wx.heap.size (pre.length + 1) ((pre ++ [x]).map (fun x => putAt b x.val)) W.heap.size v wz vsp := hsp
        clear hsp
        obtain ⟨ho3, hat3⟩ := hsp'
        obtain ⟨A2, c2, rfl, _, _, _⟩ := own_rd ho3
        have GX : Hid (Bk wz g [.int .i64 K, vu32 e, vu32 q, v, .slice (some A) n c]) := KGr.out.drew.chg hE NGV.out
        have XX : Hid (Bk wz w.heap.size [.pointer (some ⟨g, 0, none⟩)]) := KXr.out.drew.chg hE NXV.out
        have OX := Lib.hid ho3
        have CX : Hid (Chg (LvQ v) W wz) := hE.undrew
        clear ho3 hE
        go_wp2_with (first
          | (refine wpList_st rfl 23 (.tmp 35) (.tmp 32) rfl g 3 1 [.int .i64 K, vu32 e, vu32 q, v, .slice (some A) n c] [.slice A2 (pre.length + 1) c2] rfl rfl GX.out (by kernel_rfl) rfl (by simp) (fun u hu => by obtain rfl := List.mem_singleton.1 hu; rfl) ?_))
        intro w4 hb4 hc4
        have hb5 : Bk w4 g [.int .i64 K, vu32 e, vu32 q, .slice A2 (pre.length + 1) c2, .slice (some A) n c] := hb4
        go_wp2_with fail
        refine ⟨⟨Nat.le_trans CX.out.size hc4.size, fun k o hB hk ho => ?_⟩, fun j hj hjg => ?_, .slice A2 (pre.length + 1) c2, hb5, ?_, ?_, ?_, ?_⟩
        · have nc : ¬ (∃ cs t fr, W.heap[k]? = some (.cells cs t fr)) := fun ⟨cs, t, fr, h⟩ => by rw [hk] at h; cases h; cases ho
          exact hc4.get (CX.out.get hk (fun h => nc (own_cells OR.out h))) (fun h => nc (by subst h; obtain ⟨t, hh⟩ := KGr.out; exact ⟨_, t, _, hh⟩))
        · exact (hc4.block j (by have := CX.out.size; have := HWS.out; omega) hjg).trans (CX.out.block j (by have := HWS.out; omega) (fun h => by have := (OR.out.lt j h).1; omega))
        · have h := own_chg OX.out hc4 (fun j hj he => by have h1 := (OX.out.lt j hj).1; have h2 := HBB.out.2.2; have h3 := HGW.out; omega)
          rw [List.length_append, List.length_singleton]
          exact h
        · exact XX.out.chg hc4 (fun h => by have := HGW.out; omega)
        · exact then2 (then2 CR.out CX.out (fun j hj hlt => by have h1 := (OR.out.lt j hj).1; have h2 := HBB.out.2.2; omega)) hc4 (fun j hj _ => hj)
        · have h1 := CX.out.size; have h2 := hc4.size; have h3 := HWS.out; omega
end Go.Proofs.Ytcmfkdfegfablaa
