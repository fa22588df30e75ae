
import Derived.BigGuard
import Derived.Test.YtcmfkdfegfablaaNodeTornP

/- The walk of NodeTorn. -/
namespace Go.Proofs.Ytcmfkdfegfablaa
open Go.RowKit
set_option linter.unusedVariables false
set_option linter.unusedSimpArgs false

def tL0 : Lab := ⟨0, 0, 1, 5, 0⟩
theorem one_secs (S : List (List UInt8)) : ∀ u ∈ secs S, u.oneCell' = true := by
  intro u hu
  obtain ⟨b, _, hb⟩ := List.mem_flatMap.1 hu
  exact one_bts b u hb
theorem u32_succ (q : UInt32) : Value.int .u32 (((q.toNat : Int) + 1) % 4294967296) = vu32 (q + 1) := by
  rw [vu32, UInt32.toNat_add]
  rfl
theorem rc_put_at {w : World} {r : RecV} (h : RecOk w r) {j : Nat} (hj : j < r.ps.length) : (∀ w', Below w.heap.size w w' → ∀ ad, r.A = some ad → w'.cell? (ad.add (j * 33)) = some (.int .i64 r.ps[j].at_)) ∧ ∀ w', Below w.heap.size w w' → ∀ ad, r.A = some ad → Rd w' (some (ad.add (j * 33))) (putC r.ps[j]) :=
  ⟨fun w' hb ad hA => put_at (by have := h.rd.below hb; rwa [hA] at this) h.ok hj, fun w' hb ad hA => put_rd (by have := h.rd.below hb; rwa [hA] at this) h.ok hj⟩
theorem ok_fuse {S : List (List UInt8)} (f : Nat) (h : f < 24) : DOk (-1) 0 ⟨S, [], (f : Int), false⟩ := ⟨Nat.zero_le _, by show (-1 : Int) ≤ (f : Int); omega, by show (f : Int) ≤ _; omega⟩
theorem put_fuse_ok {S : List (List UInt8)} {f : Nat} {q : UInt32} {ps : List PutV} (h : S.length = 19) (hg : goodB ps = true) (hf : f < 24) (hz : ((Dst.mk S [] (f : Int) false).walPut 1 2 q ps).2 = 0) : DOk (-1) 0 ((Dst.mk S [] (f : Int) false).walPut 1 2 q ps).1 := by
  by_cases c : f < ps.length + 3
  · have hp : (Dst.mk S [] (f : Int) false).walPut 1 2 q ps = (cutD S 1 2 q ps f, 20) := put_cut (S := S) (fr := 1) (by omega) hg c
    rw [hp] at hz
    exact absurd hz (by exact (by decide : ¬ (20 : Int) = 0))
  · have hp : (Dst.mk S [] (f : Int) false).walPut 1 2 q ps = (⟨putS S 1 2 q ps, [], dec (f : Int) (ps.length + 3), false⟩, 0) := put_all (S := S) (fr := 1) (by omega) hg (.inr (by omega))
    rw [hp]
    refine ⟨Nat.zero_le _, ?_, ?_⟩
    · show (-1 : Int) ≤ dec (f : Int) _
      unfold dec
      split <;> omega
    · show dec (f : Int) _ ≤ _
      unfold dec
      split <;> omega
theorem DSes.oany {w0 w w' : World} {g gs : Nat} {lv : Value} {s t : Dst} {L : Lab} {z : Int} {e : Ending} (hs : DSes 92 w0 w g gs lv s) (hp : OPost w g gs lv t z L e w') : ∃ p lv', e = .returned (.tuple #[.pointer p, .int .i64 z]) ∧ DSes 92 w0 w' g gs lv' t ∧ (∀ j, footD g gs lv' j → footD g gs lv j ∨ w.heap.size ≤ j) ∧ Chg (footD g gs lv) w w' := by
  obtain ⟨lv', h2, h4, h5, h6⟩ := hp
  have hd := hs.onto (x := w.heap.size) h2 h4 (h5.mono fun _ hj => .inl hj) hs.bel.size
  by_cases hz : z = 0
  · rw [if_pos hz] at h6
    obtain ⟨h, h7, _⟩ := h6
    exact ⟨_, lv', by rw [h7, hz], hd, h4, h5⟩
  · rw [if_neg hz] at h6
    exact ⟨_, lv', h6, hd, h4, h5⟩
theorem torn_and : ∀ n : Fin 256, Go.bits .and .u8 (n.val : Int) 1 = ((n.val % 2 : Nat) : Int) := by decide +kernel
theorem torn_bit (y k : Nat) (hy : y < 256) : ∃ b : UInt8, (Value.int .u8 (Go.bits .and .u8 ((y : Int) / 2 ^ k) 1)) = vu8 b := by
  have h1 : y / 2 ^ k < 256 := Nat.lt_of_le_of_lt (Nat.div_le_self _ _) hy
  have h2 : ((y : Int) / 2 ^ k) = ((y / 2 ^ k : Nat) : Int) := by push_cast; rfl
  refine ⟨UInt8.ofNat (y / 2 ^ k % 2), ?_⟩
  rw [byte_at (y / 2 ^ k % 2) (by omega), h2]
  exact congrArg _ (torn_and ⟨y / 2 ^ k, h1⟩)
theorem torn_later {L : Lab} {k : Nat} {kq : UInt32} (h1 : L.s.toNat = k) (h2 : L.e = 0 ∨ L.e = 2) (hk : kq.toNat = k + 1) : laterB 2 kq L.e L.s = true := by
  simp only [laterB, Bool.or_eq_true, Bool.and_eq_true, decide_eq_true_eq]
  rcases h2 with h2 | h2
  · exact .inl (by rw [h2]; decide)
  · exact .inr ⟨by rw [h2], by omega⟩
theorem torn_next {S : List (List UInt8)} {L : Lab} {W : List (List UInt8)} {q : UInt32} {ps : List PutV} {d : UInt16} (h : StA S L (fun b => W.getD b [])) (hg : goodB ps = true) (h12 : W.length = 12) : StA (appS S 2 q ps (carryL L 2 q ps d)) (carryL L 2 q ps d) (fun b => (wantS W ps).getD b []) := by
  have h1 := stA_app (q := q) (d := d) h hg
  exact ⟨h1.len, h1.lab, h1.hdr, fun b hb => by rw [h1.blk b hb, wantS_at ps W b h12 (goodB_ats' hg) hb]⟩
theorem torn_neq {l m : Lab} (h : l = m) : (true ^^ decide (l = m)) = false := by rw [decide_eq_true h]; rfl
theorem torn_eq {l m : Lab} (h : l = m) : (false ^^ decide (l = m)) = true := by rw [decide_eq_true h]; rfl
theorem torn_not {l m : Lab} (h : ¬ l = m) : (false ^^ decide (l = m)) = false := by rw [decide_eq_false h]; rfl
def TornRel (w : World) (gd gsd hn gk go gm n : Nat) (bn : List Value) (v : Value) (wr : World) : Prop := ∃ k : Nat, k ≤ n ∧ v = .int .i64 k ∧ Below w.heap.size w wr ∧ (k < n → ∃ (lv : Value) (S : List (List UInt8)) (L : Lab) (V W : List (List UInt8)), DSes 92 w wr gd gsd lv (UpD S) ∧ Bk wr hn (NdC gd L) ∧ Bk wr gk (secs V) ∧ Bk wr go (labC L) ∧ Bk wr gm (secs W) ∧ Bk wr w.heap.size bn ∧
  (¬ footD gd gsd lv hn ∧ ¬ footD gd gsd lv gk ∧ ¬ footD gd gsd lv go ∧ ¬ footD gd gsd lv gm ∧ ¬ footD gd gsd lv w.heap.size) ∧ StA S L (fun b => W.getD b []) ∧ V.length = 12 ∧ (∀ b, b < 12 → (V.getD b []).length = 32) ∧ W.length = 12 ∧ (∀ b, b < 12 → (W.getD b []).length = 32) ∧ L.s.toNat = k ∧ (L.e = 0 ∨ L.e = 2) ∧ L.n.toNat ≤ k + 1)
def TornW (w : World) (gd gsd hn gk go gm gr : Nat) (lv : Value) (st : Dst) (LN L : Lab) (W : List (List UInt8)) (ps : List PutV) (bn rv : List Value) (v : Value) (wr : World) : Prop := ∃ j : Nat, j ≤ ps.length ∧ v = .int .i64 j ∧ DSes 92 w wr gd gsd lv st ∧ Bk wr hn (NdC gd LN) ∧ Bk wr gk (secs W) ∧ Bk wr go (labC L) ∧ Bk wr gm (secs (wantS W (ps.take j))) ∧ Bk wr w.heap.size bn ∧ Bk wr gr rv
def TornK (w : World) (gd gsd gk go gm gr : Nat) (L : Lab) (W : List (List UInt8)) (ps : List PutV) (kq : UInt32) (dd : UInt16) (er : Int) (bn rv : List Value) (v : Value) (wr : World) : Prop := ∃ i : Nat, i ≤ 2 ∧ v = .int .i64 i ∧ Below w.heap.size w wr ∧ (i < 2 → ∃ (lv : Value) (t : Dst), DSes 92 w wr gd gsd lv t ∧ (∀ ks, ∃ S', t.up ks = UpD S' ∧ StT S' L (fun b => W.getD b []) kq ps dd er) ∧ Bk wr gk (secs W) ∧ Bk wr go (labC L) ∧ Bk wr gm (secs (wantS W ps)) ∧ Bk wr w.heap.size bn ∧ Bk wr gr rv ∧
  (¬ footD gd gsd lv gk ∧ ¬ footD gd gsd lv go ∧ ¬ footD gd gsd lv gm ∧ ¬ footD gd gsd lv w.heap.size ∧ ¬ footD gd gsd lv gr))
def TornKeep (ww : World) (v11 v12 : Value) (wr : World) : Prop := ∃ (k : Nat) (ks : List UInt8), k ≤ 8 ∧ ks.length = k ∧ v12 = .int .i64 k ∧ wr.ownsRow ww.heap.size 5 1 v11 k (bts ks) ∧ Below ww.heap.size ww wr
set_option maxRecDepth 100000 in
set_option maxHeartbeats 64000000 in
theorem nodeTorn_calls (w : World) (A : Option Addr) (n c : Nat) (ls : List RecV) (dd : UInt16) (ns : List UInt8) (hl : ls.length = n) (hnc : n ≤ c) (hm : c ≤ 9223372036854775807) (hr : Rd w A (ls.flatMap recC)) (hok : ∀ r ∈ ls, RecOk w r) (hns : ns.length = 4) :
    Calls Try.prog 5 #[.slice A n c, vu16 dd, .agg (bts ns).toArray] w fun e w' => e = .returned (.bool true) ∧ Below w.heap.size w w' := by
  subst hl
  have HR := Lib.hid hr
  have HOKS := Lib.hid hok
  clear hr hok
  obtain ⟨bn, hbn⟩ : ∃ bn, bts ns = bn := ⟨_, rfl⟩
  obtain ⟨y0, hy0⟩ : ∃ y, (ns.getD 0 0).toNat = y := ⟨_, rfl⟩
  obtain ⟨y1, hy1'⟩ : ∃ y, (ns.getD 1 0).toNat = y := ⟨_, rfl⟩
  obtain ⟨y2, hy2'⟩ : ∃ y, (ns.getD 2 0).toNat = y := ⟨_, rfl⟩
  obtain ⟨y3, hy3'⟩ : ∃ y, (ns.getD 3 0).toNat = y := ⟨_, rfl⟩
  have hy0l : y0 < 256 := by rw [← hy0]; exact (ns.getD 0 0).toNat_lt
  have hy1 : y1 < 256 := by rw [← hy1']; exact (ns.getD 1 0).toNat_lt
  have hy2 : y2 < 256 := by rw [← hy2']; exact (ns.getD 2 0).toNat_lt
  have hy3l : y3 < 256 := by rw [← hy3']; exact (ns.getD 3 0).toNat_lt
  have DN0 : Hid (bn[0]? = some (.int .u8 (y0 : Int))) := by show _ = _; rw [← hbn, ← hy0]; exact bts_get (by omega)
  have DN1 : Hid (bn[1]? = some (.int .u8 (y1 : Int))) := by show _ = _; rw [← hbn, ← hy1']; exact bts_get (by omega)
  have DN2 : Hid (bn[2]? = some (.int .u8 (y2 : Int))) := by show _ = _; rw [← hbn, ← hy2']; exact bts_get (by omega)
  have DN3 : Hid (bn[3]? = some (.int .u8 (y3 : Int))) := by show _ = _; rw [← hbn, ← hy3']; exact bts_get (by omega)
  obtain ⟨f0, hf0⟩ : ∃ f : Nat, y0 % 24 = f := ⟨_, rfl⟩
  obtain ⟨f3, hf3⟩ : ∃ f : Nat, y3 % 10 = f := ⟨_, rfl⟩
  have HF0 : Hid (f0 < 24) := by show _ < _; omega
  have HF3 : Hid (f3 < 24) := by show _ < _; omega
  have hat0 : (y0 : Int) % 24 = (f0 : Int) := by omega
  have hat3 : (y3 : Int) % 10 = (f3 : Int) := by omega
  rw [hbn]
  clear hbn hy0 hy1' hy2' hy3' hf0 hf3
  obtain ⟨Wz, hWz⟩ : ∃ Wz : List (List UInt8), (List.replicate 12 (List.replicate 32 0)) = Wz := ⟨_, rfl⟩
  have HWZ : Hid ((List.replicate 12 (List.replicate 32 0)) = Wz) := hWz
  have HZ12 : Hid (Wz.length = 12) := by rw [← hWz]; exact (rfl : _ = _)
  have HZB : Hid (∀ b, b < 12 → Wz.getD b [] = List.replicate 32 0) := by rw [← hWz]; exact fun b hb => by rw [List.getD_eq_getElem?_getD, List.getElem?_replicate, if_pos hb]; rfl
  have HZ32 : Hid (∀ b, b < 12 → (Wz.getD b []).length = 32) := fun b hb => by rw [HZB.out b hb, List.length_replicate]
  have HZ384 : Hid ((secs Wz).length = 384) := secs_len12 HZ12.out HZ32.out
  clear hWz
  go_enter Try.func5, Try.ntmps5
  by_cases h0 : ls.length = 0
  · have h0i : ((ls.length : Nat) : Int) = 0 := by omega
    go_wp2_with fail
    refine calls_at fun w1 hw1 => ?_
    have Ew1 : Hid (Below w.heap.size w w1) := by rw [← hw1]; exact (Below.refl _ _).alloc (Nat.le_refl _) _
    have Ktw1 : Hid (Bk w1 w.heap.size bn) := by rw [← hw1]; exact Bk.new w bn _
    clear hw1
    refine (wakes9_calls w1).mono ?_
    rintro en w2 ⟨rfl, hb⟩
    have Ew2 : Hid (Below w.heap.size w w2) := Ew1.out.trans (hb.mono Ew1.out.size)
    have Ktw2 : Hid (Bk w2 w.heap.size bn) := Ktw1.out.below hb
    clear Ew1 Ktw1
    clear hb
    go_wp2_with fail
    (try simp only [Exit.inBlock, Exit.then])
    go_ret
    exact ⟨rfl, Ew2.out⟩
  have h0i : ¬ ((ls.length : Nat) : Int) = 0 := by omega
  have h0b : (((ls.length : Nat) : Int) == 0) = false := beq_eq_false_iff_ne.2 h0i
  by_cases h8 : 8 < ls.length
  · have h8i : (8 : Int) < (ls.length : Int) := by omega
    go_wp2_with fail
    refine calls_at fun w1 hw1 => ?_
    have Ew1 : Hid (Below w.heap.size w w1) := by rw [← hw1]; exact (Below.refl _ _).alloc (Nat.le_refl _) _
    have Ktw1 : Hid (Bk w1 w.heap.size bn) := by rw [← hw1]; exact Bk.new w bn _
    clear hw1
    refine (wakes9_calls w1).mono ?_
    rintro en w2 ⟨rfl, hb⟩
    have Ew2 : Hid (Below w.heap.size w w2) := Ew1.out.trans (hb.mono Ew1.out.size)
    have Ktw2 : Hid (Bk w2 w.heap.size bn) := Ktw1.out.below hb
    clear Ew1 Ktw1
    clear hb
    go_wp2_with fail
    (try simp only [Exit.inBlock, Exit.then])
    go_ret
    exact ⟨rfl, Ew2.out⟩
  have h8i : ¬ (8 : Int) < (ls.length : Int) := by omega
  have HN8 : Hid (ls.length ≤ 8) := by show _ ≤ _; omega
  have HN0 : Hid (0 < ls.length) := by show _ < _; omega
  go_wp2_with fail
  refine calls_at fun w1 hw1 => ?_
  have Ew1 : Hid (Below w.heap.size w w1) := by rw [← hw1]; exact (Below.refl _ _).alloc (Nat.le_refl _) _
  have Ktw1 : Hid (Bk w1 w.heap.size bn) := by rw [← hw1]; exact Bk.new w bn _
  clear hw1 h0 h0i h0b h8 h8i
  refine (ndNew_calls w w1 Ew1.out).mono ?_
  rintro en w2 ⟨gd, gsd, rfl, hd, hfe, hb⟩
  have Fdt : Hid (¬ footD gd gsd (.slice none 0 0) w.heap.size) := fun hj => by have := hfe _ hj; have := Ktw1.out.lt; omega
  have Ew2 : Hid (Below w.heap.size w w2) := Ew1.out.trans (hb.mono Ew1.out.size)
  have Ktw2 : Hid (Bk w2 w.heap.size bn) := Ktw1.out.below hb
  clear Ew1 Ktw1
  have Ddw2 : Hid (DSes 92 w w2 gd gsd (.slice none 0 0) (UpD S0)) := hd
  clear hb hd hfe
  go_wp2_with fail
  have HSZn : Hid (w.heap.size ≤ w2.heap.size) := Ew2.out.size
  refine (ndOpen_calls w2 gd gsd (.slice none 0 0) (UpD S0) 0 Ddw2.out.at_ (ok_up _) (by decide)).mono ?_
  intro en w3 hp
  rw [open_new] at hp
  obtain ⟨hn, lvdw3, rfl, hd, hk, hge, hnf, hft, hch⟩ := DSes.opost Ddw2.out hp
  have Atn : Hid (w.heap.size < hn) := by show _ < _; have := Ktw2.out.lt; omega
  have Ddw3 : Hid (DSes 92 w w3 gd gsd lvdw3 (UpD S0)) := hd
  have Ew3 : Hid (Below w.heap.size w w3) := hd.bel
  have Ktw3 : Hid (Bk w3 w.heap.size bn) := Ktw2.out.chg hch Fdt.out
  have Fdt : Hid (¬ footD gd gsd lvdw3 w.heap.size) := fun hj => (hft _ hj).elim Fdt.out (fun h => by have := Ktw2.out.lt; omega)
  have Knw3 : Hid (Bk w3 hn (NdC gd zLab)) := hk
  have Fdn : Hid (¬ footD gd gsd lvdw3 hn) := hnf
  have NHn : Hid (w.heap.size ≤ hn) := by show _ ≤ _; have := HSZn.out; omega
  clear hp hd hk hge hnf hft hch Ktw2 Ddw2 Ew2
  go_wp2_with (refine wpList_al rfl 51 rfl (bts (List.replicate 384 0)) (by kernel_rfl) ?_)
  intro gk w4 hg hbk hc hs
  have hb : Below w3.heap.size w3 w4 := hc.below (Nat.le_refl _) (fun _ _ => id)
  have HGK : Hid (w3.heap.size ≤ gk) := by show _ ≤ _; omega
  have Fdk : Hid (¬ footD gd gsd lvdw3 gk) := fun hj => by have := DiskAt.lt Ddw3.out.at_ _ hj; have := HGK.out; omega
  have Atk : Hid (w.heap.size < gk) := by show _ < _; have := Ktw3.out.lt; have := HGK.out; omega
  have Ank : Hid (hn < gk) := by show _ < _; have := Knw3.out.lt; have := HGK.out; omega
  have Ew4 : Hid (Below w.heap.size w w4) := Ew3.out.trans (hb.mono Ew3.out.size)
  have Ktw4 : Hid (Bk w4 w.heap.size bn) := Ktw3.out.below hb
  have Knw4 : Hid (Bk w4 hn (NdC gd zLab)) := Knw3.out.below hb
  have Ddw4 : Hid (DSes 92 w w4 gd gsd lvdw3 (UpD S0)) := Ddw3.out.below hb
  clear Ew3 Ktw3 Knw3 Ddw3
  have Kkw4 : Hid (Bk w4 gk (secs Wz)) := by show Bk _ _ _; rw [← HWZ.out, secs_new 12]; exact hbk
  clear hbk hb hc hs hg HGK
  go_wp2_with (first
    | (refine wpList_bld rfl 40 [(2, .const (.int .u32 1)), (3, .const (.int .u16 5))] rfl (labC zLab) [(2, [vu32 1]), (3, [vu16 5])] (labC tL0) (by kernel_rfl) (by kernel_rfl) ⟨rfl, ⟨1, rfl, by kernel_rfl, by decide⟩, rfl, ⟨1, rfl, by kernel_rfl, by decide⟩, trivial⟩ rfl ?_)
    | (refine wpList_al rfl 40 rfl (labC zLab) (by kernel_rfl) ?_))
  intro go w5 hg hb hc hs
  have HQo : Hid (Below w4.heap.size w4 w5) := hc.below (Nat.le_refl _) (fun _ _ => id)
  have HGo : Hid (go = w4.heap.size) := hg
  have KZo := Lib.hid hb
  clear hg hb hc hs
  go_wp2_with (refine wpList_st rfl 40 (.tmp 11) (.tmp 54) rfl go 0 5 (labC zLab) (labC tL0) rfl rfl KZo.out (by kernel_rfl) rfl (by decide) (one_lab _) ?_)
  intro w6 hbk hc
  rw [splice_whole (labC zLab) (labC tL0) rfl] at hbk
  have hb : Below w4.heap.size w4 w6 := HQo.out.trans (hc.below HQo.out.size (fun q hq he => by have := HGo.out; omega))
  have Fdo : Hid (¬ footD gd gsd lvdw3 go) := fun hj => by have := DiskAt.lt Ddw4.out.at_ _ hj; have := HGo.out; omega
  have Ato : Hid (w.heap.size < go) := by show _ < _; have := Ktw4.out.lt; have := HGo.out; omega
  have Ano : Hid (hn < go) := by show _ < _; have := Knw4.out.lt; have := HGo.out; omega
  have Ako : Hid (gk < go) := by show _ < _; have := Kkw4.out.lt; have := HGo.out; omega
  have Ew6 : Hid (Below w.heap.size w w6) := Ew4.out.trans (hb.mono Ew4.out.size)
  have Ktw6 : Hid (Bk w6 w.heap.size bn) := Ktw4.out.below hb
  have Knw6 : Hid (Bk w6 hn (NdC gd zLab)) := Knw4.out.below hb
  have Kkw6 : Hid (Bk w6 gk (secs Wz)) := Kkw4.out.below hb
  have Ddw6 : Hid (DSes 92 w w6 gd gsd lvdw3 (UpD S0)) := Ddw4.out.below hb
  clear Ew4 Ktw4 Knw4 Kkw4 Ddw4
  have Kow6 : Hid (Bk w6 go (labC tL0)) := hbk
  have Kow6 : Hid (Bk w6 go (labC tL0)) := hbk
  clear hbk hb hc KZo HQo HGo
  go_wp2_with (refine wpList_ld rfl 40 (.tmp 11) rfl go 0 5 (labC tL0) (labC tL0) rfl Kow6.out (by kernel_rfl) (by kernel_rfl) (Nat.le_refl 5) rfl ?_)
  refine (ndSetLabel_calls w6 gd gsd lvdw3 hn (UpD S0) zLab tL0 0 Ddw6.out.at_ Knw6.out Fdn.out (ok_up _) (by decide)).mono ?_
  intro en w7 hp
  rw [up_setLab S0_len, labAfter_pair] at hp
  have hch := NPost.chg hp
  obtain ⟨rfl, lvdw7, hd, hk, hft⟩ := DSes.npost Ddw6.out hp NHn.out
  have Ddw7 : Hid (DSes 92 w w7 gd gsd lvdw7 (UpD (S0.set 0 (labEnc tL0)))) := hd
  have Ew7 : Hid (Below w.heap.size w w7) := hd.bel
  have Ktw7 : Hid (Bk w7 w.heap.size bn) := Ktw6.out.chg hch (fun hj => hj.elim Fdt.out (fun he => by have := Atn.out; omega))
  have Fdt : Hid (¬ footD gd gsd lvdw7 w.heap.size) := fun hj => (hft _ hj).elim Fdt.out (fun h => by have := Ktw6.out.lt; omega)
  have Kkw7 : Hid (Bk w7 gk (secs Wz)) := Kkw6.out.chg hch (fun hj => hj.elim Fdk.out (fun he => by have := Ank.out; omega))
  have Fdk : Hid (¬ footD gd gsd lvdw7 gk) := fun hj => (hft _ hj).elim Fdk.out (fun h => by have := Kkw6.out.lt; omega)
  have Kow7 : Hid (Bk w7 go (labC tL0)) := Kow6.out.chg hch (fun hj => hj.elim Fdo.out (fun he => by have := Ano.out; omega))
  have Fdo : Hid (¬ footD gd gsd lvdw7 go) := fun hj => (hft _ hj).elim Fdo.out (fun h => by have := Kow6.out.lt; omega)
  have Knw7 : Hid (Bk w7 hn (NdC gd tL0)) := hk
  have Fdn : Hid (¬ footD gd gsd lvdw7 hn) := fun hj => (hft _ hj).elim Fdn.out (fun h => by have := Knw6.out.lt; omega)
  clear hp hd hk hft hch Knw6 Ktw6 Kkw6 Kow6 Ddw6 Ew6
  go_wp2_with (first
    | (refine wpList_ld rfl 51 (.tmp 10) rfl gk 0 384 (secs Wz) (secs Wz) rfl Kkw7.out (by kernel_rfl) (by kernel_rfl) (by rw [HZ384.out]; exact Nat.le_refl _) (by rw [List.drop_zero, List.take_of_length_le (by rw [HZ384.out]; exact Nat.le_refl _)]) ?_)
    | (refine wpList_al rfl 51 rfl (bts (List.replicate 384 0)) (by kernel_rfl) ?_))
  intro gm w8 hg hb hc hs
  have HQm : Hid (Below w7.heap.size w7 w8) := hc.below (Nat.le_refl _) (fun _ _ => id)
  have HGm : Hid (gm = w7.heap.size) := hg
  have KZm := Lib.hid hb
  clear hg hb hc hs
  go_wp2_with (refine wpList_st rfl 51 (.tmp 12) (.tmp 59) rfl gm 0 384 (bts (List.replicate 384 0)) (secs Wz) rfl rfl KZm.out (by kernel_rfl) HZ384.out (by decide) (one_secs _) ?_)
  intro w9 hbk hc
  rw [splice_whole _ _ (by rw [HZ384.out]; rfl)] at hbk
  have hb : Below w7.heap.size w7 w9 := HQm.out.trans (hc.below HQm.out.size (fun q hq he => by have := HGm.out; omega))
  have Fdm : Hid (¬ footD gd gsd lvdw7 gm) := fun hj => by have := DiskAt.lt Ddw7.out.at_ _ hj; have := HGm.out; omega
  have Atm : Hid (w.heap.size < gm) := by show _ < _; have := Ktw7.out.lt; have := HGm.out; omega
  have Anm : Hid (hn < gm) := by show _ < _; have := Knw7.out.lt; have := HGm.out; omega
  have Akm : Hid (gk < gm) := by show _ < _; have := Kkw7.out.lt; have := HGm.out; omega
  have Aom : Hid (go < gm) := by show _ < _; have := Kow7.out.lt; have := HGm.out; omega
  have Ew9 : Hid (Below w.heap.size w w9) := Ew7.out.trans (hb.mono Ew7.out.size)
  have Ktw9 : Hid (Bk w9 w.heap.size bn) := Ktw7.out.below hb
  have Knw9 : Hid (Bk w9 hn (NdC gd tL0)) := Knw7.out.below hb
  have Kkw9 : Hid (Bk w9 gk (secs Wz)) := Kkw7.out.below hb
  have Kow9 : Hid (Bk w9 go (labC tL0)) := Kow7.out.below hb
  have Ddw9 : Hid (DSes 92 w w9 gd gsd lvdw7 (UpD (S0.set 0 (labEnc tL0)))) := Ddw7.out.below hb
  clear Ew7 Ktw7 Knw7 Kkw7 Kow7 Ddw7
  have Kmw9 : Hid (Bk w9 gm (secs Wz)) := hbk
  have Kmw9 : Hid (Bk w9 gm (secs Wz)) := hbk
  clear hbk hb hc KZm HQm HGm
  go_wp2_with fail
  have H0 : Hid (TornRel w gd gsd hn gk go gm ls.length bn (.int .i64 0) w9) := ⟨0, Nat.zero_le _, rfl, Ew9.out, fun _ => ⟨_, _, tL0, Wz, Wz, Ddw9.out, Knw9.out, Kkw9.out, Kow9.out, Kmw9.out, Ktw9.out, ⟨Fdn.out, Fdk.out, Fdo.out, Fdm.out, Fdt.out⟩, ⟨(stA_new tL0).len, (stA_new tL0).lab, (stA_new tL0).hdr, fun b hb => by rw [(stA_new tL0).blk b hb, HZB.out b hb]⟩, HZ12.out, HZ32.out, HZ12.out, HZ32.out, rfl, .inl rfl, by decide⟩⟩
  have GEk : Hid (w.heap.size ≤ gk) := by show _ ≤ _; have h1 := Atk.out; omega
  have GEo : Hid (w.heap.size ≤ go) := by show _ ≤ _; have h1 := Ato.out; omega
  have GEm : Hid (w.heap.size ≤ gm) := by show _ ≤ _; have h1 := Atm.out; omega
  clear Ddw9 Knw9 Kkw9 Kow9 Kmw9 Ktw9 Ew9 Fdn Fdk Fdo Fdm Fdt
  go_loopw [13] (fun v13 wr => TornRel w gd gsd hn gk go gm ls.length bn v13 wr) (fun v13 _ => ls.length - (intOf v13).toNat)
  case atStart => exact H0.out
  case round =>
    obtain ⟨k, hk, rfl, hbr, hq⟩ := hrel
    have Er := Lib.hid hbr
    clear hbr H0
    by_cases hlt : k < ls.length
    case neg =>
      have hke : k = ls.length := by omega
      subst hke
      clear hq
      have hki : ¬ (((ls.length : Nat) : Int) < (ls.length : Int)) := by omega
      go_wp2_with fail
      refine (wakes9_calls wr).mono ?_
      rintro en wz ⟨rfl, hb⟩
      have EZ : Hid (Below w.heap.size w wz) := Er.out.trans (hb.mono Er.out.size)
      clear hb
      go_wp2_with fail
      (try simp only [Exit.inBlock, Exit.then])
      go_ret
      exact ⟨rfl, EZ.out⟩
    obtain ⟨lv, S, L, V, W, hd, hkn, hkk, hko, hkm, hkt, ⟨hfn, hfk, hfo, hfm, hft⟩, hsta, hv12, hv32, hw12, hw32, hls, hle, hln⟩ := hq hlt
    have DBr := Lib.hid hd
    have KNr := Lib.hid hkn
    have KKr := Lib.hid hkk
    have KOr := Lib.hid hko
    have KMr := Lib.hid hkm
    have KTr := Lib.hid hkt
    have Fdn := Lib.hid hfn
    have Fdk := Lib.hid hfk
    have Fdo := Lib.hid hfo
    have Fdm := Lib.hid hfm
    have Fdt := Lib.hid hft
    have HSTA := Lib.hid hsta
    have HV384 : Hid ((secs V).length = 384) := secs_len12 hv12 hv32
    have HW12 := Lib.hid hw12
    have HW32 := Lib.hid hw32
    have HW384 : Hid ((secs W).length = 384) := secs_len12 hw12 hw32
    have HLS := Lib.hid hls
    have HLE := Lib.hid hle
    have HLN := Lib.hid hln
    clear hd hkn hkk hko hkm hkt hfn hfk hfo hfm hft hsta hv12 hv32 hw12 hw32 hls hle hln hq
    have hki : (k : Int) < (ls.length : Int) := by omega
    have hk0 : (0 : Int) ≤ (k : Int) := by omega
    have hk64 : (k : Int) + 1 < 9223372036854775807 := by have := HN8.out; omega
    have hk32 : (k : Int) + 1 < 4294967296 := by have := HN8.out; omega
    obtain ⟨kq, hkq⟩ : ∃ kq, UInt32.ofNat (k + 1) = kq := ⟨_, rfl⟩
    have HKQN : Hid (kq.toNat = k + 1) := by show _ = _; rw [← hkq, UInt32.toNat_ofNat_of_lt' (by show k + 1 < 4294967296; have := HN8.out; omega)]
    have HKQ : Hid (Value.int .u32 ((k : Int) + 1) = vu32 kq) := by show _ = _; rw [vu32, HKQN.out]; rfl
    have HKQ1 : Hid ((kq + 1).toNat ≤ k + 1 + 1) := by show _ ≤ _; rw [UInt32.toNat_add, HKQN.out]; exact Nat.mod_le _ _
    have HNX : Hid (nextU L.n kq = kq + 1) := by
      have h1 := HLN.out
      have h2 : (kq + 1).toNat = k + 2 := by rw [UInt32.toNat_add, HKQN.out]; show (k + 1 + 1) % 4294967296 = _; have := HN8.out; omega
      exact if_pos (by omega)
    have HLAT : Hid (laterB 2 kq L.e L.s = true) := torn_later HLS.out HLE.out HKQN.out
    clear hkq
    obtain ⟨ad, hA⟩ := rec_some HR.out hlt
    subst hA
    obtain ⟨r, hre, hok1⟩ : ∃ r, ls[k] = r ∧ RecOk w r := ⟨_, rfl, HOKS.out _ (List.getElem_mem hlt)⟩
    have HOK := Lib.hid hok1
    have HRE0 := Lib.hid hre
    have HX32 : Hid (∀ b, b < 12 → ((wantS W r.ps).getD b []).length = 32) := wantS_32 W _ HW12.out HW32.out (fun p hp => (hok1.ok p hp).1)
    have HX384 : Hid ((secs (wantS W r.ps)).length = 384) := secs_len12 (by rw [wantS_len]; exact HW12.out) HX32.out
    clear hre hok1
    have cr := rec_at2 (HR.out.below Er.out) hlt
    rw [HRE0.out] at cr
    go_wp2_with fail
    clear cr
    refine (refGood_calls r.ps r.A r.n r.c wr HOK.out.len (by have h2 := HOK.out.cap; have h3 := HOK.out.max; omega) (HOK.out.rd.below Er.out) HOK.out.ok).mono ?_
    rintro en w41 ⟨rfl, hb⟩
    have Ew41 : Hid (Below w.heap.size w w41) := Er.out.trans (hb.mono Er.out.size)
    have Ktw41 : Hid (Bk w41 w.heap.size bn) := KTr.out.below hb
    have Knw41 : Hid (Bk w41 hn (NdC gd L)) := KNr.out.below hb
    have Kkw41 : Hid (Bk w41 gk (secs V)) := KKr.out.below hb
    have Kow41 : Hid (Bk w41 go (labC L)) := KOr.out.below hb
    have Kmw41 : Hid (Bk w41 gm (secs W)) := KMr.out.below hb
    have Ddw41 : Hid (DSes 92 w w41 gd gsd lv (UpD S)) := DBr.out.below hb
    clear Er KTr KNr KKr KOr KMr DBr
    clear hb
    by_cases hgood : goodB r.ps = true
    case neg =>
      rw [Bool.eq_false_iff.2 hgood]
      go_wp2_with fail
      refine (wakes9_calls w41).mono ?_
      rintro en w42 ⟨rfl, hb⟩
      have Ew42 : Hid (Below w.heap.size w w42) := Ew41.out.trans (hb.mono Ew41.out.size)
      have Ktw42 : Hid (Bk w42 w.heap.size bn) := Ktw41.out.below hb
      have Knw42 : Hid (Bk w42 hn (NdC gd L)) := Knw41.out.below hb
      have Kkw42 : Hid (Bk w42 gk (secs V)) := Kkw41.out.below hb
      have Kow42 : Hid (Bk w42 go (labC L)) := Kow41.out.below hb
      have Kmw42 : Hid (Bk w42 gm (secs W)) := Kmw41.out.below hb
      have Ddw42 : Hid (DSes 92 w w42 gd gsd lv (UpD S)) := Ddw41.out.below hb
      clear Ew41 Ktw41 Knw41 Kkw41 Kow41 Kmw41 Ddw41
      clear hb
      go_wp2_with fail
      (try simp only [Exit.inBlock, Exit.then])
      go_ret
      exact ⟨rfl, Ew42.out⟩
    case pos =>
      rw [hgood]
      have HGD := Lib.hid hgood
      clear hgood
      by_cases hlast : k + 1 = ls.length
      case neg =>
        as_aux_lemma =>
          have hlei : ¬ ((k : Nat) : Int) + 1 = (ls.length : Int) := by omega
          have hled : decide (((k : Nat) : Int) + 1 = (ls.length : Int)) = false := decide_eq_false hlei
          have hleb : (((k : Nat) : Int) + 1 == (ls.length : Int)) = false := beq_eq_false_iff_ne.2 hlei
          clear hlei
          go_wp2_with (first
            | (refine wpList_ld rfl 51 (.tmp 12) rfl gm 0 384 (secs W) (secs W) rfl Kmw41.out (by kernel_rfl) (by kernel_rfl) (by rw [HW384.out]; exact Nat.le_refl _) (by rw [List.drop_zero, List.take_of_length_le (by rw [HW384.out]; exact Nat.le_refl _)]) ?_)
            | (refine wpList_st rfl 51 (.tmp 10) (.tmp 79) rfl gk 0 384 (secs V) (secs W) rfl rfl Kkw41.out (by kernel_rfl) HW384.out (by rw [HV384.out]; exact Nat.le_refl _) (one_secs _) ?_))
          intro w42 hbk hc
          rw [splice_whole _ _ (by rw [HW384.out, HV384.out])] at hbk
          have Ew42 : Hid (Below w.heap.size w w42) := Ew41.out.trans (hc.below Ew41.out.size (fun q hq he => by have := GEk.out; omega))
          have Ktw42 : Hid (Bk w42 w.heap.size bn) := Ktw41.out.chg hc (fun he => by have := Atk.out; omega)
          have Knw42 : Hid (Bk w42 hn (NdC gd L)) := Knw41.out.chg hc (fun he => by have := Ank.out; omega)
          have Kow42 : Hid (Bk w42 go (labC L)) := Kow41.out.chg hc (fun he => by have := Ako.out; omega)
          have Kmw42 : Hid (Bk w42 gm (secs W)) := Kmw41.out.chg hc (fun he => by have := Akm.out; omega)
          have Ddw42 : Hid (DSes 92 w w42 gd gsd lv (UpD S)) := ⟨DiskAt.chg Ddw41.out.at_ hc (fun j hj he => Fdk.out (he ▸ hj)), Ddw41.out.fr, Ew42.out⟩
          have Kkw42 : Hid (Bk w42 gk (secs W)) := hbk
          clear hbk hc Ew41 Kkw41 Ktw41 Knw41 Kow41 Kmw41 Ddw41
          clear hled hleb
          have cr := rec_at2 (HR.out.below Ew42.out) hlt
          rw [HRE0.out] at cr
          go_wp2_with (first
            | (refine wpList_bld rfl 25 [(0, .const (.int .u32 2)), (1, .tmp 82), (2, .tmp 87)] rfl zR [(0, [vu32 2]), (1, [vu32 kq]), (2, [.slice r.A r.n r.c])] [vu32 2, vu32 kq, .slice r.A r.n r.c] (by kernel_rfl) (by kernel_rfl) ⟨rfl, ⟨1, rfl, by kernel_rfl, by decide⟩, by rw [HKQ.out]; rfl, ⟨1, rfl, by kernel_rfl, by decide⟩, rfl, ⟨1, rfl, by kernel_rfl, by decide⟩, trivial⟩ rfl ?_)
            | (refine wpList_al rfl 25 rfl zR (by kernel_rfl) ?_))
          intro gr w43 hg hb hc hs
          have HQr : Hid (Below w42.heap.size w42 w43) := hc.below (Nat.le_refl _) (fun _ _ => id)
          have HGr : Hid (gr = w42.heap.size) := hg
          have KZr := Lib.hid hb
          clear hg hb hc hs
          go_wp2_with (refine wpList_st rfl 25 (.tmp 15) (.tmp 88) rfl gr 0 3 zR [vu32 2, vu32 kq, .slice r.A r.n r.c] rfl rfl KZr.out (by kernel_rfl) rfl (by decide) (one_rec _ _ _ _ _) ?_)
          intro w44 hbk hc
          rw [splice_whole zR [vu32 2, vu32 kq, .slice r.A r.n r.c] rfl] at hbk
          have hb : Below w42.heap.size w42 w44 := HQr.out.trans (hc.below HQr.out.size (fun q hq he => by have := HGr.out; omega))
          have Fdr : Hid (¬ footD gd gsd lv gr) := fun hj => by have := DiskAt.lt Ddw42.out.at_ _ hj; have := HGr.out; omega
          have Atr : Hid (w.heap.size < gr) := by show _ < _; have := Ktw42.out.lt; have := HGr.out; omega
          have Anr : Hid (hn < gr) := by show _ < _; have := Knw42.out.lt; have := HGr.out; omega
          have Akr : Hid (gk < gr) := by show _ < _; have := Kkw42.out.lt; have := HGr.out; omega
          have Aor : Hid (go < gr) := by show _ < _; have := Kow42.out.lt; have := HGr.out; omega
          have Amr : Hid (gm < gr) := by show _ < _; have := Kmw42.out.lt; have := HGr.out; omega
          have Ew44 : Hid (Below w.heap.size w w44) := Ew42.out.trans (hb.mono Ew42.out.size)
          have Ktw44 : Hid (Bk w44 w.heap.size bn) := Ktw42.out.below hb
          have Knw44 : Hid (Bk w44 hn (NdC gd L)) := Knw42.out.below hb
          have Kkw44 : Hid (Bk w44 gk (secs W)) := Kkw42.out.below hb
          have Kow44 : Hid (Bk w44 go (labC L)) := Kow42.out.below hb
          have Kmw44 : Hid (Bk w44 gm (secs W)) := Kmw42.out.below hb
          have Ddw44 : Hid (DSes 92 w w44 gd gsd lv (UpD S)) := Ddw42.out.below hb
          clear Ew42 Ktw42 Knw42 Kkw42 Kow42 Kmw42 Ddw42
          have Krw44 : Hid (Bk w44 gr [vu32 2, vu32 kq, .slice r.A r.n r.c]) := hbk
          have Krw44 : Hid (Bk w44 gr [vu32 2, vu32 kq, .slice r.A r.n r.c]) := hbk
          clear hbk hb hc KZr HQr HGr
          clear cr
          go_wp2_with (refine wpList_ld rfl 25 (.tmp 15) rfl gr 0 3 [vu32 2, vu32 kq, .slice r.A r.n r.c] [vu32 2, vu32 kq, .slice r.A r.n r.c] rfl Krw44.out (by kernel_rfl) (by kernel_rfl) (Nat.le_refl 3) rfl ?_)
          refine (ndApply_calls w44 gd gsd lv hn (UpD S) L 0 2 kq r.ps r.A r.n r.c dd Ddw44.out.at_ Knw44.out Fdn.out (ok_up _) (by decide) HOK.out.len (fun w' hc => HOK.out.rd.below (Ew44.out.trans (hc.below Ew44.out.size (fun j hj hf => by have := Ddw44.out.fr j hf; omega)))) HOK.out.ok (fun hg _ => put_up_ok HSTA.out.len hg)).mono ?_
          intro en w45 hp
          rw [up_apply HSTA.out.len HGD.out HLAT.out, labAfter_pair] at hp
          have hch := NPost.chg hp
          obtain ⟨rfl, lvdw45, hd, hk, hft⟩ := DSes.npost Ddw44.out hp NHn.out
          have Ddw45 : Hid (DSes 92 w w45 gd gsd lvdw45 (UpD (appS S 2 kq r.ps (carryL L 2 kq r.ps dd)))) := hd
          have Ew45 : Hid (Below w.heap.size w w45) := hd.bel
          have Ktw45 : Hid (Bk w45 w.heap.size bn) := Ktw44.out.chg hch (fun hj => hj.elim Fdt.out (fun he => by have := Atn.out; omega))
          have Fdt : Hid (¬ footD gd gsd lvdw45 w.heap.size) := fun hj => (hft _ hj).elim Fdt.out (fun h => by have := Ktw44.out.lt; omega)
          have Kkw45 : Hid (Bk w45 gk (secs W)) := Kkw44.out.chg hch (fun hj => hj.elim Fdk.out (fun he => by have := Ank.out; omega))
          have Fdk : Hid (¬ footD gd gsd lvdw45 gk) := fun hj => (hft _ hj).elim Fdk.out (fun h => by have := Kkw44.out.lt; omega)
          have Kow45 : Hid (Bk w45 go (labC L)) := Kow44.out.chg hch (fun hj => hj.elim Fdo.out (fun he => by have := Ano.out; omega))
          have Fdo : Hid (¬ footD gd gsd lvdw45 go) := fun hj => (hft _ hj).elim Fdo.out (fun h => by have := Kow44.out.lt; omega)
          have Kmw45 : Hid (Bk w45 gm (secs W)) := Kmw44.out.chg hch (fun hj => hj.elim Fdm.out (fun he => by have := Anm.out; omega))
          have Fdm : Hid (¬ footD gd gsd lvdw45 gm) := fun hj => (hft _ hj).elim Fdm.out (fun h => by have := Kmw44.out.lt; omega)
          have Krw45 : Hid (Bk w45 gr [vu32 2, vu32 kq, .slice r.A r.n r.c]) := Krw44.out.chg hch (fun hj => hj.elim Fdr.out (fun he => by have := Anr.out; omega))
          have Fdr : Hid (¬ footD gd gsd lvdw45 gr) := fun hj => (hft _ hj).elim Fdr.out (fun h => by have := Krw44.out.lt; omega)
          have Knw45 : Hid (Bk w45 hn (NdC gd (carryL L 2 kq r.ps dd))) := hk
          have Fdn : Hid (¬ footD gd gsd lvdw45 hn) := fun hj => (hft _ hj).elim Fdn.out (fun h => by have := Knw44.out.lt; omega)
          clear hp hd hk hft hch Knw44 Ktw44 Kkw44 Kow44 Kmw44 Krw44 Ddw44 Ew44
          go_wp2_with fail
          have H2y : Hid (TornW w gd gsd hn gk go gm gr lvdw45 (UpD (appS S 2 kq r.ps (carryL L 2 kq r.ps dd))) (carryL L 2 kq r.ps dd) L W r.ps bn [vu32 2, vu32 kq, .slice r.A r.n r.c] (.int .i64 0) w45) := ⟨0, Nat.zero_le _, rfl, Ddw45.out, Knw45.out, Kkw45.out, Kow45.out, Kmw45.out, Ktw45.out, Krw45.out⟩
          clear Ddw45 Ew45 Knw45 Kkw45 Kow45 Kmw45 Ktw45 Krw45
          go_loopw [17] (fun v17 wr => TornW w gd gsd hn gk go gm gr lvdw45 (UpD (appS S 2 kq r.ps (carryL L 2 kq r.ps dd))) (carryL L 2 kq r.ps dd) L W r.ps bn [vu32 2, vu32 kq, .slice r.A r.n r.c] v17 wr) (fun v17 _ => r.ps.length - (intOf v17).toNat)
          case atStart => exact H2y.out
          case round =>
            obtain ⟨j, hj, rfl, hd2, hkn2, hkk2, hko2, hkm2, hkt2, hkr2⟩ := hrel
            have DBt := Lib.hid hd2
            have Et := Lib.hid hd2.bel
            have KNt := Lib.hid hkn2
            have KKt := Lib.hid hkk2
            have KOt := Lib.hid hko2
            have KMt := Lib.hid hkm2
            have KTt := Lib.hid hkt2
            have KRt := Lib.hid hkr2
            clear hd2 hkn2 hkk2 hko2 hkm2 hkt2 hkr2 H2y
            have cp2 : wr.cell? ⟨gr, 2, none⟩ = some (.slice r.A r.n r.c) := KRt.out.cell rfl
            by_cases hjl : j < r.ps.length
            case neg =>
              have hje : j = r.ps.length := by omega
              subst hje
              have hji : ¬ (((r.ps.length : Nat) : Int) < (r.n : Int)) := by have := HOK.out.len; omega
              have KMU : Hid (Bk wr gm (secs (wantS W r.ps))) := by have h := KMt.out; rwa [List.take_length] at h
              clear KMt
              go_wp2_with fail
              clear cp2
              apply wp_region_rel 10 (Chg NoS) [(Veq _), (Veq _), (Veq _), (Veq _), (Veq (vu32 (kq + 1))), (Veq _), (Veq _), (Veq _), (Veq _), (Veq (.agg (labC (carryL L 2 kq r.ps dd)).toArray))] [[], [0], [], [2], [3], [], [], [6], [7], [1, 4, 5, 8]] [136, 137, 138, 139, 140, 141, 142, 143, 144, 145] (by kernel_rfl) (by kernel_rfl) rfl rfl rfl Chg.refl (fun _ _ _ => Chg.trans) ⟨Veq.lasts, Veq.lasts, Veq.lasts, Veq.lasts, Veq.lasts, Veq.lasts, Veq.lasts, Veq.lasts, Veq.lasts, Veq.lasts, trivial⟩ ?hops ?hfin
              case hops =>
                refine ⟨?ho0, ?ho1, ?ho2, ?ho3, ?ho4, ?ho5, ?ho6, ?ho7, ?ho8, ?ho9, trivial⟩
                case ho0 =>
                  intro a wx hE hin
                  have i15 : a.eval (.tmp 15) = .pointer (some ⟨gr, 0, none⟩) := hin 15 rfl
                  clear hin
                  have hcst : ∀ v, a.eval (.const v) = v := fun _ => rfl
                  have hfnc : ∀ f, a.eval (.func f) = .func (.func f) #[] #[] := fun _ => rfl
                  refine want_none rfl ?_
                  unfold Oper.wp
                  generalize a.eval = ρ at *
                  go_simp
                  try go_bits
                  first | exact rel_val (Chg.refl _) | (go_simp; exact rel_val (Chg.refl _))
                case ho1 =>
                  rintro a wx hE hin (h0 : a.eval (.tmp 136) = _)
                  clear hin
                  have hcst : ∀ v, a.eval (.const v) = v := fun _ => rfl
                  have hfnc : ∀ f, a.eval (.func f) = .func (.func f) #[] #[] := fun _ => rfl
                  refine want_none rfl ?_
                  unfold Oper.wp
                  generalize a.eval = ρ at *
                  have c : wx.cell? ⟨gr, 1, none⟩ = some (vu32 kq) := (KRt.out.drew.chg hE id).cell rfl
                  rw [vu32] at c
                  go_simp
                  try go_bits
                  first | exact rel_val (Chg.refl _) | (go_simp; exact rel_val (Chg.refl _))
                case ho2 =>
                  intro a wx hE hin
                  have i15 : a.eval (.tmp 15) = .pointer (some ⟨gr, 0, none⟩) := hin 15 rfl
                  clear hin
                  have hcst : ∀ v, a.eval (.const v) = v := fun _ => rfl
                  have hfnc : ∀ f, a.eval (.func f) = .func (.func f) #[] #[] := fun _ => rfl
                  refine want_none rfl ?_
                  unfold Oper.wp
                  generalize a.eval = ρ at *
                  go_simp
                  try go_bits
                  first | exact rel_val (Chg.refl _) | (go_simp; exact rel_val (Chg.refl _))
                case ho3 =>
                  rintro a wx hE hin (h2 : a.eval (.tmp 138) = _)
                  clear hin
                  have hcst : ∀ v, a.eval (.const v) = v := fun _ => rfl
                  have hfnc : ∀ f, a.eval (.func f) = .func (.func f) #[] #[] := fun _ => rfl
                  refine want_none rfl ?_
                  unfold Oper.wp
                  generalize a.eval = ρ at *
                  have c : wx.cell? ⟨gr, 1, none⟩ = some (vu32 kq) := (KRt.out.drew.chg hE id).cell rfl
                  rw [vu32] at c
                  go_simp
                  try go_bits
                  first | exact rel_val (Chg.refl _) | (go_simp; exact rel_val (Chg.refl _))
                case ho4 =>
                  rintro a wx hE hin (h3 : a.eval (.tmp 139) = _)
                  clear hin
                  have hcst : ∀ v, a.eval (.const v) = v := fun _ => rfl
                  have hfnc : ∀ f, a.eval (.func f) = .func (.func f) #[] #[] := fun _ => rfl
                  refine want_none rfl ?_
                  unfold Oper.wp
                  generalize a.eval = ρ at *
                  go_simp
                  try go_bits
                  exact ⟨_, rfl, u32_succ kq, Chg.refl _⟩
                case ho5 =>
                  intro a wx hE hin
                  have i1 : a.eval (.tmp 1) = vu16 dd := hin 1 rfl
                  clear hin
                  have hcst : ∀ v, a.eval (.const v) = v := fun _ => rfl
                  have hfnc : ∀ f, a.eval (.func f) = .func (.func f) #[] #[] := fun _ => rfl
                  refine want_none rfl ?_
                  unfold Oper.wp
                  generalize a.eval = ρ at *
                  go_simp
                  try go_bits
                  first | exact rel_val (Chg.refl _) | (go_simp; exact rel_val (Chg.refl _))
                case ho6 =>
                  intro a wx hE hin
                  have i15 : a.eval (.tmp 15) = .pointer (some ⟨gr, 0, none⟩) := hin 15 rfl
                  clear hin
                  have hcst : ∀ v, a.eval (.const v) = v := fun _ => rfl
                  have hfnc : ∀ f, a.eval (.func f) = .func (.func f) #[] #[] := fun _ => rfl
                  refine want_none rfl ?_
                  unfold Oper.wp
                  generalize a.eval = ρ at *
                  go_simp
                  try go_bits
                  first | exact rel_val (Chg.refl _) | (go_simp; exact rel_val (Chg.refl _))
                case ho7 =>
                  rintro a wx hE hin (h6 : a.eval (.tmp 142) = _)
                  clear hin
                  have hcst : ∀ v, a.eval (.const v) = v := fun _ => rfl
                  have hfnc : ∀ f, a.eval (.func f) = .func (.func f) #[] #[] := fun _ => rfl
                  refine want_none rfl ?_
                  unfold Oper.wp
                  generalize a.eval = ρ at *
                  have c : wx.cell? ⟨gr, 2, none⟩ = some (.slice r.A r.n r.c) := (KRt.out.drew.chg hE id).cell rfl
                  go_simp
                  try go_bits
                  first | exact rel_val (Chg.refl _) | (go_simp; exact rel_val (Chg.refl _))
                case ho8 =>
                  rintro a wx hE hin (h7 : a.eval (.tmp 143) = _)
                  clear hin
                  have hcst : ∀ v, a.eval (.const v) = v := fun _ => rfl
                  have hfnc : ∀ f, a.eval (.func f) = .func (.func f) #[] #[] := fun _ => rfl
                  refine want_none rfl ?_
                  unfold Oper.wp
                  generalize a.eval = ρ at *
                  go_simp
                  go_simp
                  refine (refBits_calls r.ps r.A r.n r.c wx HOK.out.len (by have h2 := HOK.out.cap; have h3 := HOK.out.max; omega) (HOK.out.rd.below (Et.out.trans (hE.undrew.below Et.out.size (fun _ _ => id)))) HOK.out.ok).mono ?_
                  rintro e w' ⟨rfl, rfl⟩
                  exact rel_val (Chg.refl _)
                case ho9 =>
                  rintro a wx hE hin (h1 : a.eval (.tmp 137) = _) (h4 : a.eval (.tmp 140) = _) (h5 : a.eval (.tmp 141) = _) (h8 : a.eval (.tmp 144) = _)
                  clear hin
                  have hcst : ∀ v, a.eval (.const v) = v := fun _ => rfl
                  have hfnc : ∀ f, a.eval (.func f) = .func (.func f) #[] #[] := fun _ => rfl
                  refine want_none rfl ?_
                  exact wp_bld 40 [(0, .const (.int .u32 2)), (1, .tmp 137), (2, .tmp 140), (3, .tmp 141), (4, .tmp 144)] rfl (labC zLab) [(0, [vu32 2]), (1, [vu32 kq]), (2, [vu32 (kq + 1)]), (3, [vu16 dd]), (4, [vu16 (UInt16.ofNat (bitsN r.ps))])] (labC (carryL L 2 kq r.ps dd)) (by kernel_rfl) (by kernel_rfl) ⟨rfl, ⟨1, rfl, by kernel_rfl, by decide⟩, by rw [h1]; rfl, ⟨1, rfl, by kernel_rfl, by decide⟩, by rw [h4]; rfl, ⟨1, rfl, by kernel_rfl, by decide⟩, by rw [h5]; rfl, ⟨1, rfl, by kernel_rfl, by decide⟩, by rw [h8, vu16_of _ (by have := bitsN_lt r.ps; omega)]; rfl, ⟨1, rfl, by kernel_rfl, by decide⟩, trivial⟩ (by rw [← HNX.out]; rfl) (rel_val (Chg.refl _))
              case hfin =>
                intro wx hE
                rintro _ rfl _ rfl _ rfl _ rfl _ rfl _ rfl _ rfl _ rfl _ rfl _ rfl
                simp only [FinOk, List.take_succ_cons, List.take_zero, List.take_nil, List.drop_succ_cons, List.drop_zero, List.drop_nil, Act.put, List.setIfInBounds_toArray, List.set_cons_succ, List.set_cons_zero]
                have DX : Hid (DSes 92 w wx gd gsd lvdw45 (UpD (appS S 2 kq r.ps (carryL L 2 kq r.ps dd)))) := DBt.out.chgN hE.undrew
                have NX : Hid (Bk wx hn (NdC gd (carryL L 2 kq r.ps dd))) := KNt.out.drew.chg hE id
                have KX : Hid (Bk wx gk (secs W)) := KKt.out.drew.chg hE id
                have OX : Hid (Bk wx go (labC L)) := KOt.out.drew.chg hE id
                have MX : Hid (Bk wx gm (secs (wantS W r.ps))) := KMU.out.drew.chg hE id
                have TX : Hid (Bk wx w.heap.size bn) := KTt.out.drew.chg hE id
                clear hE DBt KNt KKt KOt KMU KTt KRt
                go_wp2_with (refine wpList_st rfl 40 (.tmp 11) (.tmp 145) rfl go 0 5 (labC L) (labC (carryL L 2 kq r.ps dd)) rfl rfl OX.out (by kernel_rfl) rfl (by exact Nat.le_refl 5) (one_lab _) ?_)
                intro w5 hbk hc
                rw [splice_whole (labC L) (labC (carryL L 2 kq r.ps dd)) rfl] at hbk
                have O5 := Lib.hid hbk
                have D5 : Hid (DSes 92 w w5 gd gsd lvdw45 (UpD (appS S 2 kq r.ps (carryL L 2 kq r.ps dd)))) := ⟨DiskAt.chg DX.out.at_ hc (fun q hq hk => Fdo.out (by rw [← (show q = go from hk)]; exact hq)), DX.out.fr, DX.out.bel.trans (hc.below DX.out.bel.size (fun q hq he => by have := GEo.out; omega))⟩
                have N5 : Hid (Bk w5 hn (NdC gd (carryL L 2 kq r.ps dd))) := NX.out.chg hc (fun h => by have := Ano.out; omega)
                have K5 : Hid (Bk w5 gk (secs W)) := KX.out.chg hc (fun h => by have := Ako.out; omega)
                have M5 : Hid (Bk w5 gm (secs (wantS W r.ps))) := MX.out.chg hc (fun h => by have := Aom.out; omega)
                have T5 : Hid (Bk w5 w.heap.size bn) := TX.out.chg hc (fun h => by have := Ato.out; omega)
                clear hbk hc DX NX KX OX MX TX
                go_wp2_with fail
                apply wp_region_rel 4 (Chg NoS) [(Veq _), (Veq _), (Veq _), (Veq (.bool false))] [[], [0], [], [1, 2]] [146, 147, 148, 149] (by kernel_rfl) (by kernel_rfl) rfl rfl rfl Chg.refl (fun _ _ _ => Chg.trans) ⟨Veq.lasts, Veq.lasts, Veq.lasts, Veq.lasts, trivial⟩ ?gops ?gfin
                case gops =>
                  refine ⟨?go0, ?go1, ?go2, ?go3, trivial⟩
                  case go0 =>
                    intro a wx hE hin
                    have i8 : a.eval (.tmp 8) = .pointer (some ⟨hn, 0, none⟩) := hin 8 rfl
                    clear hin
                    have hcst : ∀ v, a.eval (.const v) = v := fun _ => rfl
                    have hfnc : ∀ f, a.eval (.func f) = .func (.func f) #[] #[] := fun _ => rfl
                    refine want_none rfl ?_
                    unfold Oper.wp
                    generalize a.eval = ρ at *
                    go_simp
                    try go_bits
                    first | exact rel_val (Chg.refl _) | (go_simp; exact rel_val (Chg.refl _))
                  case go1 =>
                    rintro a wx hE hin (h0 : a.eval (.tmp 146) = _)
                    clear hin
                    have hcst : ∀ v, a.eval (.const v) = v := fun _ => rfl
                    have hfnc : ∀ f, a.eval (.func f) = .func (.func f) #[] #[] := fun _ => rfl
                    refine want_none rfl ?_
                    unfold Oper.wp
                    generalize a.eval = ρ at *
                    go_simp
                    go_simp
                    refine (ndLabel_calls wx gd hn (carryL L 2 kq r.ps dd) (N5.out.drew.chg hE id)).mono ?_
                    rintro e w' ⟨rfl, hb⟩
                    exact rel_val (.of_below hb)
                  case go2 =>
                    intro a wx hE hin
                    have i11 : a.eval (.tmp 11) = .pointer (some ⟨go, 0, none⟩) := hin 11 rfl
                    clear hin
                    have hcst : ∀ v, a.eval (.const v) = v := fun _ => rfl
                    have hfnc : ∀ f, a.eval (.func f) = .func (.func f) #[] #[] := fun _ => rfl
                    refine want_none rfl ?_
                    exact wp_ld 40 _ rfl go 0 5 (labC (carryL L 2 kq r.ps dd)) (labC (carryL L 2 kq r.ps dd)) i11 (O5.out.drew.chg hE id) (by kernel_rfl) (by kernel_rfl) (Nat.le_refl 5) rfl (rel_val (Chg.refl _))
                  case go3 =>
                    rintro a wx hE hin (h1 : a.eval (.tmp 147) = _) (h2 : a.eval (.tmp 148) = _)
                    clear hin
                    have hcst : ∀ v, a.eval (.const v) = v := fun _ => rfl
                    have hfnc : ∀ f, a.eval (.func f) = .func (.func f) #[] #[] := fun _ => rfl
                    refine want_none rfl ?_
                    exact wp_eq_lab true 40 _ _ rfl (carryL L 2 kq r.ps dd) (carryL L 2 kq r.ps dd) h1 h2 (by rw [show (true ^^ decide ((carryL L 2 kq r.ps dd) = (carryL L 2 kq r.ps dd))) = false by simp]; exact rel_val (Chg.refl _))
                case gfin =>
                  intro wx hE
                  rintro _ rfl _ rfl _ rfl _ rfl
                  simp only [FinOk, List.take_succ_cons, List.take_zero, List.take_nil, List.drop_succ_cons, List.drop_zero, List.drop_nil, Act.put, List.setIfInBounds_toArray, List.set_cons_succ, List.set_cons_zero]
                  have D7 : Hid (DSes 92 w wx gd gsd lvdw45 (UpD (appS S 2 kq r.ps (carryL L 2 kq r.ps dd)))) := D5.out.chgN hE.undrew
                  have N7 : Hid (Bk wx hn (NdC gd (carryL L 2 kq r.ps dd))) := N5.out.drew.chg hE id
                  have K7 : Hid (Bk wx gk (secs W)) := K5.out.drew.chg hE id
                  have O7 : Hid (Bk wx go (labC (carryL L 2 kq r.ps dd))) := O5.out.drew.chg hE id
                  have M7 : Hid (Bk wx gm (secs (wantS W r.ps))) := M5.out.drew.chg hE id
                  have T7 : Hid (Bk wx w.heap.size bn) := T5.out.drew.chg hE id
                  clear hE D5 N5 K5 O5 M5 T5
                  go_wp2_with fail
                  go_roundw
                  case rel => exact ⟨k + 1, by omega, by go_num, D7.out.bel, fun hk1 => ⟨lvdw45, (appS S 2 kq r.ps (carryL L 2 kq r.ps dd)), (carryL L 2 kq r.ps dd), W, wantS W r.ps, D7.out, N7.out, K7.out, O7.out, M7.out, T7.out, ⟨Fdn.out, Fdk.out, Fdo.out, Fdm.out, Fdt.out⟩, torn_next HSTA.out HGD.out HW12.out, HW12.out, HW32.out, by rw [wantS_len]; exact HW12.out, HX32.out, HKQN.out, .inr rfl, by show (nextU L.n kq).toNat ≤ k + 1 + 1; rw [HNX.out]; exact HKQ1.out⟩⟩
                  case measure => simp [intOf]; omega
            have hji : (j : Int) < (r.n : Int) := by have := HOK.out.len; omega
            have hj0 : (0 : Int) ≤ (j : Int) := by omega
            have hj64 : (j : Int) + 1 < 9223372036854775807 := by have := HOK.out.len; have := (goodB_at HGD.out).2.1; omega
            have HPAT := Lib.hid (rc_put_at HOK.out hjl)
            have HDL := Lib.hid (HOK.out.ok _ (List.getElem_mem hjl)).1
            have HPS := Lib.hid (goodB_ats' HGD.out _ (List.getElem_mem hjl))
            have HTK : Hid (wantS W (r.ps.take (j + 1)) = (wantS W (r.ps.take j)).set r.ps[j].at_.toNat r.ps[j].data) := wantS_take W r.ps j hjl
            obtain ⟨pd, hpd⟩ : ∃ pd, r.ps[j] = pd := ⟨_, rfl⟩
            rw [hpd] at HPAT HDL HPS HTK
            clear hpd
            obtain ⟨bz, hbz⟩ : ∃ bz : Nat, pd.at_ = (bz : Int) := ⟨pd.at_.toNat, by have := HPS.out; omega⟩
            have hbz12 : bz < 12 := by have := HPS.out; omega
            have hbzi : (bz : Int) < 12 := by omega
            have hbz0 : (0 : Int) ≤ (bz : Int) := by omega
            have HBZ := Lib.hid hbz
            have HBZL := Lib.hid hbz12
            obtain ⟨ad2, hA2⟩ := puts_some HOK.out.rd hjl
            have HAD2 := Lib.hid hA2
            rw [hA2] at cp2
            clear hbz hA2 hbz12
            obtain ⟨W1, hW1⟩ : ∃ W1, wantS W (r.ps.take j) = W1 := ⟨_, rfl⟩
            rw [hW1] at KMt HTK
            have HW1 : Hid (W1.length = 12) := by show _ = _; rw [← hW1, wantS_len]; exact HW12.out
            have HW132 : Hid (∀ b, b < 12 → (W1.getD b []).length = 32) := by rw [← hW1]; exact wantS_32 W _ HW12.out HW32.out (fun p hp => (HOK.out.ok p (List.mem_of_mem_take hp)).1)
            clear hW1
            go_wp2_with fail
            clear cp2
            apply wp_region_rel 12 (Chg NoS) [(Veq _), (Veq _), (Veq _), (Veq _), (Veq _), (Veq _), (Veq _), (Veq _), (Veq _), (Veq _), (Veq _), (Veq _)] [[], [0], [], [1, 2], [3], [4], [], [6], [], [7, 8], [9], [10]] [121, 122, 123, 124, 125, 126, 127, 128, 129, 130, 131, 132] (by kernel_rfl) (by kernel_rfl) rfl rfl rfl Chg.refl (fun _ _ _ => Chg.trans) ⟨Veq.lasts, Veq.lasts, Veq.lasts, Veq.lasts, Veq.lasts, Veq.lasts, Veq.lasts, Veq.lasts, Veq.lasts, Veq.lasts, Veq.lasts, Veq.lasts, trivial⟩ ?aops ?afin
            case aops =>
              refine ⟨?ao0, ?ao1, ?ao2, ?ao3, ?ao4, ?ao5, ?ao6, ?ao7, ?ao8, ?ao9, ?ao10, ?ao11, trivial⟩
              case ao0 =>
                intro a wx hE hin
                have i15 : a.eval (.tmp 15) = .pointer (some ⟨gr, 0, none⟩) := hin 15 rfl
                clear hin
                have hcst : ∀ v, a.eval (.const v) = v := fun _ => rfl
                have hfnc : ∀ f, a.eval (.func f) = .func (.func f) #[] #[] := fun _ => rfl
                refine want_none rfl ?_
                unfold Oper.wp
                generalize a.eval = ρ at *
                go_simp
                try go_bits
                first | exact rel_val (Chg.refl _) | (go_simp; exact rel_val (Chg.refl _))
              case ao1 =>
                rintro a wx hE hin (h0 : a.eval (.tmp 121) = _)
                clear hin
                have hcst : ∀ v, a.eval (.const v) = v := fun _ => rfl
                have hfnc : ∀ f, a.eval (.func f) = .func (.func f) #[] #[] := fun _ => rfl
                refine want_none rfl ?_
                unfold Oper.wp
                generalize a.eval = ρ at *
                have c : wx.cell? ⟨gr, 2, none⟩ = some (.slice (some ad2) r.n r.c) := by have h : wx.cell? ⟨gr, 2, none⟩ = some (.slice r.A r.n r.c) := (KRt.out.drew.chg hE id).cell rfl; rwa [HAD2.out] at h
                go_simp
                try go_bits
                first | exact rel_val (Chg.refl _) | (go_simp; exact rel_val (Chg.refl _))
              case ao2 =>
                intro a wx hE hin
                have i17 : a.eval (.tmp 17) = .int .i64 j := hin 17 rfl
                clear hin
                have hcst : ∀ v, a.eval (.const v) = v := fun _ => rfl
                have hfnc : ∀ f, a.eval (.func f) = .func (.func f) #[] #[] := fun _ => rfl
                refine want_none rfl ?_
                unfold Oper.wp
                generalize a.eval = ρ at *
                go_simp
                try go_bits
                first | exact rel_val (Chg.refl _) | (go_simp; exact rel_val (Chg.refl _))
              case ao3 =>
                rintro a wx hE hin (h1 : a.eval (.tmp 122) = _) (h2 : a.eval (.tmp 123) = _)
                clear hin
                have hcst : ∀ v, a.eval (.const v) = v := fun _ => rfl
                have hfnc : ∀ f, a.eval (.func f) = .func (.func f) #[] #[] := fun _ => rfl
                refine want_none rfl ?_
                unfold Oper.wp
                generalize a.eval = ρ at *
                go_simp
                try go_bits
                first | exact rel_val (Chg.refl _) | (go_simp; exact rel_val (Chg.refl _))
              case ao4 =>
                rintro a wx hE hin (h3 : a.eval (.tmp 124) = _)
                clear hin
                have hcst : ∀ v, a.eval (.const v) = v := fun _ => rfl
                have hfnc : ∀ f, a.eval (.func f) = .func (.func f) #[] #[] := fun _ => rfl
                refine want_none rfl ?_
                unfold Oper.wp
                generalize a.eval = ρ at *
                go_simp
                try go_bits
                first | exact rel_val (Chg.refl _) | (go_simp; exact rel_val (Chg.refl _))
              case ao5 =>
                rintro a wx hE hin (h4 : a.eval (.tmp 125) = _)
                clear hin
                have hcst : ∀ v, a.eval (.const v) = v := fun _ => rfl
                have hfnc : ∀ f, a.eval (.func f) = .func (.func f) #[] #[] := fun _ => rfl
                refine want_none rfl ?_
                unfold Oper.wp
                generalize a.eval = ρ at *
                have c := HPAT.out.1 wx (Et.out.trans (hE.undrew.below Et.out.size (fun _ _ => id))) ad2 HAD2.out
                rw [HBZ.out] at c
                go_simp
                try go_bits
                first | exact rel_val (Chg.refl _) | (go_simp; exact rel_val (Chg.refl _))
              case ao6 =>
                intro a wx hE hin
                have i15 : a.eval (.tmp 15) = .pointer (some ⟨gr, 0, none⟩) := hin 15 rfl
                clear hin
                have hcst : ∀ v, a.eval (.const v) = v := fun _ => rfl
                have hfnc : ∀ f, a.eval (.func f) = .func (.func f) #[] #[] := fun _ => rfl
                refine want_none rfl ?_
                unfold Oper.wp
                generalize a.eval = ρ at *
                go_simp
                try go_bits
                first | exact rel_val (Chg.refl _) | (go_simp; exact rel_val (Chg.refl _))
              case ao7 =>
                rintro a wx hE hin (h6 : a.eval (.tmp 127) = _)
                clear hin
                have hcst : ∀ v, a.eval (.const v) = v := fun _ => rfl
                have hfnc : ∀ f, a.eval (.func f) = .func (.func f) #[] #[] := fun _ => rfl
                refine want_none rfl ?_
                unfold Oper.wp
                generalize a.eval = ρ at *
                have c : wx.cell? ⟨gr, 2, none⟩ = some (.slice (some ad2) r.n r.c) := by have h : wx.cell? ⟨gr, 2, none⟩ = some (.slice r.A r.n r.c) := (KRt.out.drew.chg hE id).cell rfl; rwa [HAD2.out] at h
                go_simp
                try go_bits
                first | exact rel_val (Chg.refl _) | (go_simp; exact rel_val (Chg.refl _))
              case ao8 =>
                intro a wx hE hin
                have i17 : a.eval (.tmp 17) = .int .i64 j := hin 17 rfl
                clear hin
                have hcst : ∀ v, a.eval (.const v) = v := fun _ => rfl
                have hfnc : ∀ f, a.eval (.func f) = .func (.func f) #[] #[] := fun _ => rfl
                refine want_none rfl ?_
                unfold Oper.wp
                generalize a.eval = ρ at *
                go_simp
                try go_bits
                first | exact rel_val (Chg.refl _) | (go_simp; exact rel_val (Chg.refl _))
              case ao9 =>
                rintro a wx hE hin (h7 : a.eval (.tmp 128) = _) (h8 : a.eval (.tmp 129) = _)
                clear hin
                have hcst : ∀ v, a.eval (.const v) = v := fun _ => rfl
                have hfnc : ∀ f, a.eval (.func f) = .func (.func f) #[] #[] := fun _ => rfl
                refine want_none rfl ?_
                unfold Oper.wp
                generalize a.eval = ρ at *
                go_simp
                try go_bits
                first | exact rel_val (Chg.refl _) | (go_simp; exact rel_val (Chg.refl _))
              case ao10 =>
                rintro a wx hE hin (h9 : a.eval (.tmp 130) = _)
                clear hin
                have hcst : ∀ v, a.eval (.const v) = v := fun _ => rfl
                have hfnc : ∀ f, a.eval (.func f) = .func (.func f) #[] #[] := fun _ => rfl
                refine want_none rfl ?_
                unfold Oper.wp
                generalize a.eval = ρ at *
                go_simp
                try go_bits
                first | exact rel_val (Chg.refl _) | (go_simp; exact rel_val (Chg.refl _))
              case ao11 =>
                rintro a wx hE hin (h10 : a.eval (.tmp 131) = _)
                clear hin
                have hcst : ∀ v, a.eval (.const v) = v := fun _ => rfl
                have hfnc : ∀ f, a.eval (.func f) = .func (.func f) #[] #[] := fun _ => rfl
                refine want_none rfl ?_
                exact wp_ldr2 35 _ rfl _ 32 (bts pd.data) h10 (by have h := (HPAT.out.2 wx (Et.out.trans (hE.undrew.below Et.out.size (fun _ _ => id))) ad2 HAD2.out).drop 1; exact h) (by kernel_rfl) (by kernel_rfl) (by rw [bts_length]; exact HDL.out) (rel_val (Chg.refl _))
            case afin =>
              intro wx hE
              rintro _ rfl _ rfl _ rfl _ rfl _ rfl _ rfl _ rfl _ rfl _ rfl _ rfl _ rfl _ rfl
              simp only [FinOk, List.take_succ_cons, List.take_zero, List.take_nil, List.drop_succ_cons, List.drop_zero, List.drop_nil, Act.put, List.setIfInBounds_toArray, List.set_cons_succ, List.set_cons_zero]
              have DX : Hid (DSes 92 w wx gd gsd lvdw45 (UpD (appS S 2 kq r.ps (carryL L 2 kq r.ps dd)))) := DBt.out.chgN hE.undrew
              have NX : Hid (Bk wx hn (NdC gd (carryL L 2 kq r.ps dd))) := KNt.out.drew.chg hE id
              have KX : Hid (Bk wx gk (secs W)) := KKt.out.drew.chg hE id
              have OX : Hid (Bk wx go (labC L)) := KOt.out.drew.chg hE id
              have TX : Hid (Bk wx w.heap.size bn) := KTt.out.drew.chg hE id
              have RX : Hid (Bk wx gr [vu32 2, vu32 kq, .slice r.A r.n r.c]) := KRt.out.drew.chg hE id
              have MX : Hid (Bk wx gm (secs W1)) := KMt.out.drew.chg hE id
              have HTS : Hid (splice (secs W1) (bz * 32) (bts pd.data) = secs (W1.set bz pd.data)) := secs_set HW1.out HW132.out HDL.out HBZL.out
              clear hE DBt KMt KNt KKt KOt KTt KRt
              go_wp2_with (refine wpList_st rfl 35 (.tmp 133) (.tmp 132) rfl gm (bz * 32) 32 (secs W1) (bts pd.data) rfl rfl MX.out (by kernel_rfl) (by rw [bts_length]; exact HDL.out) (by rw [secs_len12 HW1.out HW132.out]; have := HBZL.out; omega) (one_bts _) ?_)
              intro w4 hbk hc
              rw [HTS.out] at hbk
              have MY := Lib.hid hbk
              have DY : Hid (DSes 92 w w4 gd gsd lvdw45 (UpD (appS S 2 kq r.ps (carryL L 2 kq r.ps dd)))) := ⟨DiskAt.chg DX.out.at_ hc (fun q hq hk => Fdm.out (by rw [← (show q = gm from hk)]; exact hq)), DX.out.fr, DX.out.bel.trans (hc.below DX.out.bel.size (fun q hq he => by have := GEm.out; omega))⟩
              have NY : Hid (Bk w4 hn (NdC gd (carryL L 2 kq r.ps dd))) := NX.out.chg hc (fun h => by have := Anm.out; omega)
              have KY : Hid (Bk w4 gk (secs W)) := KX.out.chg hc (fun h => by have := Akm.out; omega)
              have OY : Hid (Bk w4 go (labC L)) := OX.out.chg hc (fun h => by have := Aom.out; omega)
              have TY : Hid (Bk w4 w.heap.size bn) := TX.out.chg hc (fun h => by have := Atm.out; omega)
              have RY : Hid (Bk w4 gr [vu32 2, vu32 kq, .slice r.A r.n r.c]) := RX.out.chg hc (fun h => by have := Amr.out; omega)
              clear hbk hc DX MX NX KX OX TX RX
              go_wp2_with fail
              go_roundw
              case rel => exact ⟨j + 1, by omega, by go_num, DY.out, NY.out, KY.out, OY.out, by rw [HTK.out, show pd.at_.toNat = bz by have := HBZ.out; omega]; exact MY.out, TY.out, RY.out⟩
              case measure => simp [intOf]; omega
      case pos =>
        have hlei : ((k : Nat) : Int) + 1 = (ls.length : Int) := by omega
        have hled : decide (((k : Nat) : Int) + 1 = (ls.length : Int)) = true := decide_eq_true hlei
        have hleb : (((k : Nat) : Int) + 1 == (ls.length : Int)) = true := beq_iff_eq.2 hlei
        clear hlei
        go_wp2_with (first
          | (refine wpList_ld rfl 51 (.tmp 12) rfl gm 0 384 (secs W) (secs W) rfl Kmw41.out (by kernel_rfl) (by kernel_rfl) (by rw [HW384.out]; exact Nat.le_refl _) (by rw [List.drop_zero, List.take_of_length_le (by rw [HW384.out]; exact Nat.le_refl _)]) ?_)
          | (refine wpList_st rfl 51 (.tmp 10) (.tmp 79) rfl gk 0 384 (secs V) (secs W) rfl rfl Kkw41.out (by kernel_rfl) HW384.out (by rw [HV384.out]; exact Nat.le_refl _) (one_secs _) ?_))
        intro w42 hbk hc
        rw [splice_whole _ _ (by rw [HW384.out, HV384.out])] at hbk
        have Ew42 : Hid (Below w.heap.size w w42) := Ew41.out.trans (hc.below Ew41.out.size (fun q hq he => by have := GEk.out; omega))
        have Ktw42 : Hid (Bk w42 w.heap.size bn) := Ktw41.out.chg hc (fun he => by have := Atk.out; omega)
        have Knw42 : Hid (Bk w42 hn (NdC gd L)) := Knw41.out.chg hc (fun he => by have := Ank.out; omega)
        have Kow42 : Hid (Bk w42 go (labC L)) := Kow41.out.chg hc (fun he => by have := Ako.out; omega)
        have Kmw42 : Hid (Bk w42 gm (secs W)) := Kmw41.out.chg hc (fun he => by have := Akm.out; omega)
        have Ddw42 : Hid (DSes 92 w w42 gd gsd lv (UpD S)) := ⟨DiskAt.chg Ddw41.out.at_ hc (fun j hj he => Fdk.out (he ▸ hj)), Ddw41.out.fr, Ew42.out⟩
        have Kkw42 : Hid (Bk w42 gk (secs W)) := hbk
        clear hbk hc Ew41 Kkw41 Ktw41 Knw41 Kow41 Kmw41 Ddw41
        clear hled hleb
        have cr := rec_at2 (HR.out.below Ew42.out) hlt
        rw [HRE0.out] at cr
        go_wp2_with (first
          | (refine wpList_bld rfl 25 [(0, .const (.int .u32 2)), (1, .tmp 82), (2, .tmp 87)] rfl zR [(0, [vu32 2]), (1, [vu32 kq]), (2, [.slice r.A r.n r.c])] [vu32 2, vu32 kq, .slice r.A r.n r.c] (by kernel_rfl) (by kernel_rfl) ⟨rfl, ⟨1, rfl, by kernel_rfl, by decide⟩, by rw [HKQ.out]; rfl, ⟨1, rfl, by kernel_rfl, by decide⟩, rfl, ⟨1, rfl, by kernel_rfl, by decide⟩, trivial⟩ rfl ?_)
          | (refine wpList_al rfl 25 rfl zR (by kernel_rfl) ?_))
        intro gr w43 hg hb hc hs
        have HQr : Hid (Below w42.heap.size w42 w43) := hc.below (Nat.le_refl _) (fun _ _ => id)
        have HGr : Hid (gr = w42.heap.size) := hg
        have KZr := Lib.hid hb
        clear hg hb hc hs
        go_wp2_with (refine wpList_st rfl 25 (.tmp 15) (.tmp 88) rfl gr 0 3 zR [vu32 2, vu32 kq, .slice r.A r.n r.c] rfl rfl KZr.out (by kernel_rfl) rfl (by decide) (one_rec _ _ _ _ _) ?_)
        intro w44 hbk hc
        rw [splice_whole zR [vu32 2, vu32 kq, .slice r.A r.n r.c] rfl] at hbk
        have hb : Below w42.heap.size w42 w44 := HQr.out.trans (hc.below HQr.out.size (fun q hq he => by have := HGr.out; omega))
        have Fdr : Hid (¬ footD gd gsd lv gr) := fun hj => by have := DiskAt.lt Ddw42.out.at_ _ hj; have := HGr.out; omega
        have Atr : Hid (w.heap.size < gr) := by show _ < _; have := Ktw42.out.lt; have := HGr.out; omega
        have Anr : Hid (hn < gr) := by show _ < _; have := Knw42.out.lt; have := HGr.out; omega
        have Akr : Hid (gk < gr) := by show _ < _; have := Kkw42.out.lt; have := HGr.out; omega
        have Aor : Hid (go < gr) := by show _ < _; have := Kow42.out.lt; have := HGr.out; omega
        have Amr : Hid (gm < gr) := by show _ < _; have := Kmw42.out.lt; have := HGr.out; omega
        have Ew44 : Hid (Below w.heap.size w w44) := Ew42.out.trans (hb.mono Ew42.out.size)
        have Ktw44 : Hid (Bk w44 w.heap.size bn) := Ktw42.out.below hb
        have Knw44 : Hid (Bk w44 hn (NdC gd L)) := Knw42.out.below hb
        have Kkw44 : Hid (Bk w44 gk (secs W)) := Kkw42.out.below hb
        have Kow44 : Hid (Bk w44 go (labC L)) := Kow42.out.below hb
        have Kmw44 : Hid (Bk w44 gm (secs W)) := Kmw42.out.below hb
        have Ddw44 : Hid (DSes 92 w w44 gd gsd lv (UpD S)) := Ddw42.out.below hb
        clear Ew42 Ktw42 Knw42 Kkw42 Kow42 Kmw42 Ddw42
        have Krw44 : Hid (Bk w44 gr [vu32 2, vu32 kq, .slice r.A r.n r.c]) := hbk
        have Krw44 : Hid (Bk w44 gr [vu32 2, vu32 kq, .slice r.A r.n r.c]) := hbk
        clear hbk hb hc KZr HQr HGr
        clear cr
        have cn0 := Ktw44.out.cell DN0.out
        go_wp2_with fail
        clear cn0
        refine (diskFuse_at w44 gd gsd lv (UpD S) (f0 : Int) Ddw44.out.at_).mono ?_
        intro en w45 hp
        rw [show max (f0 : Int) (-1) = (f0 : Int) by omega] at hp
        have hch := DPost.chgF hp
        obtain ⟨rfl, lvdw45, hd, hft⟩ := DSes.post2 Ddw44.out hp
        have Ddw45 : Hid (DSes 92 w w45 gd gsd lvdw45 ⟨S, [], (f0 : Int), false⟩) := hd
        have Ew45 : Hid (Below w.heap.size w w45) := hd.bel
        have Ktw45 : Hid (Bk w45 w.heap.size bn) := Ktw44.out.chg hch Fdt.out
        have Fdt : Hid (¬ footD gd gsd lvdw45 w.heap.size) := fun hj => (hft _ hj).elim Fdt.out (fun h => by have := Ktw44.out.lt; omega)
        have Knw45 : Hid (Bk w45 hn (NdC gd L)) := Knw44.out.chg hch Fdn.out
        have Fdn : Hid (¬ footD gd gsd lvdw45 hn) := fun hj => (hft _ hj).elim Fdn.out (fun h => by have := Knw44.out.lt; omega)
        have Kkw45 : Hid (Bk w45 gk (secs W)) := Kkw44.out.chg hch Fdk.out
        have Fdk : Hid (¬ footD gd gsd lvdw45 gk) := fun hj => (hft _ hj).elim Fdk.out (fun h => by have := Kkw44.out.lt; omega)
        have Kow45 : Hid (Bk w45 go (labC L)) := Kow44.out.chg hch Fdo.out
        have Fdo : Hid (¬ footD gd gsd lvdw45 go) := fun hj => (hft _ hj).elim Fdo.out (fun h => by have := Kow44.out.lt; omega)
        have Kmw45 : Hid (Bk w45 gm (secs W)) := Kmw44.out.chg hch Fdm.out
        have Fdm : Hid (¬ footD gd gsd lvdw45 gm) := fun hj => (hft _ hj).elim Fdm.out (fun h => by have := Kmw44.out.lt; omega)
        have Krw45 : Hid (Bk w45 gr [vu32 2, vu32 kq, .slice r.A r.n r.c]) := Krw44.out.chg hch Fdr.out
        have Fdr : Hid (¬ footD gd gsd lvdw45 gr) := fun hj => (hft _ hj).elim Fdr.out (fun h => by have := Krw44.out.lt; omega)
        clear hp hd hft hch Ktw44 Knw44 Kkw44 Kow44 Kmw44 Krw44 Ddw44 Ew44
        go_wp2_with (refine wpList_ld rfl 25 (.tmp 15) rfl gr 0 3 [vu32 2, vu32 kq, .slice r.A r.n r.c] [vu32 2, vu32 kq, .slice r.A r.n r.c] rfl Krw45.out (by kernel_rfl) (by kernel_rfl) (Nat.le_refl 3) rfl ?_)
        obtain ⟨TD, er, hap, her, hup⟩ := apply_torn HSTA.out HGD.out HLAT.out f0 dd
        have HAP := Lib.hid hap
        have HUP : Hid (∀ ks, ∃ S', TD.up ks = UpD S' ∧ StT S' L (fun b => W.getD b []) kq r.ps dd er) := fun ks => by
          obtain ⟨S', h1, h2⟩ := hup ks
          exact ⟨S', h1, h2.imp id (fun x => ⟨x.1, x.2.elim .inl (fun y => .inr (.inl y))⟩)⟩
        clear hap hup
        refine (ndApply_calls w45 gd gsd lvdw45 hn ⟨S, [], (f0 : Int), false⟩ L 0 2 kq r.ps r.A r.n r.c dd Ddw45.out.at_ Knw45.out Fdn.out (ok_fuse f0 HF0.out) (by decide) HOK.out.len (fun w' hc => HOK.out.rd.below (Ew45.out.trans (hc.below Ew45.out.size (fun j hj hf => by have := Ddw45.out.fr j hf; omega)))) HOK.out.ok (fun hg hz => put_fuse_ok HSTA.out.len hg HF0.out hz)).mono ?_
        intro en w46 hp
        rw [HAP.out] at hp
        have hch := NPost.chg hp
        obtain ⟨rfl, lvdw46, hd, hk, hft⟩ := DSes.npost Ddw45.out hp NHn.out
        have Ddw46 : Hid (DSes 92 w w46 gd gsd lvdw46 TD) := hd
        have Ew46 : Hid (Below w.heap.size w w46) := hd.bel
        have Ktw46 : Hid (Bk w46 w.heap.size bn) := Ktw45.out.chg hch (fun hj => hj.elim Fdt.out (fun he => by have := Atn.out; omega))
        have Fdt : Hid (¬ footD gd gsd lvdw46 w.heap.size) := fun hj => (hft _ hj).elim Fdt.out (fun h => by have := Ktw45.out.lt; omega)
        have Kkw46 : Hid (Bk w46 gk (secs W)) := Kkw45.out.chg hch (fun hj => hj.elim Fdk.out (fun he => by have := Ank.out; omega))
        have Fdk : Hid (¬ footD gd gsd lvdw46 gk) := fun hj => (hft _ hj).elim Fdk.out (fun h => by have := Kkw45.out.lt; omega)
        have Kow46 : Hid (Bk w46 go (labC L)) := Kow45.out.chg hch (fun hj => hj.elim Fdo.out (fun he => by have := Ano.out; omega))
        have Fdo : Hid (¬ footD gd gsd lvdw46 go) := fun hj => (hft _ hj).elim Fdo.out (fun h => by have := Kow45.out.lt; omega)
        have Kmw46 : Hid (Bk w46 gm (secs W)) := Kmw45.out.chg hch (fun hj => hj.elim Fdm.out (fun he => by have := Anm.out; omega))
        have Fdm : Hid (¬ footD gd gsd lvdw46 gm) := fun hj => (hft _ hj).elim Fdm.out (fun h => by have := Kmw45.out.lt; omega)
        have Krw46 : Hid (Bk w46 gr [vu32 2, vu32 kq, .slice r.A r.n r.c]) := Krw45.out.chg hch (fun hj => hj.elim Fdr.out (fun he => by have := Anr.out; omega))
        have Fdr : Hid (¬ footD gd gsd lvdw46 gr) := fun hj => (hft _ hj).elim Fdr.out (fun h => by have := Krw45.out.lt; omega)
        have Knw46 : Hid (Bk w46 hn (NdC gd (labAfter L (carryL L 2 kq r.ps dd) er))) := hk
        have Fdn : Hid (¬ footD gd gsd lvdw46 hn) := fun hj => (hft _ hj).elim Fdn.out (fun h => by have := Knw45.out.lt; omega)
        clear hp hd hk hft hch Knw45 Ktw45 Kkw45 Kow45 Kmw45 Krw45 Ddw45 Ew45
        rcases her with rfl | rfl
        case inl =>
          as_aux_lemma =>
            go_wp2_with fail
            have H2z : Hid (TornW w gd gsd hn gk go gm gr lvdw46 TD (labAfter L (carryL L 2 kq r.ps dd) 0) L W r.ps bn [vu32 2, vu32 kq, .slice r.A r.n r.c] (.int .i64 0) w46) := ⟨0, Nat.zero_le _, rfl, Ddw46.out, Knw46.out, Kkw46.out, Kow46.out, Kmw46.out, Ktw46.out, Krw46.out⟩
            clear Ddw46 Ew46 Knw46 Kkw46 Kow46 Kmw46 Ktw46 Krw46
            go_loopw [17] (fun v17 wr => TornW w gd gsd hn gk go gm gr lvdw46 TD (labAfter L (carryL L 2 kq r.ps dd) 0) L W r.ps bn [vu32 2, vu32 kq, .slice r.A r.n r.c] v17 wr) (fun v17 _ => r.ps.length - (intOf v17).toNat)
            case atStart => exact H2z.out
            case round =>
              obtain ⟨j, hj, rfl, hd2, hkn2, hkk2, hko2, hkm2, hkt2, hkr2⟩ := hrel
              have DBt := Lib.hid hd2
              have Et := Lib.hid hd2.bel
              have KNt := Lib.hid hkn2
              have KKt := Lib.hid hkk2
              have KOt := Lib.hid hko2
              have KMt := Lib.hid hkm2
              have KTt := Lib.hid hkt2
              have KRt := Lib.hid hkr2
              clear hd2 hkn2 hkk2 hko2 hkm2 hkt2 hkr2 H2z
              have cp2 : wr.cell? ⟨gr, 2, none⟩ = some (.slice r.A r.n r.c) := KRt.out.cell rfl
              by_cases hjl : j < r.ps.length
              case neg =>
                have hje : j = r.ps.length := by omega
                subst hje
                have hji : ¬ (((r.ps.length : Nat) : Int) < (r.n : Int)) := by have := HOK.out.len; omega
                have KMU : Hid (Bk wr gm (secs (wantS W r.ps))) := by have h := KMt.out; rwa [List.take_length] at h
                clear KMt
                go_wp2_with fail
                clear cp2
                have H3 : Hid (TornK w gd gsd gk go gm gr L W r.ps kq dd 0 bn [vu32 2, vu32 kq, .slice r.A r.n r.c] (.int .i64 0) wr) := ⟨0, by decide, rfl, Et.out, fun _ => ⟨_, TD, DBt.out, HUP.out, KKt.out, KOt.out, KMU.out, KTt.out, KRt.out, ⟨Fdk.out, Fdo.out, Fdm.out, Fdt.out, Fdr.out⟩⟩⟩
                clear DBt Et KNt KKt KOt KMU KTt KRt Fdn Fdk Fdo Fdm Fdt Fdr
                go_loopw [18] (fun v18 wr => TornK w gd gsd gk go gm gr L W r.ps kq dd 0 bn [vu32 2, vu32 kq, .slice r.A r.n r.c] v18 wr) (fun v18 _ => 2 - (intOf v18).toNat)
                case atStart => exact H3.out
                case round =>
                  rename World => wq
                  obtain ⟨i, hi2, hv18, hbq, hq⟩ := hrel
                  have Eq := Lib.hid hbq
                  clear hbq H3
                  by_cases hi : i < 2
                  case neg =>
                    have hie : i = 2 := by omega
                    subst hie
                    have hv2 : _ = Value.int .i64 2 := hv18
                    subst hv2
                    clear hq
                    go_wp2_with fail
                    go_roundw
                    case rel => exact ⟨k + 1, by omega, by go_num, Eq.out, fun h => absurd h (by omega)⟩
                    case measure => simp [intOf]; omega
                  obtain ⟨lvq, TQ, hdq, hupq, hkk, hko, hkm, hkt, hkr, hfk, hfo, hfm, hft, hfr⟩ := hq hi
                  have DQ := Lib.hid hdq
                  have HUQ := Lib.hid hupq
                  have KKq := Lib.hid hkk
                  have KOq := Lib.hid hko
                  have KMq := Lib.hid hkm
                  have KTq := Lib.hid hkt
                  have KRq := Lib.hid hkr
                  have Fdk := Lib.hid hfk
                  have Fdo := Lib.hid hfo
                  have Fdm := Lib.hid hfm
                  have Fdt := Lib.hid hft
                  have Fdr := Lib.hid hfr
                  clear hdq hupq hkk hko hkm hkt hkr hfk hfo hfm hft hfr hq
                  obtain rfl | rfl : i = 0 ∨ i = 1 := by omega
                  case inl =>
                    have hv2 : _ = Value.int .i64 0 := hv18
                    subst hv2
                    as_aux_lemma =>
                      go_wp2_with fail
                      have H4 : Hid (TornKeep wq (.slice none 0 0) (.int .i64 0) wq) := ⟨0, [], by decide, rfl, rfl, ⟨rfl, .inl ⟨rfl, rfl⟩⟩, Below.refl _ _⟩
                      go_loopw [19, 20] (fun v19 v20 wr => TornKeep wq v19 v20 wr) (fun _ v20 _ => 8 - (intOf v20).toNat)
                      case atStart => exact H4.out
                      case round =>
                        obtain ⟨k8, ks, hk8, hkl, rfl, ho, hb⟩ := hrel
                        have OR := Lib.hid ho
                        have BR := Lib.hid hb
                        have HKL := Lib.hid hkl
                        clear ho hb hkl H4
                        by_cases hlt8 : k8 < 8
                        · have hki8 : (k8 : Int) < 8 := by omega
                          have hk80 : (0 : Int) ≤ (k8 : Int) := by omega
                          have cn := (KTq.out.below BR.out).cell DN1.out
                          obtain ⟨A7, c7, rfl, _, _, _⟩ := own_rd OR.out
                          obtain ⟨b, hb8⟩ := torn_bit y1 k8 hy1
                          have HB8 := Lib.hid hb8
                          clear hb8
                          go_wp2_with (at_builtin; refine wpList_append_rd rfl (.tmp 158) (.tmp 167) 56 rfl wq.heap.size 5 (.int .u8 0) 1 1 Try.underlying56 info_u8n rfl (by decide) (by decide) (.slice A7 k8 c7) k8 (bts ks) rfl ?own (some ⟨wr.heap.size, 0, none⟩) 1 1 (bts [b]) rfl rfl ?rd (one_bts _) (by omega) (by have := BR.out.size; simp; omega) ?_)
                          case own => exact own_chg OR.out ((Chg.refl (S := NoS) wr).alloc _) (fun _ _ => id)
                          case rd =>
                            have h : bts [b] = [vu8 b] := rfl
                            rw [h, ← HB8.out]
                            exact Rd.new _ _ _
                          intro v1 w9 hown hg hat
                          have O9 : Hid (w9.ownsRow wq.heap.size 5 1 v1 (k8 + 1) (bts (ks ++ [b]))) := by
                            show World.ownsRow _ _ _ _ _ _ _
                            rw [bts_append]
                            exact hown
                          have B9 : Hid (Below wq.heap.size wq w9) := BR.out.trans (((Below.refl wr.heap.size wr).alloc (Nat.le_refl _) _).mono BR.out.size |>.trans (below_grown hg (by have := BR.out.size; simp; omega) (fun j hj => (OR.out.lt _ hj).1)))
                          clear hown hg hat cn
                          go_wp2_with fail
                          go_roundw
                          case rel => exact ⟨k8 + 1, ks ++ [b], by omega, by simp [HKL.out], by go_num, O9.out, B9.out⟩
                          case measure => simp [intOf]; omega
                        have hke8 : k8 = 8 := by omega
                        subst hke8
                        have hki8 : ¬ (((8 : Nat) : Int) < 8) := by omega
                        have DQC : Hid (DSes 92 w wq gd gsd lvq TQ) := ⟨DQ.out.at_, DQ.out.fr, DQ.out.bel⟩
                        have Ewr : Hid (Below w.heap.size w wr) := Eq.out.trans (BR.out.mono Eq.out.size)
                        have Ktwr : Hid (Bk wr w.heap.size bn) := KTq.out.below BR.out
                        have Kkwr : Hid (Bk wr gk (secs W)) := KKq.out.below BR.out
                        have Kowr : Hid (Bk wr go (labC L)) := KOq.out.below BR.out
                        have Kmwr : Hid (Bk wr gm (secs (wantS W r.ps))) := KMq.out.below BR.out
                        have Krwr : Hid (Bk wr gr [vu32 2, vu32 kq, .slice r.A r.n r.c]) := KRq.out.below BR.out
                        have Ddwr : Hid (DSes 92 w wr gd gsd lvq TQ) := DQ.out.below BR.out
                        clear Eq KTq KKq KOq KMq KRq DQ
                        obtain ⟨A7, c7, rfl, _, _, _⟩ := own_rd OR.out
                        obtain ⟨S1, hS1, hT1⟩ := HUQ.out ks
                        have HS1 := Lib.hid hS1
                        have HT1 := Lib.hid hT1
                        clear hS1 hT1
                        go_wp2_with fail
                        refine (diskUp_at wr gd gsd lvq TQ A7 8 c7 ks Ddwr.out.at_ HKL.out (fun w' hc => by
                          obtain ⟨A', c', hv', hr', _, _⟩ := own_rd (own_chg OR.out hc (fun j hj hf => by
                            have h1 := (OR.out.lt _ hj).1
                            have h2 := DiskAt.lt DQC.out.at_ j (by rcases hf with hf | hf; exact .inl hf; exact .inr (.inl hf))
                            omega))
                          injection hv' with h1 _ _
                          subst h1
                          exact hr')).mono ?_
                        intro en w121 hp
                        rw [HS1.out] at hp
                        have hch := DPost.chgF hp
                        obtain ⟨rfl, lvdw121, hd, hft⟩ := DSes.post2 Ddwr.out hp
                        have Ddw121 : Hid (DSes 92 w w121 gd gsd lvdw121 (UpD S1)) := hd
                        have Ew121 : Hid (Below w.heap.size w w121) := hd.bel
                        have Ktw121 : Hid (Bk w121 w.heap.size bn) := Ktwr.out.chg hch Fdt.out
                        have Fdt : Hid (¬ footD gd gsd lvdw121 w.heap.size) := fun hj => (hft _ hj).elim Fdt.out (fun h => by have := Ktwr.out.lt; omega)
                        have Kkw121 : Hid (Bk w121 gk (secs W)) := Kkwr.out.chg hch Fdk.out
                        have Fdk : Hid (¬ footD gd gsd lvdw121 gk) := fun hj => (hft _ hj).elim Fdk.out (fun h => by have := Kkwr.out.lt; omega)
                        have Kow121 : Hid (Bk w121 go (labC L)) := Kowr.out.chg hch Fdo.out
                        have Fdo : Hid (¬ footD gd gsd lvdw121 go) := fun hj => (hft _ hj).elim Fdo.out (fun h => by have := Kowr.out.lt; omega)
                        have Kmw121 : Hid (Bk w121 gm (secs (wantS W r.ps))) := Kmwr.out.chg hch Fdm.out
                        have Fdm : Hid (¬ footD gd gsd lvdw121 gm) := fun hj => (hft _ hj).elim Fdm.out (fun h => by have := Kmwr.out.lt; omega)
                        have Krw121 : Hid (Bk w121 gr [vu32 2, vu32 kq, .slice r.A r.n r.c]) := Krwr.out.chg hch Fdr.out
                        have Fdr : Hid (¬ footD gd gsd lvdw121 gr) := fun hj => (hft _ hj).elim Fdr.out (fun h => by have := Krwr.out.lt; omega)
                        clear hp hd hft hch Ktwr Kkwr Kowr Kmwr Krwr Ddwr Ewr
                        have cn3 := Ktw121.out.cell DN3.out
                        go_wp2_with fail
                        clear cn3
                        refine (diskFuse_at w121 gd gsd lvdw121 (UpD S1) (f3 : Int) Ddw121.out.at_).mono ?_
                        intro en w122 hp
                        rw [show max (f3 : Int) (-1) = (f3 : Int) by omega] at hp
                        have hch := DPost.chgF hp
                        obtain ⟨rfl, lvdw122, hd, hft⟩ := DSes.post2 Ddw121.out hp
                        have Ddw122 : Hid (DSes 92 w w122 gd gsd lvdw122 ⟨S1, [], (f3 : Int), false⟩) := hd
                        have Ew122 : Hid (Below w.heap.size w w122) := hd.bel
                        have Ktw122 : Hid (Bk w122 w.heap.size bn) := Ktw121.out.chg hch Fdt.out
                        have Fdt : Hid (¬ footD gd gsd lvdw122 w.heap.size) := fun hj => (hft _ hj).elim Fdt.out (fun h => by have := Ktw121.out.lt; omega)
                        have Kkw122 : Hid (Bk w122 gk (secs W)) := Kkw121.out.chg hch Fdk.out
                        have Fdk : Hid (¬ footD gd gsd lvdw122 gk) := fun hj => (hft _ hj).elim Fdk.out (fun h => by have := Kkw121.out.lt; omega)
                        have Kow122 : Hid (Bk w122 go (labC L)) := Kow121.out.chg hch Fdo.out
                        have Fdo : Hid (¬ footD gd gsd lvdw122 go) := fun hj => (hft _ hj).elim Fdo.out (fun h => by have := Kow121.out.lt; omega)
                        have Kmw122 : Hid (Bk w122 gm (secs (wantS W r.ps))) := Kmw121.out.chg hch Fdm.out
                        have Fdm : Hid (¬ footD gd gsd lvdw122 gm) := fun hj => (hft _ hj).elim Fdm.out (fun h => by have := Kmw121.out.lt; omega)
                        have Krw122 : Hid (Bk w122 gr [vu32 2, vu32 kq, .slice r.A r.n r.c]) := Krw121.out.chg hch Fdr.out
                        have Fdr : Hid (¬ footD gd gsd lvdw122 gr) := fun hj => (hft _ hj).elim Fdr.out (fun h => by have := Krw121.out.lt; omega)
                        clear hp hd hft hch Ktw121 Kkw121 Kow121 Kmw121 Krw121 Ddw121 Ew121
                        go_wp2_with fail
                        obtain ⟨T2, z2, l2, ho2, hup2⟩ := open_torn HT1.out HGD.out HLAT.out f3
                        have HO2 := Lib.hid ho2
                        have HUP2 := Lib.hid hup2
                        clear ho2 hup2
                        refine (ndOpen_calls w122 gd gsd lvdw122 ⟨S1, [], (f3 : Int), false⟩ 0 Ddw122.out.at_ (ok_fuse f3 HF3.out) (by decide)).mono ?_
                        intro en w123 hp
                        rw [HO2.out] at hp
                        obtain ⟨pq, lvdw123, rfl, hd, hft, hch⟩ := DSes.oany Ddw122.out hp
                        have Ddw123 : Hid (DSes 92 w w123 gd gsd lvdw123 T2) := hd
                        have Ew123 : Hid (Below w.heap.size w w123) := hd.bel
                        have Ktw123 : Hid (Bk w123 w.heap.size bn) := Ktw122.out.chg hch Fdt.out
                        have Fdt : Hid (¬ footD gd gsd lvdw123 w.heap.size) := fun hj => (hft _ hj).elim Fdt.out (fun h => by have := Ktw122.out.lt; omega)
                        have Kkw123 : Hid (Bk w123 gk (secs W)) := Kkw122.out.chg hch Fdk.out
                        have Fdk : Hid (¬ footD gd gsd lvdw123 gk) := fun hj => (hft _ hj).elim Fdk.out (fun h => by have := Kkw122.out.lt; omega)
                        have Kow123 : Hid (Bk w123 go (labC L)) := Kow122.out.chg hch Fdo.out
                        have Fdo : Hid (¬ footD gd gsd lvdw123 go) := fun hj => (hft _ hj).elim Fdo.out (fun h => by have := Kow122.out.lt; omega)
                        have Kmw123 : Hid (Bk w123 gm (secs (wantS W r.ps))) := Kmw122.out.chg hch Fdm.out
                        have Fdm : Hid (¬ footD gd gsd lvdw123 gm) := fun hj => (hft _ hj).elim Fdm.out (fun h => by have := Kmw122.out.lt; omega)
                        have Krw123 : Hid (Bk w123 gr [vu32 2, vu32 kq, .slice r.A r.n r.c]) := Krw122.out.chg hch Fdr.out
                        have Fdr : Hid (¬ footD gd gsd lvdw123 gr) := fun hj => (hft _ hj).elim Fdr.out (fun h => by have := Krw122.out.lt; omega)
                        clear hp hd hft hch Ktw122 Kkw122 Kow122 Kmw122 Krw122 Ddw122 Ew122
                        go_wp2_with fail
                        go_roundw
                        case rel => exact ⟨1, by decide, by go_num, Ew123.out, fun _ => ⟨_, T2, Ddw123.out, HUP2.out, Kkw123.out, Kow123.out, Kmw123.out, Ktw123.out, Krw123.out, ⟨Fdk.out, Fdo.out, Fdm.out, Fdt.out, Fdr.out⟩⟩⟩
                        case measure => simp [intOf]
                  case inr =>
                    have hv2 : _ = Value.int .i64 1 := hv18
                    subst hv2
                    as_aux_lemma =>
                      go_wp2_with fail
                      have H4 : Hid (TornKeep wq (.slice none 0 0) (.int .i64 0) wq) := ⟨0, [], by decide, rfl, rfl, ⟨rfl, .inl ⟨rfl, rfl⟩⟩, Below.refl _ _⟩
                      go_loopw [19, 20] (fun v19 v20 wr => TornKeep wq v19 v20 wr) (fun _ v20 _ => 8 - (intOf v20).toNat)
                      case atStart => exact H4.out
                      case round =>
                        obtain ⟨k8, ks, hk8, hkl, rfl, ho, hb⟩ := hrel
                        have OR := Lib.hid ho
                        have BR := Lib.hid hb
                        have HKL := Lib.hid hkl
                        clear ho hb hkl H4
                        by_cases hlt8 : k8 < 8
                        · have hki8 : (k8 : Int) < 8 := by omega
                          have hk80 : (0 : Int) ≤ (k8 : Int) := by omega
                          have cn := (KTq.out.below BR.out).cell DN2.out
                          obtain ⟨A7, c7, rfl, _, _, _⟩ := own_rd OR.out
                          obtain ⟨b, hb8⟩ := torn_bit y2 k8 hy2
                          have HB8 := Lib.hid hb8
                          clear hb8
                          go_wp2_with (at_builtin; refine wpList_append_rd rfl (.tmp 158) (.tmp 167) 56 rfl wq.heap.size 5 (.int .u8 0) 1 1 Try.underlying56 info_u8n rfl (by decide) (by decide) (.slice A7 k8 c7) k8 (bts ks) rfl ?own (some ⟨wr.heap.size, 0, none⟩) 1 1 (bts [b]) rfl rfl ?rd (one_bts _) (by omega) (by have := BR.out.size; simp; omega) ?_)
                          case own => exact own_chg OR.out ((Chg.refl (S := NoS) wr).alloc _) (fun _ _ => id)
                          case rd =>
                            have h : bts [b] = [vu8 b] := rfl
                            rw [h, ← HB8.out]
                            exact Rd.new _ _ _
                          intro v1 w9 hown hg hat
                          have O9 : Hid (w9.ownsRow wq.heap.size 5 1 v1 (k8 + 1) (bts (ks ++ [b]))) := by
                            show World.ownsRow _ _ _ _ _ _ _
                            rw [bts_append]
                            exact hown
                          have B9 : Hid (Below wq.heap.size wq w9) := BR.out.trans (((Below.refl wr.heap.size wr).alloc (Nat.le_refl _) _).mono BR.out.size |>.trans (below_grown hg (by have := BR.out.size; simp; omega) (fun j hj => (OR.out.lt _ hj).1)))
                          clear hown hg hat cn
                          go_wp2_with fail
                          go_roundw
                          case rel => exact ⟨k8 + 1, ks ++ [b], by omega, by simp [HKL.out], by go_num, O9.out, B9.out⟩
                          case measure => simp [intOf]; omega
                        have hke8 : k8 = 8 := by omega
                        subst hke8
                        have hki8 : ¬ (((8 : Nat) : Int) < 8) := by omega
                        have DQC : Hid (DSes 92 w wq gd gsd lvq TQ) := ⟨DQ.out.at_, DQ.out.fr, DQ.out.bel⟩
                        have Ewr : Hid (Below w.heap.size w wr) := Eq.out.trans (BR.out.mono Eq.out.size)
                        have Ktwr : Hid (Bk wr w.heap.size bn) := KTq.out.below BR.out
                        have Kkwr : Hid (Bk wr gk (secs W)) := KKq.out.below BR.out
                        have Kowr : Hid (Bk wr go (labC L)) := KOq.out.below BR.out
                        have Kmwr : Hid (Bk wr gm (secs (wantS W r.ps))) := KMq.out.below BR.out
                        have Krwr : Hid (Bk wr gr [vu32 2, vu32 kq, .slice r.A r.n r.c]) := KRq.out.below BR.out
                        have Ddwr : Hid (DSes 92 w wr gd gsd lvq TQ) := DQ.out.below BR.out
                        clear Eq KTq KKq KOq KMq KRq DQ
                        obtain ⟨A7, c7, rfl, _, _, _⟩ := own_rd OR.out
                        obtain ⟨S1, hS1, hT1⟩ := HUQ.out ks
                        have HS1 := Lib.hid hS1
                        have HT1 := Lib.hid hT1
                        clear hS1 hT1
                        go_wp2_with fail
                        refine (diskUp_at wr gd gsd lvq TQ A7 8 c7 ks Ddwr.out.at_ HKL.out (fun w' hc => by
                          obtain ⟨A', c', hv', hr', _, _⟩ := own_rd (own_chg OR.out hc (fun j hj hf => by
                            have h1 := (OR.out.lt _ hj).1
                            have h2 := DiskAt.lt DQC.out.at_ j (by rcases hf with hf | hf; exact .inl hf; exact .inr (.inl hf))
                            omega))
                          injection hv' with h1 _ _
                          subst h1
                          exact hr')).mono ?_
                        intro en w121 hp
                        rw [HS1.out] at hp
                        have hch := DPost.chgF hp
                        obtain ⟨rfl, lvdw121, hd, hft⟩ := DSes.post2 Ddwr.out hp
                        have Ddw121 : Hid (DSes 92 w w121 gd gsd lvdw121 (UpD S1)) := hd
                        have Ew121 : Hid (Below w.heap.size w w121) := hd.bel
                        have Ktw121 : Hid (Bk w121 w.heap.size bn) := Ktwr.out.chg hch Fdt.out
                        have Fdt : Hid (¬ footD gd gsd lvdw121 w.heap.size) := fun hj => (hft _ hj).elim Fdt.out (fun h => by have := Ktwr.out.lt; omega)
                        have Kkw121 : Hid (Bk w121 gk (secs W)) := Kkwr.out.chg hch Fdk.out
                        have Fdk : Hid (¬ footD gd gsd lvdw121 gk) := fun hj => (hft _ hj).elim Fdk.out (fun h => by have := Kkwr.out.lt; omega)
                        have Kow121 : Hid (Bk w121 go (labC L)) := Kowr.out.chg hch Fdo.out
                        have Fdo : Hid (¬ footD gd gsd lvdw121 go) := fun hj => (hft _ hj).elim Fdo.out (fun h => by have := Kowr.out.lt; omega)
                        have Kmw121 : Hid (Bk w121 gm (secs (wantS W r.ps))) := Kmwr.out.chg hch Fdm.out
                        have Fdm : Hid (¬ footD gd gsd lvdw121 gm) := fun hj => (hft _ hj).elim Fdm.out (fun h => by have := Kmwr.out.lt; omega)
                        have Krw121 : Hid (Bk w121 gr [vu32 2, vu32 kq, .slice r.A r.n r.c]) := Krwr.out.chg hch Fdr.out
                        have Fdr : Hid (¬ footD gd gsd lvdw121 gr) := fun hj => (hft _ hj).elim Fdr.out (fun h => by have := Krwr.out.lt; omega)
                        clear hp hd hft hch Ktwr Kkwr Kowr Kmwr Krwr Ddwr Ewr
                        go_wp2_with fail
                        obtain ⟨T, l, hol, hTl, hcase⟩ := open_whole HT1.out HGD.out HLAT.out
                        have HOL := Lib.hid hol
                        have HTL := Lib.hid hTl
                        clear hol hTl
                        have HSZy : Hid (w.heap.size ≤ w121.heap.size) := Ew121.out.size
                        refine (ndOpen_calls w121 gd gsd lvdw121 (UpD S1) 0 Ddw121.out.at_ (ok_up _) (by decide)).mono ?_
                        intro en w122 hp
                        rw [HOL.out] at hp
                        obtain ⟨hy, lvdw122, rfl, hd, hk, hge, hnf, hft, hch⟩ := DSes.opost Ddw121.out hp
                        have Aty : Hid (w.heap.size < hy) := by show _ < _; have := Ktw121.out.lt; omega
                        have Aky : Hid (gk < hy) := by show _ < _; have := Kkw121.out.lt; omega
                        have Aoy : Hid (go < hy) := by show _ < _; have := Kow121.out.lt; omega
                        have Amy : Hid (gm < hy) := by show _ < _; have := Kmw121.out.lt; omega
                        have Ary : Hid (gr < hy) := by show _ < _; have := Krw121.out.lt; omega
                        have Ddw122 : Hid (DSes 92 w w122 gd gsd lvdw122 (UpD T)) := hd
                        have Ew122 : Hid (Below w.heap.size w w122) := hd.bel
                        have Ktw122 : Hid (Bk w122 w.heap.size bn) := Ktw121.out.chg hch Fdt.out
                        have Fdt : Hid (¬ footD gd gsd lvdw122 w.heap.size) := fun hj => (hft _ hj).elim Fdt.out (fun h => by have := Ktw121.out.lt; omega)
                        have Kkw122 : Hid (Bk w122 gk (secs W)) := Kkw121.out.chg hch Fdk.out
                        have Fdk : Hid (¬ footD gd gsd lvdw122 gk) := fun hj => (hft _ hj).elim Fdk.out (fun h => by have := Kkw121.out.lt; omega)
                        have Kow122 : Hid (Bk w122 go (labC L)) := Kow121.out.chg hch Fdo.out
                        have Fdo : Hid (¬ footD gd gsd lvdw122 go) := fun hj => (hft _ hj).elim Fdo.out (fun h => by have := Kow121.out.lt; omega)
                        have Kmw122 : Hid (Bk w122 gm (secs (wantS W r.ps))) := Kmw121.out.chg hch Fdm.out
                        have Fdm : Hid (¬ footD gd gsd lvdw122 gm) := fun hj => (hft _ hj).elim Fdm.out (fun h => by have := Kmw121.out.lt; omega)
                        have Krw122 : Hid (Bk w122 gr [vu32 2, vu32 kq, .slice r.A r.n r.c]) := Krw121.out.chg hch Fdr.out
                        have Fdr : Hid (¬ footD gd gsd lvdw122 gr) := fun hj => (hft _ hj).elim Fdr.out (fun h => by have := Krw121.out.lt; omega)
                        have Kyw122 : Hid (Bk w122 hy (NdC gd l)) := hk
                        have Fdy : Hid (¬ footD gd gsd lvdw122 hy) := hnf
                        have NHy : Hid (w.heap.size ≤ hy) := by show _ ≤ _; have := HSZy.out; omega
                        clear hp hd hk hge hnf hft hch Ktw121 Kkw121 Kow121 Kmw121 Krw121 Ddw121 Ew121
                        go_wp2_with fail
                        refine (ndLabel_calls w122 gd hy l Kyw122.out).mono ?_
                        rintro en w123 ⟨rfl, hb⟩
                        have Ew123 : Hid (Below w.heap.size w w123) := Ew122.out.trans (hb.mono Ew122.out.size)
                        have Ktw123 : Hid (Bk w123 w.heap.size bn) := Ktw122.out.below hb
                        have Kkw123 : Hid (Bk w123 gk (secs W)) := Kkw122.out.below hb
                        have Kow123 : Hid (Bk w123 go (labC L)) := Kow122.out.below hb
                        have Kmw123 : Hid (Bk w123 gm (secs (wantS W r.ps))) := Kmw122.out.below hb
                        have Krw123 : Hid (Bk w123 gr [vu32 2, vu32 kq, .slice r.A r.n r.c]) := Krw122.out.below hb
                        have Kyw123 : Hid (Bk w123 hy (NdC gd l)) := Kyw122.out.below hb
                        have Ddw123 : Hid (DSes 92 w w123 gd gsd lvdw122 (UpD T)) := Ddw122.out.below hb
                        clear Ew122 Ktw122 Kkw122 Kow122 Kmw122 Krw122 Kyw122 Ddw122
                        clear hb
                        go_wp2_with (refine wpList_al rfl 40 rfl (labC zLab) (by kernel_rfl) ?_)
                        intro gq w124 hg hb hc hs
                        have HQq : Hid (Below w123.heap.size w123 w124) := hc.below (Nat.le_refl _) (fun _ _ => id)
                        have HGq : Hid (gq = w123.heap.size) := hg
                        have KZq := Lib.hid hb
                        clear hg hb hc hs
                        go_wp2_with (refine wpList_st rfl 40 (.tmp 23) (.tmp 194) rfl gq 0 5 (labC zLab) (labC l) rfl rfl KZq.out (by kernel_rfl) rfl (by decide) (one_lab _) ?_)
                        intro w125 hbk hc
                        rw [splice_whole (labC zLab) (labC l) rfl] at hbk
                        have hb : Below w123.heap.size w123 w125 := HQq.out.trans (hc.below HQq.out.size (fun q hq he => by have := HGq.out; omega))
                        have Fdq : Hid (¬ footD gd gsd lvdw122 gq) := fun hj => by have := DiskAt.lt Ddw123.out.at_ _ hj; have := HGq.out; omega
                        have Atq : Hid (w.heap.size < gq) := by show _ < _; have := Ktw123.out.lt; have := HGq.out; omega
                        have Akq : Hid (gk < gq) := by show _ < _; have := Kkw123.out.lt; have := HGq.out; omega
                        have Aoq : Hid (go < gq) := by show _ < _; have := Kow123.out.lt; have := HGq.out; omega
                        have Amq : Hid (gm < gq) := by show _ < _; have := Kmw123.out.lt; have := HGq.out; omega
                        have Arq : Hid (gr < gq) := by show _ < _; have := Krw123.out.lt; have := HGq.out; omega
                        have Ayq : Hid (hy < gq) := by show _ < _; have := Kyw123.out.lt; have := HGq.out; omega
                        have Ew125 : Hid (Below w.heap.size w w125) := Ew123.out.trans (hb.mono Ew123.out.size)
                        have Ktw125 : Hid (Bk w125 w.heap.size bn) := Ktw123.out.below hb
                        have Kkw125 : Hid (Bk w125 gk (secs W)) := Kkw123.out.below hb
                        have Kow125 : Hid (Bk w125 go (labC L)) := Kow123.out.below hb
                        have Kmw125 : Hid (Bk w125 gm (secs (wantS W r.ps))) := Kmw123.out.below hb
                        have Krw125 : Hid (Bk w125 gr [vu32 2, vu32 kq, .slice r.A r.n r.c]) := Krw123.out.below hb
                        have Kyw125 : Hid (Bk w125 hy (NdC gd l)) := Kyw123.out.below hb
                        have Ddw125 : Hid (DSes 92 w w125 gd gsd lvdw122 (UpD T)) := Ddw123.out.below hb
                        clear Ew123 Ktw123 Kkw123 Kow123 Kmw123 Krw123 Kyw123 Ddw123
                        have Kqw125 : Hid (Bk w125 gq (labC l)) := hbk
                        have Kqw125 : Hid (Bk w125 gq (labC l)) := hbk
                        clear hbk hb hc KZq HQq HGq
                        go_wp2_with fail
                        apply wp_region_rel 15 (Chg NoS) [(Veq _), (Veq _), (Veq _), (Veq _), (Veq _), (Veq _), (Veq _), (Veq (vu32 (nextU L.n kq))), (Veq _), (Veq _), (Veq _), (Veq _), (Veq _), (Veq (.agg (labC (carryL L 2 kq r.ps l.d)).toArray)), (PtrAt NoS w125.heap.size (labC zLab))] [[], [0], [], [2], [], [4], [5], [3, 6], [], [8], [], [10], [11], [1, 7, 9, 12], []] [195, 196, 197, 198, 199, 200, 201, 202, 203, 204, 205, 206, 207, 208, 24] (by kernel_rfl) (by kernel_rfl) rfl rfl rfl Chg.refl (fun _ _ _ => Chg.trans) ⟨Veq.lasts, Veq.lasts, Veq.lasts, Veq.lasts, Veq.lasts, Veq.lasts, Veq.lasts, Veq.lasts, Veq.lasts, Veq.lasts, Veq.lasts, Veq.lasts, Veq.lasts, Veq.lasts, PtrAt.lasts, trivial⟩ ?iops ?ifin
                        case iops =>
                          refine ⟨?io0, ?io1, ?io2, ?io3, ?io4, ?io5, ?io6, ?io7, ?io8, ?io9, ?io10, ?io11, ?io12, ?io13, ?io14, trivial⟩
                          case io0 =>
                            intro a wx hE hin
                            have i15 : a.eval (.tmp 15) = .pointer (some ⟨gr, 0, none⟩) := hin 15 rfl
                            clear hin
                            have hcst : ∀ v, a.eval (.const v) = v := fun _ => rfl
                            have hfnc : ∀ f, a.eval (.func f) = .func (.func f) #[] #[] := fun _ => rfl
                            refine want_none rfl ?_
                            unfold Oper.wp
                            generalize a.eval = ρ at *
                            go_simp
                            try go_bits
                            first | exact rel_val (Chg.refl _) | (go_simp; exact rel_val (Chg.refl _))
                          case io1 =>
                            rintro a wx hE hin (h0 : a.eval (.tmp 195) = _)
                            clear hin
                            have hcst : ∀ v, a.eval (.const v) = v := fun _ => rfl
                            have hfnc : ∀ f, a.eval (.func f) = .func (.func f) #[] #[] := fun _ => rfl
                            refine want_none rfl ?_
                            unfold Oper.wp
                            generalize a.eval = ρ at *
                            have c : wx.cell? ⟨gr, 1, none⟩ = some (vu32 kq) := (Krw125.out.drew.chg hE id).cell rfl
                            rw [vu32] at c
                            go_simp
                            try go_bits
                            first | exact rel_val (Chg.refl _) | (go_simp; exact rel_val (Chg.refl _))
                          case io2 =>
                            intro a wx hE hin
                            have i11 : a.eval (.tmp 11) = .pointer (some ⟨go, 0, none⟩) := hin 11 rfl
                            clear hin
                            have hcst : ∀ v, a.eval (.const v) = v := fun _ => rfl
                            have hfnc : ∀ f, a.eval (.func f) = .func (.func f) #[] #[] := fun _ => rfl
                            refine want_none rfl ?_
                            unfold Oper.wp
                            generalize a.eval = ρ at *
                            go_simp
                            try go_bits
                            first | exact rel_val (Chg.refl _) | (go_simp; exact rel_val (Chg.refl _))
                          case io3 =>
                            rintro a wx hE hin (h2 : a.eval (.tmp 197) = _)
                            clear hin
                            have hcst : ∀ v, a.eval (.const v) = v := fun _ => rfl
                            have hfnc : ∀ f, a.eval (.func f) = .func (.func f) #[] #[] := fun _ => rfl
                            refine want_none rfl ?_
                            unfold Oper.wp
                            generalize a.eval = ρ at *
                            have c : wx.cell? ⟨go, 2, none⟩ = some (vu32 L.n) := (Kow125.out.drew.chg hE id).cell rfl
                            rw [vu32] at c
                            go_simp
                            try go_bits
                            first | exact rel_val (Chg.refl _) | (go_simp; exact rel_val (Chg.refl _))
                          case io4 =>
                            intro a wx hE hin
                            have i15 : a.eval (.tmp 15) = .pointer (some ⟨gr, 0, none⟩) := hin 15 rfl
                            clear hin
                            have hcst : ∀ v, a.eval (.const v) = v := fun _ => rfl
                            have hfnc : ∀ f, a.eval (.func f) = .func (.func f) #[] #[] := fun _ => rfl
                            refine want_none rfl ?_
                            unfold Oper.wp
                            generalize a.eval = ρ at *
                            go_simp
                            try go_bits
                            first | exact rel_val (Chg.refl _) | (go_simp; exact rel_val (Chg.refl _))
                          case io5 =>
                            rintro a wx hE hin (h4 : a.eval (.tmp 199) = _)
                            clear hin
                            have hcst : ∀ v, a.eval (.const v) = v := fun _ => rfl
                            have hfnc : ∀ f, a.eval (.func f) = .func (.func f) #[] #[] := fun _ => rfl
                            refine want_none rfl ?_
                            unfold Oper.wp
                            generalize a.eval = ρ at *
                            have c : wx.cell? ⟨gr, 1, none⟩ = some (vu32 kq) := (Krw125.out.drew.chg hE id).cell rfl
                            rw [vu32] at c
                            go_simp
                            try go_bits
                            first | exact rel_val (Chg.refl _) | (go_simp; exact rel_val (Chg.refl _))
                          case io6 =>
                            rintro a wx hE hin (h5 : a.eval (.tmp 200) = _)
                            clear hin
                            have hcst : ∀ v, a.eval (.const v) = v := fun _ => rfl
                            have hfnc : ∀ f, a.eval (.func f) = .func (.func f) #[] #[] := fun _ => rfl
                            refine want_none rfl ?_
                            unfold Oper.wp
                            generalize a.eval = ρ at *
                            go_simp
                            try go_bits
                            first | exact rel_val (Chg.refl _) | (go_simp; exact rel_val (Chg.refl _))
                          case io7 =>
                            rintro a wx hE hin (h3 : a.eval (.tmp 198) = _) (h6 : a.eval (.tmp 201) = _)
                            clear hin
                            have hcst : ∀ v, a.eval (.const v) = v := fun _ => rfl
                            have hfnc : ∀ f, a.eval (.func f) = .func (.func f) #[] #[] := fun _ => rfl
                            refine want_none rfl ?_
                            unfold Oper.wp
                            generalize a.eval = ρ at *
                            go_simp
                            try go_bits
                            exact ⟨_, rfl, u32_max L.n kq, Chg.refl _⟩
                          case io8 =>
                            intro a wx hE hin
                            have i23 : a.eval (.tmp 23) = .pointer (some ⟨gq, 0, none⟩) := hin 23 rfl
                            clear hin
                            have hcst : ∀ v, a.eval (.const v) = v := fun _ => rfl
                            have hfnc : ∀ f, a.eval (.func f) = .func (.func f) #[] #[] := fun _ => rfl
                            refine want_none rfl ?_
                            unfold Oper.wp
                            generalize a.eval = ρ at *
                            go_simp
                            try go_bits
                            first | exact rel_val (Chg.refl _) | (go_simp; exact rel_val (Chg.refl _))
                          case io9 =>
                            rintro a wx hE hin (h8 : a.eval (.tmp 203) = _)
                            clear hin
                            have hcst : ∀ v, a.eval (.const v) = v := fun _ => rfl
                            have hfnc : ∀ f, a.eval (.func f) = .func (.func f) #[] #[] := fun _ => rfl
                            refine want_none rfl ?_
                            unfold Oper.wp
                            generalize a.eval = ρ at *
                            have c : wx.cell? ⟨gq, 3, none⟩ = some (vu16 l.d) := (Kqw125.out.drew.chg hE id).cell rfl
                            go_simp
                            try go_bits
                            first | exact rel_val (Chg.refl _) | (go_simp; exact rel_val (Chg.refl _))
                          case io10 =>
                            intro a wx hE hin
                            have i15 : a.eval (.tmp 15) = .pointer (some ⟨gr, 0, none⟩) := hin 15 rfl
                            clear hin
                            have hcst : ∀ v, a.eval (.const v) = v := fun _ => rfl
                            have hfnc : ∀ f, a.eval (.func f) = .func (.func f) #[] #[] := fun _ => rfl
                            refine want_none rfl ?_
                            unfold Oper.wp
                            generalize a.eval = ρ at *
                            go_simp
                            try go_bits
                            first | exact rel_val (Chg.refl _) | (go_simp; exact rel_val (Chg.refl _))
                          case io11 =>
                            rintro a wx hE hin (h10 : a.eval (.tmp 205) = _)
                            clear hin
                            have hcst : ∀ v, a.eval (.const v) = v := fun _ => rfl
                            have hfnc : ∀ f, a.eval (.func f) = .func (.func f) #[] #[] := fun _ => rfl
                            refine want_none rfl ?_
                            unfold Oper.wp
                            generalize a.eval = ρ at *
                            have c : wx.cell? ⟨gr, 2, none⟩ = some (.slice r.A r.n r.c) := (Krw125.out.drew.chg hE id).cell rfl
                            go_simp
                            try go_bits
                            first | exact rel_val (Chg.refl _) | (go_simp; exact rel_val (Chg.refl _))
                          case io12 =>
                            rintro a wx hE hin (h11 : a.eval (.tmp 206) = _)
                            clear hin
                            have hcst : ∀ v, a.eval (.const v) = v := fun _ => rfl
                            have hfnc : ∀ f, a.eval (.func f) = .func (.func f) #[] #[] := fun _ => rfl
                            refine want_none rfl ?_
                            unfold Oper.wp
                            generalize a.eval = ρ at *
                            go_simp
                            go_simp
                            refine (refBits_calls r.ps r.A r.n r.c wx HOK.out.len (by have h2 := HOK.out.cap; have h3 := HOK.out.max; omega) (HOK.out.rd.below (Ew125.out.trans (hE.undrew.below Ew125.out.size (fun _ _ => id)))) HOK.out.ok).mono ?_
                            rintro e w' ⟨rfl, rfl⟩
                            exact rel_val (Chg.refl _)
                          case io13 =>
                            rintro a wx hE hin (h1 : a.eval (.tmp 196) = _) (h7 : a.eval (.tmp 202) = _) (h9 : a.eval (.tmp 204) = _) (h12 : a.eval (.tmp 207) = _)
                            clear hin
                            have hcst : ∀ v, a.eval (.const v) = v := fun _ => rfl
                            have hfnc : ∀ f, a.eval (.func f) = .func (.func f) #[] #[] := fun _ => rfl
                            refine want_none rfl ?_
                            exact wp_bld 40 [(0, .const (.int .u32 2)), (1, .tmp 196), (2, .tmp 202), (3, .tmp 204), (4, .tmp 207)] rfl (labC zLab) [(0, [vu32 2]), (1, [vu32 kq]), (2, [vu32 (nextU L.n kq)]), (3, [vu16 l.d]), (4, [vu16 (UInt16.ofNat (bitsN r.ps))])] (labC (carryL L 2 kq r.ps l.d)) (by kernel_rfl) (by kernel_rfl) ⟨rfl, ⟨1, rfl, by kernel_rfl, by decide⟩, by rw [h1]; rfl, ⟨1, rfl, by kernel_rfl, by decide⟩, by rw [h7]; rfl, ⟨1, rfl, by kernel_rfl, by decide⟩, by rw [h9]; rfl, ⟨1, rfl, by kernel_rfl, by decide⟩, by rw [h12, vu16_of _ (by have := bitsN_lt r.ps; omega)]; rfl, ⟨1, rfl, by kernel_rfl, by decide⟩, trivial⟩ rfl (rel_val (Chg.refl _))
                          case io14 =>
                            intro a wx hE hin
                            clear hin
                            have hcst : ∀ v, a.eval (.const v) = v := fun _ => rfl
                            have hfnc : ∀ f, a.eval (.func f) = .func (.func f) #[] #[] := fun _ => rfl
                            refine want_none rfl ?_
                            exact wp_al 40 rfl (labC zLab) (by kernel_rfl) ⟨_, rfl, ⟨wx.heap.size, rfl, hE.size, id, Bk.new _ _ _⟩, (Chg.refl _).alloc _⟩
                        case ifin =>
                          intro wx hE
                          rintro _ rfl _ rfl _ rfl _ rfl _ rfl _ rfl _ rfl _ rfl _ rfl _ rfl _ rfl _ rfl _ rfl _ rfl _ ⟨gf, rfl, p14, n14, b14⟩
                          simp only [FinOk, List.take_succ_cons, List.take_zero, List.take_nil, List.drop_succ_cons, List.drop_zero, List.drop_nil, Act.put, List.setIfInBounds_toArray, List.set_cons_succ, List.set_cons_zero]
                          have N8 : Hid (Bk wx gf (labC zLab)) := b14
                          have HGF : Hid (w125.heap.size ≤ gf) := p14
                          have E8 : Hid (Below w125.heap.size w125 wx) := hE.undrew.below (Nat.le_refl _) (fun _ _ => id)
                          clear hE b14 p14 n14
                          go_wp2_with (refine wpList_st rfl 40 (.tmp 24) (.tmp 208) rfl gf 0 5 (labC zLab) (labC (carryL L 2 kq r.ps l.d)) rfl rfl N8.out (by kernel_rfl) rfl (by exact Nat.le_refl 5) (one_lab _) ?_)
                          intro w10 hbk hc
                          rw [splice_whole (labC zLab) (labC (carryL L 2 kq r.ps l.d)) rfl] at hbk
                          have HB10 : Hid (Below w125.heap.size w125 w10) := E8.out.trans (hc.below E8.out.size (fun k hk he => by have := HGF.out; omega))
                          have KF := Lib.hid hbk
                          have Fdf : Hid (¬ footD gd gsd lvdw122 gf) := fun hj => by have := DiskAt.lt Ddw125.out.at_ _ hj; have := HGF.out; omega
                          have Atf : Hid (w.heap.size < gf) := by show _ < _; have := Ktw125.out.lt; have := HGF.out; omega
                          have Akf : Hid (gk < gf) := by show _ < _; have := Kkw125.out.lt; have := HGF.out; omega
                          have Aof : Hid (go < gf) := by show _ < _; have := Kow125.out.lt; have := HGF.out; omega
                          have Amf : Hid (gm < gf) := by show _ < _; have := Kmw125.out.lt; have := HGF.out; omega
                          have Arf : Hid (gr < gf) := by show _ < _; have := Krw125.out.lt; have := HGF.out; omega
                          have Ayf : Hid (hy < gf) := by show _ < _; have := Kyw125.out.lt; have := HGF.out; omega
                          have Aqf : Hid (gq < gf) := by show _ < _; have := Kqw125.out.lt; have := HGF.out; omega
                          clear hbk hc N8 E8
                          have Ew10 : Hid (Below w.heap.size w w10) := Ew125.out.trans (HB10.out.mono Ew125.out.size)
                          have Ktw10 : Hid (Bk w10 w.heap.size bn) := Ktw125.out.below HB10.out
                          have Kkw10 : Hid (Bk w10 gk (secs W)) := Kkw125.out.below HB10.out
                          have Kow10 : Hid (Bk w10 go (labC L)) := Kow125.out.below HB10.out
                          have Kmw10 : Hid (Bk w10 gm (secs (wantS W r.ps))) := Kmw125.out.below HB10.out
                          have Krw10 : Hid (Bk w10 gr [vu32 2, vu32 kq, .slice r.A r.n r.c]) := Krw125.out.below HB10.out
                          have Kyw10 : Hid (Bk w10 hy (NdC gd l)) := Kyw125.out.below HB10.out
                          have Kqw10 : Hid (Bk w10 gq (labC l)) := Kqw125.out.below HB10.out
                          have Ddw10 : Hid (DSes 92 w w10 gd gsd lvdw122 (UpD T)) := Ddw125.out.below HB10.out
                          clear Ew125 Ktw125 Kkw125 Kow125 Kmw125 Krw125 Kyw125 Kqw125 Ddw125
                          go_wp2_with (first
                            | (refine wpList_ld rfl 51 (.tmp 10) rfl gk 0 384 (secs W) (secs W) rfl Kkw10.out (by kernel_rfl) (by kernel_rfl) (by rw [HW384.out]; exact Nat.le_refl _) (by rw [List.drop_zero, List.take_of_length_le (by rw [HW384.out]; exact Nat.le_refl _)]) ?_)
                            | (refine wpList_al rfl 51 rfl (bts (List.replicate 384 0)) (by kernel_rfl) ?_))
                          intro gv w126 hg hb hc hs
                          have HQv : Hid (Below w10.heap.size w10 w126) := hc.below (Nat.le_refl _) (fun _ _ => id)
                          have HGv : Hid (gv = w10.heap.size) := hg
                          have KZv := Lib.hid hb
                          clear hg hb hc hs
                          go_wp2_with (refine wpList_st rfl 51 (.tmp 25) (.tmp 209) rfl gv 0 384 (bts (List.replicate 384 0)) (secs W) rfl rfl KZv.out (by kernel_rfl) HW384.out (by decide) (one_secs _) ?_)
                          intro w127 hbk hc
                          rw [splice_whole _ _ (by rw [HW384.out]; rfl)] at hbk
                          have hb : Below w10.heap.size w10 w127 := HQv.out.trans (hc.below HQv.out.size (fun q hq he => by have := HGv.out; omega))
                          have Fdv : Hid (¬ footD gd gsd lvdw122 gv) := fun hj => by have := DiskAt.lt Ddw10.out.at_ _ hj; have := HGv.out; omega
                          have Atv : Hid (w.heap.size < gv) := by show _ < _; have := Ktw10.out.lt; have := HGv.out; omega
                          have Akv : Hid (gk < gv) := by show _ < _; have := Kkw10.out.lt; have := HGv.out; omega
                          have Aov : Hid (go < gv) := by show _ < _; have := Kow10.out.lt; have := HGv.out; omega
                          have Amv : Hid (gm < gv) := by show _ < _; have := Kmw10.out.lt; have := HGv.out; omega
                          have Arv : Hid (gr < gv) := by show _ < _; have := Krw10.out.lt; have := HGv.out; omega
                          have Ayv : Hid (hy < gv) := by show _ < _; have := Kyw10.out.lt; have := HGv.out; omega
                          have Aqv : Hid (gq < gv) := by show _ < _; have := Kqw10.out.lt; have := HGv.out; omega
                          have Afv : Hid (gf < gv) := by show _ < _; have := KF.out.lt; have := HGv.out; omega
                          have Ew127 : Hid (Below w.heap.size w w127) := Ew10.out.trans (hb.mono Ew10.out.size)
                          have Ktw127 : Hid (Bk w127 w.heap.size bn) := Ktw10.out.below hb
                          have Kkw127 : Hid (Bk w127 gk (secs W)) := Kkw10.out.below hb
                          have Kow127 : Hid (Bk w127 go (labC L)) := Kow10.out.below hb
                          have Kmw127 : Hid (Bk w127 gm (secs (wantS W r.ps))) := Kmw10.out.below hb
                          have Krw127 : Hid (Bk w127 gr [vu32 2, vu32 kq, .slice r.A r.n r.c]) := Krw10.out.below hb
                          have Kyw127 : Hid (Bk w127 hy (NdC gd l)) := Kyw10.out.below hb
                          have Kqw127 : Hid (Bk w127 gq (labC l)) := Kqw10.out.below hb
                          have Kfw127 : Hid (Bk w127 gf (labC (carryL L 2 kq r.ps l.d))) := KF.out.below hb
                          have Ddw127 : Hid (DSes 92 w w127 gd gsd lvdw122 (UpD T)) := Ddw10.out.below hb
                          clear Ew10 Ktw10 Kkw10 Kow10 Kmw10 Krw10 Kyw10 Kqw10 KF Ddw10
                          have Kvw127 : Hid (Bk w127 gv (secs W)) := hbk
                          have Kvw127 : Hid (Bk w127 gv (secs W)) := hbk
                          clear hbk hb hc KZv HQv HGv
                          have GEv : Hid (w.heap.size ≤ gv) := by show _ ≤ _; have h1 := Akv.out; have h2 := GEk.out; omega
                          rcases hcase with ⟨he, _, _⟩ | ⟨hl1, hb1⟩
                          · exact absurd he (by decide)
                          have HBL := Lib.hid hb1
                          clear hb1
                          have hl3 : l = carryL L 2 kq r.ps L.d ∨ (¬ dd = L.d ∧ l = (carryL L 2 kq r.ps dd)) := by
                            by_cases hdn : dd = L.d
                            · exact .inl (hl1.elim id (fun h => by rw [h, hdn]))
                            · exact hl1.imp id (fun h => ⟨hdn, h⟩)
                          clear hl1
                          rcases hl3 with hl1 | ⟨hdn, hl1⟩
                          case inl =>
                            have HLD : Hid (l = (carryL L 2 kq r.ps l.d)) := by show _ = _; rw [hl1]; rfl
                            have HDD : Hid (l.d = L.d) := by show _ = _; rw [hl1]; rfl
                            clear hl1
                            go_wp2_with (first
                              | (refine wpList_ld rfl 40 (.tmp 23) rfl gq 0 5 (labC l) (labC l) rfl Kqw127.out (by kernel_rfl) (by kernel_rfl) (Nat.le_refl 5) rfl ?_)
                              | (refine wpList_ld rfl 40 (.tmp 24) rfl gf 0 5 (labC (carryL L 2 kq r.ps l.d)) (labC (carryL L 2 kq r.ps l.d)) rfl Kfw127.out (by kernel_rfl) (by kernel_rfl) (Nat.le_refl 5) rfl ?_)
                              | (refine wpList_eq_labU rfl false 40 (.tmp 210) (.tmp 211) rfl l (carryL L 2 kq r.ps l.d) rfl rfl true (torn_eq HLD.out) ?_))
                            intro wsm hsm
                            obtain rfl : w127 = wsm := hsm
                            have cq3 : w127.cell? ⟨gq, 3, none⟩ = some (vu16 l.d) := Kqw127.out.cell rfl
                            have co3 : w127.cell? ⟨go, 3, none⟩ = some (vu16 L.d) := Kow127.out.cell rfl
                            rw [HDD.out] at cq3
                            go_wp2_with (first
                              | (refine wpList_ld rfl 51 (.tmp 12) rfl gm 0 384 (secs (wantS W r.ps)) (secs (wantS W r.ps)) rfl Kmw127.out (by kernel_rfl) (by kernel_rfl) (by rw [HX384.out]; exact Nat.le_refl _) (by rw [List.drop_zero, List.take_of_length_le (by rw [HX384.out]; exact Nat.le_refl _)]) ?_)
                              | (refine wpList_st rfl 51 (.tmp 25) (.tmp 226) rfl gv 0 384 (secs W) (secs (wantS W r.ps)) rfl rfl Kvw127.out (by kernel_rfl) HX384.out (by rw [HW384.out]; exact Nat.le_refl _) (one_secs _) ?_))
                            intro w128 hbk hc
                            rw [splice_whole _ _ (by rw [HX384.out, HW384.out])] at hbk
                            have Ew128 : Hid (Below w.heap.size w w128) := Ew127.out.trans (hc.below Ew127.out.size (fun q hq he => by have := GEv.out; omega))
                            have Ktw128 : Hid (Bk w128 w.heap.size bn) := Ktw127.out.chg hc (fun he => by have := Atv.out; omega)
                            have Kkw128 : Hid (Bk w128 gk (secs W)) := Kkw127.out.chg hc (fun he => by have := Akv.out; omega)
                            have Kow128 : Hid (Bk w128 go (labC L)) := Kow127.out.chg hc (fun he => by have := Aov.out; omega)
                            have Kmw128 : Hid (Bk w128 gm (secs (wantS W r.ps))) := Kmw127.out.chg hc (fun he => by have := Amv.out; omega)
                            have Krw128 : Hid (Bk w128 gr [vu32 2, vu32 kq, .slice r.A r.n r.c]) := Krw127.out.chg hc (fun he => by have := Arv.out; omega)
                            have Kyw128 : Hid (Bk w128 hy (NdC gd l)) := Kyw127.out.chg hc (fun he => by have := Ayv.out; omega)
                            have Kqw128 : Hid (Bk w128 gq (labC l)) := Kqw127.out.chg hc (fun he => by have := Aqv.out; omega)
                            have Kfw128 : Hid (Bk w128 gf (labC (carryL L 2 kq r.ps l.d))) := Kfw127.out.chg hc (fun he => by have := Afv.out; omega)
                            have Ddw128 : Hid (DSes 92 w w128 gd gsd lvdw122 (UpD T)) := ⟨DiskAt.chg Ddw127.out.at_ hc (fun j hj he => Fdv.out (he ▸ hj)), Ddw127.out.fr, Ew128.out⟩
                            have Kvw128 : Hid (Bk w128 gv (secs (wantS W r.ps))) := hbk
                            clear hbk hc Ew127 Kvw127 Ktw127 Kkw127 Kow127 Kmw127 Krw127 Kyw127 Kqw127 Kfw127 Ddw127
                            go_wp2_with fail
                            clear cq3 co3
                            have HWS : Hid (∀ b, b < 12 → ((wantS W r.ps)).getD b [] = T.getD (7 + b) []) := (fun b hb => by rw [wantS_at r.ps W b HW12.out (goodB_ats' HGD.out) hb]; exact (HBL.out b hb).symm)
                            have HU12 : Hid (((wantS W r.ps)).length = 12) := (by rw [wantS_len]; exact HW12.out)
                            have HU32 : Hid (∀ b, b < 12 → (((wantS W r.ps)).getD b []).length = 32) := HX32.out
                            have H6 : Hid (CmpRel w gd gsd lvdw122 (UpD T) (fun u => Bk u hy (NdC gd l) ∧ Bk u gv (secs (wantS W r.ps))) (.int .i64 0) w128) := ⟨0, by decide, rfl, Ddw128.out, ⟨Kyw128.out, Kvw128.out⟩⟩
                            clear Ddw128 Ew128 Ktw128 Kkw128 Kow128 Kmw128 Krw128 Kyw128 Kqw128 Kfw128 Kvw128
                            go_loopw [26] (fun v wr => CmpRel w gd gsd lvdw122 (UpD T) (fun u => Bk u hy (NdC gd l) ∧ Bk u gv (secs (wantS W r.ps))) v wr) (fun v _ => 12 - (intOf v).toNat)
                            case atStart => exact H6.out
                            case round =>
                              obtain ⟨kb, hkb, rfl, hd3, hky3, hkv3⟩ := hrel
                              have Du := Lib.hid hd3
                              have Eu := Lib.hid hd3.bel
                              have Qyu := Lib.hid hky3
                              have Qvu := Lib.hid hkv3
                              clear hd3 hky3 hkv3 H6
                              by_cases hk12 : kb < 12
                              case pos =>
                                have hkbi : (kb : Int) < 12 := by omega
                                have hkb0 : (0 : Int) ≤ (kb : Int) := by omega
                                have HK12 := Lib.hid hk12
                                have HKI : Hid ((kb : Int) < 12) := by show _ < _; omega
                                have HK0 : Hid ((0 : Int) ≤ (kb : Int)) := by show _ ≤ _; omega
                                have HB32 : Hid ((((wantS W r.ps)).getD kb []).length = 32) := HU32.out kb hk12
                                have HRB : Hid ((UpD T).readB (7 + (kb : Int)) = ((wantS W r.ps)).getD kb []) := by
                                  have h := (up_block (S := T) HTL.out (b := kb) hk12).1
                                  rw [← HWS.out kb hk12] at h
                                  exact h
                                have HRE : Hid ((UpD T).readE (7 + (kb : Int)) = 0) := (up_block (S := T) HTL.out (b := kb) hk12).2
                                go_wp2_with fail
                                refine (ndBlock_calls wr gd gsd lvdw122 hy (UpD T) l (kb : Int) Du.out.at_ Qyu.out HK0.out HKI.out).mono ?_
                                rintro en w241 ⟨rfl, hb⟩
                                have Ew241 : Hid (Below w.heap.size w w241) := Eu.out.trans (hb.mono Eu.out.size)
                                have Kyw241 : Hid (Bk w241 hy (NdC gd l)) := Qyu.out.below hb
                                have Kvw241 : Hid (Bk w241 gv (secs (wantS W r.ps))) := Qvu.out.below hb
                                have Ddw241 : Hid (DSes 92 w w241 gd gsd lvdw122 (UpD T)) := Du.out.below hb
                                clear Eu Qyu Qvu Du
                                clear hb
                                rw [HRB.out, HRE.out]
                                obtain ⟨vb, hvb⟩ : ∃ vb, bts (((wantS W r.ps)).getD kb []) = vb := ⟨_, rfl⟩
                                have HVB := Lib.hid hvb
                                have HVL : Hid (vb.length = 32) := by show _ = _; rw [← hvb, bts_length]; exact HB32.out
                                have HVO : Hid (∀ u ∈ vb, u.oneCell' = true) := by rw [← hvb]; exact one_bts _
                                rw [hvb]
                                clear hvb
                                go_wp2_with (refine wpList_al rfl 35 rfl (bts (List.replicate 32 0)) (by kernel_rfl) ?_)
                                intro gb w242 hg hb hc hs
                                have HQb : Hid (Below w241.heap.size w241 w242) := hc.below (Nat.le_refl _) (fun _ _ => id)
                                have HGb : Hid (gb = w241.heap.size) := hg
                                have KZb := Lib.hid hb
                                clear hg hb hc hs
                                go_wp2_with (refine wpList_st rfl 35 (.tmp 27) (.tmp 242) rfl gb 0 32 (bts (List.replicate 32 0)) vb rfl rfl KZb.out (by kernel_rfl) HVL.out (by decide) HVO.out ?_)
                                intro w243 hbk hc
                                rw [splice_whole _ _ (by rw [HVL.out]; rfl)] at hbk
                                have hb : Below w241.heap.size w241 w243 := HQb.out.trans (hc.below HQb.out.size (fun q hq he => by have := HGb.out; omega))
                                have Ayb : Hid (hy < gb) := by show _ < _; have := Kyw241.out.lt; have := HGb.out; omega
                                have Avb : Hid (gv < gb) := by show _ < _; have := Kvw241.out.lt; have := HGb.out; omega
                                have Ew243 : Hid (Below w.heap.size w w243) := Ew241.out.trans (hb.mono Ew241.out.size)
                                have Kyw243 : Hid (Bk w243 hy (NdC gd l)) := Kyw241.out.below hb
                                have Kvw243 : Hid (Bk w243 gv (secs (wantS W r.ps))) := Kvw241.out.below hb
                                have Ddw243 : Hid (DSes 92 w w243 gd gsd lvdw122 (UpD T)) := Ddw241.out.below hb
                                clear Ew241 Kyw241 Kvw241 Ddw241
                                have Kbw243 : Hid (Bk w243 gb vb) := hbk
                                have Kbw243 : Hid (Bk w243 gb vb) := hbk
                                clear hbk hb hc KZb HQb HGb
                                go_wp2_with fail
                                apply wp_region_rel 9 (Chg NoS) [(Veq _), (Veq _), (Veq _), (Veq _), (Veq _), (Veq _), (Veq _), (Veq (.bool false)), (Veq _)] [[], [0], [1], [2], [2], [2, 4], [2, 5], [2, 3, 6], [2, 7]] [244, 245, 246, 247, 248, 249, 250, 251, 252] (by kernel_rfl) (by kernel_rfl) rfl rfl rfl Chg.refl (fun _ _ _ => Chg.trans) ⟨Veq.lasts, Veq.lasts, Veq.lasts, Veq.lasts, Veq.lasts, Veq.lasts, Veq.lasts, Veq.lasts, Veq.lasts, trivial⟩ ?kops ?kfin
                                case kops =>
                                  refine ⟨?ko0, ?ko1, ?ko2, ?ko3, ?ko4, ?ko5, ?ko6, ?ko7, ?ko8, trivial⟩
                                  case ko0 =>
                                    intro a wx hE hin
                                    have i28 : a.eval (.tmp 28) = .int .i64 0 := hin 28 rfl
                                    clear hin
                                    have hcst : ∀ v, a.eval (.const v) = v := fun _ => rfl
                                    have hfnc : ∀ f, a.eval (.func f) = .func (.func f) #[] #[] := fun _ => rfl
                                    refine want_none rfl ?_
                                    unfold Oper.wp
                                    generalize a.eval = ρ at *
                                    go_simp
                                    try go_bits
                                    first | exact rel_val (Chg.refl _) | (go_simp; exact rel_val (Chg.refl _))
                                  case ko1 =>
                                    rintro a wx hE hin (h0 : a.eval (.tmp 244) = _)
                                    clear hin
                                    have hcst : ∀ v, a.eval (.const v) = v := fun _ => rfl
                                    have hfnc : ∀ f, a.eval (.func f) = .func (.func f) #[] #[] := fun _ => rfl
                                    refine want_none rfl ?_
                                    unfold Oper.wp
                                    generalize a.eval = ρ at *
                                    go_simp
                                    try go_bits
                                    first | exact rel_val (Chg.refl _) | (go_simp; exact rel_val (Chg.refl _))
                                  case ko2 =>
                                    rintro a wx hE hin (h1 : a.eval (.tmp 245) = _)
                                    clear hin
                                    have hcst : ∀ v, a.eval (.const v) = v := fun _ => rfl
                                    have hfnc : ∀ f, a.eval (.func f) = .func (.func f) #[] #[] := fun _ => rfl
                                    refine want_none rfl ?_
                                    unfold Oper.wp
                                    generalize a.eval = ρ at *
                                    go_simp
                                    try go_bits
                                    first | exact rel_val (Chg.refl _) | (go_simp; exact rel_val (Chg.refl _))
                                  case ko3 =>
                                    rintro a wx hE hin (h2 : a.eval (.tmp 246) = _)
                                    have i27 : a.eval (.tmp 27) = .pointer (some ⟨gb, 0, none⟩) := hin 27 rfl
                                    clear hin
                                    have hcst : ∀ v, a.eval (.const v) = v := fun _ => rfl
                                    have hfnc : ∀ f, a.eval (.func f) = .func (.func f) #[] #[] := fun _ => rfl
                                    refine want_yes rfl rfl h2 ?_
                                    exact wp_ld 35 _ rfl gb 0 32 vb (bts (((wantS W r.ps)).getD kb [])) i27 (Kbw243.out.drew.chg hE id) (by kernel_rfl) (by kernel_rfl) (by rw [HVL.out]; decide) (by rw [List.drop_zero, List.take_of_length_le (by rw [HVL.out]; exact Nat.le_refl _), HVB.out]) (rel_val (Chg.refl _))
                                  case ko4 =>
                                    rintro a wx hE hin (h2 : a.eval (.tmp 246) = _)
                                    have i26 : a.eval (.tmp 26) = .int .i64 kb := hin 26 rfl
                                    clear hin
                                    have hcst : ∀ v, a.eval (.const v) = v := fun _ => rfl
                                    have hfnc : ∀ f, a.eval (.func f) = .func (.func f) #[] #[] := fun _ => rfl
                                    refine want_yes rfl rfl h2 ?_
                                    unfold Oper.wp
                                    generalize a.eval = ρ at *
                                    go_simp
                                    try go_bits
                                    first | exact rel_val (Chg.refl _) | (go_simp; exact rel_val (Chg.refl _))
                                  case ko5 =>
                                    rintro a wx hE hin (h2 : a.eval (.tmp 246) = _) (h4 : a.eval (.tmp 248) = _)
                                    have i25 : a.eval (.tmp 25) = .pointer (some ⟨gv, 0, none⟩) := hin 25 rfl
                                    clear hin
                                    have hcst : ∀ v, a.eval (.const v) = v := fun _ => rfl
                                    have hfnc : ∀ f, a.eval (.func f) = .func (.func f) #[] #[] := fun _ => rfl
                                    refine want_yes rfl rfl h2 ?_
                                    unfold Oper.wp
                                    generalize a.eval = ρ at *
                                    go_simp
                                    try go_bits
                                    first | exact rel_val (Chg.refl _) | (go_simp; exact rel_val (Chg.refl _))
                                  case ko6 =>
                                    rintro a wx hE hin (h2 : a.eval (.tmp 246) = _) (h5 : a.eval (.tmp 249) = _)
                                    clear hin
                                    have hcst : ∀ v, a.eval (.const v) = v := fun _ => rfl
                                    have hfnc : ∀ f, a.eval (.func f) = .func (.func f) #[] #[] := fun _ => rfl
                                    refine want_yes rfl rfl h2 ?_
                                    exact wp_ld 35 _ rfl gv (kb * 32) 32 (secs (wantS W r.ps)) (bts (((wantS W r.ps)).getD kb [])) h5 (Kvw243.out.drew.chg hE id) (by kernel_rfl) (by kernel_rfl) (by rw [secs_len12 HU12.out HU32.out]; have := HK12.out; omega) (secs_at HU12.out HU32.out HK12.out) (rel_val (Chg.refl _))
                                  case ko7 =>
                                    rintro a wx hE hin (h2 : a.eval (.tmp 246) = _) (h3 : a.eval (.tmp 247) = _) (h6 : a.eval (.tmp 250) = _)
                                    clear hin
                                    have hcst : ∀ v, a.eval (.const v) = v := fun _ => rfl
                                    have hfnc : ∀ f, a.eval (.func f) = .func (.func f) #[] #[] := fun _ => rfl
                                    refine want_yes rfl rfl h2 ?_
                                    exact wp_eq_bytes true 35 _ _ _ rfl 5 32 Try.underlying35 Try.underlying5 (by kernel_rfl) (by kernel_rfl) (((wantS W r.ps)).getD kb []) (((wantS W r.ps)).getD kb []) h3 h6 HB32.out HB32.out (by rw [decide_eq_true rfl]; exact rel_val (Chg.refl _))
                                  case ko8 =>
                                    rintro a wx hE hin (h2 : a.eval (.tmp 246) = _) (h7 : a.eval (.tmp 251) = _)
                                    clear hin
                                    have hcst : ∀ v, a.eval (.const v) = v := fun _ => rfl
                                    have hfnc : ∀ f, a.eval (.func f) = .func (.func f) #[] #[] := fun _ => rfl
                                    refine want_none rfl ?_
                                    unfold Oper.wp
                                    generalize a.eval = ρ at *
                                    go_simp
                                    try go_bits
                                    first | exact rel_val (Chg.refl _) | (go_simp; exact rel_val (Chg.refl _))
                                case kfin =>
                                  intro wx hE
                                  rintro _ rfl _ rfl _ rfl _ rfl _ rfl _ rfl _ rfl _ rfl _ rfl
                                  simp only [FinOk, List.take_succ_cons, List.take_zero, List.take_nil, List.drop_succ_cons, List.drop_zero, List.drop_nil, Act.put, List.setIfInBounds_toArray, List.set_cons_succ, List.set_cons_zero]
                                  have DX : Hid (DSes 92 w wx gd gsd lvdw122 (UpD T)) := Ddw243.out.chgN hE.undrew
                                  have Xy : Hid (Bk wx hy (NdC gd l)) := Kyw243.out.drew.chg hE id
                                  have Xv : Hid (Bk wx gv (secs (wantS W r.ps))) := Kvw243.out.drew.chg hE id
                                  clear hE
                                  go_wp2_with fail
                                  go_roundw
                                  case rel => exact ⟨kb + 1, by omega, by go_num, DX.out, ⟨Xy.out, Xv.out⟩⟩
                                  case measure => simp [intOf]; omega
                              case neg =>
                                have hke12 : kb = 12 := by omega
                                subst hke12
                                have hki12 : ¬ (((12 : Nat) : Int) < 12) := by omega
                                go_wp2_with fail
                                go_roundw
                                case rel => exact ⟨2, by decide, by go_num, Eu.out, fun h => absurd h (by decide)⟩
                                case measure => simp [intOf]
                          case inr =>
                            have HLD : Hid (l = (carryL L 2 kq r.ps l.d)) := by show _ = _; rw [hl1]; rfl
                            have HDD : Hid (l.d = dd) := by show _ = _; rw [hl1]; rfl
                            clear hl1
                            go_wp2_with (first
                              | (refine wpList_ld rfl 40 (.tmp 23) rfl gq 0 5 (labC l) (labC l) rfl Kqw127.out (by kernel_rfl) (by kernel_rfl) (Nat.le_refl 5) rfl ?_)
                              | (refine wpList_ld rfl 40 (.tmp 24) rfl gf 0 5 (labC (carryL L 2 kq r.ps l.d)) (labC (carryL L 2 kq r.ps l.d)) rfl Kfw127.out (by kernel_rfl) (by kernel_rfl) (Nat.le_refl 5) rfl ?_)
                              | (refine wpList_eq_labU rfl false 40 (.tmp 210) (.tmp 211) rfl l (carryL L 2 kq r.ps l.d) rfl rfl true (torn_eq HLD.out) ?_))
                            intro wsm hsm
                            obtain rfl : w127 = wsm := hsm
                            have cq3 : w127.cell? ⟨gq, 3, none⟩ = some (vu16 l.d) := Kqw127.out.cell rfl
                            have co3 : w127.cell? ⟨go, 3, none⟩ = some (vu16 L.d) := Kow127.out.cell rfl
                            rw [HDD.out] at cq3
                            rw [vu16] at cq3
                            have hdl : ¬ ((dd.toNat : Nat) : Int) = ((L.d.toNat : Nat) : Int) := fun h => hdn (UInt16.toNat_inj.1 (by omega))
                            rw [vu16] at co3
                            go_wp2_with (first
                              | (refine wpList_ld rfl 51 (.tmp 12) rfl gm 0 384 (secs (wantS W r.ps)) (secs (wantS W r.ps)) rfl Kmw127.out (by kernel_rfl) (by kernel_rfl) (by rw [HX384.out]; exact Nat.le_refl _) (by rw [List.drop_zero, List.take_of_length_le (by rw [HX384.out]; exact Nat.le_refl _)]) ?_)
                              | (refine wpList_st rfl 51 (.tmp 25) (.tmp 226) rfl gv 0 384 (secs W) (secs (wantS W r.ps)) rfl rfl Kvw127.out (by kernel_rfl) HX384.out (by rw [HW384.out]; exact Nat.le_refl _) (one_secs _) ?_))
                            intro w128 hbk hc
                            rw [splice_whole _ _ (by rw [HX384.out, HW384.out])] at hbk
                            have Ew128 : Hid (Below w.heap.size w w128) := Ew127.out.trans (hc.below Ew127.out.size (fun q hq he => by have := GEv.out; omega))
                            have Ktw128 : Hid (Bk w128 w.heap.size bn) := Ktw127.out.chg hc (fun he => by have := Atv.out; omega)
                            have Kkw128 : Hid (Bk w128 gk (secs W)) := Kkw127.out.chg hc (fun he => by have := Akv.out; omega)
                            have Kow128 : Hid (Bk w128 go (labC L)) := Kow127.out.chg hc (fun he => by have := Aov.out; omega)
                            have Kmw128 : Hid (Bk w128 gm (secs (wantS W r.ps))) := Kmw127.out.chg hc (fun he => by have := Amv.out; omega)
                            have Krw128 : Hid (Bk w128 gr [vu32 2, vu32 kq, .slice r.A r.n r.c]) := Krw127.out.chg hc (fun he => by have := Arv.out; omega)
                            have Kyw128 : Hid (Bk w128 hy (NdC gd l)) := Kyw127.out.chg hc (fun he => by have := Ayv.out; omega)
                            have Kqw128 : Hid (Bk w128 gq (labC l)) := Kqw127.out.chg hc (fun he => by have := Aqv.out; omega)
                            have Kfw128 : Hid (Bk w128 gf (labC (carryL L 2 kq r.ps l.d))) := Kfw127.out.chg hc (fun he => by have := Afv.out; omega)
                            have Ddw128 : Hid (DSes 92 w w128 gd gsd lvdw122 (UpD T)) := ⟨DiskAt.chg Ddw127.out.at_ hc (fun j hj he => Fdv.out (he ▸ hj)), Ddw127.out.fr, Ew128.out⟩
                            have Kvw128 : Hid (Bk w128 gv (secs (wantS W r.ps))) := hbk
                            clear hbk hc Ew127 Kvw127 Ktw127 Kkw127 Kow127 Kmw127 Krw127 Kyw127 Kqw127 Kfw127 Ddw127
                            go_wp2_with fail
                            clear cq3 co3
                            have HWS : Hid (∀ b, b < 12 → ((wantS W r.ps)).getD b [] = T.getD (7 + b) []) := (fun b hb => by rw [wantS_at r.ps W b HW12.out (goodB_ats' HGD.out) hb]; exact (HBL.out b hb).symm)
                            have HU12 : Hid (((wantS W r.ps)).length = 12) := (by rw [wantS_len]; exact HW12.out)
                            have HU32 : Hid (∀ b, b < 12 → (((wantS W r.ps)).getD b []).length = 32) := HX32.out
                            have H6 : Hid (CmpRel w gd gsd lvdw122 (UpD T) (fun u => Bk u hy (NdC gd l) ∧ Bk u gv (secs (wantS W r.ps))) (.int .i64 0) w128) := ⟨0, by decide, rfl, Ddw128.out, ⟨Kyw128.out, Kvw128.out⟩⟩
                            clear Ddw128 Ew128 Ktw128 Kkw128 Kow128 Kmw128 Krw128 Kyw128 Kqw128 Kfw128 Kvw128
                            go_loopw [26] (fun v wr => CmpRel w gd gsd lvdw122 (UpD T) (fun u => Bk u hy (NdC gd l) ∧ Bk u gv (secs (wantS W r.ps))) v wr) (fun v _ => 12 - (intOf v).toNat)
                            case atStart => exact H6.out
                            case round =>
                              obtain ⟨kb, hkb, rfl, hd3, hky3, hkv3⟩ := hrel
                              have Du := Lib.hid hd3
                              have Eu := Lib.hid hd3.bel
                              have Qyu := Lib.hid hky3
                              have Qvu := Lib.hid hkv3
                              clear hd3 hky3 hkv3 H6
                              by_cases hk12 : kb < 12
                              case pos =>
                                have hkbi : (kb : Int) < 12 := by omega
                                have hkb0 : (0 : Int) ≤ (kb : Int) := by omega
                                have HK12 := Lib.hid hk12
                                have HKI : Hid ((kb : Int) < 12) := by show _ < _; omega
                                have HK0 : Hid ((0 : Int) ≤ (kb : Int)) := by show _ ≤ _; omega
                                have HB32 : Hid ((((wantS W r.ps)).getD kb []).length = 32) := HU32.out kb hk12
                                have HRB : Hid ((UpD T).readB (7 + (kb : Int)) = ((wantS W r.ps)).getD kb []) := by
                                  have h := (up_block (S := T) HTL.out (b := kb) hk12).1
                                  rw [← HWS.out kb hk12] at h
                                  exact h
                                have HRE : Hid ((UpD T).readE (7 + (kb : Int)) = 0) := (up_block (S := T) HTL.out (b := kb) hk12).2
                                go_wp2_with fail
                                refine (ndBlock_calls wr gd gsd lvdw122 hy (UpD T) l (kb : Int) Du.out.at_ Qyu.out HK0.out HKI.out).mono ?_
                                rintro en w241 ⟨rfl, hb⟩
                                have Ew241 : Hid (Below w.heap.size w w241) := Eu.out.trans (hb.mono Eu.out.size)
                                have Kyw241 : Hid (Bk w241 hy (NdC gd l)) := Qyu.out.below hb
                                have Kvw241 : Hid (Bk w241 gv (secs (wantS W r.ps))) := Qvu.out.below hb
                                have Ddw241 : Hid (DSes 92 w w241 gd gsd lvdw122 (UpD T)) := Du.out.below hb
                                clear Eu Qyu Qvu Du
                                clear hb
                                rw [HRB.out, HRE.out]
                                obtain ⟨vb, hvb⟩ : ∃ vb, bts (((wantS W r.ps)).getD kb []) = vb := ⟨_, rfl⟩
                                have HVB := Lib.hid hvb
                                have HVL : Hid (vb.length = 32) := by show _ = _; rw [← hvb, bts_length]; exact HB32.out
                                have HVO : Hid (∀ u ∈ vb, u.oneCell' = true) := by rw [← hvb]; exact one_bts _
                                rw [hvb]
                                clear hvb
                                go_wp2_with (refine wpList_al rfl 35 rfl (bts (List.replicate 32 0)) (by kernel_rfl) ?_)
                                intro gb w242 hg hb hc hs
                                have HQb : Hid (Below w241.heap.size w241 w242) := hc.below (Nat.le_refl _) (fun _ _ => id)
                                have HGb : Hid (gb = w241.heap.size) := hg
                                have KZb := Lib.hid hb
                                clear hg hb hc hs
                                go_wp2_with (refine wpList_st rfl 35 (.tmp 27) (.tmp 242) rfl gb 0 32 (bts (List.replicate 32 0)) vb rfl rfl KZb.out (by kernel_rfl) HVL.out (by decide) HVO.out ?_)
                                intro w243 hbk hc
                                rw [splice_whole _ _ (by rw [HVL.out]; rfl)] at hbk
                                have hb : Below w241.heap.size w241 w243 := HQb.out.trans (hc.below HQb.out.size (fun q hq he => by have := HGb.out; omega))
                                have Ayb : Hid (hy < gb) := by show _ < _; have := Kyw241.out.lt; have := HGb.out; omega
                                have Avb : Hid (gv < gb) := by show _ < _; have := Kvw241.out.lt; have := HGb.out; omega
                                have Ew243 : Hid (Below w.heap.size w w243) := Ew241.out.trans (hb.mono Ew241.out.size)
                                have Kyw243 : Hid (Bk w243 hy (NdC gd l)) := Kyw241.out.below hb
                                have Kvw243 : Hid (Bk w243 gv (secs (wantS W r.ps))) := Kvw241.out.below hb
                                have Ddw243 : Hid (DSes 92 w w243 gd gsd lvdw122 (UpD T)) := Ddw241.out.below hb
                                clear Ew241 Kyw241 Kvw241 Ddw241
                                have Kbw243 : Hid (Bk w243 gb vb) := hbk
                                have Kbw243 : Hid (Bk w243 gb vb) := hbk
                                clear hbk hb hc KZb HQb HGb
                                go_wp2_with fail
                                apply wp_region_rel 9 (Chg NoS) [(Veq _), (Veq _), (Veq _), (Veq _), (Veq _), (Veq _), (Veq _), (Veq (.bool false)), (Veq _)] [[], [0], [1], [2], [2], [2, 4], [2, 5], [2, 3, 6], [2, 7]] [244, 245, 246, 247, 248, 249, 250, 251, 252] (by kernel_rfl) (by kernel_rfl) rfl rfl rfl Chg.refl (fun _ _ _ => Chg.trans) ⟨Veq.lasts, Veq.lasts, Veq.lasts, Veq.lasts, Veq.lasts, Veq.lasts, Veq.lasts, Veq.lasts, Veq.lasts, trivial⟩ ?kops ?kfin
                                case kops =>
                                  refine ⟨?ko0, ?ko1, ?ko2, ?ko3, ?ko4, ?ko5, ?ko6, ?ko7, ?ko8, trivial⟩
                                  case ko0 =>
                                    intro a wx hE hin
                                    have i28 : a.eval (.tmp 28) = .int .i64 0 := hin 28 rfl
                                    clear hin
                                    have hcst : ∀ v, a.eval (.const v) = v := fun _ => rfl
                                    have hfnc : ∀ f, a.eval (.func f) = .func (.func f) #[] #[] := fun _ => rfl
                                    refine want_none rfl ?_
                                    unfold Oper.wp
                                    generalize a.eval = ρ at *
                                    go_simp
                                    try go_bits
                                    first | exact rel_val (Chg.refl _) | (go_simp; exact rel_val (Chg.refl _))
                                  case ko1 =>
                                    rintro a wx hE hin (h0 : a.eval (.tmp 244) = _)
                                    clear hin
                                    have hcst : ∀ v, a.eval (.const v) = v := fun _ => rfl
                                    have hfnc : ∀ f, a.eval (.func f) = .func (.func f) #[] #[] := fun _ => rfl
                                    refine want_none rfl ?_
                                    unfold Oper.wp
                                    generalize a.eval = ρ at *
                                    go_simp
                                    try go_bits
                                    first | exact rel_val (Chg.refl _) | (go_simp; exact rel_val (Chg.refl _))
                                  case ko2 =>
                                    rintro a wx hE hin (h1 : a.eval (.tmp 245) = _)
                                    clear hin
                                    have hcst : ∀ v, a.eval (.const v) = v := fun _ => rfl
                                    have hfnc : ∀ f, a.eval (.func f) = .func (.func f) #[] #[] := fun _ => rfl
                                    refine want_none rfl ?_
                                    unfold Oper.wp
                                    generalize a.eval = ρ at *
                                    go_simp
                                    try go_bits
                                    first | exact rel_val (Chg.refl _) | (go_simp; exact rel_val (Chg.refl _))
                                  case ko3 =>
                                    rintro a wx hE hin (h2 : a.eval (.tmp 246) = _)
                                    have i27 : a.eval (.tmp 27) = .pointer (some ⟨gb, 0, none⟩) := hin 27 rfl
                                    clear hin
                                    have hcst : ∀ v, a.eval (.const v) = v := fun _ => rfl
                                    have hfnc : ∀ f, a.eval (.func f) = .func (.func f) #[] #[] := fun _ => rfl
                                    refine want_yes rfl rfl h2 ?_
                                    exact wp_ld 35 _ rfl gb 0 32 vb (bts (((wantS W r.ps)).getD kb [])) i27 (Kbw243.out.drew.chg hE id) (by kernel_rfl) (by kernel_rfl) (by rw [HVL.out]; decide) (by rw [List.drop_zero, List.take_of_length_le (by rw [HVL.out]; exact Nat.le_refl _), HVB.out]) (rel_val (Chg.refl _))
                                  case ko4 =>
                                    rintro a wx hE hin (h2 : a.eval (.tmp 246) = _)
                                    have i26 : a.eval (.tmp 26) = .int .i64 kb := hin 26 rfl
                                    clear hin
                                    have hcst : ∀ v, a.eval (.const v) = v := fun _ => rfl
                                    have hfnc : ∀ f, a.eval (.func f) = .func (.func f) #[] #[] := fun _ => rfl
                                    refine want_yes rfl rfl h2 ?_
                                    unfold Oper.wp
                                    generalize a.eval = ρ at *
                                    go_simp
                                    try go_bits
                                    first | exact rel_val (Chg.refl _) | (go_simp; exact rel_val (Chg.refl _))
                                  case ko5 =>
                                    rintro a wx hE hin (h2 : a.eval (.tmp 246) = _) (h4 : a.eval (.tmp 248) = _)
                                    have i25 : a.eval (.tmp 25) = .pointer (some ⟨gv, 0, none⟩) := hin 25 rfl
                                    clear hin
                                    have hcst : ∀ v, a.eval (.const v) = v := fun _ => rfl
                                    have hfnc : ∀ f, a.eval (.func f) = .func (.func f) #[] #[] := fun _ => rfl
                                    refine want_yes rfl rfl h2 ?_
                                    unfold Oper.wp
                                    generalize a.eval = ρ at *
                                    go_simp
                                    try go_bits
                                    first | exact rel_val (Chg.refl _) | (go_simp; exact rel_val (Chg.refl _))
                                  case ko6 =>
                                    rintro a wx hE hin (h2 : a.eval (.tmp 246) = _) (h5 : a.eval (.tmp 249) = _)
                                    clear hin
                                    have hcst : ∀ v, a.eval (.const v) = v := fun _ => rfl
                                    have hfnc : ∀ f, a.eval (.func f) = .func (.func f) #[] #[] := fun _ => rfl
                                    refine want_yes rfl rfl h2 ?_
                                    exact wp_ld 35 _ rfl gv (kb * 32) 32 (secs (wantS W r.ps)) (bts (((wantS W r.ps)).getD kb [])) h5 (Kvw243.out.drew.chg hE id) (by kernel_rfl) (by kernel_rfl) (by rw [secs_len12 HU12.out HU32.out]; have := HK12.out; omega) (secs_at HU12.out HU32.out HK12.out) (rel_val (Chg.refl _))
                                  case ko7 =>
                                    rintro a wx hE hin (h2 : a.eval (.tmp 246) = _) (h3 : a.eval (.tmp 247) = _) (h6 : a.eval (.tmp 250) = _)
                                    clear hin
                                    have hcst : ∀ v, a.eval (.const v) = v := fun _ => rfl
                                    have hfnc : ∀ f, a.eval (.func f) = .func (.func f) #[] #[] := fun _ => rfl
                                    refine want_yes rfl rfl h2 ?_
                                    exact wp_eq_bytes true 35 _ _ _ rfl 5 32 Try.underlying35 Try.underlying5 (by kernel_rfl) (by kernel_rfl) (((wantS W r.ps)).getD kb []) (((wantS W r.ps)).getD kb []) h3 h6 HB32.out HB32.out (by rw [decide_eq_true rfl]; exact rel_val (Chg.refl _))
                                  case ko8 =>
                                    rintro a wx hE hin (h2 : a.eval (.tmp 246) = _) (h7 : a.eval (.tmp 251) = _)
                                    clear hin
                                    have hcst : ∀ v, a.eval (.const v) = v := fun _ => rfl
                                    have hfnc : ∀ f, a.eval (.func f) = .func (.func f) #[] #[] := fun _ => rfl
                                    refine want_none rfl ?_
                                    unfold Oper.wp
                                    generalize a.eval = ρ at *
                                    go_simp
                                    try go_bits
                                    first | exact rel_val (Chg.refl _) | (go_simp; exact rel_val (Chg.refl _))
                                case kfin =>
                                  intro wx hE
                                  rintro _ rfl _ rfl _ rfl _ rfl _ rfl _ rfl _ rfl _ rfl _ rfl
                                  simp only [FinOk, List.take_succ_cons, List.take_zero, List.take_nil, List.drop_succ_cons, List.drop_zero, List.drop_nil, Act.put, List.setIfInBounds_toArray, List.set_cons_succ, List.set_cons_zero]
                                  have DX : Hid (DSes 92 w wx gd gsd lvdw122 (UpD T)) := Ddw243.out.chgN hE.undrew
                                  have Xy : Hid (Bk wx hy (NdC gd l)) := Kyw243.out.drew.chg hE id
                                  have Xv : Hid (Bk wx gv (secs (wantS W r.ps))) := Kvw243.out.drew.chg hE id
                                  clear hE
                                  go_wp2_with fail
                                  go_roundw
                                  case rel => exact ⟨kb + 1, by omega, by go_num, DX.out, ⟨Xy.out, Xv.out⟩⟩
                                  case measure => simp [intOf]; omega
                              case neg =>
                                have hke12 : kb = 12 := by omega
                                subst hke12
                                have hki12 : ¬ (((12 : Nat) : Int) < 12) := by omega
                                go_wp2_with fail
                                go_roundw
                                case rel => exact ⟨2, by decide, by go_num, Eu.out, fun h => absurd h (by decide)⟩
                                case measure => simp [intOf]
              have hji : (j : Int) < (r.n : Int) := by have := HOK.out.len; omega
              have hj0 : (0 : Int) ≤ (j : Int) := by omega
              have hj64 : (j : Int) + 1 < 9223372036854775807 := by have := HOK.out.len; have := (goodB_at HGD.out).2.1; omega
              have HPAT := Lib.hid (rc_put_at HOK.out hjl)
              have HDL := Lib.hid (HOK.out.ok _ (List.getElem_mem hjl)).1
              have HPS := Lib.hid (goodB_ats' HGD.out _ (List.getElem_mem hjl))
              have HTK : Hid (wantS W (r.ps.take (j + 1)) = (wantS W (r.ps.take j)).set r.ps[j].at_.toNat r.ps[j].data) := wantS_take W r.ps j hjl
              obtain ⟨pd, hpd⟩ : ∃ pd, r.ps[j] = pd := ⟨_, rfl⟩
              rw [hpd] at HPAT HDL HPS HTK
              clear hpd
              obtain ⟨bz, hbz⟩ : ∃ bz : Nat, pd.at_ = (bz : Int) := ⟨pd.at_.toNat, by have := HPS.out; omega⟩
              have hbz12 : bz < 12 := by have := HPS.out; omega
              have hbzi : (bz : Int) < 12 := by omega
              have hbz0 : (0 : Int) ≤ (bz : Int) := by omega
              have HBZ := Lib.hid hbz
              have HBZL := Lib.hid hbz12
              obtain ⟨ad2, hA2⟩ := puts_some HOK.out.rd hjl
              have HAD2 := Lib.hid hA2
              rw [hA2] at cp2
              clear hbz hA2 hbz12
              obtain ⟨W1, hW1⟩ : ∃ W1, wantS W (r.ps.take j) = W1 := ⟨_, rfl⟩
              rw [hW1] at KMt HTK
              have HW1 : Hid (W1.length = 12) := by show _ = _; rw [← hW1, wantS_len]; exact HW12.out
              have HW132 : Hid (∀ b, b < 12 → (W1.getD b []).length = 32) := by rw [← hW1]; exact wantS_32 W _ HW12.out HW32.out (fun p hp => (HOK.out.ok p (List.mem_of_mem_take hp)).1)
              clear hW1
              go_wp2_with fail
              clear cp2
              apply wp_region_rel 12 (Chg NoS) [(Veq _), (Veq _), (Veq _), (Veq _), (Veq _), (Veq _), (Veq _), (Veq _), (Veq _), (Veq _), (Veq _), (Veq _)] [[], [0], [], [1, 2], [3], [4], [], [6], [], [7, 8], [9], [10]] [121, 122, 123, 124, 125, 126, 127, 128, 129, 130, 131, 132] (by kernel_rfl) (by kernel_rfl) rfl rfl rfl Chg.refl (fun _ _ _ => Chg.trans) ⟨Veq.lasts, Veq.lasts, Veq.lasts, Veq.lasts, Veq.lasts, Veq.lasts, Veq.lasts, Veq.lasts, Veq.lasts, Veq.lasts, Veq.lasts, Veq.lasts, trivial⟩ ?aops ?afin
              case aops =>
                refine ⟨?ao0, ?ao1, ?ao2, ?ao3, ?ao4, ?ao5, ?ao6, ?ao7, ?ao8, ?ao9, ?ao10, ?ao11, trivial⟩
                case ao0 =>
                  intro a wx hE hin
                  have i15 : a.eval (.tmp 15) = .pointer (some ⟨gr, 0, none⟩) := hin 15 rfl
                  clear hin
                  have hcst : ∀ v, a.eval (.const v) = v := fun _ => rfl
                  have hfnc : ∀ f, a.eval (.func f) = .func (.func f) #[] #[] := fun _ => rfl
                  refine want_none rfl ?_
                  unfold Oper.wp
                  generalize a.eval = ρ at *
                  go_simp
                  try go_bits
                  first | exact rel_val (Chg.refl _) | (go_simp; exact rel_val (Chg.refl _))
                case ao1 =>
                  rintro a wx hE hin (h0 : a.eval (.tmp 121) = _)
                  clear hin
                  have hcst : ∀ v, a.eval (.const v) = v := fun _ => rfl
                  have hfnc : ∀ f, a.eval (.func f) = .func (.func f) #[] #[] := fun _ => rfl
                  refine want_none rfl ?_
                  unfold Oper.wp
                  generalize a.eval = ρ at *
                  have c : wx.cell? ⟨gr, 2, none⟩ = some (.slice (some ad2) r.n r.c) := by have h : wx.cell? ⟨gr, 2, none⟩ = some (.slice r.A r.n r.c) := (KRt.out.drew.chg hE id).cell rfl; rwa [HAD2.out] at h
                  go_simp
                  try go_bits
                  first | exact rel_val (Chg.refl _) | (go_simp; exact rel_val (Chg.refl _))
                case ao2 =>
                  intro a wx hE hin
                  have i17 : a.eval (.tmp 17) = .int .i64 j := hin 17 rfl
                  clear hin
                  have hcst : ∀ v, a.eval (.const v) = v := fun _ => rfl
                  have hfnc : ∀ f, a.eval (.func f) = .func (.func f) #[] #[] := fun _ => rfl
                  refine want_none rfl ?_
                  unfold Oper.wp
                  generalize a.eval = ρ at *
                  go_simp
                  try go_bits
                  first | exact rel_val (Chg.refl _) | (go_simp; exact rel_val (Chg.refl _))
                case ao3 =>
                  rintro a wx hE hin (h1 : a.eval (.tmp 122) = _) (h2 : a.eval (.tmp 123) = _)
                  clear hin
                  have hcst : ∀ v, a.eval (.const v) = v := fun _ => rfl
                  have hfnc : ∀ f, a.eval (.func f) = .func (.func f) #[] #[] := fun _ => rfl
                  refine want_none rfl ?_
                  unfold Oper.wp
                  generalize a.eval = ρ at *
                  go_simp
                  try go_bits
                  first | exact rel_val (Chg.refl _) | (go_simp; exact rel_val (Chg.refl _))
                case ao4 =>
                  rintro a wx hE hin (h3 : a.eval (.tmp 124) = _)
                  clear hin
                  have hcst : ∀ v, a.eval (.const v) = v := fun _ => rfl
                  have hfnc : ∀ f, a.eval (.func f) = .func (.func f) #[] #[] := fun _ => rfl
                  refine want_none rfl ?_
                  unfold Oper.wp
                  generalize a.eval = ρ at *
                  go_simp
                  try go_bits
                  first | exact rel_val (Chg.refl _) | (go_simp; exact rel_val (Chg.refl _))
                case ao5 =>
                  rintro a wx hE hin (h4 : a.eval (.tmp 125) = _)
                  clear hin
                  have hcst : ∀ v, a.eval (.const v) = v := fun _ => rfl
                  have hfnc : ∀ f, a.eval (.func f) = .func (.func f) #[] #[] := fun _ => rfl
                  refine want_none rfl ?_
                  unfold Oper.wp
                  generalize a.eval = ρ at *
                  have c := HPAT.out.1 wx (Et.out.trans (hE.undrew.below Et.out.size (fun _ _ => id))) ad2 HAD2.out
                  rw [HBZ.out] at c
                  go_simp
                  try go_bits
                  first | exact rel_val (Chg.refl _) | (go_simp; exact rel_val (Chg.refl _))
                case ao6 =>
                  intro a wx hE hin
                  have i15 : a.eval (.tmp 15) = .pointer (some ⟨gr, 0, none⟩) := hin 15 rfl
                  clear hin
                  have hcst : ∀ v, a.eval (.const v) = v := fun _ => rfl
                  have hfnc : ∀ f, a.eval (.func f) = .func (.func f) #[] #[] := fun _ => rfl
                  refine want_none rfl ?_
                  unfold Oper.wp
                  generalize a.eval = ρ at *
                  go_simp
                  try go_bits
                  first | exact rel_val (Chg.refl _) | (go_simp; exact rel_val (Chg.refl _))
                case ao7 =>
                  rintro a wx hE hin (h6 : a.eval (.tmp 127) = _)
                  clear hin
                  have hcst : ∀ v, a.eval (.const v) = v := fun _ => rfl
                  have hfnc : ∀ f, a.eval (.func f) = .func (.func f) #[] #[] := fun _ => rfl
                  refine want_none rfl ?_
                  unfold Oper.wp
                  generalize a.eval = ρ at *
                  have c : wx.cell? ⟨gr, 2, none⟩ = some (.slice (some ad2) r.n r.c) := by have h : wx.cell? ⟨gr, 2, none⟩ = some (.slice r.A r.n r.c) := (KRt.out.drew.chg hE id).cell rfl; rwa [HAD2.out] at h
                  go_simp
                  try go_bits
                  first | exact rel_val (Chg.refl _) | (go_simp; exact rel_val (Chg.refl _))
                case ao8 =>
                  intro a wx hE hin
                  have i17 : a.eval (.tmp 17) = .int .i64 j := hin 17 rfl
                  clear hin
                  have hcst : ∀ v, a.eval (.const v) = v := fun _ => rfl
                  have hfnc : ∀ f, a.eval (.func f) = .func (.func f) #[] #[] := fun _ => rfl
                  refine want_none rfl ?_
                  unfold Oper.wp
                  generalize a.eval = ρ at *
                  go_simp
                  try go_bits
                  first | exact rel_val (Chg.refl _) | (go_simp; exact rel_val (Chg.refl _))
                case ao9 =>
                  rintro a wx hE hin (h7 : a.eval (.tmp 128) = _) (h8 : a.eval (.tmp 129) = _)
                  clear hin
                  have hcst : ∀ v, a.eval (.const v) = v := fun _ => rfl
                  have hfnc : ∀ f, a.eval (.func f) = .func (.func f) #[] #[] := fun _ => rfl
                  refine want_none rfl ?_
                  unfold Oper.wp
                  generalize a.eval = ρ at *
                  go_simp
                  try go_bits
                  first | exact rel_val (Chg.refl _) | (go_simp; exact rel_val (Chg.refl _))
                case ao10 =>
                  rintro a wx hE hin (h9 : a.eval (.tmp 130) = _)
                  clear hin
                  have hcst : ∀ v, a.eval (.const v) = v := fun _ => rfl
                  have hfnc : ∀ f, a.eval (.func f) = .func (.func f) #[] #[] := fun _ => rfl
                  refine want_none rfl ?_
                  unfold Oper.wp
                  generalize a.eval = ρ at *
                  go_simp
                  try go_bits
                  first | exact rel_val (Chg.refl _) | (go_simp; exact rel_val (Chg.refl _))
                case ao11 =>
                  rintro a wx hE hin (h10 : a.eval (.tmp 131) = _)
                  clear hin
                  have hcst : ∀ v, a.eval (.const v) = v := fun _ => rfl
                  have hfnc : ∀ f, a.eval (.func f) = .func (.func f) #[] #[] := fun _ => rfl
                  refine want_none rfl ?_
                  exact wp_ldr2 35 _ rfl _ 32 (bts pd.data) h10 (by have h := (HPAT.out.2 wx (Et.out.trans (hE.undrew.below Et.out.size (fun _ _ => id))) ad2 HAD2.out).drop 1; exact h) (by kernel_rfl) (by kernel_rfl) (by rw [bts_length]; exact HDL.out) (rel_val (Chg.refl _))
              case afin =>
                intro wx hE
                rintro _ rfl _ rfl _ rfl _ rfl _ rfl _ rfl _ rfl _ rfl _ rfl _ rfl _ rfl _ rfl
                simp only [FinOk, List.take_succ_cons, List.take_zero, List.take_nil, List.drop_succ_cons, List.drop_zero, List.drop_nil, Act.put, List.setIfInBounds_toArray, List.set_cons_succ, List.set_cons_zero]
                have DX : Hid (DSes 92 w wx gd gsd lvdw46 TD) := DBt.out.chgN hE.undrew
                have NX : Hid (Bk wx hn (NdC gd (labAfter L (carryL L 2 kq r.ps dd) 0))) := KNt.out.drew.chg hE id
                have KX : Hid (Bk wx gk (secs W)) := KKt.out.drew.chg hE id
                have OX : Hid (Bk wx go (labC L)) := KOt.out.drew.chg hE id
                have TX : Hid (Bk wx w.heap.size bn) := KTt.out.drew.chg hE id
                have RX : Hid (Bk wx gr [vu32 2, vu32 kq, .slice r.A r.n r.c]) := KRt.out.drew.chg hE id
                have MX : Hid (Bk wx gm (secs W1)) := KMt.out.drew.chg hE id
                have HTS : Hid (splice (secs W1) (bz * 32) (bts pd.data) = secs (W1.set bz pd.data)) := secs_set HW1.out HW132.out HDL.out HBZL.out
                clear hE DBt KMt KNt KKt KOt KTt KRt
                go_wp2_with (refine wpList_st rfl 35 (.tmp 133) (.tmp 132) rfl gm (bz * 32) 32 (secs W1) (bts pd.data) rfl rfl MX.out (by kernel_rfl) (by rw [bts_length]; exact HDL.out) (by rw [secs_len12 HW1.out HW132.out]; have := HBZL.out; omega) (one_bts _) ?_)
                intro w4 hbk hc
                rw [HTS.out] at hbk
                have MY := Lib.hid hbk
                have DY : Hid (DSes 92 w w4 gd gsd lvdw46 TD) := ⟨DiskAt.chg DX.out.at_ hc (fun q hq hk => Fdm.out (by rw [← (show q = gm from hk)]; exact hq)), DX.out.fr, DX.out.bel.trans (hc.below DX.out.bel.size (fun q hq he => by have := GEm.out; omega))⟩
                have NY : Hid (Bk w4 hn (NdC gd (labAfter L (carryL L 2 kq r.ps dd) 0))) := NX.out.chg hc (fun h => by have := Anm.out; omega)
                have KY : Hid (Bk w4 gk (secs W)) := KX.out.chg hc (fun h => by have := Akm.out; omega)
                have OY : Hid (Bk w4 go (labC L)) := OX.out.chg hc (fun h => by have := Aom.out; omega)
                have TY : Hid (Bk w4 w.heap.size bn) := TX.out.chg hc (fun h => by have := Atm.out; omega)
                have RY : Hid (Bk w4 gr [vu32 2, vu32 kq, .slice r.A r.n r.c]) := RX.out.chg hc (fun h => by have := Amr.out; omega)
                clear hbk hc DX MX NX KX OX TX RX
                go_wp2_with fail
                go_roundw
                case rel => exact ⟨j + 1, by omega, by go_num, DY.out, NY.out, KY.out, OY.out, by rw [HTK.out, show pd.at_.toNat = bz by have := HBZ.out; omega]; exact MY.out, TY.out, RY.out⟩
                case measure => simp [intOf]; omega
        case inr =>
          as_aux_lemma =>
            go_wp2_with fail
            have H2z : Hid (TornW w gd gsd hn gk go gm gr lvdw46 TD (labAfter L (carryL L 2 kq r.ps dd) 20) L W r.ps bn [vu32 2, vu32 kq, .slice r.A r.n r.c] (.int .i64 0) w46) := ⟨0, Nat.zero_le _, rfl, Ddw46.out, Knw46.out, Kkw46.out, Kow46.out, Kmw46.out, Ktw46.out, Krw46.out⟩
            clear Ddw46 Ew46 Knw46 Kkw46 Kow46 Kmw46 Ktw46 Krw46
            go_loopw [17] (fun v17 wr => TornW w gd gsd hn gk go gm gr lvdw46 TD (labAfter L (carryL L 2 kq r.ps dd) 20) L W r.ps bn [vu32 2, vu32 kq, .slice r.A r.n r.c] v17 wr) (fun v17 _ => r.ps.length - (intOf v17).toNat)
            case atStart => exact H2z.out
            case round =>
              obtain ⟨j, hj, rfl, hd2, hkn2, hkk2, hko2, hkm2, hkt2, hkr2⟩ := hrel
              have DBt := Lib.hid hd2
              have Et := Lib.hid hd2.bel
              have KNt := Lib.hid hkn2
              have KKt := Lib.hid hkk2
              have KOt := Lib.hid hko2
              have KMt := Lib.hid hkm2
              have KTt := Lib.hid hkt2
              have KRt := Lib.hid hkr2
              clear hd2 hkn2 hkk2 hko2 hkm2 hkt2 hkr2 H2z
              have cp2 : wr.cell? ⟨gr, 2, none⟩ = some (.slice r.A r.n r.c) := KRt.out.cell rfl
              by_cases hjl : j < r.ps.length
              case neg =>
                have hje : j = r.ps.length := by omega
                subst hje
                have hji : ¬ (((r.ps.length : Nat) : Int) < (r.n : Int)) := by have := HOK.out.len; omega
                have KMU : Hid (Bk wr gm (secs (wantS W r.ps))) := by have h := KMt.out; rwa [List.take_length] at h
                clear KMt
                go_wp2_with fail
                clear cp2
                have H3 : Hid (TornK w gd gsd gk go gm gr L W r.ps kq dd 20 bn [vu32 2, vu32 kq, .slice r.A r.n r.c] (.int .i64 0) wr) := ⟨0, by decide, rfl, Et.out, fun _ => ⟨_, TD, DBt.out, HUP.out, KKt.out, KOt.out, KMU.out, KTt.out, KRt.out, ⟨Fdk.out, Fdo.out, Fdm.out, Fdt.out, Fdr.out⟩⟩⟩
                clear DBt Et KNt KKt KOt KMU KTt KRt Fdn Fdk Fdo Fdm Fdt Fdr
                go_loopw [18] (fun v18 wr => TornK w gd gsd gk go gm gr L W r.ps kq dd 20 bn [vu32 2, vu32 kq, .slice r.A r.n r.c] v18 wr) (fun v18 _ => 2 - (intOf v18).toNat)
                case atStart => exact H3.out
                case round =>
                  rename World => wq
                  obtain ⟨i, hi2, hv18, hbq, hq⟩ := hrel
                  have Eq := Lib.hid hbq
                  clear hbq H3
                  by_cases hi : i < 2
                  case neg =>
                    have hie : i = 2 := by omega
                    subst hie
                    have hv2 : _ = Value.int .i64 2 := hv18
                    subst hv2
                    clear hq
                    go_wp2_with fail
                    go_roundw
                    case rel => exact ⟨k + 1, by omega, by go_num, Eq.out, fun h => absurd h (by omega)⟩
                    case measure => simp [intOf]; omega
                  obtain ⟨lvq, TQ, hdq, hupq, hkk, hko, hkm, hkt, hkr, hfk, hfo, hfm, hft, hfr⟩ := hq hi
                  have DQ := Lib.hid hdq
                  have HUQ := Lib.hid hupq
                  have KKq := Lib.hid hkk
                  have KOq := Lib.hid hko
                  have KMq := Lib.hid hkm
                  have KTq := Lib.hid hkt
                  have KRq := Lib.hid hkr
                  have Fdk := Lib.hid hfk
                  have Fdo := Lib.hid hfo
                  have Fdm := Lib.hid hfm
                  have Fdt := Lib.hid hft
                  have Fdr := Lib.hid hfr
                  clear hdq hupq hkk hko hkm hkt hkr hfk hfo hfm hft hfr hq
                  obtain rfl | rfl : i = 0 ∨ i = 1 := by omega
                  case inl =>
                    have hv2 : _ = Value.int .i64 0 := hv18
                    subst hv2
                    as_aux_lemma =>
                      go_wp2_with fail
                      have H4 : Hid (TornKeep wq (.slice none 0 0) (.int .i64 0) wq) := ⟨0, [], by decide, rfl, rfl, ⟨rfl, .inl ⟨rfl, rfl⟩⟩, Below.refl _ _⟩
                      go_loopw [19, 20] (fun v19 v20 wr => TornKeep wq v19 v20 wr) (fun _ v20 _ => 8 - (intOf v20).toNat)
                      case atStart => exact H4.out
                      case round =>
                        obtain ⟨k8, ks, hk8, hkl, rfl, ho, hb⟩ := hrel
                        have OR := Lib.hid ho
                        have BR := Lib.hid hb
                        have HKL := Lib.hid hkl
                        clear ho hb hkl H4
                        by_cases hlt8 : k8 < 8
                        · have hki8 : (k8 : Int) < 8 := by omega
                          have hk80 : (0 : Int) ≤ (k8 : Int) := by omega
                          have cn := (KTq.out.below BR.out).cell DN1.out
                          obtain ⟨A7, c7, rfl, _, _, _⟩ := own_rd OR.out
                          obtain ⟨b, hb8⟩ := torn_bit y1 k8 hy1
                          have HB8 := Lib.hid hb8
                          clear hb8
                          go_wp2_with (at_builtin; refine wpList_append_rd rfl (.tmp 158) (.tmp 167) 56 rfl wq.heap.size 5 (.int .u8 0) 1 1 Try.underlying56 info_u8n rfl (by decide) (by decide) (.slice A7 k8 c7) k8 (bts ks) rfl ?own (some ⟨wr.heap.size, 0, none⟩) 1 1 (bts [b]) rfl rfl ?rd (one_bts _) (by omega) (by have := BR.out.size; simp; omega) ?_)
                          case own => exact own_chg OR.out ((Chg.refl (S := NoS) wr).alloc _) (fun _ _ => id)
                          case rd =>
                            have h : bts [b] = [vu8 b] := rfl
                            rw [h, ← HB8.out]
                            exact Rd.new _ _ _
                          intro v1 w9 hown hg hat
                          have O9 : Hid (w9.ownsRow wq.heap.size 5 1 v1 (k8 + 1) (bts (ks ++ [b]))) := by
                            show World.ownsRow _ _ _ _ _ _ _
                            rw [bts_append]
                            exact hown
                          have B9 : Hid (Below wq.heap.size wq w9) := BR.out.trans (((Below.refl wr.heap.size wr).alloc (Nat.le_refl _) _).mono BR.out.size |>.trans (below_grown hg (by have := BR.out.size; simp; omega) (fun j hj => (OR.out.lt _ hj).1)))
                          clear hown hg hat cn
                          go_wp2_with fail
                          go_roundw
                          case rel => exact ⟨k8 + 1, ks ++ [b], by omega, by simp [HKL.out], by go_num, O9.out, B9.out⟩
                          case measure => simp [intOf]; omega
                        have hke8 : k8 = 8 := by omega
                        subst hke8
                        have hki8 : ¬ (((8 : Nat) : Int) < 8) := by omega
                        have DQC : Hid (DSes 92 w wq gd gsd lvq TQ) := ⟨DQ.out.at_, DQ.out.fr, DQ.out.bel⟩
                        have Ewr : Hid (Below w.heap.size w wr) := Eq.out.trans (BR.out.mono Eq.out.size)
                        have Ktwr : Hid (Bk wr w.heap.size bn) := KTq.out.below BR.out
                        have Kkwr : Hid (Bk wr gk (secs W)) := KKq.out.below BR.out
                        have Kowr : Hid (Bk wr go (labC L)) := KOq.out.below BR.out
                        have Kmwr : Hid (Bk wr gm (secs (wantS W r.ps))) := KMq.out.below BR.out
                        have Krwr : Hid (Bk wr gr [vu32 2, vu32 kq, .slice r.A r.n r.c]) := KRq.out.below BR.out
                        have Ddwr : Hid (DSes 92 w wr gd gsd lvq TQ) := DQ.out.below BR.out
                        clear Eq KTq KKq KOq KMq KRq DQ
                        obtain ⟨A7, c7, rfl, _, _, _⟩ := own_rd OR.out
                        obtain ⟨S1, hS1, hT1⟩ := HUQ.out ks
                        have HS1 := Lib.hid hS1
                        have HT1 := Lib.hid hT1
                        clear hS1 hT1
                        go_wp2_with fail
                        refine (diskUp_at wr gd gsd lvq TQ A7 8 c7 ks Ddwr.out.at_ HKL.out (fun w' hc => by
                          obtain ⟨A', c', hv', hr', _, _⟩ := own_rd (own_chg OR.out hc (fun j hj hf => by
                            have h1 := (OR.out.lt _ hj).1
                            have h2 := DiskAt.lt DQC.out.at_ j (by rcases hf with hf | hf; exact .inl hf; exact .inr (.inl hf))
                            omega))
                          injection hv' with h1 _ _
                          subst h1
                          exact hr')).mono ?_
                        intro en w121 hp
                        rw [HS1.out] at hp
                        have hch := DPost.chgF hp
                        obtain ⟨rfl, lvdw121, hd, hft⟩ := DSes.post2 Ddwr.out hp
                        have Ddw121 : Hid (DSes 92 w w121 gd gsd lvdw121 (UpD S1)) := hd
                        have Ew121 : Hid (Below w.heap.size w w121) := hd.bel
                        have Ktw121 : Hid (Bk w121 w.heap.size bn) := Ktwr.out.chg hch Fdt.out
                        have Fdt : Hid (¬ footD gd gsd lvdw121 w.heap.size) := fun hj => (hft _ hj).elim Fdt.out (fun h => by have := Ktwr.out.lt; omega)
                        have Kkw121 : Hid (Bk w121 gk (secs W)) := Kkwr.out.chg hch Fdk.out
                        have Fdk : Hid (¬ footD gd gsd lvdw121 gk) := fun hj => (hft _ hj).elim Fdk.out (fun h => by have := Kkwr.out.lt; omega)
                        have Kow121 : Hid (Bk w121 go (labC L)) := Kowr.out.chg hch Fdo.out
                        have Fdo : Hid (¬ footD gd gsd lvdw121 go) := fun hj => (hft _ hj).elim Fdo.out (fun h => by have := Kowr.out.lt; omega)
                        have Kmw121 : Hid (Bk w121 gm (secs (wantS W r.ps))) := Kmwr.out.chg hch Fdm.out
                        have Fdm : Hid (¬ footD gd gsd lvdw121 gm) := fun hj => (hft _ hj).elim Fdm.out (fun h => by have := Kmwr.out.lt; omega)
                        have Krw121 : Hid (Bk w121 gr [vu32 2, vu32 kq, .slice r.A r.n r.c]) := Krwr.out.chg hch Fdr.out
                        have Fdr : Hid (¬ footD gd gsd lvdw121 gr) := fun hj => (hft _ hj).elim Fdr.out (fun h => by have := Krwr.out.lt; omega)
                        clear hp hd hft hch Ktwr Kkwr Kowr Kmwr Krwr Ddwr Ewr
                        have cn3 := Ktw121.out.cell DN3.out
                        go_wp2_with fail
                        clear cn3
                        refine (diskFuse_at w121 gd gsd lvdw121 (UpD S1) (f3 : Int) Ddw121.out.at_).mono ?_
                        intro en w122 hp
                        rw [show max (f3 : Int) (-1) = (f3 : Int) by omega] at hp
                        have hch := DPost.chgF hp
                        obtain ⟨rfl, lvdw122, hd, hft⟩ := DSes.post2 Ddw121.out hp
                        have Ddw122 : Hid (DSes 92 w w122 gd gsd lvdw122 ⟨S1, [], (f3 : Int), false⟩) := hd
                        have Ew122 : Hid (Below w.heap.size w w122) := hd.bel
                        have Ktw122 : Hid (Bk w122 w.heap.size bn) := Ktw121.out.chg hch Fdt.out
                        have Fdt : Hid (¬ footD gd gsd lvdw122 w.heap.size) := fun hj => (hft _ hj).elim Fdt.out (fun h => by have := Ktw121.out.lt; omega)
                        have Kkw122 : Hid (Bk w122 gk (secs W)) := Kkw121.out.chg hch Fdk.out
                        have Fdk : Hid (¬ footD gd gsd lvdw122 gk) := fun hj => (hft _ hj).elim Fdk.out (fun h => by have := Kkw121.out.lt; omega)
                        have Kow122 : Hid (Bk w122 go (labC L)) := Kow121.out.chg hch Fdo.out
                        have Fdo : Hid (¬ footD gd gsd lvdw122 go) := fun hj => (hft _ hj).elim Fdo.out (fun h => by have := Kow121.out.lt; omega)
                        have Kmw122 : Hid (Bk w122 gm (secs (wantS W r.ps))) := Kmw121.out.chg hch Fdm.out
                        have Fdm : Hid (¬ footD gd gsd lvdw122 gm) := fun hj => (hft _ hj).elim Fdm.out (fun h => by have := Kmw121.out.lt; omega)
                        have Krw122 : Hid (Bk w122 gr [vu32 2, vu32 kq, .slice r.A r.n r.c]) := Krw121.out.chg hch Fdr.out
                        have Fdr : Hid (¬ footD gd gsd lvdw122 gr) := fun hj => (hft _ hj).elim Fdr.out (fun h => by have := Krw121.out.lt; omega)
                        clear hp hd hft hch Ktw121 Kkw121 Kow121 Kmw121 Krw121 Ddw121 Ew121
                        go_wp2_with fail
                        obtain ⟨T2, z2, l2, ho2, hup2⟩ := open_torn HT1.out HGD.out HLAT.out f3
                        have HO2 := Lib.hid ho2
                        have HUP2 := Lib.hid hup2
                        clear ho2 hup2
                        refine (ndOpen_calls w122 gd gsd lvdw122 ⟨S1, [], (f3 : Int), false⟩ 0 Ddw122.out.at_ (ok_fuse f3 HF3.out) (by decide)).mono ?_
                        intro en w123 hp
                        rw [HO2.out] at hp
                        obtain ⟨pq, lvdw123, rfl, hd, hft, hch⟩ := DSes.oany Ddw122.out hp
                        have Ddw123 : Hid (DSes 92 w w123 gd gsd lvdw123 T2) := hd
                        have Ew123 : Hid (Below w.heap.size w w123) := hd.bel
                        have Ktw123 : Hid (Bk w123 w.heap.size bn) := Ktw122.out.chg hch Fdt.out
                        have Fdt : Hid (¬ footD gd gsd lvdw123 w.heap.size) := fun hj => (hft _ hj).elim Fdt.out (fun h => by have := Ktw122.out.lt; omega)
                        have Kkw123 : Hid (Bk w123 gk (secs W)) := Kkw122.out.chg hch Fdk.out
                        have Fdk : Hid (¬ footD gd gsd lvdw123 gk) := fun hj => (hft _ hj).elim Fdk.out (fun h => by have := Kkw122.out.lt; omega)
                        have Kow123 : Hid (Bk w123 go (labC L)) := Kow122.out.chg hch Fdo.out
                        have Fdo : Hid (¬ footD gd gsd lvdw123 go) := fun hj => (hft _ hj).elim Fdo.out (fun h => by have := Kow122.out.lt; omega)
                        have Kmw123 : Hid (Bk w123 gm (secs (wantS W r.ps))) := Kmw122.out.chg hch Fdm.out
                        have Fdm : Hid (¬ footD gd gsd lvdw123 gm) := fun hj => (hft _ hj).elim Fdm.out (fun h => by have := Kmw122.out.lt; omega)
                        have Krw123 : Hid (Bk w123 gr [vu32 2, vu32 kq, .slice r.A r.n r.c]) := Krw122.out.chg hch Fdr.out
                        have Fdr : Hid (¬ footD gd gsd lvdw123 gr) := fun hj => (hft _ hj).elim Fdr.out (fun h => by have := Krw122.out.lt; omega)
                        clear hp hd hft hch Ktw122 Kkw122 Kow122 Kmw122 Krw122 Ddw122 Ew122
                        go_wp2_with fail
                        go_roundw
                        case rel => exact ⟨1, by decide, by go_num, Ew123.out, fun _ => ⟨_, T2, Ddw123.out, HUP2.out, Kkw123.out, Kow123.out, Kmw123.out, Ktw123.out, Krw123.out, ⟨Fdk.out, Fdo.out, Fdm.out, Fdt.out, Fdr.out⟩⟩⟩
                        case measure => simp [intOf]
                  case inr =>
                    have hv2 : _ = Value.int .i64 1 := hv18
                    subst hv2
                    as_aux_lemma =>
                      go_wp2_with fail
                      have H4 : Hid (TornKeep wq (.slice none 0 0) (.int .i64 0) wq) := ⟨0, [], by decide, rfl, rfl, ⟨rfl, .inl ⟨rfl, rfl⟩⟩, Below.refl _ _⟩
                      go_loopw [19, 20] (fun v19 v20 wr => TornKeep wq v19 v20 wr) (fun _ v20 _ => 8 - (intOf v20).toNat)
                      case atStart => exact H4.out
                      case round =>
                        obtain ⟨k8, ks, hk8, hkl, rfl, ho, hb⟩ := hrel
                        have OR := Lib.hid ho
                        have BR := Lib.hid hb
                        have HKL := Lib.hid hkl
                        clear ho hb hkl H4
                        by_cases hlt8 : k8 < 8
                        · have hki8 : (k8 : Int) < 8 := by omega
                          have hk80 : (0 : Int) ≤ (k8 : Int) := by omega
                          have cn := (KTq.out.below BR.out).cell DN2.out
                          obtain ⟨A7, c7, rfl, _, _, _⟩ := own_rd OR.out
                          obtain ⟨b, hb8⟩ := torn_bit y2 k8 hy2
                          have HB8 := Lib.hid hb8
                          clear hb8
                          go_wp2_with (at_builtin; refine wpList_append_rd rfl (.tmp 158) (.tmp 167) 56 rfl wq.heap.size 5 (.int .u8 0) 1 1 Try.underlying56 info_u8n rfl (by decide) (by decide) (.slice A7 k8 c7) k8 (bts ks) rfl ?own (some ⟨wr.heap.size, 0, none⟩) 1 1 (bts [b]) rfl rfl ?rd (one_bts _) (by omega) (by have := BR.out.size; simp; omega) ?_)
                          case own => exact own_chg OR.out ((Chg.refl (S := NoS) wr).alloc _) (fun _ _ => id)
                          case rd =>
                            have h : bts [b] = [vu8 b] := rfl
                            rw [h, ← HB8.out]
                            exact Rd.new _ _ _
                          intro v1 w9 hown hg hat
                          have O9 : Hid (w9.ownsRow wq.heap.size 5 1 v1 (k8 + 1) (bts (ks ++ [b]))) := by
                            show World.ownsRow _ _ _ _ _ _ _
                            rw [bts_append]
                            exact hown
                          have B9 : Hid (Below wq.heap.size wq w9) := BR.out.trans (((Below.refl wr.heap.size wr).alloc (Nat.le_refl _) _).mono BR.out.size |>.trans (below_grown hg (by have := BR.out.size; simp; omega) (fun j hj => (OR.out.lt _ hj).1)))
                          clear hown hg hat cn
                          go_wp2_with fail
                          go_roundw
                          case rel => exact ⟨k8 + 1, ks ++ [b], by omega, by simp [HKL.out], by go_num, O9.out, B9.out⟩
                          case measure => simp [intOf]; omega
                        have hke8 : k8 = 8 := by omega
                        subst hke8
                        have hki8 : ¬ (((8 : Nat) : Int) < 8) := by omega
                        have DQC : Hid (DSes 92 w wq gd gsd lvq TQ) := ⟨DQ.out.at_, DQ.out.fr, DQ.out.bel⟩
                        have Ewr : Hid (Below w.heap.size w wr) := Eq.out.trans (BR.out.mono Eq.out.size)
                        have Ktwr : Hid (Bk wr w.heap.size bn) := KTq.out.below BR.out
                        have Kkwr : Hid (Bk wr gk (secs W)) := KKq.out.below BR.out
                        have Kowr : Hid (Bk wr go (labC L)) := KOq.out.below BR.out
                        have Kmwr : Hid (Bk wr gm (secs (wantS W r.ps))) := KMq.out.below BR.out
                        have Krwr : Hid (Bk wr gr [vu32 2, vu32 kq, .slice r.A r.n r.c]) := KRq.out.below BR.out
                        have Ddwr : Hid (DSes 92 w wr gd gsd lvq TQ) := DQ.out.below BR.out
                        clear Eq KTq KKq KOq KMq KRq DQ
                        obtain ⟨A7, c7, rfl, _, _, _⟩ := own_rd OR.out
                        obtain ⟨S1, hS1, hT1⟩ := HUQ.out ks
                        have HS1 := Lib.hid hS1
                        have HT1 := Lib.hid hT1
                        clear hS1 hT1
                        go_wp2_with fail
                        refine (diskUp_at wr gd gsd lvq TQ A7 8 c7 ks Ddwr.out.at_ HKL.out (fun w' hc => by
                          obtain ⟨A', c', hv', hr', _, _⟩ := own_rd (own_chg OR.out hc (fun j hj hf => by
                            have h1 := (OR.out.lt _ hj).1
                            have h2 := DiskAt.lt DQC.out.at_ j (by rcases hf with hf | hf; exact .inl hf; exact .inr (.inl hf))
                            omega))
                          injection hv' with h1 _ _
                          subst h1
                          exact hr')).mono ?_
                        intro en w121 hp
                        rw [HS1.out] at hp
                        have hch := DPost.chgF hp
                        obtain ⟨rfl, lvdw121, hd, hft⟩ := DSes.post2 Ddwr.out hp
                        have Ddw121 : Hid (DSes 92 w w121 gd gsd lvdw121 (UpD S1)) := hd
                        have Ew121 : Hid (Below w.heap.size w w121) := hd.bel
                        have Ktw121 : Hid (Bk w121 w.heap.size bn) := Ktwr.out.chg hch Fdt.out
                        have Fdt : Hid (¬ footD gd gsd lvdw121 w.heap.size) := fun hj => (hft _ hj).elim Fdt.out (fun h => by have := Ktwr.out.lt; omega)
                        have Kkw121 : Hid (Bk w121 gk (secs W)) := Kkwr.out.chg hch Fdk.out
                        have Fdk : Hid (¬ footD gd gsd lvdw121 gk) := fun hj => (hft _ hj).elim Fdk.out (fun h => by have := Kkwr.out.lt; omega)
                        have Kow121 : Hid (Bk w121 go (labC L)) := Kowr.out.chg hch Fdo.out
                        have Fdo : Hid (¬ footD gd gsd lvdw121 go) := fun hj => (hft _ hj).elim Fdo.out (fun h => by have := Kowr.out.lt; omega)
                        have Kmw121 : Hid (Bk w121 gm (secs (wantS W r.ps))) := Kmwr.out.chg hch Fdm.out
                        have Fdm : Hid (¬ footD gd gsd lvdw121 gm) := fun hj => (hft _ hj).elim Fdm.out (fun h => by have := Kmwr.out.lt; omega)
                        have Krw121 : Hid (Bk w121 gr [vu32 2, vu32 kq, .slice r.A r.n r.c]) := Krwr.out.chg hch Fdr.out
                        have Fdr : Hid (¬ footD gd gsd lvdw121 gr) := fun hj => (hft _ hj).elim Fdr.out (fun h => by have := Krwr.out.lt; omega)
                        clear hp hd hft hch Ktwr Kkwr Kowr Kmwr Krwr Ddwr Ewr
                        go_wp2_with fail
                        obtain ⟨T, l, hol, hTl, hcase⟩ := open_whole HT1.out HGD.out HLAT.out
                        have HOL := Lib.hid hol
                        have HTL := Lib.hid hTl
                        clear hol hTl
                        have HSZy : Hid (w.heap.size ≤ w121.heap.size) := Ew121.out.size
                        refine (ndOpen_calls w121 gd gsd lvdw121 (UpD S1) 0 Ddw121.out.at_ (ok_up _) (by decide)).mono ?_
                        intro en w122 hp
                        rw [HOL.out] at hp
                        obtain ⟨hy, lvdw122, rfl, hd, hk, hge, hnf, hft, hch⟩ := DSes.opost Ddw121.out hp
                        have Aty : Hid (w.heap.size < hy) := by show _ < _; have := Ktw121.out.lt; omega
                        have Aky : Hid (gk < hy) := by show _ < _; have := Kkw121.out.lt; omega
                        have Aoy : Hid (go < hy) := by show _ < _; have := Kow121.out.lt; omega
                        have Amy : Hid (gm < hy) := by show _ < _; have := Kmw121.out.lt; omega
                        have Ary : Hid (gr < hy) := by show _ < _; have := Krw121.out.lt; omega
                        have Ddw122 : Hid (DSes 92 w w122 gd gsd lvdw122 (UpD T)) := hd
                        have Ew122 : Hid (Below w.heap.size w w122) := hd.bel
                        have Ktw122 : Hid (Bk w122 w.heap.size bn) := Ktw121.out.chg hch Fdt.out
                        have Fdt : Hid (¬ footD gd gsd lvdw122 w.heap.size) := fun hj => (hft _ hj).elim Fdt.out (fun h => by have := Ktw121.out.lt; omega)
                        have Kkw122 : Hid (Bk w122 gk (secs W)) := Kkw121.out.chg hch Fdk.out
                        have Fdk : Hid (¬ footD gd gsd lvdw122 gk) := fun hj => (hft _ hj).elim Fdk.out (fun h => by have := Kkw121.out.lt; omega)
                        have Kow122 : Hid (Bk w122 go (labC L)) := Kow121.out.chg hch Fdo.out
                        have Fdo : Hid (¬ footD gd gsd lvdw122 go) := fun hj => (hft _ hj).elim Fdo.out (fun h => by have := Kow121.out.lt; omega)
                        have Kmw122 : Hid (Bk w122 gm (secs (wantS W r.ps))) := Kmw121.out.chg hch Fdm.out
                        have Fdm : Hid (¬ footD gd gsd lvdw122 gm) := fun hj => (hft _ hj).elim Fdm.out (fun h => by have := Kmw121.out.lt; omega)
                        have Krw122 : Hid (Bk w122 gr [vu32 2, vu32 kq, .slice r.A r.n r.c]) := Krw121.out.chg hch Fdr.out
                        have Fdr : Hid (¬ footD gd gsd lvdw122 gr) := fun hj => (hft _ hj).elim Fdr.out (fun h => by have := Krw121.out.lt; omega)
                        have Kyw122 : Hid (Bk w122 hy (NdC gd l)) := hk
                        have Fdy : Hid (¬ footD gd gsd lvdw122 hy) := hnf
                        have NHy : Hid (w.heap.size ≤ hy) := by show _ ≤ _; have := HSZy.out; omega
                        clear hp hd hk hge hnf hft hch Ktw121 Kkw121 Kow121 Kmw121 Krw121 Ddw121 Ew121
                        go_wp2_with fail
                        refine (ndLabel_calls w122 gd hy l Kyw122.out).mono ?_
                        rintro en w123 ⟨rfl, hb⟩
                        have Ew123 : Hid (Below w.heap.size w w123) := Ew122.out.trans (hb.mono Ew122.out.size)
                        have Ktw123 : Hid (Bk w123 w.heap.size bn) := Ktw122.out.below hb
                        have Kkw123 : Hid (Bk w123 gk (secs W)) := Kkw122.out.below hb
                        have Kow123 : Hid (Bk w123 go (labC L)) := Kow122.out.below hb
                        have Kmw123 : Hid (Bk w123 gm (secs (wantS W r.ps))) := Kmw122.out.below hb
                        have Krw123 : Hid (Bk w123 gr [vu32 2, vu32 kq, .slice r.A r.n r.c]) := Krw122.out.below hb
                        have Kyw123 : Hid (Bk w123 hy (NdC gd l)) := Kyw122.out.below hb
                        have Ddw123 : Hid (DSes 92 w w123 gd gsd lvdw122 (UpD T)) := Ddw122.out.below hb
                        clear Ew122 Ktw122 Kkw122 Kow122 Kmw122 Krw122 Kyw122 Ddw122
                        clear hb
                        go_wp2_with (refine wpList_al rfl 40 rfl (labC zLab) (by kernel_rfl) ?_)
                        intro gq w124 hg hb hc hs
                        have HQq : Hid (Below w123.heap.size w123 w124) := hc.below (Nat.le_refl _) (fun _ _ => id)
                        have HGq : Hid (gq = w123.heap.size) := hg
                        have KZq := Lib.hid hb
                        clear hg hb hc hs
                        go_wp2_with (refine wpList_st rfl 40 (.tmp 23) (.tmp 194) rfl gq 0 5 (labC zLab) (labC l) rfl rfl KZq.out (by kernel_rfl) rfl (by decide) (one_lab _) ?_)
                        intro w125 hbk hc
                        rw [splice_whole (labC zLab) (labC l) rfl] at hbk
                        have hb : Below w123.heap.size w123 w125 := HQq.out.trans (hc.below HQq.out.size (fun q hq he => by have := HGq.out; omega))
                        have Fdq : Hid (¬ footD gd gsd lvdw122 gq) := fun hj => by have := DiskAt.lt Ddw123.out.at_ _ hj; have := HGq.out; omega
                        have Atq : Hid (w.heap.size < gq) := by show _ < _; have := Ktw123.out.lt; have := HGq.out; omega
                        have Akq : Hid (gk < gq) := by show _ < _; have := Kkw123.out.lt; have := HGq.out; omega
                        have Aoq : Hid (go < gq) := by show _ < _; have := Kow123.out.lt; have := HGq.out; omega
                        have Amq : Hid (gm < gq) := by show _ < _; have := Kmw123.out.lt; have := HGq.out; omega
                        have Arq : Hid (gr < gq) := by show _ < _; have := Krw123.out.lt; have := HGq.out; omega
                        have Ayq : Hid (hy < gq) := by show _ < _; have := Kyw123.out.lt; have := HGq.out; omega
                        have Ew125 : Hid (Below w.heap.size w w125) := Ew123.out.trans (hb.mono Ew123.out.size)
                        have Ktw125 : Hid (Bk w125 w.heap.size bn) := Ktw123.out.below hb
                        have Kkw125 : Hid (Bk w125 gk (secs W)) := Kkw123.out.below hb
                        have Kow125 : Hid (Bk w125 go (labC L)) := Kow123.out.below hb
                        have Kmw125 : Hid (Bk w125 gm (secs (wantS W r.ps))) := Kmw123.out.below hb
                        have Krw125 : Hid (Bk w125 gr [vu32 2, vu32 kq, .slice r.A r.n r.c]) := Krw123.out.below hb
                        have Kyw125 : Hid (Bk w125 hy (NdC gd l)) := Kyw123.out.below hb
                        have Ddw125 : Hid (DSes 92 w w125 gd gsd lvdw122 (UpD T)) := Ddw123.out.below hb
                        clear Ew123 Ktw123 Kkw123 Kow123 Kmw123 Krw123 Kyw123 Ddw123
                        have Kqw125 : Hid (Bk w125 gq (labC l)) := hbk
                        have Kqw125 : Hid (Bk w125 gq (labC l)) := hbk
                        clear hbk hb hc KZq HQq HGq
                        go_wp2_with fail
                        apply wp_region_rel 15 (Chg NoS) [(Veq _), (Veq _), (Veq _), (Veq _), (Veq _), (Veq _), (Veq _), (Veq (vu32 (nextU L.n kq))), (Veq _), (Veq _), (Veq _), (Veq _), (Veq _), (Veq (.agg (labC (carryL L 2 kq r.ps l.d)).toArray)), (PtrAt NoS w125.heap.size (labC zLab))] [[], [0], [], [2], [], [4], [5], [3, 6], [], [8], [], [10], [11], [1, 7, 9, 12], []] [195, 196, 197, 198, 199, 200, 201, 202, 203, 204, 205, 206, 207, 208, 24] (by kernel_rfl) (by kernel_rfl) rfl rfl rfl Chg.refl (fun _ _ _ => Chg.trans) ⟨Veq.lasts, Veq.lasts, Veq.lasts, Veq.lasts, Veq.lasts, Veq.lasts, Veq.lasts, Veq.lasts, Veq.lasts, Veq.lasts, Veq.lasts, Veq.lasts, Veq.lasts, Veq.lasts, PtrAt.lasts, trivial⟩ ?iops ?ifin
                        case iops =>
                          refine ⟨?io0, ?io1, ?io2, ?io3, ?io4, ?io5, ?io6, ?io7, ?io8, ?io9, ?io10, ?io11, ?io12, ?io13, ?io14, trivial⟩
                          case io0 =>
                            intro a wx hE hin
                            have i15 : a.eval (.tmp 15) = .pointer (some ⟨gr, 0, none⟩) := hin 15 rfl
                            clear hin
                            have hcst : ∀ v, a.eval (.const v) = v := fun _ => rfl
                            have hfnc : ∀ f, a.eval (.func f) = .func (.func f) #[] #[] := fun _ => rfl
                            refine want_none rfl ?_
                            unfold Oper.wp
                            generalize a.eval = ρ at *
                            go_simp
                            try go_bits
                            first | exact rel_val (Chg.refl _) | (go_simp; exact rel_val (Chg.refl _))
                          case io1 =>
                            rintro a wx hE hin (h0 : a.eval (.tmp 195) = _)
                            clear hin
                            have hcst : ∀ v, a.eval (.const v) = v := fun _ => rfl
                            have hfnc : ∀ f, a.eval (.func f) = .func (.func f) #[] #[] := fun _ => rfl
                            refine want_none rfl ?_
                            unfold Oper.wp
                            generalize a.eval = ρ at *
                            have c : wx.cell? ⟨gr, 1, none⟩ = some (vu32 kq) := (Krw125.out.drew.chg hE id).cell rfl
                            rw [vu32] at c
                            go_simp
                            try go_bits
                            first | exact rel_val (Chg.refl _) | (go_simp; exact rel_val (Chg.refl _))
                          case io2 =>
                            intro a wx hE hin
                            have i11 : a.eval (.tmp 11) = .pointer (some ⟨go, 0, none⟩) := hin 11 rfl
                            clear hin
                            have hcst : ∀ v, a.eval (.const v) = v := fun _ => rfl
                            have hfnc : ∀ f, a.eval (.func f) = .func (.func f) #[] #[] := fun _ => rfl
                            refine want_none rfl ?_
                            unfold Oper.wp
                            generalize a.eval = ρ at *
                            go_simp
                            try go_bits
                            first | exact rel_val (Chg.refl _) | (go_simp; exact rel_val (Chg.refl _))
                          case io3 =>
                            rintro a wx hE hin (h2 : a.eval (.tmp 197) = _)
                            clear hin
                            have hcst : ∀ v, a.eval (.const v) = v := fun _ => rfl
                            have hfnc : ∀ f, a.eval (.func f) = .func (.func f) #[] #[] := fun _ => rfl
                            refine want_none rfl ?_
                            unfold Oper.wp
                            generalize a.eval = ρ at *
                            have c : wx.cell? ⟨go, 2, none⟩ = some (vu32 L.n) := (Kow125.out.drew.chg hE id).cell rfl
                            rw [vu32] at c
                            go_simp
                            try go_bits
                            first | exact rel_val (Chg.refl _) | (go_simp; exact rel_val (Chg.refl _))
                          case io4 =>
                            intro a wx hE hin
                            have i15 : a.eval (.tmp 15) = .pointer (some ⟨gr, 0, none⟩) := hin 15 rfl
                            clear hin
                            have hcst : ∀ v, a.eval (.const v) = v := fun _ => rfl
                            have hfnc : ∀ f, a.eval (.func f) = .func (.func f) #[] #[] := fun _ => rfl
                            refine want_none rfl ?_
                            unfold Oper.wp
                            generalize a.eval = ρ at *
                            go_simp
                            try go_bits
                            first | exact rel_val (Chg.refl _) | (go_simp; exact rel_val (Chg.refl _))
                          case io5 =>
                            rintro a wx hE hin (h4 : a.eval (.tmp 199) = _)
                            clear hin
                            have hcst : ∀ v, a.eval (.const v) = v := fun _ => rfl
                            have hfnc : ∀ f, a.eval (.func f) = .func (.func f) #[] #[] := fun _ => rfl
                            refine want_none rfl ?_
                            unfold Oper.wp
                            generalize a.eval = ρ at *
                            have c : wx.cell? ⟨gr, 1, none⟩ = some (vu32 kq) := (Krw125.out.drew.chg hE id).cell rfl
                            rw [vu32] at c
                            go_simp
                            try go_bits
                            first | exact rel_val (Chg.refl _) | (go_simp; exact rel_val (Chg.refl _))
                          case io6 =>
                            rintro a wx hE hin (h5 : a.eval (.tmp 200) = _)
                            clear hin
                            have hcst : ∀ v, a.eval (.const v) = v := fun _ => rfl
                            have hfnc : ∀ f, a.eval (.func f) = .func (.func f) #[] #[] := fun _ => rfl
                            refine want_none rfl ?_
                            unfold Oper.wp
                            generalize a.eval = ρ at *
                            go_simp
                            try go_bits
                            first | exact rel_val (Chg.refl _) | (go_simp; exact rel_val (Chg.refl _))
                          case io7 =>
                            rintro a wx hE hin (h3 : a.eval (.tmp 198) = _) (h6 : a.eval (.tmp 201) = _)
                            clear hin
                            have hcst : ∀ v, a.eval (.const v) = v := fun _ => rfl
                            have hfnc : ∀ f, a.eval (.func f) = .func (.func f) #[] #[] := fun _ => rfl
                            refine want_none rfl ?_
                            unfold Oper.wp
                            generalize a.eval = ρ at *
                            go_simp
                            try go_bits
                            exact ⟨_, rfl, u32_max L.n kq, Chg.refl _⟩
                          case io8 =>
                            intro a wx hE hin
                            have i23 : a.eval (.tmp 23) = .pointer (some ⟨gq, 0, none⟩) := hin 23 rfl
                            clear hin
                            have hcst : ∀ v, a.eval (.const v) = v := fun _ => rfl
                            have hfnc : ∀ f, a.eval (.func f) = .func (.func f) #[] #[] := fun _ => rfl
                            refine want_none rfl ?_
                            unfold Oper.wp
                            generalize a.eval = ρ at *
                            go_simp
                            try go_bits
                            first | exact rel_val (Chg.refl _) | (go_simp; exact rel_val (Chg.refl _))
                          case io9 =>
                            rintro a wx hE hin (h8 : a.eval (.tmp 203) = _)
                            clear hin
                            have hcst : ∀ v, a.eval (.const v) = v := fun _ => rfl
                            have hfnc : ∀ f, a.eval (.func f) = .func (.func f) #[] #[] := fun _ => rfl
                            refine want_none rfl ?_
                            unfold Oper.wp
                            generalize a.eval = ρ at *
                            have c : wx.cell? ⟨gq, 3, none⟩ = some (vu16 l.d) := (Kqw125.out.drew.chg hE id).cell rfl
                            go_simp
                            try go_bits
                            first | exact rel_val (Chg.refl _) | (go_simp; exact rel_val (Chg.refl _))
                          case io10 =>
                            intro a wx hE hin
                            have i15 : a.eval (.tmp 15) = .pointer (some ⟨gr, 0, none⟩) := hin 15 rfl
                            clear hin
                            have hcst : ∀ v, a.eval (.const v) = v := fun _ => rfl
                            have hfnc : ∀ f, a.eval (.func f) = .func (.func f) #[] #[] := fun _ => rfl
                            refine want_none rfl ?_
                            unfold Oper.wp
                            generalize a.eval = ρ at *
                            go_simp
                            try go_bits
                            first | exact rel_val (Chg.refl _) | (go_simp; exact rel_val (Chg.refl _))
                          case io11 =>
                            rintro a wx hE hin (h10 : a.eval (.tmp 205) = _)
                            clear hin
                            have hcst : ∀ v, a.eval (.const v) = v := fun _ => rfl
                            have hfnc : ∀ f, a.eval (.func f) = .func (.func f) #[] #[] := fun _ => rfl
                            refine want_none rfl ?_
                            unfold Oper.wp
                            generalize a.eval = ρ at *
                            have c : wx.cell? ⟨gr, 2, none⟩ = some (.slice r.A r.n r.c) := (Krw125.out.drew.chg hE id).cell rfl
                            go_simp
                            try go_bits
                            first | exact rel_val (Chg.refl _) | (go_simp; exact rel_val (Chg.refl _))
                          case io12 =>
                            rintro a wx hE hin (h11 : a.eval (.tmp 206) = _)
                            clear hin
                            have hcst : ∀ v, a.eval (.const v) = v := fun _ => rfl
                            have hfnc : ∀ f, a.eval (.func f) = .func (.func f) #[] #[] := fun _ => rfl
                            refine want_none rfl ?_
                            unfold Oper.wp
                            generalize a.eval = ρ at *
                            go_simp
                            go_simp
                            refine (refBits_calls r.ps r.A r.n r.c wx HOK.out.len (by have h2 := HOK.out.cap; have h3 := HOK.out.max; omega) (HOK.out.rd.below (Ew125.out.trans (hE.undrew.below Ew125.out.size (fun _ _ => id)))) HOK.out.ok).mono ?_
                            rintro e w' ⟨rfl, rfl⟩
                            exact rel_val (Chg.refl _)
                          case io13 =>
                            rintro a wx hE hin (h1 : a.eval (.tmp 196) = _) (h7 : a.eval (.tmp 202) = _) (h9 : a.eval (.tmp 204) = _) (h12 : a.eval (.tmp 207) = _)
                            clear hin
                            have hcst : ∀ v, a.eval (.const v) = v := fun _ => rfl
                            have hfnc : ∀ f, a.eval (.func f) = .func (.func f) #[] #[] := fun _ => rfl
                            refine want_none rfl ?_
                            exact wp_bld 40 [(0, .const (.int .u32 2)), (1, .tmp 196), (2, .tmp 202), (3, .tmp 204), (4, .tmp 207)] rfl (labC zLab) [(0, [vu32 2]), (1, [vu32 kq]), (2, [vu32 (nextU L.n kq)]), (3, [vu16 l.d]), (4, [vu16 (UInt16.ofNat (bitsN r.ps))])] (labC (carryL L 2 kq r.ps l.d)) (by kernel_rfl) (by kernel_rfl) ⟨rfl, ⟨1, rfl, by kernel_rfl, by decide⟩, by rw [h1]; rfl, ⟨1, rfl, by kernel_rfl, by decide⟩, by rw [h7]; rfl, ⟨1, rfl, by kernel_rfl, by decide⟩, by rw [h9]; rfl, ⟨1, rfl, by kernel_rfl, by decide⟩, by rw [h12, vu16_of _ (by have := bitsN_lt r.ps; omega)]; rfl, ⟨1, rfl, by kernel_rfl, by decide⟩, trivial⟩ rfl (rel_val (Chg.refl _))
                          case io14 =>
                            intro a wx hE hin
                            clear hin
                            have hcst : ∀ v, a.eval (.const v) = v := fun _ => rfl
                            have hfnc : ∀ f, a.eval (.func f) = .func (.func f) #[] #[] := fun _ => rfl
                            refine want_none rfl ?_
                            exact wp_al 40 rfl (labC zLab) (by kernel_rfl) ⟨_, rfl, ⟨wx.heap.size, rfl, hE.size, id, Bk.new _ _ _⟩, (Chg.refl _).alloc _⟩
                        case ifin =>
                          intro wx hE
                          rintro _ rfl _ rfl _ rfl _ rfl _ rfl _ rfl _ rfl _ rfl _ rfl _ rfl _ rfl _ rfl _ rfl _ rfl _ ⟨gf, rfl, p14, n14, b14⟩
                          simp only [FinOk, List.take_succ_cons, List.take_zero, List.take_nil, List.drop_succ_cons, List.drop_zero, List.drop_nil, Act.put, List.setIfInBounds_toArray, List.set_cons_succ, List.set_cons_zero]
                          have N8 : Hid (Bk wx gf (labC zLab)) := b14
                          have HGF : Hid (w125.heap.size ≤ gf) := p14
                          have E8 : Hid (Below w125.heap.size w125 wx) := hE.undrew.below (Nat.le_refl _) (fun _ _ => id)
                          clear hE b14 p14 n14
                          go_wp2_with (refine wpList_st rfl 40 (.tmp 24) (.tmp 208) rfl gf 0 5 (labC zLab) (labC (carryL L 2 kq r.ps l.d)) rfl rfl N8.out (by kernel_rfl) rfl (by exact Nat.le_refl 5) (one_lab _) ?_)
                          intro w10 hbk hc
                          rw [splice_whole (labC zLab) (labC (carryL L 2 kq r.ps l.d)) rfl] at hbk
                          have HB10 : Hid (Below w125.heap.size w125 w10) := E8.out.trans (hc.below E8.out.size (fun k hk he => by have := HGF.out; omega))
                          have KF := Lib.hid hbk
                          have Fdf : Hid (¬ footD gd gsd lvdw122 gf) := fun hj => by have := DiskAt.lt Ddw125.out.at_ _ hj; have := HGF.out; omega
                          have Atf : Hid (w.heap.size < gf) := by show _ < _; have := Ktw125.out.lt; have := HGF.out; omega
                          have Akf : Hid (gk < gf) := by show _ < _; have := Kkw125.out.lt; have := HGF.out; omega
                          have Aof : Hid (go < gf) := by show _ < _; have := Kow125.out.lt; have := HGF.out; omega
                          have Amf : Hid (gm < gf) := by show _ < _; have := Kmw125.out.lt; have := HGF.out; omega
                          have Arf : Hid (gr < gf) := by show _ < _; have := Krw125.out.lt; have := HGF.out; omega
                          have Ayf : Hid (hy < gf) := by show _ < _; have := Kyw125.out.lt; have := HGF.out; omega
                          have Aqf : Hid (gq < gf) := by show _ < _; have := Kqw125.out.lt; have := HGF.out; omega
                          clear hbk hc N8 E8
                          have Ew10 : Hid (Below w.heap.size w w10) := Ew125.out.trans (HB10.out.mono Ew125.out.size)
                          have Ktw10 : Hid (Bk w10 w.heap.size bn) := Ktw125.out.below HB10.out
                          have Kkw10 : Hid (Bk w10 gk (secs W)) := Kkw125.out.below HB10.out
                          have Kow10 : Hid (Bk w10 go (labC L)) := Kow125.out.below HB10.out
                          have Kmw10 : Hid (Bk w10 gm (secs (wantS W r.ps))) := Kmw125.out.below HB10.out
                          have Krw10 : Hid (Bk w10 gr [vu32 2, vu32 kq, .slice r.A r.n r.c]) := Krw125.out.below HB10.out
                          have Kyw10 : Hid (Bk w10 hy (NdC gd l)) := Kyw125.out.below HB10.out
                          have Kqw10 : Hid (Bk w10 gq (labC l)) := Kqw125.out.below HB10.out
                          have Ddw10 : Hid (DSes 92 w w10 gd gsd lvdw122 (UpD T)) := Ddw125.out.below HB10.out
                          clear Ew125 Ktw125 Kkw125 Kow125 Kmw125 Krw125 Kyw125 Kqw125 Ddw125
                          go_wp2_with (first
                            | (refine wpList_ld rfl 51 (.tmp 10) rfl gk 0 384 (secs W) (secs W) rfl Kkw10.out (by kernel_rfl) (by kernel_rfl) (by rw [HW384.out]; exact Nat.le_refl _) (by rw [List.drop_zero, List.take_of_length_le (by rw [HW384.out]; exact Nat.le_refl _)]) ?_)
                            | (refine wpList_al rfl 51 rfl (bts (List.replicate 384 0)) (by kernel_rfl) ?_))
                          intro gv w126 hg hb hc hs
                          have HQv : Hid (Below w10.heap.size w10 w126) := hc.below (Nat.le_refl _) (fun _ _ => id)
                          have HGv : Hid (gv = w10.heap.size) := hg
                          have KZv := Lib.hid hb
                          clear hg hb hc hs
                          go_wp2_with (refine wpList_st rfl 51 (.tmp 25) (.tmp 209) rfl gv 0 384 (bts (List.replicate 384 0)) (secs W) rfl rfl KZv.out (by kernel_rfl) HW384.out (by decide) (one_secs _) ?_)
                          intro w127 hbk hc
                          rw [splice_whole _ _ (by rw [HW384.out]; rfl)] at hbk
                          have hb : Below w10.heap.size w10 w127 := HQv.out.trans (hc.below HQv.out.size (fun q hq he => by have := HGv.out; omega))
                          have Fdv : Hid (¬ footD gd gsd lvdw122 gv) := fun hj => by have := DiskAt.lt Ddw10.out.at_ _ hj; have := HGv.out; omega
                          have Atv : Hid (w.heap.size < gv) := by show _ < _; have := Ktw10.out.lt; have := HGv.out; omega
                          have Akv : Hid (gk < gv) := by show _ < _; have := Kkw10.out.lt; have := HGv.out; omega
                          have Aov : Hid (go < gv) := by show _ < _; have := Kow10.out.lt; have := HGv.out; omega
                          have Amv : Hid (gm < gv) := by show _ < _; have := Kmw10.out.lt; have := HGv.out; omega
                          have Arv : Hid (gr < gv) := by show _ < _; have := Krw10.out.lt; have := HGv.out; omega
                          have Ayv : Hid (hy < gv) := by show _ < _; have := Kyw10.out.lt; have := HGv.out; omega
                          have Aqv : Hid (gq < gv) := by show _ < _; have := Kqw10.out.lt; have := HGv.out; omega
                          have Afv : Hid (gf < gv) := by show _ < _; have := KF.out.lt; have := HGv.out; omega
                          have Ew127 : Hid (Below w.heap.size w w127) := Ew10.out.trans (hb.mono Ew10.out.size)
                          have Ktw127 : Hid (Bk w127 w.heap.size bn) := Ktw10.out.below hb
                          have Kkw127 : Hid (Bk w127 gk (secs W)) := Kkw10.out.below hb
                          have Kow127 : Hid (Bk w127 go (labC L)) := Kow10.out.below hb
                          have Kmw127 : Hid (Bk w127 gm (secs (wantS W r.ps))) := Kmw10.out.below hb
                          have Krw127 : Hid (Bk w127 gr [vu32 2, vu32 kq, .slice r.A r.n r.c]) := Krw10.out.below hb
                          have Kyw127 : Hid (Bk w127 hy (NdC gd l)) := Kyw10.out.below hb
                          have Kqw127 : Hid (Bk w127 gq (labC l)) := Kqw10.out.below hb
                          have Kfw127 : Hid (Bk w127 gf (labC (carryL L 2 kq r.ps l.d))) := KF.out.below hb
                          have Ddw127 : Hid (DSes 92 w w127 gd gsd lvdw122 (UpD T)) := Ddw10.out.below hb
                          clear Ew10 Ktw10 Kkw10 Kow10 Kmw10 Krw10 Kyw10 Kqw10 KF Ddw10
                          have Kvw127 : Hid (Bk w127 gv (secs W)) := hbk
                          have Kvw127 : Hid (Bk w127 gv (secs W)) := hbk
                          clear hbk hb hc KZv HQv HGv
                          have GEv : Hid (w.heap.size ≤ gv) := by show _ ≤ _; have h1 := Akv.out; have h2 := GEk.out; omega
                          rcases hcase with ⟨_, hl1, hb1⟩ | ⟨hl1, hb1⟩
                          · have HLL : Hid (l = L) := hl1
                            have HBL := Lib.hid hb1
                            clear hl1 hb1
                            have HNL : Hid (¬ l = (carryL L 2 kq r.ps l.d)) := fun h => by
                              have h2 := congrArg Lab.s h
                              rw [HLL.out] at h2
                              have h3 : L.s = kq := h2
                              have h4 := HKQN.out
                              have h5 := HLS.out
                              rw [h3] at h5
                              omega
                            go_wp2_with (first
                              | (refine wpList_ld rfl 40 (.tmp 23) rfl gq 0 5 (labC l) (labC l) rfl Kqw127.out (by kernel_rfl) (by kernel_rfl) (Nat.le_refl 5) rfl ?_)
                              | (refine wpList_ld rfl 40 (.tmp 24) rfl gf 0 5 (labC (carryL L 2 kq r.ps l.d)) (labC (carryL L 2 kq r.ps l.d)) rfl Kfw127.out (by kernel_rfl) (by kernel_rfl) (Nat.le_refl 5) rfl ?_)
                              | (refine wpList_eq_labU rfl false 40 (.tmp 210) (.tmp 211) rfl l (carryL L 2 kq r.ps l.d) rfl rfl false (torn_not HNL.out) ?_))
                            intro wsm hsm
                            obtain rfl : w127 = wsm := hsm
                            iterate 12 (first | go_values | go_skip | go_guarded | go_step | go_upon | go_back | (simp only [Int.not_lt, Int.not_le] at *; go_simp) | (go_values <;> (try go_simp)) | (go_ite <;> go_prune <;> (try go_simp)) | (split <;> (first | (rename_i hx; exact (hx _ rfl).elim) | go_prune)))
                            go_step
                            refine wpList_ld rfl 40 (.tmp 23) rfl gq 0 5 (labC l) (labC l) rfl Kqw127.out (by kernel_rfl) (by kernel_rfl) (Nat.le_refl 5) rfl ?_
                            refine wpList_ld rfl 40 (.tmp 11) rfl go 0 5 (labC L) (labC L) rfl Kow127.out (by kernel_rfl) (by kernel_rfl) (Nat.le_refl 5) rfl ?_
                            refine wpList_eq_labU rfl true 40 (.tmp 227) (.tmp 228) rfl l L rfl rfl false (torn_neq HLL.out) ?_
                            intro wsm hsm
                            obtain rfl : w127 = wsm := hsm
                            go_wp2_with fail
                            have HWS : Hid (∀ b, b < 12 → (W).getD b [] = T.getD (7 + b) []) := (fun b hb => (HBL.out b hb).symm)
                            have HU12 : Hid ((W).length = 12) := HW12.out
                            have HU32 : Hid (∀ b, b < 12 → ((W).getD b []).length = 32) := HW32.out
                            have H6 : Hid (CmpRel w gd gsd lvdw122 (UpD T) (fun u => Bk u hy (NdC gd l) ∧ Bk u gv (secs W)) (.int .i64 0) w127) := ⟨0, by decide, rfl, Ddw127.out, ⟨Kyw127.out, Kvw127.out⟩⟩
                            clear Ddw127 Ew127 Ktw127 Kkw127 Kow127 Kmw127 Krw127 Kyw127 Kqw127 Kfw127 Kvw127
                            go_loopw [26] (fun v wr => CmpRel w gd gsd lvdw122 (UpD T) (fun u => Bk u hy (NdC gd l) ∧ Bk u gv (secs W)) v wr) (fun v _ => 12 - (intOf v).toNat)
                            case atStart => exact H6.out
                            case round =>
                              obtain ⟨kb, hkb, rfl, hd3, hky3, hkv3⟩ := hrel
                              have Du := Lib.hid hd3
                              have Eu := Lib.hid hd3.bel
                              have Qyu := Lib.hid hky3
                              have Qvu := Lib.hid hkv3
                              clear hd3 hky3 hkv3 H6
                              by_cases hk12 : kb < 12
                              case pos =>
                                have hkbi : (kb : Int) < 12 := by omega
                                have hkb0 : (0 : Int) ≤ (kb : Int) := by omega
                                have HK12 := Lib.hid hk12
                                have HKI : Hid ((kb : Int) < 12) := by show _ < _; omega
                                have HK0 : Hid ((0 : Int) ≤ (kb : Int)) := by show _ ≤ _; omega
                                have HB32 : Hid (((W).getD kb []).length = 32) := HU32.out kb hk12
                                have HRB : Hid ((UpD T).readB (7 + (kb : Int)) = (W).getD kb []) := by
                                  have h := (up_block (S := T) HTL.out (b := kb) hk12).1
                                  rw [← HWS.out kb hk12] at h
                                  exact h
                                have HRE : Hid ((UpD T).readE (7 + (kb : Int)) = 0) := (up_block (S := T) HTL.out (b := kb) hk12).2
                                go_wp2_with fail
                                refine (ndBlock_calls wr gd gsd lvdw122 hy (UpD T) l (kb : Int) Du.out.at_ Qyu.out HK0.out HKI.out).mono ?_
                                rintro en w241 ⟨rfl, hb⟩
                                have Ew241 : Hid (Below w.heap.size w w241) := Eu.out.trans (hb.mono Eu.out.size)
                                have Kyw241 : Hid (Bk w241 hy (NdC gd l)) := Qyu.out.below hb
                                have Kvw241 : Hid (Bk w241 gv (secs W)) := Qvu.out.below hb
                                have Ddw241 : Hid (DSes 92 w w241 gd gsd lvdw122 (UpD T)) := Du.out.below hb
                                clear Eu Qyu Qvu Du
                                clear hb
                                rw [HRB.out, HRE.out]
                                obtain ⟨vb, hvb⟩ : ∃ vb, bts ((W).getD kb []) = vb := ⟨_, rfl⟩
                                have HVB := Lib.hid hvb
                                have HVL : Hid (vb.length = 32) := by show _ = _; rw [← hvb, bts_length]; exact HB32.out
                                have HVO : Hid (∀ u ∈ vb, u.oneCell' = true) := by rw [← hvb]; exact one_bts _
                                rw [hvb]
                                clear hvb
                                go_wp2_with (refine wpList_al rfl 35 rfl (bts (List.replicate 32 0)) (by kernel_rfl) ?_)
                                intro gb w242 hg hb hc hs
                                have HQb : Hid (Below w241.heap.size w241 w242) := hc.below (Nat.le_refl _) (fun _ _ => id)
                                have HGb : Hid (gb = w241.heap.size) := hg
                                have KZb := Lib.hid hb
                                clear hg hb hc hs
                                go_wp2_with (refine wpList_st rfl 35 (.tmp 27) (.tmp 242) rfl gb 0 32 (bts (List.replicate 32 0)) vb rfl rfl KZb.out (by kernel_rfl) HVL.out (by decide) HVO.out ?_)
                                intro w243 hbk hc
                                rw [splice_whole _ _ (by rw [HVL.out]; rfl)] at hbk
                                have hb : Below w241.heap.size w241 w243 := HQb.out.trans (hc.below HQb.out.size (fun q hq he => by have := HGb.out; omega))
                                have Ayb : Hid (hy < gb) := by show _ < _; have := Kyw241.out.lt; have := HGb.out; omega
                                have Avb : Hid (gv < gb) := by show _ < _; have := Kvw241.out.lt; have := HGb.out; omega
                                have Ew243 : Hid (Below w.heap.size w w243) := Ew241.out.trans (hb.mono Ew241.out.size)
                                have Kyw243 : Hid (Bk w243 hy (NdC gd l)) := Kyw241.out.below hb
                                have Kvw243 : Hid (Bk w243 gv (secs W)) := Kvw241.out.below hb
                                have Ddw243 : Hid (DSes 92 w w243 gd gsd lvdw122 (UpD T)) := Ddw241.out.below hb
                                clear Ew241 Kyw241 Kvw241 Ddw241
                                have Kbw243 : Hid (Bk w243 gb vb) := hbk
                                have Kbw243 : Hid (Bk w243 gb vb) := hbk
                                clear hbk hb hc KZb HQb HGb
                                go_wp2_with fail
                                apply wp_region_rel 9 (Chg NoS) [(Veq _), (Veq _), (Veq _), (Veq _), (Veq _), (Veq _), (Veq _), (Veq (.bool false)), (Veq _)] [[], [0], [1], [2], [2], [2, 4], [2, 5], [2, 3, 6], [2, 7]] [244, 245, 246, 247, 248, 249, 250, 251, 252] (by kernel_rfl) (by kernel_rfl) rfl rfl rfl Chg.refl (fun _ _ _ => Chg.trans) ⟨Veq.lasts, Veq.lasts, Veq.lasts, Veq.lasts, Veq.lasts, Veq.lasts, Veq.lasts, Veq.lasts, Veq.lasts, trivial⟩ ?kops ?kfin
                                case kops =>
                                  refine ⟨?ko0, ?ko1, ?ko2, ?ko3, ?ko4, ?ko5, ?ko6, ?ko7, ?ko8, trivial⟩
                                  case ko0 =>
                                    intro a wx hE hin
                                    have i28 : a.eval (.tmp 28) = .int .i64 0 := hin 28 rfl
                                    clear hin
                                    have hcst : ∀ v, a.eval (.const v) = v := fun _ => rfl
                                    have hfnc : ∀ f, a.eval (.func f) = .func (.func f) #[] #[] := fun _ => rfl
                                    refine want_none rfl ?_
                                    unfold Oper.wp
                                    generalize a.eval = ρ at *
                                    go_simp
                                    try go_bits
                                    first | exact rel_val (Chg.refl _) | (go_simp; exact rel_val (Chg.refl _))
                                  case ko1 =>
                                    rintro a wx hE hin (h0 : a.eval (.tmp 244) = _)
                                    clear hin
                                    have hcst : ∀ v, a.eval (.const v) = v := fun _ => rfl
                                    have hfnc : ∀ f, a.eval (.func f) = .func (.func f) #[] #[] := fun _ => rfl
                                    refine want_none rfl ?_
                                    unfold Oper.wp
                                    generalize a.eval = ρ at *
                                    go_simp
                                    try go_bits
                                    first | exact rel_val (Chg.refl _) | (go_simp; exact rel_val (Chg.refl _))
                                  case ko2 =>
                                    rintro a wx hE hin (h1 : a.eval (.tmp 245) = _)
                                    clear hin
                                    have hcst : ∀ v, a.eval (.const v) = v := fun _ => rfl
                                    have hfnc : ∀ f, a.eval (.func f) = .func (.func f) #[] #[] := fun _ => rfl
                                    refine want_none rfl ?_
                                    unfold Oper.wp
                                    generalize a.eval = ρ at *
                                    go_simp
                                    try go_bits
                                    first | exact rel_val (Chg.refl _) | (go_simp; exact rel_val (Chg.refl _))
                                  case ko3 =>
                                    rintro a wx hE hin (h2 : a.eval (.tmp 246) = _)
                                    have i27 : a.eval (.tmp 27) = .pointer (some ⟨gb, 0, none⟩) := hin 27 rfl
                                    clear hin
                                    have hcst : ∀ v, a.eval (.const v) = v := fun _ => rfl
                                    have hfnc : ∀ f, a.eval (.func f) = .func (.func f) #[] #[] := fun _ => rfl
                                    refine want_yes rfl rfl h2 ?_
                                    exact wp_ld 35 _ rfl gb 0 32 vb (bts ((W).getD kb [])) i27 (Kbw243.out.drew.chg hE id) (by kernel_rfl) (by kernel_rfl) (by rw [HVL.out]; decide) (by rw [List.drop_zero, List.take_of_length_le (by rw [HVL.out]; exact Nat.le_refl _), HVB.out]) (rel_val (Chg.refl _))
                                  case ko4 =>
                                    rintro a wx hE hin (h2 : a.eval (.tmp 246) = _)
                                    have i26 : a.eval (.tmp 26) = .int .i64 kb := hin 26 rfl
                                    clear hin
                                    have hcst : ∀ v, a.eval (.const v) = v := fun _ => rfl
                                    have hfnc : ∀ f, a.eval (.func f) = .func (.func f) #[] #[] := fun _ => rfl
                                    refine want_yes rfl rfl h2 ?_
                                    unfold Oper.wp
                                    generalize a.eval = ρ at *
                                    go_simp
                                    try go_bits
                                    first | exact rel_val (Chg.refl _) | (go_simp; exact rel_val (Chg.refl _))
                                  case ko5 =>
                                    rintro a wx hE hin (h2 : a.eval (.tmp 246) = _) (h4 : a.eval (.tmp 248) = _)
                                    have i25 : a.eval (.tmp 25) = .pointer (some ⟨gv, 0, none⟩) := hin 25 rfl
                                    clear hin
                                    have hcst : ∀ v, a.eval (.const v) = v := fun _ => rfl
                                    have hfnc : ∀ f, a.eval (.func f) = .func (.func f) #[] #[] := fun _ => rfl
                                    refine want_yes rfl rfl h2 ?_
                                    unfold Oper.wp
                                    generalize a.eval = ρ at *
                                    go_simp
                                    try go_bits
                                    first | exact rel_val (Chg.refl _) | (go_simp; exact rel_val (Chg.refl _))
                                  case ko6 =>
                                    rintro a wx hE hin (h2 : a.eval (.tmp 246) = _) (h5 : a.eval (.tmp 249) = _)
                                    clear hin
                                    have hcst : ∀ v, a.eval (.const v) = v := fun _ => rfl
                                    have hfnc : ∀ f, a.eval (.func f) = .func (.func f) #[] #[] := fun _ => rfl
                                    refine want_yes rfl rfl h2 ?_
                                    exact wp_ld 35 _ rfl gv (kb * 32) 32 (secs W) (bts ((W).getD kb [])) h5 (Kvw243.out.drew.chg hE id) (by kernel_rfl) (by kernel_rfl) (by rw [secs_len12 HU12.out HU32.out]; have := HK12.out; omega) (secs_at HU12.out HU32.out HK12.out) (rel_val (Chg.refl _))
                                  case ko7 =>
                                    rintro a wx hE hin (h2 : a.eval (.tmp 246) = _) (h3 : a.eval (.tmp 247) = _) (h6 : a.eval (.tmp 250) = _)
                                    clear hin
                                    have hcst : ∀ v, a.eval (.const v) = v := fun _ => rfl
                                    have hfnc : ∀ f, a.eval (.func f) = .func (.func f) #[] #[] := fun _ => rfl
                                    refine want_yes rfl rfl h2 ?_
                                    exact wp_eq_bytes true 35 _ _ _ rfl 5 32 Try.underlying35 Try.underlying5 (by kernel_rfl) (by kernel_rfl) ((W).getD kb []) ((W).getD kb []) h3 h6 HB32.out HB32.out (by rw [decide_eq_true rfl]; exact rel_val (Chg.refl _))
                                  case ko8 =>
                                    rintro a wx hE hin (h2 : a.eval (.tmp 246) = _) (h7 : a.eval (.tmp 251) = _)
                                    clear hin
                                    have hcst : ∀ v, a.eval (.const v) = v := fun _ => rfl
                                    have hfnc : ∀ f, a.eval (.func f) = .func (.func f) #[] #[] := fun _ => rfl
                                    refine want_none rfl ?_
                                    unfold Oper.wp
                                    generalize a.eval = ρ at *
                                    go_simp
                                    try go_bits
                                    first | exact rel_val (Chg.refl _) | (go_simp; exact rel_val (Chg.refl _))
                                case kfin =>
                                  intro wx hE
                                  rintro _ rfl _ rfl _ rfl _ rfl _ rfl _ rfl _ rfl _ rfl _ rfl
                                  simp only [FinOk, List.take_succ_cons, List.take_zero, List.take_nil, List.drop_succ_cons, List.drop_zero, List.drop_nil, Act.put, List.setIfInBounds_toArray, List.set_cons_succ, List.set_cons_zero]
                                  have DX : Hid (DSes 92 w wx gd gsd lvdw122 (UpD T)) := Ddw243.out.chgN hE.undrew
                                  have Xy : Hid (Bk wx hy (NdC gd l)) := Kyw243.out.drew.chg hE id
                                  have Xv : Hid (Bk wx gv (secs W)) := Kvw243.out.drew.chg hE id
                                  clear hE
                                  go_wp2_with fail
                                  go_roundw
                                  case rel => exact ⟨kb + 1, by omega, by go_num, DX.out, ⟨Xy.out, Xv.out⟩⟩
                                  case measure => simp [intOf]; omega
                              case neg =>
                                have hke12 : kb = 12 := by omega
                                subst hke12
                                have hki12 : ¬ (((12 : Nat) : Int) < 12) := by omega
                                go_wp2_with fail
                                go_roundw
                                case rel => exact ⟨2, by decide, by go_num, Eu.out, fun h => absurd h (by decide)⟩
                                case measure => simp [intOf]
                          have HBL := Lib.hid hb1
                          clear hb1
                          have hl3 : l = carryL L 2 kq r.ps L.d ∨ (¬ dd = L.d ∧ l = (carryL L 2 kq r.ps dd)) := by
                            by_cases hdn : dd = L.d
                            · exact .inl (hl1.elim id (fun h => by rw [h, hdn]))
                            · exact hl1.imp id (fun h => ⟨hdn, h⟩)
                          clear hl1
                          rcases hl3 with hl1 | ⟨hdn, hl1⟩
                          case inl =>
                            have HLD : Hid (l = (carryL L 2 kq r.ps l.d)) := by show _ = _; rw [hl1]; rfl
                            have HDD : Hid (l.d = L.d) := by show _ = _; rw [hl1]; rfl
                            clear hl1
                            go_wp2_with (first
                              | (refine wpList_ld rfl 40 (.tmp 23) rfl gq 0 5 (labC l) (labC l) rfl Kqw127.out (by kernel_rfl) (by kernel_rfl) (Nat.le_refl 5) rfl ?_)
                              | (refine wpList_ld rfl 40 (.tmp 24) rfl gf 0 5 (labC (carryL L 2 kq r.ps l.d)) (labC (carryL L 2 kq r.ps l.d)) rfl Kfw127.out (by kernel_rfl) (by kernel_rfl) (Nat.le_refl 5) rfl ?_)
                              | (refine wpList_eq_labU rfl false 40 (.tmp 210) (.tmp 211) rfl l (carryL L 2 kq r.ps l.d) rfl rfl true (torn_eq HLD.out) ?_))
                            intro wsm hsm
                            obtain rfl : w127 = wsm := hsm
                            have cq3 : w127.cell? ⟨gq, 3, none⟩ = some (vu16 l.d) := Kqw127.out.cell rfl
                            have co3 : w127.cell? ⟨go, 3, none⟩ = some (vu16 L.d) := Kow127.out.cell rfl
                            rw [HDD.out] at cq3
                            go_wp2_with (first
                              | (refine wpList_ld rfl 51 (.tmp 12) rfl gm 0 384 (secs (wantS W r.ps)) (secs (wantS W r.ps)) rfl Kmw127.out (by kernel_rfl) (by kernel_rfl) (by rw [HX384.out]; exact Nat.le_refl _) (by rw [List.drop_zero, List.take_of_length_le (by rw [HX384.out]; exact Nat.le_refl _)]) ?_)
                              | (refine wpList_st rfl 51 (.tmp 25) (.tmp 226) rfl gv 0 384 (secs W) (secs (wantS W r.ps)) rfl rfl Kvw127.out (by kernel_rfl) HX384.out (by rw [HW384.out]; exact Nat.le_refl _) (one_secs _) ?_))
                            intro w128 hbk hc
                            rw [splice_whole _ _ (by rw [HX384.out, HW384.out])] at hbk
                            have Ew128 : Hid (Below w.heap.size w w128) := Ew127.out.trans (hc.below Ew127.out.size (fun q hq he => by have := GEv.out; omega))
                            have Ktw128 : Hid (Bk w128 w.heap.size bn) := Ktw127.out.chg hc (fun he => by have := Atv.out; omega)
                            have Kkw128 : Hid (Bk w128 gk (secs W)) := Kkw127.out.chg hc (fun he => by have := Akv.out; omega)
                            have Kow128 : Hid (Bk w128 go (labC L)) := Kow127.out.chg hc (fun he => by have := Aov.out; omega)
                            have Kmw128 : Hid (Bk w128 gm (secs (wantS W r.ps))) := Kmw127.out.chg hc (fun he => by have := Amv.out; omega)
                            have Krw128 : Hid (Bk w128 gr [vu32 2, vu32 kq, .slice r.A r.n r.c]) := Krw127.out.chg hc (fun he => by have := Arv.out; omega)
                            have Kyw128 : Hid (Bk w128 hy (NdC gd l)) := Kyw127.out.chg hc (fun he => by have := Ayv.out; omega)
                            have Kqw128 : Hid (Bk w128 gq (labC l)) := Kqw127.out.chg hc (fun he => by have := Aqv.out; omega)
                            have Kfw128 : Hid (Bk w128 gf (labC (carryL L 2 kq r.ps l.d))) := Kfw127.out.chg hc (fun he => by have := Afv.out; omega)
                            have Ddw128 : Hid (DSes 92 w w128 gd gsd lvdw122 (UpD T)) := ⟨DiskAt.chg Ddw127.out.at_ hc (fun j hj he => Fdv.out (he ▸ hj)), Ddw127.out.fr, Ew128.out⟩
                            have Kvw128 : Hid (Bk w128 gv (secs (wantS W r.ps))) := hbk
                            clear hbk hc Ew127 Kvw127 Ktw127 Kkw127 Kow127 Kmw127 Krw127 Kyw127 Kqw127 Kfw127 Ddw127
                            go_wp2_with fail
                            clear cq3 co3
                            have HWS : Hid (∀ b, b < 12 → ((wantS W r.ps)).getD b [] = T.getD (7 + b) []) := (fun b hb => by rw [wantS_at r.ps W b HW12.out (goodB_ats' HGD.out) hb]; exact (HBL.out b hb).symm)
                            have HU12 : Hid (((wantS W r.ps)).length = 12) := (by rw [wantS_len]; exact HW12.out)
                            have HU32 : Hid (∀ b, b < 12 → (((wantS W r.ps)).getD b []).length = 32) := HX32.out
                            have H6 : Hid (CmpRel w gd gsd lvdw122 (UpD T) (fun u => Bk u hy (NdC gd l) ∧ Bk u gv (secs (wantS W r.ps))) (.int .i64 0) w128) := ⟨0, by decide, rfl, Ddw128.out, ⟨Kyw128.out, Kvw128.out⟩⟩
                            clear Ddw128 Ew128 Ktw128 Kkw128 Kow128 Kmw128 Krw128 Kyw128 Kqw128 Kfw128 Kvw128
                            go_loopw [26] (fun v wr => CmpRel w gd gsd lvdw122 (UpD T) (fun u => Bk u hy (NdC gd l) ∧ Bk u gv (secs (wantS W r.ps))) v wr) (fun v _ => 12 - (intOf v).toNat)
                            case atStart => exact H6.out
                            case round =>
                              obtain ⟨kb, hkb, rfl, hd3, hky3, hkv3⟩ := hrel
                              have Du := Lib.hid hd3
                              have Eu := Lib.hid hd3.bel
                              have Qyu := Lib.hid hky3
                              have Qvu := Lib.hid hkv3
                              clear hd3 hky3 hkv3 H6
                              by_cases hk12 : kb < 12
                              case pos =>
                                have hkbi : (kb : Int) < 12 := by omega
                                have hkb0 : (0 : Int) ≤ (kb : Int) := by omega
                                have HK12 := Lib.hid hk12
                                have HKI : Hid ((kb : Int) < 12) := by show _ < _; omega
                                have HK0 : Hid ((0 : Int) ≤ (kb : Int)) := by show _ ≤ _; omega
                                have HB32 : Hid ((((wantS W r.ps)).getD kb []).length = 32) := HU32.out kb hk12
                                have HRB : Hid ((UpD T).readB (7 + (kb : Int)) = ((wantS W r.ps)).getD kb []) := by
                                  have h := (up_block (S := T) HTL.out (b := kb) hk12).1
                                  rw [← HWS.out kb hk12] at h
                                  exact h
                                have HRE : Hid ((UpD T).readE (7 + (kb : Int)) = 0) := (up_block (S := T) HTL.out (b := kb) hk12).2
                                go_wp2_with fail
                                refine (ndBlock_calls wr gd gsd lvdw122 hy (UpD T) l (kb : Int) Du.out.at_ Qyu.out HK0.out HKI.out).mono ?_
                                rintro en w241 ⟨rfl, hb⟩
                                have Ew241 : Hid (Below w.heap.size w w241) := Eu.out.trans (hb.mono Eu.out.size)
                                have Kyw241 : Hid (Bk w241 hy (NdC gd l)) := Qyu.out.below hb
                                have Kvw241 : Hid (Bk w241 gv (secs (wantS W r.ps))) := Qvu.out.below hb
                                have Ddw241 : Hid (DSes 92 w w241 gd gsd lvdw122 (UpD T)) := Du.out.below hb
                                clear Eu Qyu Qvu Du
                                clear hb
                                rw [HRB.out, HRE.out]
                                obtain ⟨vb, hvb⟩ : ∃ vb, bts (((wantS W r.ps)).getD kb []) = vb := ⟨_, rfl⟩
                                have HVB := Lib.hid hvb
                                have HVL : Hid (vb.length = 32) := by show _ = _; rw [← hvb, bts_length]; exact HB32.out
                                have HVO : Hid (∀ u ∈ vb, u.oneCell' = true) := by rw [← hvb]; exact one_bts _
                                rw [hvb]
                                clear hvb
                                go_wp2_with (refine wpList_al rfl 35 rfl (bts (List.replicate 32 0)) (by kernel_rfl) ?_)
                                intro gb w242 hg hb hc hs
                                have HQb : Hid (Below w241.heap.size w241 w242) := hc.below (Nat.le_refl _) (fun _ _ => id)
                                have HGb : Hid (gb = w241.heap.size) := hg
                                have KZb := Lib.hid hb
                                clear hg hb hc hs
                                go_wp2_with (refine wpList_st rfl 35 (.tmp 27) (.tmp 242) rfl gb 0 32 (bts (List.replicate 32 0)) vb rfl rfl KZb.out (by kernel_rfl) HVL.out (by decide) HVO.out ?_)
                                intro w243 hbk hc
                                rw [splice_whole _ _ (by rw [HVL.out]; rfl)] at hbk
                                have hb : Below w241.heap.size w241 w243 := HQb.out.trans (hc.below HQb.out.size (fun q hq he => by have := HGb.out; omega))
                                have Ayb : Hid (hy < gb) := by show _ < _; have := Kyw241.out.lt; have := HGb.out; omega
                                have Avb : Hid (gv < gb) := by show _ < _; have := Kvw241.out.lt; have := HGb.out; omega
                                have Ew243 : Hid (Below w.heap.size w w243) := Ew241.out.trans (hb.mono Ew241.out.size)
                                have Kyw243 : Hid (Bk w243 hy (NdC gd l)) := Kyw241.out.below hb
                                have Kvw243 : Hid (Bk w243 gv (secs (wantS W r.ps))) := Kvw241.out.below hb
                                have Ddw243 : Hid (DSes 92 w w243 gd gsd lvdw122 (UpD T)) := Ddw241.out.below hb
                                clear Ew241 Kyw241 Kvw241 Ddw241
                                have Kbw243 : Hid (Bk w243 gb vb) := hbk
                                have Kbw243 : Hid (Bk w243 gb vb) := hbk
                                clear hbk hb hc KZb HQb HGb
                                go_wp2_with fail
                                apply wp_region_rel 9 (Chg NoS) [(Veq _), (Veq _), (Veq _), (Veq _), (Veq _), (Veq _), (Veq _), (Veq (.bool false)), (Veq _)] [[], [0], [1], [2], [2], [2, 4], [2, 5], [2, 3, 6], [2, 7]] [244, 245, 246, 247, 248, 249, 250, 251, 252] (by kernel_rfl) (by kernel_rfl) rfl rfl rfl Chg.refl (fun _ _ _ => Chg.trans) ⟨Veq.lasts, Veq.lasts, Veq.lasts, Veq.lasts, Veq.lasts, Veq.lasts, Veq.lasts, Veq.lasts, Veq.lasts, trivial⟩ ?kops ?kfin
                                case kops =>
                                  refine ⟨?ko0, ?ko1, ?ko2, ?ko3, ?ko4, ?ko5, ?ko6, ?ko7, ?ko8, trivial⟩
                                  case ko0 =>
                                    intro a wx hE hin
                                    have i28 : a.eval (.tmp 28) = .int .i64 0 := hin 28 rfl
                                    clear hin
                                    have hcst : ∀ v, a.eval (.const v) = v := fun _ => rfl
                                    have hfnc : ∀ f, a.eval (.func f) = .func (.func f) #[] #[] := fun _ => rfl
                                    refine want_none rfl ?_
                                    unfold Oper.wp
                                    generalize a.eval = ρ at *
                                    go_simp
                                    try go_bits
                                    first | exact rel_val (Chg.refl _) | (go_simp; exact rel_val (Chg.refl _))
                                  case ko1 =>
                                    rintro a wx hE hin (h0 : a.eval (.tmp 244) = _)
                                    clear hin
                                    have hcst : ∀ v, a.eval (.const v) = v := fun _ => rfl
                                    have hfnc : ∀ f, a.eval (.func f) = .func (.func f) #[] #[] := fun _ => rfl
                                    refine want_none rfl ?_
                                    unfold Oper.wp
                                    generalize a.eval = ρ at *
                                    go_simp
                                    try go_bits
                                    first | exact rel_val (Chg.refl _) | (go_simp; exact rel_val (Chg.refl _))
                                  case ko2 =>
                                    rintro a wx hE hin (h1 : a.eval (.tmp 245) = _)
                                    clear hin
                                    have hcst : ∀ v, a.eval (.const v) = v := fun _ => rfl
                                    have hfnc : ∀ f, a.eval (.func f) = .func (.func f) #[] #[] := fun _ => rfl
                                    refine want_none rfl ?_
                                    unfold Oper.wp
                                    generalize a.eval = ρ at *
                                    go_simp
                                    try go_bits
                                    first | exact rel_val (Chg.refl _) | (go_simp; exact rel_val (Chg.refl _))
                                  case ko3 =>
                                    rintro a wx hE hin (h2 : a.eval (.tmp 246) = _)
                                    have i27 : a.eval (.tmp 27) = .pointer (some ⟨gb, 0, none⟩) := hin 27 rfl
                                    clear hin
                                    have hcst : ∀ v, a.eval (.const v) = v := fun _ => rfl
                                    have hfnc : ∀ f, a.eval (.func f) = .func (.func f) #[] #[] := fun _ => rfl
                                    refine want_yes rfl rfl h2 ?_
                                    exact wp_ld 35 _ rfl gb 0 32 vb (bts (((wantS W r.ps)).getD kb [])) i27 (Kbw243.out.drew.chg hE id) (by kernel_rfl) (by kernel_rfl) (by rw [HVL.out]; decide) (by rw [List.drop_zero, List.take_of_length_le (by rw [HVL.out]; exact Nat.le_refl _), HVB.out]) (rel_val (Chg.refl _))
                                  case ko4 =>
                                    rintro a wx hE hin (h2 : a.eval (.tmp 246) = _)
                                    have i26 : a.eval (.tmp 26) = .int .i64 kb := hin 26 rfl
                                    clear hin
                                    have hcst : ∀ v, a.eval (.const v) = v := fun _ => rfl
                                    have hfnc : ∀ f, a.eval (.func f) = .func (.func f) #[] #[] := fun _ => rfl
                                    refine want_yes rfl rfl h2 ?_
                                    unfold Oper.wp
                                    generalize a.eval = ρ at *
                                    go_simp
                                    try go_bits
                                    first | exact rel_val (Chg.refl _) | (go_simp; exact rel_val (Chg.refl _))
                                  case ko5 =>
                                    rintro a wx hE hin (h2 : a.eval (.tmp 246) = _) (h4 : a.eval (.tmp 248) = _)
                                    have i25 : a.eval (.tmp 25) = .pointer (some ⟨gv, 0, none⟩) := hin 25 rfl
                                    clear hin
                                    have hcst : ∀ v, a.eval (.const v) = v := fun _ => rfl
                                    have hfnc : ∀ f, a.eval (.func f) = .func (.func f) #[] #[] := fun _ => rfl
                                    refine want_yes rfl rfl h2 ?_
                                    unfold Oper.wp
                                    generalize a.eval = ρ at *
                                    go_simp
                                    try go_bits
                                    first | exact rel_val (Chg.refl _) | (go_simp; exact rel_val (Chg.refl _))
                                  case ko6 =>
                                    rintro a wx hE hin (h2 : a.eval (.tmp 246) = _) (h5 : a.eval (.tmp 249) = _)
                                    clear hin
                                    have hcst : ∀ v, a.eval (.const v) = v := fun _ => rfl
                                    have hfnc : ∀ f, a.eval (.func f) = .func (.func f) #[] #[] := fun _ => rfl
                                    refine want_yes rfl rfl h2 ?_
                                    exact wp_ld 35 _ rfl gv (kb * 32) 32 (secs (wantS W r.ps)) (bts (((wantS W r.ps)).getD kb [])) h5 (Kvw243.out.drew.chg hE id) (by kernel_rfl) (by kernel_rfl) (by rw [secs_len12 HU12.out HU32.out]; have := HK12.out; omega) (secs_at HU12.out HU32.out HK12.out) (rel_val (Chg.refl _))
                                  case ko7 =>
                                    rintro a wx hE hin (h2 : a.eval (.tmp 246) = _) (h3 : a.eval (.tmp 247) = _) (h6 : a.eval (.tmp 250) = _)
                                    clear hin
                                    have hcst : ∀ v, a.eval (.const v) = v := fun _ => rfl
                                    have hfnc : ∀ f, a.eval (.func f) = .func (.func f) #[] #[] := fun _ => rfl
                                    refine want_yes rfl rfl h2 ?_
                                    exact wp_eq_bytes true 35 _ _ _ rfl 5 32 Try.underlying35 Try.underlying5 (by kernel_rfl) (by kernel_rfl) (((wantS W r.ps)).getD kb []) (((wantS W r.ps)).getD kb []) h3 h6 HB32.out HB32.out (by rw [decide_eq_true rfl]; exact rel_val (Chg.refl _))
                                  case ko8 =>
                                    rintro a wx hE hin (h2 : a.eval (.tmp 246) = _) (h7 : a.eval (.tmp 251) = _)
                                    clear hin
                                    have hcst : ∀ v, a.eval (.const v) = v := fun _ => rfl
                                    have hfnc : ∀ f, a.eval (.func f) = .func (.func f) #[] #[] := fun _ => rfl
                                    refine want_none rfl ?_
                                    unfold Oper.wp
                                    generalize a.eval = ρ at *
                                    go_simp
                                    try go_bits
                                    first | exact rel_val (Chg.refl _) | (go_simp; exact rel_val (Chg.refl _))
                                case kfin =>
                                  intro wx hE
                                  rintro _ rfl _ rfl _ rfl _ rfl _ rfl _ rfl _ rfl _ rfl _ rfl
                                  simp only [FinOk, List.take_succ_cons, List.take_zero, List.take_nil, List.drop_succ_cons, List.drop_zero, List.drop_nil, Act.put, List.setIfInBounds_toArray, List.set_cons_succ, List.set_cons_zero]
                                  have DX : Hid (DSes 92 w wx gd gsd lvdw122 (UpD T)) := Ddw243.out.chgN hE.undrew
                                  have Xy : Hid (Bk wx hy (NdC gd l)) := Kyw243.out.drew.chg hE id
                                  have Xv : Hid (Bk wx gv (secs (wantS W r.ps))) := Kvw243.out.drew.chg hE id
                                  clear hE
                                  go_wp2_with fail
                                  go_roundw
                                  case rel => exact ⟨kb + 1, by omega, by go_num, DX.out, ⟨Xy.out, Xv.out⟩⟩
                                  case measure => simp [intOf]; omega
                              case neg =>
                                have hke12 : kb = 12 := by omega
                                subst hke12
                                have hki12 : ¬ (((12 : Nat) : Int) < 12) := by omega
                                go_wp2_with fail
                                go_roundw
                                case rel => exact ⟨2, by decide, by go_num, Eu.out, fun h => absurd h (by decide)⟩
                                case measure => simp [intOf]
                          case inr =>
                            have HLD : Hid (l = (carryL L 2 kq r.ps l.d)) := by show _ = _; rw [hl1]; rfl
                            have HDD : Hid (l.d = dd) := by show _ = _; rw [hl1]; rfl
                            clear hl1
                            go_wp2_with (first
                              | (refine wpList_ld rfl 40 (.tmp 23) rfl gq 0 5 (labC l) (labC l) rfl Kqw127.out (by kernel_rfl) (by kernel_rfl) (Nat.le_refl 5) rfl ?_)
                              | (refine wpList_ld rfl 40 (.tmp 24) rfl gf 0 5 (labC (carryL L 2 kq r.ps l.d)) (labC (carryL L 2 kq r.ps l.d)) rfl Kfw127.out (by kernel_rfl) (by kernel_rfl) (Nat.le_refl 5) rfl ?_)
                              | (refine wpList_eq_labU rfl false 40 (.tmp 210) (.tmp 211) rfl l (carryL L 2 kq r.ps l.d) rfl rfl true (torn_eq HLD.out) ?_))
                            intro wsm hsm
                            obtain rfl : w127 = wsm := hsm
                            have cq3 : w127.cell? ⟨gq, 3, none⟩ = some (vu16 l.d) := Kqw127.out.cell rfl
                            have co3 : w127.cell? ⟨go, 3, none⟩ = some (vu16 L.d) := Kow127.out.cell rfl
                            rw [HDD.out] at cq3
                            rw [vu16] at cq3
                            have hdl : ¬ ((dd.toNat : Nat) : Int) = ((L.d.toNat : Nat) : Int) := fun h => hdn (UInt16.toNat_inj.1 (by omega))
                            rw [vu16] at co3
                            go_wp2_with (first
                              | (refine wpList_ld rfl 51 (.tmp 12) rfl gm 0 384 (secs (wantS W r.ps)) (secs (wantS W r.ps)) rfl Kmw127.out (by kernel_rfl) (by kernel_rfl) (by rw [HX384.out]; exact Nat.le_refl _) (by rw [List.drop_zero, List.take_of_length_le (by rw [HX384.out]; exact Nat.le_refl _)]) ?_)
                              | (refine wpList_st rfl 51 (.tmp 25) (.tmp 226) rfl gv 0 384 (secs W) (secs (wantS W r.ps)) rfl rfl Kvw127.out (by kernel_rfl) HX384.out (by rw [HW384.out]; exact Nat.le_refl _) (one_secs _) ?_))
                            intro w128 hbk hc
                            rw [splice_whole _ _ (by rw [HX384.out, HW384.out])] at hbk
                            have Ew128 : Hid (Below w.heap.size w w128) := Ew127.out.trans (hc.below Ew127.out.size (fun q hq he => by have := GEv.out; omega))
                            have Ktw128 : Hid (Bk w128 w.heap.size bn) := Ktw127.out.chg hc (fun he => by have := Atv.out; omega)
                            have Kkw128 : Hid (Bk w128 gk (secs W)) := Kkw127.out.chg hc (fun he => by have := Akv.out; omega)
                            have Kow128 : Hid (Bk w128 go (labC L)) := Kow127.out.chg hc (fun he => by have := Aov.out; omega)
                            have Kmw128 : Hid (Bk w128 gm (secs (wantS W r.ps))) := Kmw127.out.chg hc (fun he => by have := Amv.out; omega)
                            have Krw128 : Hid (Bk w128 gr [vu32 2, vu32 kq, .slice r.A r.n r.c]) := Krw127.out.chg hc (fun he => by have := Arv.out; omega)
                            have Kyw128 : Hid (Bk w128 hy (NdC gd l)) := Kyw127.out.chg hc (fun he => by have := Ayv.out; omega)
                            have Kqw128 : Hid (Bk w128 gq (labC l)) := Kqw127.out.chg hc (fun he => by have := Aqv.out; omega)
                            have Kfw128 : Hid (Bk w128 gf (labC (carryL L 2 kq r.ps l.d))) := Kfw127.out.chg hc (fun he => by have := Afv.out; omega)
                            have Ddw128 : Hid (DSes 92 w w128 gd gsd lvdw122 (UpD T)) := ⟨DiskAt.chg Ddw127.out.at_ hc (fun j hj he => Fdv.out (he ▸ hj)), Ddw127.out.fr, Ew128.out⟩
                            have Kvw128 : Hid (Bk w128 gv (secs (wantS W r.ps))) := hbk
                            clear hbk hc Ew127 Kvw127 Ktw127 Kkw127 Kow127 Kmw127 Krw127 Kyw127 Kqw127 Kfw127 Ddw127
                            go_wp2_with fail
                            clear cq3 co3
                            have HWS : Hid (∀ b, b < 12 → ((wantS W r.ps)).getD b [] = T.getD (7 + b) []) := (fun b hb => by rw [wantS_at r.ps W b HW12.out (goodB_ats' HGD.out) hb]; exact (HBL.out b hb).symm)
                            have HU12 : Hid (((wantS W r.ps)).length = 12) := (by rw [wantS_len]; exact HW12.out)
                            have HU32 : Hid (∀ b, b < 12 → (((wantS W r.ps)).getD b []).length = 32) := HX32.out
                            have H6 : Hid (CmpRel w gd gsd lvdw122 (UpD T) (fun u => Bk u hy (NdC gd l) ∧ Bk u gv (secs (wantS W r.ps))) (.int .i64 0) w128) := ⟨0, by decide, rfl, Ddw128.out, ⟨Kyw128.out, Kvw128.out⟩⟩
                            clear Ddw128 Ew128 Ktw128 Kkw128 Kow128 Kmw128 Krw128 Kyw128 Kqw128 Kfw128 Kvw128
                            go_loopw [26] (fun v wr => CmpRel w gd gsd lvdw122 (UpD T) (fun u => Bk u hy (NdC gd l) ∧ Bk u gv (secs (wantS W r.ps))) v wr) (fun v _ => 12 - (intOf v).toNat)
                            case atStart => exact H6.out
                            case round =>
                              obtain ⟨kb, hkb, rfl, hd3, hky3, hkv3⟩ := hrel
                              have Du := Lib.hid hd3
                              have Eu := Lib.hid hd3.bel
                              have Qyu := Lib.hid hky3
                              have Qvu := Lib.hid hkv3
                              clear hd3 hky3 hkv3 H6
                              by_cases hk12 : kb < 12
                              case pos =>
                                have hkbi : (kb : Int) < 12 := by omega
                                have hkb0 : (0 : Int) ≤ (kb : Int) := by omega
                                have HK12 := Lib.hid hk12
                                have HKI : Hid ((kb : Int) < 12) := by show _ < _; omega
                                have HK0 : Hid ((0 : Int) ≤ (kb : Int)) := by show _ ≤ _; omega
                                have HB32 : Hid ((((wantS W r.ps)).getD kb []).length = 32) := HU32.out kb hk12
                                have HRB : Hid ((UpD T).readB (7 + (kb : Int)) = ((wantS W r.ps)).getD kb []) := by
                                  have h := (up_block (S := T) HTL.out (b := kb) hk12).1
                                  rw [← HWS.out kb hk12] at h
                                  exact h
                                have HRE : Hid ((UpD T).readE (7 + (kb : Int)) = 0) := (up_block (S := T) HTL.out (b := kb) hk12).2
                                go_wp2_with fail
                                refine (ndBlock_calls wr gd gsd lvdw122 hy (UpD T) l (kb : Int) Du.out.at_ Qyu.out HK0.out HKI.out).mono ?_
                                rintro en w241 ⟨rfl, hb⟩
                                have Ew241 : Hid (Below w.heap.size w w241) := Eu.out.trans (hb.mono Eu.out.size)
                                have Kyw241 : Hid (Bk w241 hy (NdC gd l)) := Qyu.out.below hb
                                have Kvw241 : Hid (Bk w241 gv (secs (wantS W r.ps))) := Qvu.out.below hb
                                have Ddw241 : Hid (DSes 92 w w241 gd gsd lvdw122 (UpD T)) := Du.out.below hb
                                clear Eu Qyu Qvu Du
                                clear hb
                                rw [HRB.out, HRE.out]
                                obtain ⟨vb, hvb⟩ : ∃ vb, bts (((wantS W r.ps)).getD kb []) = vb := ⟨_, rfl⟩
                                have HVB := Lib.hid hvb
                                have HVL : Hid (vb.length = 32) := by show _ = _; rw [← hvb, bts_length]; exact HB32.out
                                have HVO : Hid (∀ u ∈ vb, u.oneCell' = true) := by rw [← hvb]; exact one_bts _
                                rw [hvb]
                                clear hvb
                                go_wp2_with (refine wpList_al rfl 35 rfl (bts (List.replicate 32 0)) (by kernel_rfl) ?_)
                                intro gb w242 hg hb hc hs
                                have HQb : Hid (Below w241.heap.size w241 w242) := hc.below (Nat.le_refl _) (fun _ _ => id)
                                have HGb : Hid (gb = w241.heap.size) := hg
                                have KZb := Lib.hid hb
                                clear hg hb hc hs
                                go_wp2_with (refine wpList_st rfl 35 (.tmp 27) (.tmp 242) rfl gb 0 32 (bts (List.replicate 32 0)) vb rfl rfl KZb.out (by kernel_rfl) HVL.out (by decide) HVO.out ?_)
                                intro w243 hbk hc
                                rw [splice_whole _ _ (by rw [HVL.out]; rfl)] at hbk
                                have hb : Below w241.heap.size w241 w243 := HQb.out.trans (hc.below HQb.out.size (fun q hq he => by have := HGb.out; omega))
                                have Ayb : Hid (hy < gb) := by show _ < _; have := Kyw241.out.lt; have := HGb.out; omega
                                have Avb : Hid (gv < gb) := by show _ < _; have := Kvw241.out.lt; have := HGb.out; omega
                                have Ew243 : Hid (Below w.heap.size w w243) := Ew241.out.trans (hb.mono Ew241.out.size)
                                have Kyw243 : Hid (Bk w243 hy (NdC gd l)) := Kyw241.out.below hb
                                have Kvw243 : Hid (Bk w243 gv (secs (wantS W r.ps))) := Kvw241.out.below hb
                                have Ddw243 : Hid (DSes 92 w w243 gd gsd lvdw122 (UpD T)) := Ddw241.out.below hb
                                clear Ew241 Kyw241 Kvw241 Ddw241
                                have Kbw243 : Hid (Bk w243 gb vb) := hbk
                                have Kbw243 : Hid (Bk w243 gb vb) := hbk
                                clear hbk hb hc KZb HQb HGb
                                go_wp2_with fail
                                apply wp_region_rel 9 (Chg NoS) [(Veq _), (Veq _), (Veq _), (Veq _), (Veq _), (Veq _), (Veq _), (Veq (.bool false)), (Veq _)] [[], [0], [1], [2], [2], [2, 4], [2, 5], [2, 3, 6], [2, 7]] [244, 245, 246, 247, 248, 249, 250, 251, 252] (by kernel_rfl) (by kernel_rfl) rfl rfl rfl Chg.refl (fun _ _ _ => Chg.trans) ⟨Veq.lasts, Veq.lasts, Veq.lasts, Veq.lasts, Veq.lasts, Veq.lasts, Veq.lasts, Veq.lasts, Veq.lasts, trivial⟩ ?kops ?kfin
                                case kops =>
                                  refine ⟨?ko0, ?ko1, ?ko2, ?ko3, ?ko4, ?ko5, ?ko6, ?ko7, ?ko8, trivial⟩
                                  case ko0 =>
                                    intro a wx hE hin
                                    have i28 : a.eval (.tmp 28) = .int .i64 0 := hin 28 rfl
                                    clear hin
                                    have hcst : ∀ v, a.eval (.const v) = v := fun _ => rfl
                                    have hfnc : ∀ f, a.eval (.func f) = .func (.func f) #[] #[] := fun _ => rfl
                                    refine want_none rfl ?_
                                    unfold Oper.wp
                                    generalize a.eval = ρ at *
                                    go_simp
                                    try go_bits
                                    first | exact rel_val (Chg.refl _) | (go_simp; exact rel_val (Chg.refl _))
                                  case ko1 =>
                                    rintro a wx hE hin (h0 : a.eval (.tmp 244) = _)
                                    clear hin
                                    have hcst : ∀ v, a.eval (.const v) = v := fun _ => rfl
                                    have hfnc : ∀ f, a.eval (.func f) = .func (.func f) #[] #[] := fun _ => rfl
                                    refine want_none rfl ?_
                                    unfold Oper.wp
                                    generalize a.eval = ρ at *
                                    go_simp
                                    try go_bits
                                    first | exact rel_val (Chg.refl _) | (go_simp; exact rel_val (Chg.refl _))
                                  case ko2 =>
                                    rintro a wx hE hin (h1 : a.eval (.tmp 245) = _)
                                    clear hin
                                    have hcst : ∀ v, a.eval (.const v) = v := fun _ => rfl
                                    have hfnc : ∀ f, a.eval (.func f) = .func (.func f) #[] #[] := fun _ => rfl
                                    refine want_none rfl ?_
                                    unfold Oper.wp
                                    generalize a.eval = ρ at *
                                    go_simp
                                    try go_bits
                                    first | exact rel_val (Chg.refl _) | (go_simp; exact rel_val (Chg.refl _))
                                  case ko3 =>
                                    rintro a wx hE hin (h2 : a.eval (.tmp 246) = _)
                                    have i27 : a.eval (.tmp 27) = .pointer (some ⟨gb, 0, none⟩) := hin 27 rfl
                                    clear hin
                                    have hcst : ∀ v, a.eval (.const v) = v := fun _ => rfl
                                    have hfnc : ∀ f, a.eval (.func f) = .func (.func f) #[] #[] := fun _ => rfl
                                    refine want_yes rfl rfl h2 ?_
                                    exact wp_ld 35 _ rfl gb 0 32 vb (bts (((wantS W r.ps)).getD kb [])) i27 (Kbw243.out.drew.chg hE id) (by kernel_rfl) (by kernel_rfl) (by rw [HVL.out]; decide) (by rw [List.drop_zero, List.take_of_length_le (by rw [HVL.out]; exact Nat.le_refl _), HVB.out]) (rel_val (Chg.refl _))
                                  case ko4 =>
                                    rintro a wx hE hin (h2 : a.eval (.tmp 246) = _)
                                    have i26 : a.eval (.tmp 26) = .int .i64 kb := hin 26 rfl
                                    clear hin
                                    have hcst : ∀ v, a.eval (.const v) = v := fun _ => rfl
                                    have hfnc : ∀ f, a.eval (.func f) = .func (.func f) #[] #[] := fun _ => rfl
                                    refine want_yes rfl rfl h2 ?_
                                    unfold Oper.wp
                                    generalize a.eval = ρ at *
                                    go_simp
                                    try go_bits
                                    first | exact rel_val (Chg.refl _) | (go_simp; exact rel_val (Chg.refl _))
                                  case ko5 =>
                                    rintro a wx hE hin (h2 : a.eval (.tmp 246) = _) (h4 : a.eval (.tmp 248) = _)
                                    have i25 : a.eval (.tmp 25) = .pointer (some ⟨gv, 0, none⟩) := hin 25 rfl
                                    clear hin
                                    have hcst : ∀ v, a.eval (.const v) = v := fun _ => rfl
                                    have hfnc : ∀ f, a.eval (.func f) = .func (.func f) #[] #[] := fun _ => rfl
                                    refine want_yes rfl rfl h2 ?_
                                    unfold Oper.wp
                                    generalize a.eval = ρ at *
                                    go_simp
                                    try go_bits
                                    first | exact rel_val (Chg.refl _) | (go_simp; exact rel_val (Chg.refl _))
                                  case ko6 =>
                                    rintro a wx hE hin (h2 : a.eval (.tmp 246) = _) (h5 : a.eval (.tmp 249) = _)
                                    clear hin
                                    have hcst : ∀ v, a.eval (.const v) = v := fun _ => rfl
                                    have hfnc : ∀ f, a.eval (.func f) = .func (.func f) #[] #[] := fun _ => rfl
                                    refine want_yes rfl rfl h2 ?_
                                    exact wp_ld 35 _ rfl gv (kb * 32) 32 (secs (wantS W r.ps)) (bts (((wantS W r.ps)).getD kb [])) h5 (Kvw243.out.drew.chg hE id) (by kernel_rfl) (by kernel_rfl) (by rw [secs_len12 HU12.out HU32.out]; have := HK12.out; omega) (secs_at HU12.out HU32.out HK12.out) (rel_val (Chg.refl _))
                                  case ko7 =>
                                    rintro a wx hE hin (h2 : a.eval (.tmp 246) = _) (h3 : a.eval (.tmp 247) = _) (h6 : a.eval (.tmp 250) = _)
                                    clear hin
                                    have hcst : ∀ v, a.eval (.const v) = v := fun _ => rfl
                                    have hfnc : ∀ f, a.eval (.func f) = .func (.func f) #[] #[] := fun _ => rfl
                                    refine want_yes rfl rfl h2 ?_
                                    exact wp_eq_bytes true 35 _ _ _ rfl 5 32 Try.underlying35 Try.underlying5 (by kernel_rfl) (by kernel_rfl) (((wantS W r.ps)).getD kb []) (((wantS W r.ps)).getD kb []) h3 h6 HB32.out HB32.out (by rw [decide_eq_true rfl]; exact rel_val (Chg.refl _))
                                  case ko8 =>
                                    rintro a wx hE hin (h2 : a.eval (.tmp 246) = _) (h7 : a.eval (.tmp 251) = _)
                                    clear hin
                                    have hcst : ∀ v, a.eval (.const v) = v := fun _ => rfl
                                    have hfnc : ∀ f, a.eval (.func f) = .func (.func f) #[] #[] := fun _ => rfl
                                    refine want_none rfl ?_
                                    unfold Oper.wp
                                    generalize a.eval = ρ at *
                                    go_simp
                                    try go_bits
                                    first | exact rel_val (Chg.refl _) | (go_simp; exact rel_val (Chg.refl _))
                                case kfin =>
                                  intro wx hE
                                  rintro _ rfl _ rfl _ rfl _ rfl _ rfl _ rfl _ rfl _ rfl _ rfl
                                  simp only [FinOk, List.take_succ_cons, List.take_zero, List.take_nil, List.drop_succ_cons, List.drop_zero, List.drop_nil, Act.put, List.setIfInBounds_toArray, List.set_cons_succ, List.set_cons_zero]
                                  have DX : Hid (DSes 92 w wx gd gsd lvdw122 (UpD T)) := Ddw243.out.chgN hE.undrew
                                  have Xy : Hid (Bk wx hy (NdC gd l)) := Kyw243.out.drew.chg hE id
                                  have Xv : Hid (Bk wx gv (secs (wantS W r.ps))) := Kvw243.out.drew.chg hE id
                                  clear hE
                                  go_wp2_with fail
                                  go_roundw
                                  case rel => exact ⟨kb + 1, by omega, by go_num, DX.out, ⟨Xy.out, Xv.out⟩⟩
                                  case measure => simp [intOf]; omega
                              case neg =>
                                have hke12 : kb = 12 := by omega
                                subst hke12
                                have hki12 : ¬ (((12 : Nat) : Int) < 12) := by omega
                                go_wp2_with fail
                                go_roundw
                                case rel => exact ⟨2, by decide, by go_num, Eu.out, fun h => absurd h (by decide)⟩
                                case measure => simp [intOf]
              have hji : (j : Int) < (r.n : Int) := by have := HOK.out.len; omega
              have hj0 : (0 : Int) ≤ (j : Int) := by omega
              have hj64 : (j : Int) + 1 < 9223372036854775807 := by have := HOK.out.len; have := (goodB_at HGD.out).2.1; omega
              have HPAT := Lib.hid (rc_put_at HOK.out hjl)
              have HDL := Lib.hid (HOK.out.ok _ (List.getElem_mem hjl)).1
              have HPS := Lib.hid (goodB_ats' HGD.out _ (List.getElem_mem hjl))
              have HTK : Hid (wantS W (r.ps.take (j + 1)) = (wantS W (r.ps.take j)).set r.ps[j].at_.toNat r.ps[j].data) := wantS_take W r.ps j hjl
              obtain ⟨pd, hpd⟩ : ∃ pd, r.ps[j] = pd := ⟨_, rfl⟩
              rw [hpd] at HPAT HDL HPS HTK
              clear hpd
              obtain ⟨bz, hbz⟩ : ∃ bz : Nat, pd.at_ = (bz : Int) := ⟨pd.at_.toNat, by have := HPS.out; omega⟩
              have hbz12 : bz < 12 := by have := HPS.out; omega
              have hbzi : (bz : Int) < 12 := by omega
              have hbz0 : (0 : Int) ≤ (bz : Int) := by omega
              have HBZ := Lib.hid hbz
              have HBZL := Lib.hid hbz12
              obtain ⟨ad2, hA2⟩ := puts_some HOK.out.rd hjl
              have HAD2 := Lib.hid hA2
              rw [hA2] at cp2
              clear hbz hA2 hbz12
              obtain ⟨W1, hW1⟩ : ∃ W1, wantS W (r.ps.take j) = W1 := ⟨_, rfl⟩
              rw [hW1] at KMt HTK
              have HW1 : Hid (W1.length = 12) := by show _ = _; rw [← hW1, wantS_len]; exact HW12.out
              have HW132 : Hid (∀ b, b < 12 → (W1.getD b []).length = 32) := by rw [← hW1]; exact wantS_32 W _ HW12.out HW32.out (fun p hp => (HOK.out.ok p (List.mem_of_mem_take hp)).1)
              clear hW1
              go_wp2_with fail
              clear cp2
              apply wp_region_rel 12 (Chg NoS) [(Veq _), (Veq _), (Veq _), (Veq _), (Veq _), (Veq _), (Veq _), (Veq _), (Veq _), (Veq _), (Veq _), (Veq _)] [[], [0], [], [1, 2], [3], [4], [], [6], [], [7, 8], [9], [10]] [121, 122, 123, 124, 125, 126, 127, 128, 129, 130, 131, 132] (by kernel_rfl) (by kernel_rfl) rfl rfl rfl Chg.refl (fun _ _ _ => Chg.trans) ⟨Veq.lasts, Veq.lasts, Veq.lasts, Veq.lasts, Veq.lasts, Veq.lasts, Veq.lasts, Veq.lasts, Veq.lasts, Veq.lasts, Veq.lasts, Veq.lasts, trivial⟩ ?aops ?afin
              case aops =>
                refine ⟨?ao0, ?ao1, ?ao2, ?ao3, ?ao4, ?ao5, ?ao6, ?ao7, ?ao8, ?ao9, ?ao10, ?ao11, trivial⟩
                case ao0 =>
                  intro a wx hE hin
                  have i15 : a.eval (.tmp 15) = .pointer (some ⟨gr, 0, none⟩) := hin 15 rfl
                  clear hin
                  have hcst : ∀ v, a.eval (.const v) = v := fun _ => rfl
                  have hfnc : ∀ f, a.eval (.func f) = .func (.func f) #[] #[] := fun _ => rfl
                  refine want_none rfl ?_
                  unfold Oper.wp
                  generalize a.eval = ρ at *
                  go_simp
                  try go_bits
                  first | exact rel_val (Chg.refl _) | (go_simp; exact rel_val (Chg.refl _))
                case ao1 =>
                  rintro a wx hE hin (h0 : a.eval (.tmp 121) = _)
                  clear hin
                  have hcst : ∀ v, a.eval (.const v) = v := fun _ => rfl
                  have hfnc : ∀ f, a.eval (.func f) = .func (.func f) #[] #[] := fun _ => rfl
                  refine want_none rfl ?_
                  unfold Oper.wp
                  generalize a.eval = ρ at *
                  have c : wx.cell? ⟨gr, 2, none⟩ = some (.slice (some ad2) r.n r.c) := by have h : wx.cell? ⟨gr, 2, none⟩ = some (.slice r.A r.n r.c) := (KRt.out.drew.chg hE id).cell rfl; rwa [HAD2.out] at h
                  go_simp
                  try go_bits
                  first | exact rel_val (Chg.refl _) | (go_simp; exact rel_val (Chg.refl _))
                case ao2 =>
                  intro a wx hE hin
                  have i17 : a.eval (.tmp 17) = .int .i64 j := hin 17 rfl
                  clear hin
                  have hcst : ∀ v, a.eval (.const v) = v := fun _ => rfl
                  have hfnc : ∀ f, a.eval (.func f) = .func (.func f) #[] #[] := fun _ => rfl
                  refine want_none rfl ?_
                  unfold Oper.wp
                  generalize a.eval = ρ at *
                  go_simp
                  try go_bits
                  first | exact rel_val (Chg.refl _) | (go_simp; exact rel_val (Chg.refl _))
                case ao3 =>
                  rintro a wx hE hin (h1 : a.eval (.tmp 122) = _) (h2 : a.eval (.tmp 123) = _)
                  clear hin
                  have hcst : ∀ v, a.eval (.const v) = v := fun _ => rfl
                  have hfnc : ∀ f, a.eval (.func f) = .func (.func f) #[] #[] := fun _ => rfl
                  refine want_none rfl ?_
                  unfold Oper.wp
                  generalize a.eval = ρ at *
                  go_simp
                  try go_bits
                  first | exact rel_val (Chg.refl _) | (go_simp; exact rel_val (Chg.refl _))
                case ao4 =>
                  rintro a wx hE hin (h3 : a.eval (.tmp 124) = _)
                  clear hin
                  have hcst : ∀ v, a.eval (.const v) = v := fun _ => rfl
                  have hfnc : ∀ f, a.eval (.func f) = .func (.func f) #[] #[] := fun _ => rfl
                  refine want_none rfl ?_
                  unfold Oper.wp
                  generalize a.eval = ρ at *
                  go_simp
                  try go_bits
                  first | exact rel_val (Chg.refl _) | (go_simp; exact rel_val (Chg.refl _))
                case ao5 =>
                  rintro a wx hE hin (h4 : a.eval (.tmp 125) = _)
                  clear hin
                  have hcst : ∀ v, a.eval (.const v) = v := fun _ => rfl
                  have hfnc : ∀ f, a.eval (.func f) = .func (.func f) #[] #[] := fun _ => rfl
                  refine want_none rfl ?_
                  unfold Oper.wp
                  generalize a.eval = ρ at *
                  have c := HPAT.out.1 wx (Et.out.trans (hE.undrew.below Et.out.size (fun _ _ => id))) ad2 HAD2.out
                  rw [HBZ.out] at c
                  go_simp
                  try go_bits
                  first | exact rel_val (Chg.refl _) | (go_simp; exact rel_val (Chg.refl _))
                case ao6 =>
                  intro a wx hE hin
                  have i15 : a.eval (.tmp 15) = .pointer (some ⟨gr, 0, none⟩) := hin 15 rfl
                  clear hin
                  have hcst : ∀ v, a.eval (.const v) = v := fun _ => rfl
                  have hfnc : ∀ f, a.eval (.func f) = .func (.func f) #[] #[] := fun _ => rfl
                  refine want_none rfl ?_
                  unfold Oper.wp
                  generalize a.eval = ρ at *
                  go_simp
                  try go_bits
                  first | exact rel_val (Chg.refl _) | (go_simp; exact rel_val (Chg.refl _))
                case ao7 =>
                  rintro a wx hE hin (h6 : a.eval (.tmp 127) = _)
                  clear hin
                  have hcst : ∀ v, a.eval (.const v) = v := fun _ => rfl
                  have hfnc : ∀ f, a.eval (.func f) = .func (.func f) #[] #[] := fun _ => rfl
                  refine want_none rfl ?_
                  unfold Oper.wp
                  generalize a.eval = ρ at *
                  have c : wx.cell? ⟨gr, 2, none⟩ = some (.slice (some ad2) r.n r.c) := by have h : wx.cell? ⟨gr, 2, none⟩ = some (.slice r.A r.n r.c) := (KRt.out.drew.chg hE id).cell rfl; rwa [HAD2.out] at h
                  go_simp
                  try go_bits
                  first | exact rel_val (Chg.refl _) | (go_simp; exact rel_val (Chg.refl _))
                case ao8 =>
                  intro a wx hE hin
                  have i17 : a.eval (.tmp 17) = .int .i64 j := hin 17 rfl
                  clear hin
                  have hcst : ∀ v, a.eval (.const v) = v := fun _ => rfl
                  have hfnc : ∀ f, a.eval (.func f) = .func (.func f) #[] #[] := fun _ => rfl
                  refine want_none rfl ?_
                  unfold Oper.wp
                  generalize a.eval = ρ at *
                  go_simp
                  try go_bits
                  first | exact rel_val (Chg.refl _) | (go_simp; exact rel_val (Chg.refl _))
                case ao9 =>
                  rintro a wx hE hin (h7 : a.eval (.tmp 128) = _) (h8 : a.eval (.tmp 129) = _)
                  clear hin
                  have hcst : ∀ v, a.eval (.const v) = v := fun _ => rfl
                  have hfnc : ∀ f, a.eval (.func f) = .func (.func f) #[] #[] := fun _ => rfl
                  refine want_none rfl ?_
                  unfold Oper.wp
                  generalize a.eval = ρ at *
                  go_simp
                  try go_bits
                  first | exact rel_val (Chg.refl _) | (go_simp; exact rel_val (Chg.refl _))
                case ao10 =>
                  rintro a wx hE hin (h9 : a.eval (.tmp 130) = _)
                  clear hin
                  have hcst : ∀ v, a.eval (.const v) = v := fun _ => rfl
                  have hfnc : ∀ f, a.eval (.func f) = .func (.func f) #[] #[] := fun _ => rfl
                  refine want_none rfl ?_
                  unfold Oper.wp
                  generalize a.eval = ρ at *
                  go_simp
                  try go_bits
                  first | exact rel_val (Chg.refl _) | (go_simp; exact rel_val (Chg.refl _))
                case ao11 =>
                  rintro a wx hE hin (h10 : a.eval (.tmp 131) = _)
                  clear hin
                  have hcst : ∀ v, a.eval (.const v) = v := fun _ => rfl
                  have hfnc : ∀ f, a.eval (.func f) = .func (.func f) #[] #[] := fun _ => rfl
                  refine want_none rfl ?_
                  exact wp_ldr2 35 _ rfl _ 32 (bts pd.data) h10 (by have h := (HPAT.out.2 wx (Et.out.trans (hE.undrew.below Et.out.size (fun _ _ => id))) ad2 HAD2.out).drop 1; exact h) (by kernel_rfl) (by kernel_rfl) (by rw [bts_length]; exact HDL.out) (rel_val (Chg.refl _))
              case afin =>
                intro wx hE
                rintro _ rfl _ rfl _ rfl _ rfl _ rfl _ rfl _ rfl _ rfl _ rfl _ rfl _ rfl _ rfl
                simp only [FinOk, List.take_succ_cons, List.take_zero, List.take_nil, List.drop_succ_cons, List.drop_zero, List.drop_nil, Act.put, List.setIfInBounds_toArray, List.set_cons_succ, List.set_cons_zero]
                have DX : Hid (DSes 92 w wx gd gsd lvdw46 TD) := DBt.out.chgN hE.undrew
                have NX : Hid (Bk wx hn (NdC gd (labAfter L (carryL L 2 kq r.ps dd) 20))) := KNt.out.drew.chg hE id
                have KX : Hid (Bk wx gk (secs W)) := KKt.out.drew.chg hE id
                have OX : Hid (Bk wx go (labC L)) := KOt.out.drew.chg hE id
                have TX : Hid (Bk wx w.heap.size bn) := KTt.out.drew.chg hE id
                have RX : Hid (Bk wx gr [vu32 2, vu32 kq, .slice r.A r.n r.c]) := KRt.out.drew.chg hE id
                have MX : Hid (Bk wx gm (secs W1)) := KMt.out.drew.chg hE id
                have HTS : Hid (splice (secs W1) (bz * 32) (bts pd.data) = secs (W1.set bz pd.data)) := secs_set HW1.out HW132.out HDL.out HBZL.out
                clear hE DBt KMt KNt KKt KOt KTt KRt
                go_wp2_with (refine wpList_st rfl 35 (.tmp 133) (.tmp 132) rfl gm (bz * 32) 32 (secs W1) (bts pd.data) rfl rfl MX.out (by kernel_rfl) (by rw [bts_length]; exact HDL.out) (by rw [secs_len12 HW1.out HW132.out]; have := HBZL.out; omega) (one_bts _) ?_)
                intro w4 hbk hc
                rw [HTS.out] at hbk
                have MY := Lib.hid hbk
                have DY : Hid (DSes 92 w w4 gd gsd lvdw46 TD) := ⟨DiskAt.chg DX.out.at_ hc (fun q hq hk => Fdm.out (by rw [← (show q = gm from hk)]; exact hq)), DX.out.fr, DX.out.bel.trans (hc.below DX.out.bel.size (fun q hq he => by have := GEm.out; omega))⟩
                have NY : Hid (Bk w4 hn (NdC gd (labAfter L (carryL L 2 kq r.ps dd) 20))) := NX.out.chg hc (fun h => by have := Anm.out; omega)
                have KY : Hid (Bk w4 gk (secs W)) := KX.out.chg hc (fun h => by have := Akm.out; omega)
                have OY : Hid (Bk w4 go (labC L)) := OX.out.chg hc (fun h => by have := Aom.out; omega)
                have TY : Hid (Bk w4 w.heap.size bn) := TX.out.chg hc (fun h => by have := Atm.out; omega)
                have RY : Hid (Bk w4 gr [vu32 2, vu32 kq, .slice r.A r.n r.c]) := RX.out.chg hc (fun h => by have := Amr.out; omega)
                clear hbk hc DX MX NX KX OX TX RX
                go_wp2_with fail
                go_roundw
                case rel => exact ⟨j + 1, by omega, by go_num, DY.out, NY.out, KY.out, OY.out, by rw [HTK.out, show pd.at_.toNat = bz by have := HBZ.out; omega]; exact MY.out, TY.out, RY.out⟩
                case measure => simp [intOf]; omega
end Go.Proofs.Ytcmfkdfegfablaa
