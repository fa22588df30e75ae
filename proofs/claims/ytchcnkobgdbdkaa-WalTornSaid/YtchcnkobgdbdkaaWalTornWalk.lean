import Derived.Test.YtchcnkobgdbdkaaLf
import Derived.Test.YtchcnkobgdbdkaaLd

/- The walk of WalTorn. -/
namespace Go.Proofs.Ytchcnkobgdbdkaa
open Go.RowKit
set_option linter.unusedVariables false
set_option linter.unusedSimpArgs false

theorem torn_all {we wq ne nq : UInt32} {wps nps : List PutV} {f : Nat} (hw : goodB wps = true) (hn : goodB nps = true) :
    ∃ D er, (Dst.mk (putS (Dst.new 7).S 1 we wq wps) [] (f : Int) false).walPut 1 ne nq nps = (D, er) ∧ (er = 0 ∨ er = 20) ∧ (er = 0 ↔ nps.length + 3 ≤ f) ∧ ∀ ks, ∃ r, (D.up ks).walGet 1 = (r, 0) ∧ (r = ⟨ne, nq, nps⟩ ∨ (er = 20 ∧ r.e = we ∧ r.q = wq ∧ r.ps.map (·.at_) = wps.map (·.at_))) := by
  obtain ⟨_, D, er, _, h1, h2, h3, _, _⟩ := wal_torn (S := (Dst.new 7).S) (fr := 1) (we := we) (wq := wq) (ne := ne) (nq := nq) (f := f) (ks := []) (by decide) hw hn
  refine ⟨D, er, h1, h2, h3, fun ks => ?_⟩
  obtain ⟨_, D', er', r, h1', _, _, h4, h5⟩ := wal_torn (S := (Dst.new 7).S) (fr := 1) (we := we) (wq := wq) (ne := ne) (nq := nq) (f := f) (ks := ks) (by decide) hw hn
  rw [h1] at h1'
  injection h1' with e1 e2
  subst e1 e2
  exact ⟨r, h4, h5⟩
theorem walGet_ok {s : Dst} {fr : Int} (h : ∀ i, (s.readB i).length = 32) : PutsOk (s.walGet fr).1.ps := by
  unfold Dst.walGet
  have h0 : PutsOk Rec.no.ps := fun p hp => by cases hp
  split
  · split
    · split
      · exact putsK_ok (fun i => h _)
      · exact h0
    · exact h0
  · exact h0
/-- The row of what is kept. -/
def KeepRel (ww : World) (v11 v12 : Value) (wr : World) : Prop := ∃ (k : Nat) (ks : List UInt8), k ≤ 8 ∧ ks.length = k ∧ v12 = .int .i64 k ∧ wr.ownsRow ww.heap.size 5 1 v11 k (bts ks) ∧ Below ww.heap.size ww wr
def TornRel (n : Nat) (ww : World) (v : Value) (wr : World) : Prop := ∃ k : Nat, k ≤ n ∧ v = .int .i64 k ∧ Below ww.heap.size ww wr
theorem and1_fin : ∀ n : Fin 256, Go.bits .and .u8 (n.val : Int) 1 = ((n.val % 2 : Nat) : Int) := by decide +kernel
theorem bit_u8 (y k : Nat) (hy : y < 256) : ∃ b : UInt8, (Value.int .u8 (Go.bits .and .u8 ((y : Int) / 2 ^ k) 1)) = vu8 b := by
  have h1 : y / 2 ^ k < 256 := Nat.lt_of_le_of_lt (Nat.div_le_self _ _) hy
  have h2 : ((y : Int) / 2 ^ k) = ((y / 2 ^ k : Nat) : Int) := by push_cast; rfl
  refine ⟨UInt8.ofNat (y / 2 ^ k % 2), ?_⟩
  rw [byte_at (y / 2 ^ k % 2) (by omega), h2]
  exact congrArg _ (and1_fin ⟨y / 2 ^ k, h1⟩)
set_option maxRecDepth 100000 in
set_option maxHeartbeats 32000000 in
theorem walTorn_calls (w : World) (r t : RecV) (ns : List UInt8) (hok : RecOk w r) (hot : RecOk w t) (hns : ns.length = 2) :
    Calls Try.prog 6 #[.agg (recC r).toArray, .agg (recC t).toArray, .agg (bts ns).toArray] w fun e w' => e = .returned (.bool true) ∧ Below w.heap.size w w' := by
  have HOK := Lib.hid hok
  have HOT := Lib.hid hot
  clear hok hot
  obtain ⟨bx, hbx⟩ : ∃ bx, recC r = bx := ⟨_, rfl⟩
  have HBX := Lib.hid hbx
  have DR0 : Hid (bx[0]? = some (vu32 r.e)) := by rw [← hbx]; exact (rfl : _ = _)
  have DR1 : Hid (bx[1]? = some (vu32 r.q)) := by rw [← hbx]; exact (rfl : _ = _)
  have DR2 : Hid (bx[2]? = some (.slice r.A r.n r.c)) := by rw [← hbx]; exact (rfl : _ = _)
  have HBL : Hid (bx.length = 3) := by rw [← hbx]; exact (rfl : _ = _)
  obtain ⟨by_, hby⟩ : ∃ by_, recC t = by_ := ⟨_, rfl⟩
  have HBY := Lib.hid hby
  have DT0 : Hid (by_[0]? = some (vu32 t.e)) := by rw [← hby]; exact (rfl : _ = _)
  have DT1 : Hid (by_[1]? = some (vu32 t.q)) := by rw [← hby]; exact (rfl : _ = _)
  have DT2 : Hid (by_[2]? = some (.slice t.A t.n t.c)) := by rw [← hby]; exact (rfl : _ = _)
  have HBM : Hid (by_.length = 3) := by rw [← hby]; exact (rfl : _ = _)
  obtain ⟨bn, hbn⟩ : ∃ bn, bts ns = bn := ⟨_, rfl⟩
  obtain ⟨xn, hxn⟩ : ∃ xn, (ns.getD 0 0).toNat = xn := ⟨_, rfl⟩
  obtain ⟨yn, hyn⟩ : ∃ yn, (ns.getD 1 0).toNat = yn := ⟨_, rfl⟩
  have hx256 : xn < 256 := by rw [← hxn]; exact (ns.getD 0 0).toNat_lt
  have hy256 : yn < 256 := by rw [← hyn]; exact (ns.getD 1 0).toNat_lt
  have DN0 : Hid (bn[0]? = some (.int .u8 (xn : Int))) := by show _ = _; rw [← hbn, ← hxn]; exact bts_get (by omega)
  have DN1 : Hid (bn[1]? = some (.int .u8 (yn : Int))) := by show _ = _; rw [← hbn, ← hyn]; exact bts_get (by omega)
  obtain ⟨at_, hat⟩ : ∃ at_ : Nat, xn % 10 = at_ := ⟨_, rfl⟩
  have hat10 : at_ < 10 := by omega
  have hat0 : (xn : Int) % 10 = (at_ : Int) := by omega
  rw [hbx, hby, hbn]
  clear hbx hby hbn hxn hyn hat
  go_enter Try.func6, Try.ntmps6
  have d2 := (((Bk.new w bx 25).alloc (.cells by_.toArray 25)).alloc (.cells bn.toArray 71)).cell DR2.out
  go_wp2_with fail
  refine calls_at fun w1 hw1 => ?_
  have Ew1 : Hid (Below w.heap.size w w1) := by rw [← hw1]; exact (((Below.refl _ _).alloc (Nat.le_refl _) _).alloc (by simp) _).alloc (by simp; omega) _
  have Kpw1 : Hid (Bk w1 w.heap.size bx) := by rw [← hw1]; exact ((Bk.new w bx _).alloc _).alloc _
  have Kqw1 : Hid (Bk w1 (w.heap.size + 1) by_) := by rw [← hw1]; exact (Bk.new_at (by simp) rfl).alloc _
  have Knw1 : Hid (Bk w1 (w.heap.size + 2) bn) := by rw [← hw1]; exact Bk.new_at (by simp) rfl
  clear hw1 d2
  refine (refGood_calls r.ps r.A r.n r.c w1 HOK.out.len (by have h2 := HOK.out.cap; have h3 := HOK.out.max; omega) (HOK.out.rd.below Ew1.out) HOK.out.ok).mono ?_
  rintro en w2 ⟨rfl, hb⟩
  have Ew2 : Hid (Below w.heap.size w w2) := Ew1.out.trans (hb.mono Ew1.out.size)
  have Kpw2 : Hid (Bk w2 w.heap.size bx) := Kpw1.out.below hb
  have Kqw2 : Hid (Bk w2 (w.heap.size + 1) by_) := Kqw1.out.below hb
  have Knw2 : Hid (Bk w2 (w.heap.size + 2) bn) := Knw1.out.below hb
  clear Ew1 Kpw1 Kqw1 Knw1
  clear hb
  by_cases hg1 : goodB r.ps = true
  case neg =>
    rw [Bool.eq_false_iff.2 hg1]
    go_wp2_with fail
    refine (wakes8_calls w2).mono ?_
    rintro en w3 ⟨rfl, hb⟩
    have Ew3 : Hid (Below w.heap.size w w3) := Ew2.out.trans (hb.mono Ew2.out.size)
    have Kpw3 : Hid (Bk w3 w.heap.size bx) := Kpw2.out.below hb
    have Kqw3 : Hid (Bk w3 (w.heap.size + 1) by_) := Kqw2.out.below hb
    have Knw3 : Hid (Bk w3 (w.heap.size + 2) bn) := Knw2.out.below hb
    clear Ew2 Kpw2 Kqw2 Knw2
    clear hb
    go_wp2_with fail
    (try simp only [Exit.inBlock, Exit.then])
    go_ret
    exact ⟨rfl, Ew3.out⟩
  rw [hg1]
  have c2 := Kqw2.out.cell DT2.out
  go_wp2_with fail
  refine (refGood_calls t.ps t.A t.n t.c w2 HOT.out.len (by have h2 := HOT.out.cap; have h3 := HOT.out.max; omega) (HOT.out.rd.below Ew2.out) HOT.out.ok).mono ?_
  rintro en w3 ⟨rfl, hb⟩
  have Ew3 : Hid (Below w.heap.size w w3) := Ew2.out.trans (hb.mono Ew2.out.size)
  have Kpw3 : Hid (Bk w3 w.heap.size bx) := Kpw2.out.below hb
  have Kqw3 : Hid (Bk w3 (w.heap.size + 1) by_) := Kqw2.out.below hb
  have Knw3 : Hid (Bk w3 (w.heap.size + 2) bn) := Knw2.out.below hb
  clear Ew2 Kpw2 Kqw2 Knw2
  clear hb
  by_cases hg2 : goodB t.ps = true
  case neg =>
    rw [Bool.eq_false_iff.2 hg2]
    go_wp2_with fail
    refine (wakes8_calls w3).mono ?_
    rintro en w4 ⟨rfl, hb⟩
    have Ew4 : Hid (Below w.heap.size w w4) := Ew3.out.trans (hb.mono Ew3.out.size)
    have Kpw4 : Hid (Bk w4 w.heap.size bx) := Kpw3.out.below hb
    have Kqw4 : Hid (Bk w4 (w.heap.size + 1) by_) := Kqw3.out.below hb
    have Knw4 : Hid (Bk w4 (w.heap.size + 2) bn) := Knw3.out.below hb
    clear Ew3 Kpw3 Kqw3 Knw3
    clear hb
    go_wp2_with fail
    (try simp only [Exit.inBlock, Exit.then])
    go_ret
    exact ⟨rfl, Ew4.out⟩
  rw [hg2]
  clear c2
  go_wp2_with fail
  refine (diskNew_yes 7 w3 (by decide) (by decide)).mono ?_
  intro en w4 hp
  obtain ⟨gd, gsd, rfl, hd, hfe⟩ := DSes.new2 (wT := 99) (by decide) (Ew3.out) hp
  have hb : Below w3.heap.size w3 w4 := hp.bel
  have Fdp : Hid (¬ footD gd gsd (.slice none 0 0) w.heap.size) := fun hj => by have := hfe _ hj; have := Kpw3.out.lt; omega
  have Fdq : Hid (¬ footD gd gsd (.slice none 0 0) (w.heap.size + 1)) := fun hj => by have := hfe _ hj; have := Kqw3.out.lt; omega
  have Fdn : Hid (¬ footD gd gsd (.slice none 0 0) (w.heap.size + 2)) := fun hj => by have := hfe _ hj; have := Knw3.out.lt; omega
  have Ew4 : Hid (Below w.heap.size w w4) := Ew3.out.trans (hb.mono Ew3.out.size)
  have Kpw4 : Hid (Bk w4 w.heap.size bx) := Kpw3.out.below hb
  have Kqw4 : Hid (Bk w4 (w.heap.size + 1) by_) := Kqw3.out.below hb
  have Knw4 : Hid (Bk w4 (w.heap.size + 2) bn) := Knw3.out.below hb
  clear Ew3 Kpw3 Kqw3 Knw3
  have Ddw4 : Hid (DSes 99 w w4 gd gsd (.slice none 0 0) (Dst.new 7)) := hd
  clear hp hb hd hfe
  go_wp2_with (refine wpList_ld rfl 25 (.tmp 3) rfl w.heap.size 0 3 bx bx rfl Kpw4.out (by kernel_rfl) (by kernel_rfl) (by rw [HBL.out]; decide) (by rw [List.drop_zero, List.take_of_length_le (by rw [HBL.out]; exact Nat.le_refl _)]) ?_)
  rw [show bx.toArray = #[vu32 r.e, vu32 r.q, .slice r.A r.n r.c] by rw [← HBX.out]; rfl]
  have HP1 : Hid ((Dst.new 7).walPut 1 r.e r.q r.ps = (⟨putS (Dst.new 7).S 1 r.e r.q r.ps, [], -1, false⟩, 0)) := put_all (S := (Dst.new 7).S) (fr := 1) (f := -1) (by decide) hg1 (.inl (by decide))
  refine (walPut_calls w4 gd gsd (.slice none 0 0) (Dst.new 7) 1 r.e r.q r.ps r.A r.n r.c 0 HOK.out.len Ddw4.out.at_ ⟨by decide, by decide, by decide⟩ (by decide) (fun w' hc => HOK.out.rd.below (Ew4.out.trans (hc.below Ew4.out.size (fun j hj hf => by have := Ddw4.out.fr j hf; omega)))) HOK.out.ok).mono ?_
  intro en w5 hp
  rw [HP1.out] at hp
  have hch := DPost.chgF hp
  obtain ⟨rfl, lvdw5, hd, hft⟩ := DSes.post2 Ddw4.out hp
  have Ddw5 : Hid (DSes 99 w w5 gd gsd lvdw5 ⟨putS (Dst.new 7).S 1 r.e r.q r.ps, [], -1, false⟩) := hd
  have Ew5 : Hid (Below w.heap.size w w5) := hd.bel
  have Kpw5 : Hid (Bk w5 w.heap.size bx) := Kpw4.out.chg hch Fdp.out
  have Fdp : Hid (¬ footD gd gsd lvdw5 w.heap.size) := fun hj => (hft _ hj).elim Fdp.out (fun h => by have := Kpw4.out.lt; omega)
  have Kqw5 : Hid (Bk w5 (w.heap.size + 1) by_) := Kqw4.out.chg hch Fdq.out
  have Fdq : Hid (¬ footD gd gsd lvdw5 (w.heap.size + 1)) := fun hj => (hft _ hj).elim Fdq.out (fun h => by have := Kqw4.out.lt; omega)
  have Knw5 : Hid (Bk w5 (w.heap.size + 2) bn) := Knw4.out.chg hch Fdn.out
  have Fdn : Hid (¬ footD gd gsd lvdw5 (w.heap.size + 2)) := fun hj => (hft _ hj).elim Fdn.out (fun h => by have := Knw4.out.lt; omega)
  clear hp hd hft hch Kpw4 Kqw4 Knw4 Ddw4 Ew4
  have cn := Knw5.out.cell DN0.out
  go_wp2_with fail
  clear cn
  refine (diskFuse_at w5 gd gsd lvdw5 ⟨putS (Dst.new 7).S 1 r.e r.q r.ps, [], -1, false⟩ (at_ : Int) Ddw5.out.at_).mono ?_
  intro en w6 hp
  rw [show max (at_ : Int) (-1) = (at_ : Int) by omega] at hp
  have hch := DPost.chgF hp
  obtain ⟨rfl, lvdw6, hd, hft⟩ := DSes.post2 Ddw5.out hp
  have Ddw6 : Hid (DSes 99 w w6 gd gsd lvdw6 ⟨putS (Dst.new 7).S 1 r.e r.q r.ps, [], (at_ : Int), false⟩) := hd
  have Ew6 : Hid (Below w.heap.size w w6) := hd.bel
  have Kpw6 : Hid (Bk w6 w.heap.size bx) := Kpw5.out.chg hch Fdp.out
  have Fdp : Hid (¬ footD gd gsd lvdw6 w.heap.size) := fun hj => (hft _ hj).elim Fdp.out (fun h => by have := Kpw5.out.lt; omega)
  have Kqw6 : Hid (Bk w6 (w.heap.size + 1) by_) := Kqw5.out.chg hch Fdq.out
  have Fdq : Hid (¬ footD gd gsd lvdw6 (w.heap.size + 1)) := fun hj => (hft _ hj).elim Fdq.out (fun h => by have := Kqw5.out.lt; omega)
  have Knw6 : Hid (Bk w6 (w.heap.size + 2) bn) := Knw5.out.chg hch Fdn.out
  have Fdn : Hid (¬ footD gd gsd lvdw6 (w.heap.size + 2)) := fun hj => (hft _ hj).elim Fdn.out (fun h => by have := Knw5.out.lt; omega)
  clear hp hd hft hch Kpw5 Kqw5 Knw5 Ddw5 Ew5
  go_wp2_with (refine wpList_ld rfl 25 (.tmp 4) rfl (w.heap.size + 1) 0 3 by_ by_ rfl Kqw6.out (by kernel_rfl) (by kernel_rfl) (by rw [HBM.out]; decide) (by rw [List.drop_zero, List.take_of_length_le (by rw [HBM.out]; exact Nat.le_refl _)]) ?_)
  rw [show by_.toArray = #[vu32 t.e, vu32 t.q, .slice t.A t.n t.c] by rw [← HBY.out]; rfl]
  obtain ⟨TD, er, hp2, her, heq, hget⟩ := torn_all (we := r.e) (wq := r.q) (ne := t.e) (nq := t.q) (f := at_) hg1 hg2
  have HP2 := Lib.hid hp2
  have HGET := Lib.hid hget
  have HLEN : Hid (t.ps.length = t.n) := HOT.out.len
  clear hp2 hget
  refine (walPut_calls w6 gd gsd lvdw6 ⟨putS (Dst.new 7).S 1 r.e r.q r.ps, [], (at_ : Int), false⟩ 1 t.e t.q t.ps t.A t.n t.c 0 HOT.out.len Ddw6.out.at_ ⟨Nat.le_refl _, by show (-1 : Int) ≤ (at_ : Int); omega, by show (at_ : Int) ≤ _; omega⟩ (by decide) (fun w' hc => HOT.out.rd.below (Ew6.out.trans (hc.below Ew6.out.size (fun j hj hf => by have := Ddw6.out.fr j hf; omega)))) HOT.out.ok).mono ?_
  intro en w7 hp
  rw [HP2.out] at hp
  have hch := DPost.chgF hp
  obtain ⟨rfl, lvdw7, hd, hft⟩ := DSes.post2 Ddw6.out hp
  have Ddw7 : Hid (DSes 99 w w7 gd gsd lvdw7 TD) := hd
  have Ew7 : Hid (Below w.heap.size w w7) := hd.bel
  have Kpw7 : Hid (Bk w7 w.heap.size bx) := Kpw6.out.chg hch Fdp.out
  have Fdp : Hid (¬ footD gd gsd lvdw7 w.heap.size) := fun hj => (hft _ hj).elim Fdp.out (fun h => by have := Kpw6.out.lt; omega)
  have Kqw7 : Hid (Bk w7 (w.heap.size + 1) by_) := Kqw6.out.chg hch Fdq.out
  have Fdq : Hid (¬ footD gd gsd lvdw7 (w.heap.size + 1)) := fun hj => (hft _ hj).elim Fdq.out (fun h => by have := Kqw6.out.lt; omega)
  have Knw7 : Hid (Bk w7 (w.heap.size + 2) bn) := Knw6.out.chg hch Fdn.out
  have Fdn : Hid (¬ footD gd gsd lvdw7 (w.heap.size + 2)) := fun hj => (hft _ hj).elim Fdn.out (fun h => by have := Knw6.out.lt; omega)
  clear hp hd hft hch Kpw6 Kqw6 Knw6 Ddw6 Ew6
  have c2 := Kqw7.out.cell DT2.out
  have htn : t.n ≤ 5 := by have h5 := (goodB_at hg2).2.1; have := HLEN.out; omega
  rcases her with rfl | rfl
  case inl =>
    have hat2 : (t.n : Int) + 3 ≤ (at_ : Int) := by have h := heq.1 rfl; have := HLEN.out; omega
    clear heq
    go_wp2_with fail
    clear c2 hat2
    have H0 : Hid (KeepRel w7 (.slice none 0 0) (.int .i64 0) w7) := ⟨0, [], by decide, rfl, rfl, ⟨rfl, .inl ⟨rfl, rfl⟩⟩, Below.refl _ _⟩
    go_loopw [11, 12] (fun v11 v12 wr => KeepRel w7 v11 v12 wr) (fun _ v12 _ => 8 - (intOf v12).toNat)
    case atStart => exact H0.out
    case round =>
      obtain ⟨k, ks, hk, hkl, rfl, ho, hb⟩ := hrel
      have OR := Lib.hid ho
      have BR := Lib.hid hb
      have HKL := Lib.hid hkl
      clear ho hb hkl H0
      by_cases hlt : k < 8
      · have hki : (k : Int) < 8 := by omega
        have hk0 : (0 : Int) ≤ (k : Int) := by omega
        have cn := (Knw7.out.below BR.out).cell DN1.out
        obtain ⟨A7, c7, rfl, _, _, _⟩ := own_rd OR.out
        obtain ⟨b, hb8⟩ := bit_u8 yn k hy256
        have HB8 := Lib.hid hb8
        clear hb8
        go_wp2_with (at_builtin; refine wpList_append_rd rfl (.tmp 70) (.tmp 77) 48 rfl w7.heap.size 5 (.int .u8 0) 1 1 Try.underlying48 info_u8l rfl (by decide) (by decide) (.slice A7 k c7) k (bts ks) rfl ?own (some ⟨wr.heap.size, 0, none⟩) 1 1 (bts [b]) rfl rfl ?rd (one_bts _) (by omega) (by have := BR.out.size; simp; omega) ?_)
        case own => exact own_chg OR.out ((Chg.refl (S := NoS) wr).alloc _) (fun _ _ => id)
        case rd =>
          have h : bts [b] = [vu8 b] := rfl
          rw [h, ← HB8.out]
          exact Rd.new _ _ _
        intro v1 w9 hown hg hat
        have O9 : Hid (w9.ownsRow w7.heap.size 5 1 v1 (k + 1) (bts (ks ++ [b]))) := by
          show World.ownsRow _ _ _ _ _ _ _
          rw [bts_append]
          exact hown
        have B9 : Hid (Below w7.heap.size w7 w9) := BR.out.trans (((Below.refl wr.heap.size wr).alloc (Nat.le_refl _) _).mono BR.out.size |>.trans (below_grown hg (by have := BR.out.size; simp; omega) (fun j hj => (OR.out.lt _ hj).1)))
        clear hown hg hat cn
        go_wp2_with fail
        go_roundw
        case rel => exact ⟨k + 1, ks ++ [b], by omega, by simp [HKL.out], by go_num, O9.out, B9.out⟩
        case measure => simp [intOf]; omega
      · have hke : k = 8 := by omega
        subst hke
        have hki : ¬ (((8 : Nat) : Int) < 8) := by omega
        have Ewr : Hid (Below w.heap.size w wr) := Ew7.out.trans (BR.out.mono Ew7.out.size)
        have Kpwr : Hid (Bk wr w.heap.size bx) := Kpw7.out.below BR.out
        have Kqwr : Hid (Bk wr (w.heap.size + 1) by_) := Kqw7.out.below BR.out
        have Knwr : Hid (Bk wr (w.heap.size + 2) bn) := Knw7.out.below BR.out
        have Ddwr : Hid (DSes 99 w wr gd gsd lvdw7 TD) := Ddw7.out.below BR.out
        obtain ⟨A7, c7, rfl, _, _, _⟩ := own_rd OR.out
        obtain ⟨rr, hgr, hcase⟩ := HGET.out ks
        have HGR := Lib.hid hgr
        clear hgr
        go_wp2_with fail
        refine (diskUp_at wr gd gsd lvdw7 TD A7 8 c7 ks Ddwr.out.at_ HKL.out (fun w' hc => by
          obtain ⟨A', c', hv', hr', _, _⟩ := own_rd (own_chg OR.out hc (fun j hj hf => by
            have h1 := (OR.out.lt _ hj).1
            have h2 := DiskAt.lt Ddw7.out.at_ j (by rcases hf with hf | hf; exact .inl hf; exact .inr (.inl hf))
            omega))
          injection hv' with h1 _ _
          subst h1
          exact hr')).mono ?_
        intro en w8 hp
        have hch := DPost.chgF hp
        obtain ⟨rfl, lvdw8, hd, hft⟩ := DSes.post2 Ddwr.out hp
        have Ddw8 : Hid (DSes 99 w w8 gd gsd lvdw8 (TD.up ks)) := hd
        have Ew8 : Hid (Below w.heap.size w w8) := hd.bel
        have Kpw8 : Hid (Bk w8 w.heap.size bx) := Kpwr.out.chg hch Fdp.out
        have Fdp : Hid (¬ footD gd gsd lvdw8 w.heap.size) := fun hj => (hft _ hj).elim Fdp.out (fun h => by have := Kpwr.out.lt; omega)
        have Kqw8 : Hid (Bk w8 (w.heap.size + 1) by_) := Kqwr.out.chg hch Fdq.out
        have Fdq : Hid (¬ footD gd gsd lvdw8 (w.heap.size + 1)) := fun hj => (hft _ hj).elim Fdq.out (fun h => by have := Kqwr.out.lt; omega)
        have Knw8 : Hid (Bk w8 (w.heap.size + 2) bn) := Knwr.out.chg hch Fdn.out
        have Fdn : Hid (¬ footD gd gsd lvdw8 (w.heap.size + 2)) := fun hj => (hft _ hj).elim Fdn.out (fun h => by have := Knwr.out.lt; omega)
        clear hp hd hft hch Kpwr Kqwr Knwr Ddwr Ewr
        go_wp2_with fail
        have HPOK : Hid (PutsOk rr.ps) := by have h := walGet_ok (fr := 1) (Ddw8.out.at_.readB_len); rw [HGR.out] at h; exact h
        refine (walGet_calls w8 gd gsd lvdw8 (TD.up ks) 1 Ddw8.out.at_).mono ?_
        intro en w9 hp
        rw [HGR.out] at hp
        obtain ⟨Aw9, cw9, he, hR, hncw9, hcmw9, hb⟩ := hp
        have he' : en = .returned (.tuple #[.agg #[vu32 rr.e, vu32 rr.q, .slice Aw9 rr.ps.length cw9], .int .i64 0]) := he
        subst he'
        have hR' : Rd w9 Aw9 (rr.ps.flatMap putC) := hR
        have Ew9 : Hid (Below w.heap.size w w9) := Ew8.out.trans (hb.mono Ew8.out.size)
        have Kpw9 : Hid (Bk w9 w.heap.size bx) := Kpw8.out.below hb
        have Kqw9 : Hid (Bk w9 (w.heap.size + 1) by_) := Kqw8.out.below hb
        have Knw9 : Hid (Bk w9 (w.heap.size + 2) bn) := Knw8.out.below hb
        have Ddw9 : Hid (DSes 99 w w9 gd gsd lvdw8 (TD.up ks)) := Ddw8.out.below hb
        clear Ew8 Kpw8 Kqw8 Knw8 Ddw8
        have Rw9w9 := Lib.hid hR'
        clear he hb hR hR'
        go_wp2_with (refine wpList_al rfl 25 rfl zR (by kernel_rfl) ?_)
        intro ga w10 hg hb hc hs
        have HQa : Hid (Below w9.heap.size w9 w10) := hc.below (Nat.le_refl _) (fun _ _ => id)
        have HGa : Hid (ga = w9.heap.size) := hg
        have KZa := Lib.hid hb
        clear hg hb hc hs
        go_wp2_with (refine wpList_st rfl 25 (.tmp 13) (.tmp 85) rfl ga 0 3 zR [vu32 rr.e, vu32 rr.q, .slice Aw9 rr.ps.length cw9] rfl rfl KZa.out (by kernel_rfl) rfl (by decide) (one_rec _ _ _ _ _) ?_)
        intro w11 hbk hc
        rw [splice_whole zR [vu32 rr.e, vu32 rr.q, .slice Aw9 rr.ps.length cw9] rfl] at hbk
        have hb : Below w9.heap.size w9 w11 := HQa.out.trans (hc.below HQa.out.size (fun q hq he => by have := HGa.out; omega))
        have Apa : Hid (w.heap.size < ga) := by show _ < _; have := Kpw9.out.lt; have := HGa.out; omega
        have Aqa : Hid ((w.heap.size + 1) < ga) := by show _ < _; have := Kqw9.out.lt; have := HGa.out; omega
        have Ana : Hid ((w.heap.size + 2) < ga) := by show _ < _; have := Knw9.out.lt; have := HGa.out; omega
        have Ew11 : Hid (Below w.heap.size w w11) := Ew9.out.trans (hb.mono Ew9.out.size)
        have Kpw11 : Hid (Bk w11 w.heap.size bx) := Kpw9.out.below hb
        have Kqw11 : Hid (Bk w11 (w.heap.size + 1) by_) := Kqw9.out.below hb
        have Knw11 : Hid (Bk w11 (w.heap.size + 2) bn) := Knw9.out.below hb
        have Rw9w11 : Hid (Rd w11 Aw9 (rr.ps.flatMap putC)) := Rw9w9.out.below hb
        have Ddw11 : Hid (DSes 99 w w11 gd gsd lvdw8 (TD.up ks)) := Ddw9.out.below hb
        clear Ew9 Kpw9 Kqw9 Knw9 Rw9w9 Ddw9
        have Kaw11 : Hid (Bk w11 ga [vu32 rr.e, vu32 rr.q, .slice Aw9 rr.ps.length cw9]) := hbk
        have Kaw11 : Hid (Bk w11 ga [vu32 rr.e, vu32 rr.q, .slice Aw9 rr.ps.length cw9]) := hbk
        clear hbk hb hc KZa HQa HGa
        have ca0 := Kaw11.out.cell (j := 0) rfl
        have ca1 := Kaw11.out.cell (j := 1) rfl
        have ca2 := Kaw11.out.cell (j := 2) rfl
        have cq0 := Kqw11.out.cell DT0.out
        have cq1 := Kqw11.out.cell DT1.out
        have cq2 := Kqw11.out.cell DT2.out
        have RL : Hid (rr.ps.length ≤ 9223372036854775807) := by have h1 : rr.ps.length ≤ cw9 := hncw9; have h2 := hcmw9; show _ ≤ _; omega
        by_cases hnew : rr = ⟨t.e, t.q, t.ps⟩
        · have HNP : Hid (rr.ps = t.ps) := by show _ = _; rw [hnew]
          have RPO : Hid (PutsOk rr.ps) := by rw [HNP.out]; exact HOT.out.ok
          have HNE : Hid (rr.e = t.e) := by show _ = _; rw [hnew]
          have HNQ : Hid (rr.q = t.q) := by show _ = _; rw [hnew]
          rw [HNE.out] at ca0
          rw [HNQ.out] at ca1
          clear hnew hcase
          go_wp2_with fail
          refine (keepPuts_calls rr.ps t.ps Aw9 t.A rr.ps.length t.n cw9 t.c w11 rfl HOT.out.len RL.out Rw9w11.out (HOT.out.rd.below Ew11.out) RPO.out HOT.out.ok).mono ?_
          rintro en w12 ⟨rfl, hb⟩
          have Ew12 : Hid (Below w.heap.size w w12) := Ew11.out.trans (hb.mono Ew11.out.size)
          have Kpw12 : Hid (Bk w12 w.heap.size bx) := Kpw11.out.below hb
          have Kqw12 : Hid (Bk w12 (w.heap.size + 1) by_) := Kqw11.out.below hb
          have Knw12 : Hid (Bk w12 (w.heap.size + 2) bn) := Knw11.out.below hb
          have Kaw12 : Hid (Bk w12 ga [vu32 rr.e, vu32 rr.q, .slice Aw9 rr.ps.length cw9]) := Kaw11.out.below hb
          have Rw9w12 : Hid (Rd w12 Aw9 (rr.ps.flatMap putC)) := Rw9w11.out.below hb
          have Ddw12 : Hid (DSes 99 w w12 gd gsd lvdw8 (TD.up ks)) := Ddw11.out.below hb
          clear Ew11 Kpw11 Kqw11 Knw11 Kaw11 Rw9w11 Ddw11
          clear hb
          rw [decide_eq_true HNP.out]
          go_wp2_with fail
          refine (wakes8_calls w12).mono ?_
          rintro en w13 ⟨rfl, hb⟩
          have Ew13 : Hid (Below w.heap.size w w13) := Ew12.out.trans (hb.mono Ew12.out.size)
          have Kpw13 : Hid (Bk w13 w.heap.size bx) := Kpw12.out.below hb
          have Kqw13 : Hid (Bk w13 (w.heap.size + 1) by_) := Kqw12.out.below hb
          have Knw13 : Hid (Bk w13 (w.heap.size + 2) bn) := Knw12.out.below hb
          have Kaw13 : Hid (Bk w13 ga [vu32 rr.e, vu32 rr.q, .slice Aw9 rr.ps.length cw9]) := Kaw12.out.below hb
          have Rw9w13 : Hid (Rd w13 Aw9 (rr.ps.flatMap putC)) := Rw9w12.out.below hb
          have Ddw13 : Hid (DSes 99 w w13 gd gsd lvdw8 (TD.up ks)) := Ddw12.out.below hb
          clear Ew12 Kpw12 Kqw12 Knw12 Kaw12 Rw9w12 Ddw12
          clear hb
          go_wp2_with fail
          (try simp only [Exit.inBlock, Exit.then])
          go_ret
          exact ⟨rfl, Ew13.out⟩
        · exact absurd (hcase.resolve_right (fun h => absurd h.1 (by decide))) hnew
  case inr =>
    have hat2 : ¬ (t.n : Int) + 3 ≤ (at_ : Int) := fun h => by have h2 := heq.2 (by have := HLEN.out; omega); exact absurd h2 (by decide)
    clear heq
    go_wp2_with fail
    clear c2 hat2
    have H0 : Hid (KeepRel w7 (.slice none 0 0) (.int .i64 0) w7) := ⟨0, [], by decide, rfl, rfl, ⟨rfl, .inl ⟨rfl, rfl⟩⟩, Below.refl _ _⟩
    go_loopw [11, 12] (fun v11 v12 wr => KeepRel w7 v11 v12 wr) (fun _ v12 _ => 8 - (intOf v12).toNat)
    case atStart => exact H0.out
    case round =>
      obtain ⟨k, ks, hk, hkl, rfl, ho, hb⟩ := hrel
      have OR := Lib.hid ho
      have BR := Lib.hid hb
      have HKL := Lib.hid hkl
      clear ho hb hkl H0
      by_cases hlt : k < 8
      · have hki : (k : Int) < 8 := by omega
        have hk0 : (0 : Int) ≤ (k : Int) := by omega
        have cn := (Knw7.out.below BR.out).cell DN1.out
        obtain ⟨A7, c7, rfl, _, _, _⟩ := own_rd OR.out
        obtain ⟨b, hb8⟩ := bit_u8 yn k hy256
        have HB8 := Lib.hid hb8
        clear hb8
        go_wp2_with (at_builtin; refine wpList_append_rd rfl (.tmp 70) (.tmp 77) 48 rfl w7.heap.size 5 (.int .u8 0) 1 1 Try.underlying48 info_u8l rfl (by decide) (by decide) (.slice A7 k c7) k (bts ks) rfl ?own (some ⟨wr.heap.size, 0, none⟩) 1 1 (bts [b]) rfl rfl ?rd (one_bts _) (by omega) (by have := BR.out.size; simp; omega) ?_)
        case own => exact own_chg OR.out ((Chg.refl (S := NoS) wr).alloc _) (fun _ _ => id)
        case rd =>
          have h : bts [b] = [vu8 b] := rfl
          rw [h, ← HB8.out]
          exact Rd.new _ _ _
        intro v1 w9 hown hg hat
        have O9 : Hid (w9.ownsRow w7.heap.size 5 1 v1 (k + 1) (bts (ks ++ [b]))) := by
          show World.ownsRow _ _ _ _ _ _ _
          rw [bts_append]
          exact hown
        have B9 : Hid (Below w7.heap.size w7 w9) := BR.out.trans (((Below.refl wr.heap.size wr).alloc (Nat.le_refl _) _).mono BR.out.size |>.trans (below_grown hg (by have := BR.out.size; simp; omega) (fun j hj => (OR.out.lt _ hj).1)))
        clear hown hg hat cn
        go_wp2_with fail
        go_roundw
        case rel => exact ⟨k + 1, ks ++ [b], by omega, by simp [HKL.out], by go_num, O9.out, B9.out⟩
        case measure => simp [intOf]; omega
      · have hke : k = 8 := by omega
        subst hke
        have hki : ¬ (((8 : Nat) : Int) < 8) := by omega
        have Ewr : Hid (Below w.heap.size w wr) := Ew7.out.trans (BR.out.mono Ew7.out.size)
        have Kpwr : Hid (Bk wr w.heap.size bx) := Kpw7.out.below BR.out
        have Kqwr : Hid (Bk wr (w.heap.size + 1) by_) := Kqw7.out.below BR.out
        have Knwr : Hid (Bk wr (w.heap.size + 2) bn) := Knw7.out.below BR.out
        have Ddwr : Hid (DSes 99 w wr gd gsd lvdw7 TD) := Ddw7.out.below BR.out
        obtain ⟨A7, c7, rfl, _, _, _⟩ := own_rd OR.out
        obtain ⟨rr, hgr, hcase⟩ := HGET.out ks
        have HGR := Lib.hid hgr
        clear hgr
        go_wp2_with fail
        refine (diskUp_at wr gd gsd lvdw7 TD A7 8 c7 ks Ddwr.out.at_ HKL.out (fun w' hc => by
          obtain ⟨A', c', hv', hr', _, _⟩ := own_rd (own_chg OR.out hc (fun j hj hf => by
            have h1 := (OR.out.lt _ hj).1
            have h2 := DiskAt.lt Ddw7.out.at_ j (by rcases hf with hf | hf; exact .inl hf; exact .inr (.inl hf))
            omega))
          injection hv' with h1 _ _
          subst h1
          exact hr')).mono ?_
        intro en w8 hp
        have hch := DPost.chgF hp
        obtain ⟨rfl, lvdw8, hd, hft⟩ := DSes.post2 Ddwr.out hp
        have Ddw8 : Hid (DSes 99 w w8 gd gsd lvdw8 (TD.up ks)) := hd
        have Ew8 : Hid (Below w.heap.size w w8) := hd.bel
        have Kpw8 : Hid (Bk w8 w.heap.size bx) := Kpwr.out.chg hch Fdp.out
        have Fdp : Hid (¬ footD gd gsd lvdw8 w.heap.size) := fun hj => (hft _ hj).elim Fdp.out (fun h => by have := Kpwr.out.lt; omega)
        have Kqw8 : Hid (Bk w8 (w.heap.size + 1) by_) := Kqwr.out.chg hch Fdq.out
        have Fdq : Hid (¬ footD gd gsd lvdw8 (w.heap.size + 1)) := fun hj => (hft _ hj).elim Fdq.out (fun h => by have := Kqwr.out.lt; omega)
        have Knw8 : Hid (Bk w8 (w.heap.size + 2) bn) := Knwr.out.chg hch Fdn.out
        have Fdn : Hid (¬ footD gd gsd lvdw8 (w.heap.size + 2)) := fun hj => (hft _ hj).elim Fdn.out (fun h => by have := Knwr.out.lt; omega)
        clear hp hd hft hch Kpwr Kqwr Knwr Ddwr Ewr
        go_wp2_with fail
        have HPOK : Hid (PutsOk rr.ps) := by have h := walGet_ok (fr := 1) (Ddw8.out.at_.readB_len); rw [HGR.out] at h; exact h
        refine (walGet_calls w8 gd gsd lvdw8 (TD.up ks) 1 Ddw8.out.at_).mono ?_
        intro en w9 hp
        rw [HGR.out] at hp
        obtain ⟨Aw9, cw9, he, hR, hncw9, hcmw9, hb⟩ := hp
        have he' : en = .returned (.tuple #[.agg #[vu32 rr.e, vu32 rr.q, .slice Aw9 rr.ps.length cw9], .int .i64 0]) := he
        subst he'
        have hR' : Rd w9 Aw9 (rr.ps.flatMap putC) := hR
        have Ew9 : Hid (Below w.heap.size w w9) := Ew8.out.trans (hb.mono Ew8.out.size)
        have Kpw9 : Hid (Bk w9 w.heap.size bx) := Kpw8.out.below hb
        have Kqw9 : Hid (Bk w9 (w.heap.size + 1) by_) := Kqw8.out.below hb
        have Knw9 : Hid (Bk w9 (w.heap.size + 2) bn) := Knw8.out.below hb
        have Ddw9 : Hid (DSes 99 w w9 gd gsd lvdw8 (TD.up ks)) := Ddw8.out.below hb
        clear Ew8 Kpw8 Kqw8 Knw8 Ddw8
        have Rw9w9 := Lib.hid hR'
        clear he hb hR hR'
        go_wp2_with (refine wpList_al rfl 25 rfl zR (by kernel_rfl) ?_)
        intro ga w10 hg hb hc hs
        have HQa : Hid (Below w9.heap.size w9 w10) := hc.below (Nat.le_refl _) (fun _ _ => id)
        have HGa : Hid (ga = w9.heap.size) := hg
        have KZa := Lib.hid hb
        clear hg hb hc hs
        go_wp2_with (refine wpList_st rfl 25 (.tmp 13) (.tmp 85) rfl ga 0 3 zR [vu32 rr.e, vu32 rr.q, .slice Aw9 rr.ps.length cw9] rfl rfl KZa.out (by kernel_rfl) rfl (by decide) (one_rec _ _ _ _ _) ?_)
        intro w11 hbk hc
        rw [splice_whole zR [vu32 rr.e, vu32 rr.q, .slice Aw9 rr.ps.length cw9] rfl] at hbk
        have hb : Below w9.heap.size w9 w11 := HQa.out.trans (hc.below HQa.out.size (fun q hq he => by have := HGa.out; omega))
        have Apa : Hid (w.heap.size < ga) := by show _ < _; have := Kpw9.out.lt; have := HGa.out; omega
        have Aqa : Hid ((w.heap.size + 1) < ga) := by show _ < _; have := Kqw9.out.lt; have := HGa.out; omega
        have Ana : Hid ((w.heap.size + 2) < ga) := by show _ < _; have := Knw9.out.lt; have := HGa.out; omega
        have Ew11 : Hid (Below w.heap.size w w11) := Ew9.out.trans (hb.mono Ew9.out.size)
        have Kpw11 : Hid (Bk w11 w.heap.size bx) := Kpw9.out.below hb
        have Kqw11 : Hid (Bk w11 (w.heap.size + 1) by_) := Kqw9.out.below hb
        have Knw11 : Hid (Bk w11 (w.heap.size + 2) bn) := Knw9.out.below hb
        have Rw9w11 : Hid (Rd w11 Aw9 (rr.ps.flatMap putC)) := Rw9w9.out.below hb
        have Ddw11 : Hid (DSes 99 w w11 gd gsd lvdw8 (TD.up ks)) := Ddw9.out.below hb
        clear Ew9 Kpw9 Kqw9 Knw9 Rw9w9 Ddw9
        have Kaw11 : Hid (Bk w11 ga [vu32 rr.e, vu32 rr.q, .slice Aw9 rr.ps.length cw9]) := hbk
        have Kaw11 : Hid (Bk w11 ga [vu32 rr.e, vu32 rr.q, .slice Aw9 rr.ps.length cw9]) := hbk
        clear hbk hb hc KZa HQa HGa
        have ca0 := Kaw11.out.cell (j := 0) rfl
        have ca1 := Kaw11.out.cell (j := 1) rfl
        have ca2 := Kaw11.out.cell (j := 2) rfl
        have cq0 := Kqw11.out.cell DT0.out
        have cq1 := Kqw11.out.cell DT1.out
        have cq2 := Kqw11.out.cell DT2.out
        have RL : Hid (rr.ps.length ≤ 9223372036854775807) := by have h1 : rr.ps.length ≤ cw9 := hncw9; have h2 := hcmw9; show _ ≤ _; omega
        by_cases hnew : rr = ⟨t.e, t.q, t.ps⟩
        · have HNP : Hid (rr.ps = t.ps) := by show _ = _; rw [hnew]
          have RPO : Hid (PutsOk rr.ps) := by rw [HNP.out]; exact HOT.out.ok
          have HNE : Hid (rr.e = t.e) := by show _ = _; rw [hnew]
          have HNQ : Hid (rr.q = t.q) := by show _ = _; rw [hnew]
          rw [HNE.out] at ca0
          rw [HNQ.out] at ca1
          clear hnew hcase
          go_wp2_with fail
          refine (keepPuts_calls rr.ps t.ps Aw9 t.A rr.ps.length t.n cw9 t.c w11 rfl HOT.out.len RL.out Rw9w11.out (HOT.out.rd.below Ew11.out) RPO.out HOT.out.ok).mono ?_
          rintro en w12 ⟨rfl, hb⟩
          have Ew12 : Hid (Below w.heap.size w w12) := Ew11.out.trans (hb.mono Ew11.out.size)
          have Kpw12 : Hid (Bk w12 w.heap.size bx) := Kpw11.out.below hb
          have Kqw12 : Hid (Bk w12 (w.heap.size + 1) by_) := Kqw11.out.below hb
          have Knw12 : Hid (Bk w12 (w.heap.size + 2) bn) := Knw11.out.below hb
          have Kaw12 : Hid (Bk w12 ga [vu32 rr.e, vu32 rr.q, .slice Aw9 rr.ps.length cw9]) := Kaw11.out.below hb
          have Rw9w12 : Hid (Rd w12 Aw9 (rr.ps.flatMap putC)) := Rw9w11.out.below hb
          have Ddw12 : Hid (DSes 99 w w12 gd gsd lvdw8 (TD.up ks)) := Ddw11.out.below hb
          clear Ew11 Kpw11 Kqw11 Knw11 Kaw11 Rw9w11 Ddw11
          clear hb
          rw [decide_eq_true HNP.out]
          go_wp2_with fail
          refine (wakes8_calls w12).mono ?_
          rintro en w13 ⟨rfl, hb⟩
          have Ew13 : Hid (Below w.heap.size w w13) := Ew12.out.trans (hb.mono Ew12.out.size)
          have Kpw13 : Hid (Bk w13 w.heap.size bx) := Kpw12.out.below hb
          have Kqw13 : Hid (Bk w13 (w.heap.size + 1) by_) := Kqw12.out.below hb
          have Knw13 : Hid (Bk w13 (w.heap.size + 2) bn) := Knw12.out.below hb
          have Kaw13 : Hid (Bk w13 ga [vu32 rr.e, vu32 rr.q, .slice Aw9 rr.ps.length cw9]) := Kaw12.out.below hb
          have Rw9w13 : Hid (Rd w13 Aw9 (rr.ps.flatMap putC)) := Rw9w12.out.below hb
          have Ddw13 : Hid (DSes 99 w w13 gd gsd lvdw8 (TD.up ks)) := Ddw12.out.below hb
          clear Ew12 Kpw12 Kqw12 Knw12 Kaw12 Rw9w12 Ddw12
          clear hb
          go_wp2_with fail
          (try simp only [Exit.inBlock, Exit.then])
          go_ret
          exact ⟨rfl, Ew13.out⟩
        · have hold := (hcase.resolve_left hnew).2
          have HRE : Hid (rr.e = r.e) := hold.1
          have HRQ : Hid (rr.q = r.q) := hold.2.1
          have HREO := Lib.hid HRE.out
          have HRQO := Lib.hid HRQ.out
          have HRA : Hid (rr.ps.map (·.at_) = r.ps.map (·.at_)) := hold.2.2
          have HRN : Hid (rr.ps.length = r.n) := by show _ = _; rw [← HOK.out.len]; have := congrArg List.length HRA.out; simpa using this
          have RPO : Hid (PutsOk rr.ps) := HPOK.out
          clear hold hcase
          have cp0 := Kpw11.out.cell DR0.out
          have cp1 := Kpw11.out.cell DR1.out
          have cp2 := Kpw11.out.cell DR2.out
          by_cases h1 : rr.e = t.e
          case neg =>
            have h1i : ¬ ((rr.e.toNat : Nat) : Int) = ((t.e.toNat : Nat) : Int) := fun h => h1 (UInt32.toNat_inj.1 (by omega))
            rw [HRE.out] at h1i
            rw [HRE.out] at ca0
            rw [HRQ.out] at ca1
            rw [HRN.out] at ca2
            go_wp2_with fail
            clear ca0 ca1 ca2 cq0 cq1 cq2
            have H1 : Hid (TornRel r.n w11 (.int .i64 0) w11) := ⟨0, Nat.zero_le _, rfl, Below.refl _ _⟩
            go_loopw [15] (fun v15 wr2 => TornRel r.n w11 v15 wr2) (fun v15 _ => r.n - (intOf v15).toNat)
            case atStart => exact H1.out
            case round =>
              obtain ⟨k2, hk2, rfl, hb2⟩ := hrel
              have BR2 := Lib.hid hb2
              clear hb2 H1 cp0 cp1 cp2
              have Ewr : Hid (Below w.heap.size w wr) := Ew11.out.trans (BR2.out.mono Ew11.out.size)
              have Kpwr : Hid (Bk wr w.heap.size bx) := Kpw11.out.below BR2.out
              have Kqwr : Hid (Bk wr (w.heap.size + 1) by_) := Kqw11.out.below BR2.out
              have Knwr : Hid (Bk wr (w.heap.size + 2) bn) := Knw11.out.below BR2.out
              have Kawr : Hid (Bk wr ga [vu32 rr.e, vu32 rr.q, .slice Aw9 rr.ps.length cw9]) := Kaw11.out.below BR2.out
              have Rw9wr : Hid (Rd wr Aw9 (rr.ps.flatMap putC)) := Rw9w11.out.below BR2.out
              have Ddwr : Hid (DSes 99 w wr gd gsd lvdw8 (TD.up ks)) := Ddw11.out.below BR2.out
              have cp2 := Kpwr.out.cell DR2.out
              by_cases hlt2 : k2 < r.n
              · have hki2 : (k2 : Int) < (r.n : Int) := by omega
                have hl1 : k2 < r.ps.length := by rw [HOK.out.len]; exact hlt2
                have hl2 : k2 < rr.ps.length := by rw [HRN.out]; exact hlt2
                obtain ⟨ad1, had1⟩ := puts_some HOK.out.rd hl1
                obtain ⟨ad2, had2⟩ := puts_some Rw9wr.out hl2
                have P1 := put_at (by rw [← had1]; exact HOK.out.rd.below Ewr.out) HOK.out.ok hl1
                have P2 := put_at (by rw [← had2]; exact Rw9wr.out) RPO.out hl2
                have HSAME : rr.ps[k2].at_ = r.ps[k2].at_ := by have h := congrArg (·[k2]?) HRA.out; simpa [List.getElem?_eq_getElem hl1, List.getElem?_eq_getElem hl2] using h
                rw [HSAME] at P2
                obtain ⟨z, hz⟩ : ∃ z, r.ps[k2].at_ = z := ⟨_, rfl⟩
                rw [hz] at P1 P2
                clear hz HSAME
                have HP1c := Lib.hid P1
                have HP2c := Lib.hid P2
                have HA1 := Lib.hid had1
                have HA2 := Lib.hid had2
                clear P1 P2 had1 had2
                go_wp2_with fail
                clear cp2
                apply wp_region_rel 13 (Chg NoS) [(Veq _), (Veq _), (Veq _), (Veq _), (Veq _), (Veq _), (Veq _), (Veq _), (Veq _), (Veq _), (Veq _), (Veq _), (Veq _)] [[], [0], [], [1, 2], [3], [4], [], [6], [], [7, 8], [9], [10], [5, 11]] [141, 142, 143, 144, 145, 146, 147, 148, 149, 150, 151, 152, 153] (by kernel_rfl) (by kernel_rfl) rfl rfl rfl Chg.refl (fun _ _ _ => Chg.trans) ⟨Veq.lasts, Veq.lasts, Veq.lasts, Veq.lasts, Veq.lasts, Veq.lasts, Veq.lasts, Veq.lasts, Veq.lasts, Veq.lasts, Veq.lasts, Veq.lasts, Veq.lasts, trivial⟩ ?aops ?afin
                case aops =>
                  refine ⟨?ao0, ?ao1, ?ao2, ?ao3, ?ao4, ?ao5, ?ao6, ?ao7, ?ao8, ?ao9, ?ao10, ?ao11, ?ao12, trivial⟩
                  case ao0 =>
                    intro a wx hE hin
                    have i13 : a.eval (.tmp 13) = .pointer (some ⟨ga, 0, none⟩) := hin 13 rfl
                    clear hin
                    have hcst : ∀ v, a.eval (.const v) = v := fun _ => rfl
                    have hfnc : ∀ f, a.eval (.func f) = .func (.func f) #[] #[] := fun _ => rfl
                    refine want_none rfl ?_
                    unfold Oper.wp
                    generalize a.eval = ρ at *
                    go_simp
                    try go_bits
                    first | exact rel_val (Chg.refl _) | (go_simp; exact rel_val (Chg.refl _))
                  case ao1 =>
                    rintro a wx hE hin (h0 : a.eval (.tmp 141) = _)
                    clear hin
                    have hcst : ∀ v, a.eval (.const v) = v := fun _ => rfl
                    have hfnc : ∀ f, a.eval (.func f) = .func (.func f) #[] #[] := fun _ => rfl
                    refine want_none rfl ?_
                    unfold Oper.wp
                    generalize a.eval = ρ at *
                    have c := Bk.cell (j := 2) (Kawr.out.drew.chg hE id) rfl
                    rw [HRN.out, HA2.out] at c
                    go_simp
                    try go_bits
                    first | exact rel_val (Chg.refl _) | (go_simp; exact rel_val (Chg.refl _))
                  case ao2 =>
                    intro a wx hE hin
                    have i15 : a.eval (.tmp 15) = .int .i64 k2 := hin 15 rfl
                    clear hin
                    have hcst : ∀ v, a.eval (.const v) = v := fun _ => rfl
                    have hfnc : ∀ f, a.eval (.func f) = .func (.func f) #[] #[] := fun _ => rfl
                    refine want_none rfl ?_
                    unfold Oper.wp
                    generalize a.eval = ρ at *
                    go_simp
                    try go_bits
                    first | exact rel_val (Chg.refl _) | (go_simp; exact rel_val (Chg.refl _))
                  case ao3 =>
                    rintro a wx hE hin (h1 : a.eval (.tmp 142) = _) (h2 : a.eval (.tmp 143) = _)
                    clear hin
                    have hcst : ∀ v, a.eval (.const v) = v := fun _ => rfl
                    have hfnc : ∀ f, a.eval (.func f) = .func (.func f) #[] #[] := fun _ => rfl
                    refine want_none rfl ?_
                    unfold Oper.wp
                    generalize a.eval = ρ at *
                    go_simp
                    try go_bits
                    first | exact rel_val (Chg.refl _) | (go_simp; exact rel_val (Chg.refl _))
                  case ao4 =>
                    rintro a wx hE hin (h3 : a.eval (.tmp 144) = _)
                    clear hin
                    have hcst : ∀ v, a.eval (.const v) = v := fun _ => rfl
                    have hfnc : ∀ f, a.eval (.func f) = .func (.func f) #[] #[] := fun _ => rfl
                    refine want_none rfl ?_
                    unfold Oper.wp
                    generalize a.eval = ρ at *
                    go_simp
                    try go_bits
                    first | exact rel_val (Chg.refl _) | (go_simp; exact rel_val (Chg.refl _))
                  case ao5 =>
                    rintro a wx hE hin (h4 : a.eval (.tmp 145) = _)
                    clear hin
                    have hcst : ∀ v, a.eval (.const v) = v := fun _ => rfl
                    have hfnc : ∀ f, a.eval (.func f) = .func (.func f) #[] #[] := fun _ => rfl
                    refine want_none rfl ?_
                    unfold Oper.wp
                    generalize a.eval = ρ at *
                    have c := hE.cell (w := wr.drew) HP2c.out id
                    go_simp
                    try go_bits
                    first | exact rel_val (Chg.refl _) | (go_simp; exact rel_val (Chg.refl _))
                  case ao6 =>
                    intro a wx hE hin
                    have i3 : a.eval (.tmp 3) = .pointer (some ⟨w.heap.size, 0, none⟩) := hin 3 rfl
                    clear hin
                    have hcst : ∀ v, a.eval (.const v) = v := fun _ => rfl
                    have hfnc : ∀ f, a.eval (.func f) = .func (.func f) #[] #[] := fun _ => rfl
                    refine want_none rfl ?_
                    unfold Oper.wp
                    generalize a.eval = ρ at *
                    go_simp
                    try go_bits
                    first | exact rel_val (Chg.refl _) | (go_simp; exact rel_val (Chg.refl _))
                  case ao7 =>
                    rintro a wx hE hin (h6 : a.eval (.tmp 147) = _)
                    clear hin
                    have hcst : ∀ v, a.eval (.const v) = v := fun _ => rfl
                    have hfnc : ∀ f, a.eval (.func f) = .func (.func f) #[] #[] := fun _ => rfl
                    refine want_none rfl ?_
                    unfold Oper.wp
                    generalize a.eval = ρ at *
                    have c := Bk.cell (Kpwr.out.drew.chg hE id) DR2.out
                    rw [HA1.out] at c
                    go_simp
                    try go_bits
                    first | exact rel_val (Chg.refl _) | (go_simp; exact rel_val (Chg.refl _))
                  case ao8 =>
                    intro a wx hE hin
                    have i15 : a.eval (.tmp 15) = .int .i64 k2 := hin 15 rfl
                    clear hin
                    have hcst : ∀ v, a.eval (.const v) = v := fun _ => rfl
                    have hfnc : ∀ f, a.eval (.func f) = .func (.func f) #[] #[] := fun _ => rfl
                    refine want_none rfl ?_
                    unfold Oper.wp
                    generalize a.eval = ρ at *
                    go_simp
                    try go_bits
                    first | exact rel_val (Chg.refl _) | (go_simp; exact rel_val (Chg.refl _))
                  case ao9 =>
                    rintro a wx hE hin (h7 : a.eval (.tmp 148) = _) (h8 : a.eval (.tmp 149) = _)
                    clear hin
                    have hcst : ∀ v, a.eval (.const v) = v := fun _ => rfl
                    have hfnc : ∀ f, a.eval (.func f) = .func (.func f) #[] #[] := fun _ => rfl
                    refine want_none rfl ?_
                    unfold Oper.wp
                    generalize a.eval = ρ at *
                    go_simp
                    try go_bits
                    first | exact rel_val (Chg.refl _) | (go_simp; exact rel_val (Chg.refl _))
                  case ao10 =>
                    rintro a wx hE hin (h9 : a.eval (.tmp 150) = _)
                    clear hin
                    have hcst : ∀ v, a.eval (.const v) = v := fun _ => rfl
                    have hfnc : ∀ f, a.eval (.func f) = .func (.func f) #[] #[] := fun _ => rfl
                    refine want_none rfl ?_
                    unfold Oper.wp
                    generalize a.eval = ρ at *
                    go_simp
                    try go_bits
                    first | exact rel_val (Chg.refl _) | (go_simp; exact rel_val (Chg.refl _))
                  case ao11 =>
                    rintro a wx hE hin (h10 : a.eval (.tmp 151) = _)
                    clear hin
                    have hcst : ∀ v, a.eval (.const v) = v := fun _ => rfl
                    have hfnc : ∀ f, a.eval (.func f) = .func (.func f) #[] #[] := fun _ => rfl
                    refine want_none rfl ?_
                    unfold Oper.wp
                    generalize a.eval = ρ at *
                    have c := hE.cell (w := wr.drew) HP1c.out id
                    go_simp
                    try go_bits
                    first | exact rel_val (Chg.refl _) | (go_simp; exact rel_val (Chg.refl _))
                  case ao12 =>
                    rintro a wx hE hin (h5 : a.eval (.tmp 146) = _) (h11 : a.eval (.tmp 152) = _)
                    clear hin
                    have hcst : ∀ v, a.eval (.const v) = v := fun _ => rfl
                    have hfnc : ∀ f, a.eval (.func f) = .func (.func f) #[] #[] := fun _ => rfl
                    refine want_none rfl ?_
                    unfold Oper.wp
                    generalize a.eval = ρ at *
                    go_simp
                    try go_bits
                    first | exact rel_val (Chg.refl _) | (go_simp; exact rel_val (Chg.refl _))
                case afin =>
                  intro wx hE
                  rintro _ rfl _ rfl _ rfl _ rfl _ rfl _ rfl _ rfl _ rfl _ rfl _ rfl _ rfl _ rfl _ rfl
                  simp only [FinOk, List.take_succ_cons, List.take_zero, List.take_nil, List.drop_succ_cons, List.drop_zero, List.drop_nil, Act.put, List.setIfInBounds_toArray, List.set_cons_succ, List.set_cons_zero]
                  have BX : Hid (Below w11.heap.size w11 wx) := BR2.out.trans (hE.undrew.below BR2.out.size (fun _ _ => id))
                  clear hE
                  go_wp2_with fail
                  go_roundw
                  case rel => exact ⟨k2 + 1, by omega, by go_num, BX.out⟩
                  case measure => simp [intOf]; omega
              · have hke2 : k2 = r.n := by omega
                have hki2 : ¬ (k2 : Int) < (r.n : Int) := by omega
                go_wp2_with fail
                clear cp2
                refine (wakes8_calls wr).mono ?_
                rintro en w12 ⟨rfl, hb⟩
                have Ew12 : Hid (Below w.heap.size w w12) := Ewr.out.trans (hb.mono Ewr.out.size)
                have Kpw12 : Hid (Bk w12 w.heap.size bx) := Kpwr.out.below hb
                have Kqw12 : Hid (Bk w12 (w.heap.size + 1) by_) := Kqwr.out.below hb
                have Knw12 : Hid (Bk w12 (w.heap.size + 2) bn) := Knwr.out.below hb
                have Kaw12 : Hid (Bk w12 ga [vu32 rr.e, vu32 rr.q, .slice Aw9 rr.ps.length cw9]) := Kawr.out.below hb
                have Rw9w12 : Hid (Rd w12 Aw9 (rr.ps.flatMap putC)) := Rw9wr.out.below hb
                have Ddw12 : Hid (DSes 99 w w12 gd gsd lvdw8 (TD.up ks)) := Ddwr.out.below hb
                clear Ewr Kpwr Kqwr Knwr Kawr Rw9wr Ddwr
                clear hb
                go_wp2_with fail
                (try simp only [Exit.inBlock, Exit.then])
                go_ret
                exact ⟨rfl, Ew12.out⟩
          by_cases h2 : rr.q = t.q
          case neg =>
            have h2i : ¬ ((rr.q.toNat : Nat) : Int) = ((t.q.toNat : Nat) : Int) := fun h => h2 (UInt32.toNat_inj.1 (by omega))
            rw [HRQ.out] at h2i
            rw [h1] at HRE
            rw [← HRE.out] at cp0
            rw [h1] at ca0
            rw [HRQ.out] at ca1
            rw [HRN.out] at ca2
            go_wp2_with fail
            clear ca0 ca1 ca2 cq0 cq1 cq2
            have H1 : Hid (TornRel r.n w11 (.int .i64 0) w11) := ⟨0, Nat.zero_le _, rfl, Below.refl _ _⟩
            go_loopw [15] (fun v15 wr2 => TornRel r.n w11 v15 wr2) (fun v15 _ => r.n - (intOf v15).toNat)
            case atStart => exact H1.out
            case round =>
              obtain ⟨k2, hk2, rfl, hb2⟩ := hrel
              have BR2 := Lib.hid hb2
              clear hb2 H1 cp0 cp1 cp2
              have Ewr : Hid (Below w.heap.size w wr) := Ew11.out.trans (BR2.out.mono Ew11.out.size)
              have Kpwr : Hid (Bk wr w.heap.size bx) := Kpw11.out.below BR2.out
              have Kqwr : Hid (Bk wr (w.heap.size + 1) by_) := Kqw11.out.below BR2.out
              have Knwr : Hid (Bk wr (w.heap.size + 2) bn) := Knw11.out.below BR2.out
              have Kawr : Hid (Bk wr ga [vu32 rr.e, vu32 rr.q, .slice Aw9 rr.ps.length cw9]) := Kaw11.out.below BR2.out
              have Rw9wr : Hid (Rd wr Aw9 (rr.ps.flatMap putC)) := Rw9w11.out.below BR2.out
              have Ddwr : Hid (DSes 99 w wr gd gsd lvdw8 (TD.up ks)) := Ddw11.out.below BR2.out
              have cp2 := Kpwr.out.cell DR2.out
              by_cases hlt2 : k2 < r.n
              · have hki2 : (k2 : Int) < (r.n : Int) := by omega
                have hl1 : k2 < r.ps.length := by rw [HOK.out.len]; exact hlt2
                have hl2 : k2 < rr.ps.length := by rw [HRN.out]; exact hlt2
                obtain ⟨ad1, had1⟩ := puts_some HOK.out.rd hl1
                obtain ⟨ad2, had2⟩ := puts_some Rw9wr.out hl2
                have P1 := put_at (by rw [← had1]; exact HOK.out.rd.below Ewr.out) HOK.out.ok hl1
                have P2 := put_at (by rw [← had2]; exact Rw9wr.out) RPO.out hl2
                have HSAME : rr.ps[k2].at_ = r.ps[k2].at_ := by have h := congrArg (·[k2]?) HRA.out; simpa [List.getElem?_eq_getElem hl1, List.getElem?_eq_getElem hl2] using h
                rw [HSAME] at P2
                obtain ⟨z, hz⟩ : ∃ z, r.ps[k2].at_ = z := ⟨_, rfl⟩
                rw [hz] at P1 P2
                clear hz HSAME
                have HP1c := Lib.hid P1
                have HP2c := Lib.hid P2
                have HA1 := Lib.hid had1
                have HA2 := Lib.hid had2
                clear P1 P2 had1 had2
                go_wp2_with fail
                clear cp2
                apply wp_region_rel 13 (Chg NoS) [(Veq _), (Veq _), (Veq _), (Veq _), (Veq _), (Veq _), (Veq _), (Veq _), (Veq _), (Veq _), (Veq _), (Veq _), (Veq _)] [[], [0], [], [1, 2], [3], [4], [], [6], [], [7, 8], [9], [10], [5, 11]] [141, 142, 143, 144, 145, 146, 147, 148, 149, 150, 151, 152, 153] (by kernel_rfl) (by kernel_rfl) rfl rfl rfl Chg.refl (fun _ _ _ => Chg.trans) ⟨Veq.lasts, Veq.lasts, Veq.lasts, Veq.lasts, Veq.lasts, Veq.lasts, Veq.lasts, Veq.lasts, Veq.lasts, Veq.lasts, Veq.lasts, Veq.lasts, Veq.lasts, trivial⟩ ?aops ?afin
                case aops =>
                  refine ⟨?ao0, ?ao1, ?ao2, ?ao3, ?ao4, ?ao5, ?ao6, ?ao7, ?ao8, ?ao9, ?ao10, ?ao11, ?ao12, trivial⟩
                  case ao0 =>
                    intro a wx hE hin
                    have i13 : a.eval (.tmp 13) = .pointer (some ⟨ga, 0, none⟩) := hin 13 rfl
                    clear hin
                    have hcst : ∀ v, a.eval (.const v) = v := fun _ => rfl
                    have hfnc : ∀ f, a.eval (.func f) = .func (.func f) #[] #[] := fun _ => rfl
                    refine want_none rfl ?_
                    unfold Oper.wp
                    generalize a.eval = ρ at *
                    go_simp
                    try go_bits
                    first | exact rel_val (Chg.refl _) | (go_simp; exact rel_val (Chg.refl _))
                  case ao1 =>
                    rintro a wx hE hin (h0 : a.eval (.tmp 141) = _)
                    clear hin
                    have hcst : ∀ v, a.eval (.const v) = v := fun _ => rfl
                    have hfnc : ∀ f, a.eval (.func f) = .func (.func f) #[] #[] := fun _ => rfl
                    refine want_none rfl ?_
                    unfold Oper.wp
                    generalize a.eval = ρ at *
                    have c := Bk.cell (j := 2) (Kawr.out.drew.chg hE id) rfl
                    rw [HRN.out, HA2.out] at c
                    go_simp
                    try go_bits
                    first | exact rel_val (Chg.refl _) | (go_simp; exact rel_val (Chg.refl _))
                  case ao2 =>
                    intro a wx hE hin
                    have i15 : a.eval (.tmp 15) = .int .i64 k2 := hin 15 rfl
                    clear hin
                    have hcst : ∀ v, a.eval (.const v) = v := fun _ => rfl
                    have hfnc : ∀ f, a.eval (.func f) = .func (.func f) #[] #[] := fun _ => rfl
                    refine want_none rfl ?_
                    unfold Oper.wp
                    generalize a.eval = ρ at *
                    go_simp
                    try go_bits
                    first | exact rel_val (Chg.refl _) | (go_simp; exact rel_val (Chg.refl _))
                  case ao3 =>
                    rintro a wx hE hin (h1 : a.eval (.tmp 142) = _) (h2 : a.eval (.tmp 143) = _)
                    clear hin
                    have hcst : ∀ v, a.eval (.const v) = v := fun _ => rfl
                    have hfnc : ∀ f, a.eval (.func f) = .func (.func f) #[] #[] := fun _ => rfl
                    refine want_none rfl ?_
                    unfold Oper.wp
                    generalize a.eval = ρ at *
                    go_simp
                    try go_bits
                    first | exact rel_val (Chg.refl _) | (go_simp; exact rel_val (Chg.refl _))
                  case ao4 =>
                    rintro a wx hE hin (h3 : a.eval (.tmp 144) = _)
                    clear hin
                    have hcst : ∀ v, a.eval (.const v) = v := fun _ => rfl
                    have hfnc : ∀ f, a.eval (.func f) = .func (.func f) #[] #[] := fun _ => rfl
                    refine want_none rfl ?_
                    unfold Oper.wp
                    generalize a.eval = ρ at *
                    go_simp
                    try go_bits
                    first | exact rel_val (Chg.refl _) | (go_simp; exact rel_val (Chg.refl _))
                  case ao5 =>
                    rintro a wx hE hin (h4 : a.eval (.tmp 145) = _)
                    clear hin
                    have hcst : ∀ v, a.eval (.const v) = v := fun _ => rfl
                    have hfnc : ∀ f, a.eval (.func f) = .func (.func f) #[] #[] := fun _ => rfl
                    refine want_none rfl ?_
                    unfold Oper.wp
                    generalize a.eval = ρ at *
                    have c := hE.cell (w := wr.drew) HP2c.out id
                    go_simp
                    try go_bits
                    first | exact rel_val (Chg.refl _) | (go_simp; exact rel_val (Chg.refl _))
                  case ao6 =>
                    intro a wx hE hin
                    have i3 : a.eval (.tmp 3) = .pointer (some ⟨w.heap.size, 0, none⟩) := hin 3 rfl
                    clear hin
                    have hcst : ∀ v, a.eval (.const v) = v := fun _ => rfl
                    have hfnc : ∀ f, a.eval (.func f) = .func (.func f) #[] #[] := fun _ => rfl
                    refine want_none rfl ?_
                    unfold Oper.wp
                    generalize a.eval = ρ at *
                    go_simp
                    try go_bits
                    first | exact rel_val (Chg.refl _) | (go_simp; exact rel_val (Chg.refl _))
                  case ao7 =>
                    rintro a wx hE hin (h6 : a.eval (.tmp 147) = _)
                    clear hin
                    have hcst : ∀ v, a.eval (.const v) = v := fun _ => rfl
                    have hfnc : ∀ f, a.eval (.func f) = .func (.func f) #[] #[] := fun _ => rfl
                    refine want_none rfl ?_
                    unfold Oper.wp
                    generalize a.eval = ρ at *
                    have c := Bk.cell (Kpwr.out.drew.chg hE id) DR2.out
                    rw [HA1.out] at c
                    go_simp
                    try go_bits
                    first | exact rel_val (Chg.refl _) | (go_simp; exact rel_val (Chg.refl _))
                  case ao8 =>
                    intro a wx hE hin
                    have i15 : a.eval (.tmp 15) = .int .i64 k2 := hin 15 rfl
                    clear hin
                    have hcst : ∀ v, a.eval (.const v) = v := fun _ => rfl
                    have hfnc : ∀ f, a.eval (.func f) = .func (.func f) #[] #[] := fun _ => rfl
                    refine want_none rfl ?_
                    unfold Oper.wp
                    generalize a.eval = ρ at *
                    go_simp
                    try go_bits
                    first | exact rel_val (Chg.refl _) | (go_simp; exact rel_val (Chg.refl _))
                  case ao9 =>
                    rintro a wx hE hin (h7 : a.eval (.tmp 148) = _) (h8 : a.eval (.tmp 149) = _)
                    clear hin
                    have hcst : ∀ v, a.eval (.const v) = v := fun _ => rfl
                    have hfnc : ∀ f, a.eval (.func f) = .func (.func f) #[] #[] := fun _ => rfl
                    refine want_none rfl ?_
                    unfold Oper.wp
                    generalize a.eval = ρ at *
                    go_simp
                    try go_bits
                    first | exact rel_val (Chg.refl _) | (go_simp; exact rel_val (Chg.refl _))
                  case ao10 =>
                    rintro a wx hE hin (h9 : a.eval (.tmp 150) = _)
                    clear hin
                    have hcst : ∀ v, a.eval (.const v) = v := fun _ => rfl
                    have hfnc : ∀ f, a.eval (.func f) = .func (.func f) #[] #[] := fun _ => rfl
                    refine want_none rfl ?_
                    unfold Oper.wp
                    generalize a.eval = ρ at *
                    go_simp
                    try go_bits
                    first | exact rel_val (Chg.refl _) | (go_simp; exact rel_val (Chg.refl _))
                  case ao11 =>
                    rintro a wx hE hin (h10 : a.eval (.tmp 151) = _)
                    clear hin
                    have hcst : ∀ v, a.eval (.const v) = v := fun _ => rfl
                    have hfnc : ∀ f, a.eval (.func f) = .func (.func f) #[] #[] := fun _ => rfl
                    refine want_none rfl ?_
                    unfold Oper.wp
                    generalize a.eval = ρ at *
                    have c := hE.cell (w := wr.drew) HP1c.out id
                    go_simp
                    try go_bits
                    first | exact rel_val (Chg.refl _) | (go_simp; exact rel_val (Chg.refl _))
                  case ao12 =>
                    rintro a wx hE hin (h5 : a.eval (.tmp 146) = _) (h11 : a.eval (.tmp 152) = _)
                    clear hin
                    have hcst : ∀ v, a.eval (.const v) = v := fun _ => rfl
                    have hfnc : ∀ f, a.eval (.func f) = .func (.func f) #[] #[] := fun _ => rfl
                    refine want_none rfl ?_
                    unfold Oper.wp
                    generalize a.eval = ρ at *
                    go_simp
                    try go_bits
                    first | exact rel_val (Chg.refl _) | (go_simp; exact rel_val (Chg.refl _))
                case afin =>
                  intro wx hE
                  rintro _ rfl _ rfl _ rfl _ rfl _ rfl _ rfl _ rfl _ rfl _ rfl _ rfl _ rfl _ rfl _ rfl
                  simp only [FinOk, List.take_succ_cons, List.take_zero, List.take_nil, List.drop_succ_cons, List.drop_zero, List.drop_nil, Act.put, List.setIfInBounds_toArray, List.set_cons_succ, List.set_cons_zero]
                  have BX : Hid (Below w11.heap.size w11 wx) := BR2.out.trans (hE.undrew.below BR2.out.size (fun _ _ => id))
                  clear hE
                  go_wp2_with fail
                  go_roundw
                  case rel => exact ⟨k2 + 1, by omega, by go_num, BX.out⟩
                  case measure => simp [intOf]; omega
              · have hke2 : k2 = r.n := by omega
                have hki2 : ¬ (k2 : Int) < (r.n : Int) := by omega
                go_wp2_with fail
                clear cp2
                refine (wakes8_calls wr).mono ?_
                rintro en w12 ⟨rfl, hb⟩
                have Ew12 : Hid (Below w.heap.size w w12) := Ewr.out.trans (hb.mono Ewr.out.size)
                have Kpw12 : Hid (Bk w12 w.heap.size bx) := Kpwr.out.below hb
                have Kqw12 : Hid (Bk w12 (w.heap.size + 1) by_) := Kqwr.out.below hb
                have Knw12 : Hid (Bk w12 (w.heap.size + 2) bn) := Knwr.out.below hb
                have Kaw12 : Hid (Bk w12 ga [vu32 rr.e, vu32 rr.q, .slice Aw9 rr.ps.length cw9]) := Kawr.out.below hb
                have Rw9w12 : Hid (Rd w12 Aw9 (rr.ps.flatMap putC)) := Rw9wr.out.below hb
                have Ddw12 : Hid (DSes 99 w w12 gd gsd lvdw8 (TD.up ks)) := Ddwr.out.below hb
                clear Ewr Kpwr Kqwr Knwr Kawr Rw9wr Ddwr
                clear hb
                go_wp2_with fail
                (try simp only [Exit.inBlock, Exit.then])
                go_ret
                exact ⟨rfl, Ew12.out⟩
          have h3 : ¬ rr.ps = t.ps := fun h => hnew (by cases rr; simp_all)
          rw [h1] at HRE
          rw [← HRE.out] at cp0
          rw [h1] at ca0
          rw [h2] at HRQ
          rw [← HRQ.out] at cp1
          rw [h2] at ca1
          rw [HRN.out] at ca2
          clear h1 h2 hnew
          go_wp2_with fail
          rw [← HRN.out]
          refine (keepPuts_calls rr.ps t.ps Aw9 t.A rr.ps.length t.n cw9 t.c w11 rfl HOT.out.len RL.out Rw9w11.out (HOT.out.rd.below Ew11.out) RPO.out HOT.out.ok).mono ?_
          rintro en w12 ⟨rfl, hb⟩
          have Ew12 : Hid (Below w.heap.size w w12) := Ew11.out.trans (hb.mono Ew11.out.size)
          have Kpw12 : Hid (Bk w12 w.heap.size bx) := Kpw11.out.below hb
          have Kqw12 : Hid (Bk w12 (w.heap.size + 1) by_) := Kqw11.out.below hb
          have Knw12 : Hid (Bk w12 (w.heap.size + 2) bn) := Knw11.out.below hb
          have Kaw12 : Hid (Bk w12 ga [vu32 rr.e, vu32 rr.q, .slice Aw9 rr.ps.length cw9]) := Kaw11.out.below hb
          have Rw9w12 : Hid (Rd w12 Aw9 (rr.ps.flatMap putC)) := Rw9w11.out.below hb
          have Ddw12 : Hid (DSes 99 w w12 gd gsd lvdw8 (TD.up ks)) := Ddw11.out.below hb
          clear Ew11 Kpw11 Kqw11 Knw11 Kaw11 Rw9w11 Ddw11
          clear hb
          rw [decide_eq_false h3]
          clear ca0 ca1 ca2 cp0 cp1 cp2 cq0 cq1 cq2
          have ca0 := Kaw12.out.cell (j := 0) rfl
          have ca1 := Kaw12.out.cell (j := 1) rfl
          have ca2 := Kaw12.out.cell (j := 2) rfl
          have cp0 := Kpw12.out.cell DR0.out
          have cq0 := Kqw12.out.cell DT0.out
          have cp1 := Kpw12.out.cell DR1.out
          have cq1 := Kqw12.out.cell DT1.out
          have cp2 := Kpw12.out.cell DR2.out
          have cq2 := Kqw12.out.cell DT2.out
          rw [HREO.out] at ca0
          rw [HRQO.out] at ca1
          rw [HRN.out] at ca2
          go_wp2_with fail
          clear ca0 ca1 ca2 cq0 cq1 cq2
          have H1 : Hid (TornRel r.n w12 (.int .i64 0) w12) := ⟨0, Nat.zero_le _, rfl, Below.refl _ _⟩
          go_loopw [15] (fun v15 wr2 => TornRel r.n w12 v15 wr2) (fun v15 _ => r.n - (intOf v15).toNat)
          case atStart => exact H1.out
          case round =>
            obtain ⟨k2, hk2, rfl, hb2⟩ := hrel
            have BR2 := Lib.hid hb2
            clear hb2 H1 cp0 cp1 cp2
            have Ewr : Hid (Below w.heap.size w wr) := Ew12.out.trans (BR2.out.mono Ew12.out.size)
            have Kpwr : Hid (Bk wr w.heap.size bx) := Kpw12.out.below BR2.out
            have Kqwr : Hid (Bk wr (w.heap.size + 1) by_) := Kqw12.out.below BR2.out
            have Knwr : Hid (Bk wr (w.heap.size + 2) bn) := Knw12.out.below BR2.out
            have Kawr : Hid (Bk wr ga [vu32 rr.e, vu32 rr.q, .slice Aw9 rr.ps.length cw9]) := Kaw12.out.below BR2.out
            have Rw9wr : Hid (Rd wr Aw9 (rr.ps.flatMap putC)) := Rw9w12.out.below BR2.out
            have Ddwr : Hid (DSes 99 w wr gd gsd lvdw8 (TD.up ks)) := Ddw12.out.below BR2.out
            have cp2 := Kpwr.out.cell DR2.out
            by_cases hlt2 : k2 < r.n
            · have hki2 : (k2 : Int) < (r.n : Int) := by omega
              have hl1 : k2 < r.ps.length := by rw [HOK.out.len]; exact hlt2
              have hl2 : k2 < rr.ps.length := by rw [HRN.out]; exact hlt2
              obtain ⟨ad1, had1⟩ := puts_some HOK.out.rd hl1
              obtain ⟨ad2, had2⟩ := puts_some Rw9wr.out hl2
              have P1 := put_at (by rw [← had1]; exact HOK.out.rd.below Ewr.out) HOK.out.ok hl1
              have P2 := put_at (by rw [← had2]; exact Rw9wr.out) RPO.out hl2
              have HSAME : rr.ps[k2].at_ = r.ps[k2].at_ := by have h := congrArg (·[k2]?) HRA.out; simpa [List.getElem?_eq_getElem hl1, List.getElem?_eq_getElem hl2] using h
              rw [HSAME] at P2
              obtain ⟨z, hz⟩ : ∃ z, r.ps[k2].at_ = z := ⟨_, rfl⟩
              rw [hz] at P1 P2
              clear hz HSAME
              have HP1c := Lib.hid P1
              have HP2c := Lib.hid P2
              have HA1 := Lib.hid had1
              have HA2 := Lib.hid had2
              clear P1 P2 had1 had2
              go_wp2_with fail
              clear cp2
              apply wp_region_rel 13 (Chg NoS) [(Veq _), (Veq _), (Veq _), (Veq _), (Veq _), (Veq _), (Veq _), (Veq _), (Veq _), (Veq _), (Veq _), (Veq _), (Veq _)] [[], [0], [], [1, 2], [3], [4], [], [6], [], [7, 8], [9], [10], [5, 11]] [141, 142, 143, 144, 145, 146, 147, 148, 149, 150, 151, 152, 153] (by kernel_rfl) (by kernel_rfl) rfl rfl rfl Chg.refl (fun _ _ _ => Chg.trans) ⟨Veq.lasts, Veq.lasts, Veq.lasts, Veq.lasts, Veq.lasts, Veq.lasts, Veq.lasts, Veq.lasts, Veq.lasts, Veq.lasts, Veq.lasts, Veq.lasts, Veq.lasts, trivial⟩ ?aops ?afin
              case aops =>
                refine ⟨?ao0, ?ao1, ?ao2, ?ao3, ?ao4, ?ao5, ?ao6, ?ao7, ?ao8, ?ao9, ?ao10, ?ao11, ?ao12, trivial⟩
                case ao0 =>
                  intro a wx hE hin
                  have i13 : a.eval (.tmp 13) = .pointer (some ⟨ga, 0, none⟩) := hin 13 rfl
                  clear hin
                  have hcst : ∀ v, a.eval (.const v) = v := fun _ => rfl
                  have hfnc : ∀ f, a.eval (.func f) = .func (.func f) #[] #[] := fun _ => rfl
                  refine want_none rfl ?_
                  unfold Oper.wp
                  generalize a.eval = ρ at *
                  go_simp
                  try go_bits
                  first | exact rel_val (Chg.refl _) | (go_simp; exact rel_val (Chg.refl _))
                case ao1 =>
                  rintro a wx hE hin (h0 : a.eval (.tmp 141) = _)
                  clear hin
                  have hcst : ∀ v, a.eval (.const v) = v := fun _ => rfl
                  have hfnc : ∀ f, a.eval (.func f) = .func (.func f) #[] #[] := fun _ => rfl
                  refine want_none rfl ?_
                  unfold Oper.wp
                  generalize a.eval = ρ at *
                  have c := Bk.cell (j := 2) (Kawr.out.drew.chg hE id) rfl
                  rw [HRN.out, HA2.out] at c
                  go_simp
                  try go_bits
                  first | exact rel_val (Chg.refl _) | (go_simp; exact rel_val (Chg.refl _))
                case ao2 =>
                  intro a wx hE hin
                  have i15 : a.eval (.tmp 15) = .int .i64 k2 := hin 15 rfl
                  clear hin
                  have hcst : ∀ v, a.eval (.const v) = v := fun _ => rfl
                  have hfnc : ∀ f, a.eval (.func f) = .func (.func f) #[] #[] := fun _ => rfl
                  refine want_none rfl ?_
                  unfold Oper.wp
                  generalize a.eval = ρ at *
                  go_simp
                  try go_bits
                  first | exact rel_val (Chg.refl _) | (go_simp; exact rel_val (Chg.refl _))
                case ao3 =>
                  rintro a wx hE hin (h1 : a.eval (.tmp 142) = _) (h2 : a.eval (.tmp 143) = _)
                  clear hin
                  have hcst : ∀ v, a.eval (.const v) = v := fun _ => rfl
                  have hfnc : ∀ f, a.eval (.func f) = .func (.func f) #[] #[] := fun _ => rfl
                  refine want_none rfl ?_
                  unfold Oper.wp
                  generalize a.eval = ρ at *
                  go_simp
                  try go_bits
                  first | exact rel_val (Chg.refl _) | (go_simp; exact rel_val (Chg.refl _))
                case ao4 =>
                  rintro a wx hE hin (h3 : a.eval (.tmp 144) = _)
                  clear hin
                  have hcst : ∀ v, a.eval (.const v) = v := fun _ => rfl
                  have hfnc : ∀ f, a.eval (.func f) = .func (.func f) #[] #[] := fun _ => rfl
                  refine want_none rfl ?_
                  unfold Oper.wp
                  generalize a.eval = ρ at *
                  go_simp
                  try go_bits
                  first | exact rel_val (Chg.refl _) | (go_simp; exact rel_val (Chg.refl _))
                case ao5 =>
                  rintro a wx hE hin (h4 : a.eval (.tmp 145) = _)
                  clear hin
                  have hcst : ∀ v, a.eval (.const v) = v := fun _ => rfl
                  have hfnc : ∀ f, a.eval (.func f) = .func (.func f) #[] #[] := fun _ => rfl
                  refine want_none rfl ?_
                  unfold Oper.wp
                  generalize a.eval = ρ at *
                  have c := hE.cell (w := wr.drew) HP2c.out id
                  go_simp
                  try go_bits
                  first | exact rel_val (Chg.refl _) | (go_simp; exact rel_val (Chg.refl _))
                case ao6 =>
                  intro a wx hE hin
                  have i3 : a.eval (.tmp 3) = .pointer (some ⟨w.heap.size, 0, none⟩) := hin 3 rfl
                  clear hin
                  have hcst : ∀ v, a.eval (.const v) = v := fun _ => rfl
                  have hfnc : ∀ f, a.eval (.func f) = .func (.func f) #[] #[] := fun _ => rfl
                  refine want_none rfl ?_
                  unfold Oper.wp
                  generalize a.eval = ρ at *
                  go_simp
                  try go_bits
                  first | exact rel_val (Chg.refl _) | (go_simp; exact rel_val (Chg.refl _))
                case ao7 =>
                  rintro a wx hE hin (h6 : a.eval (.tmp 147) = _)
                  clear hin
                  have hcst : ∀ v, a.eval (.const v) = v := fun _ => rfl
                  have hfnc : ∀ f, a.eval (.func f) = .func (.func f) #[] #[] := fun _ => rfl
                  refine want_none rfl ?_
                  unfold Oper.wp
                  generalize a.eval = ρ at *
                  have c := Bk.cell (Kpwr.out.drew.chg hE id) DR2.out
                  rw [HA1.out] at c
                  go_simp
                  try go_bits
                  first | exact rel_val (Chg.refl _) | (go_simp; exact rel_val (Chg.refl _))
                case ao8 =>
                  intro a wx hE hin
                  have i15 : a.eval (.tmp 15) = .int .i64 k2 := hin 15 rfl
                  clear hin
                  have hcst : ∀ v, a.eval (.const v) = v := fun _ => rfl
                  have hfnc : ∀ f, a.eval (.func f) = .func (.func f) #[] #[] := fun _ => rfl
                  refine want_none rfl ?_
                  unfold Oper.wp
                  generalize a.eval = ρ at *
                  go_simp
                  try go_bits
                  first | exact rel_val (Chg.refl _) | (go_simp; exact rel_val (Chg.refl _))
                case ao9 =>
                  rintro a wx hE hin (h7 : a.eval (.tmp 148) = _) (h8 : a.eval (.tmp 149) = _)
                  clear hin
                  have hcst : ∀ v, a.eval (.const v) = v := fun _ => rfl
                  have hfnc : ∀ f, a.eval (.func f) = .func (.func f) #[] #[] := fun _ => rfl
                  refine want_none rfl ?_
                  unfold Oper.wp
                  generalize a.eval = ρ at *
                  go_simp
                  try go_bits
                  first | exact rel_val (Chg.refl _) | (go_simp; exact rel_val (Chg.refl _))
                case ao10 =>
                  rintro a wx hE hin (h9 : a.eval (.tmp 150) = _)
                  clear hin
                  have hcst : ∀ v, a.eval (.const v) = v := fun _ => rfl
                  have hfnc : ∀ f, a.eval (.func f) = .func (.func f) #[] #[] := fun _ => rfl
                  refine want_none rfl ?_
                  unfold Oper.wp
                  generalize a.eval = ρ at *
                  go_simp
                  try go_bits
                  first | exact rel_val (Chg.refl _) | (go_simp; exact rel_val (Chg.refl _))
                case ao11 =>
                  rintro a wx hE hin (h10 : a.eval (.tmp 151) = _)
                  clear hin
                  have hcst : ∀ v, a.eval (.const v) = v := fun _ => rfl
                  have hfnc : ∀ f, a.eval (.func f) = .func (.func f) #[] #[] := fun _ => rfl
                  refine want_none rfl ?_
                  unfold Oper.wp
                  generalize a.eval = ρ at *
                  have c := hE.cell (w := wr.drew) HP1c.out id
                  go_simp
                  try go_bits
                  first | exact rel_val (Chg.refl _) | (go_simp; exact rel_val (Chg.refl _))
                case ao12 =>
                  rintro a wx hE hin (h5 : a.eval (.tmp 146) = _) (h11 : a.eval (.tmp 152) = _)
                  clear hin
                  have hcst : ∀ v, a.eval (.const v) = v := fun _ => rfl
                  have hfnc : ∀ f, a.eval (.func f) = .func (.func f) #[] #[] := fun _ => rfl
                  refine want_none rfl ?_
                  unfold Oper.wp
                  generalize a.eval = ρ at *
                  go_simp
                  try go_bits
                  first | exact rel_val (Chg.refl _) | (go_simp; exact rel_val (Chg.refl _))
              case afin =>
                intro wx hE
                rintro _ rfl _ rfl _ rfl _ rfl _ rfl _ rfl _ rfl _ rfl _ rfl _ rfl _ rfl _ rfl _ rfl
                simp only [FinOk, List.take_succ_cons, List.take_zero, List.take_nil, List.drop_succ_cons, List.drop_zero, List.drop_nil, Act.put, List.setIfInBounds_toArray, List.set_cons_succ, List.set_cons_zero]
                have BX : Hid (Below w12.heap.size w12 wx) := BR2.out.trans (hE.undrew.below BR2.out.size (fun _ _ => id))
                clear hE
                go_wp2_with fail
                go_roundw
                case rel => exact ⟨k2 + 1, by omega, by go_num, BX.out⟩
                case measure => simp [intOf]; omega
            · have hke2 : k2 = r.n := by omega
              have hki2 : ¬ (k2 : Int) < (r.n : Int) := by omega
              go_wp2_with fail
              clear cp2
              refine (wakes8_calls wr).mono ?_
              rintro en w13 ⟨rfl, hb⟩
              have Ew13 : Hid (Below w.heap.size w w13) := Ewr.out.trans (hb.mono Ewr.out.size)
              have Kpw13 : Hid (Bk w13 w.heap.size bx) := Kpwr.out.below hb
              have Kqw13 : Hid (Bk w13 (w.heap.size + 1) by_) := Kqwr.out.below hb
              have Knw13 : Hid (Bk w13 (w.heap.size + 2) bn) := Knwr.out.below hb
              have Kaw13 : Hid (Bk w13 ga [vu32 rr.e, vu32 rr.q, .slice Aw9 rr.ps.length cw9]) := Kawr.out.below hb
              have Rw9w13 : Hid (Rd w13 Aw9 (rr.ps.flatMap putC)) := Rw9wr.out.below hb
              have Ddw13 : Hid (DSes 99 w w13 gd gsd lvdw8 (TD.up ks)) := Ddwr.out.below hb
              clear Ewr Kpwr Kqwr Knwr Kawr Rw9wr Ddwr
              clear hb
              go_wp2_with fail
              (try simp only [Exit.inBlock, Exit.then])
              go_ret
              exact ⟨rfl, Ew13.out⟩
end Go.Proofs.Ytchcnkobgdbdkaa
