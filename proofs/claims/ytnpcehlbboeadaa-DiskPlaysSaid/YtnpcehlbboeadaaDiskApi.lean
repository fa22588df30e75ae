/- The disk's functions, program's and reference's, by what they make of a disk's state; and those of a disk that nobody made. -/
import Derived.Test.YtnpcehlbboeadaaDiskUpR
import Derived.Test.YtnpcehlbboeadaaDiskFlushR
namespace Go.Proofs.Ytnpcehlbboeadaa
open Go.RowKit
set_option linter.unusedVariables false
set_option linter.unusedSimpArgs false

/-- A disk's state: sectors, loose writes, fuse, down. -/
structure Dst where
  S : List (List UInt8)
  L : List (Nat × List UInt8)
  f : Int
  dn : Bool
def Dst.has (s : Dst) (i : Int) : Prop := 0 ≤ i ∧ i < (s.S.length : Int)
instance (s : Dst) (i : Int) : Decidable (s.has i) := inferInstanceAs (Decidable (_ ∧ _))
def Dst.write (s : Dst) (i : Int) (b : List UInt8) : Dst := if s.has i then (if passD s.f s.dn = true then ⟨s.S, s.L, passF s.f s.dn, true⟩ else ⟨s.S, s.L ++ [(i.toNat, b)], passF s.f s.dn, false⟩) else s
def Dst.writeE (s : Dst) (i : Int) : Int := if s.has i then (if passD s.f s.dn = true then 20 else 0) else 1
def Dst.flush (s : Dst) : Dst := if passD s.f s.dn = true then ⟨s.S, s.L, passF s.f s.dn, true⟩ else ⟨doneS s.S s.L, [], passF s.f s.dn, false⟩
def Dst.flushE (s : Dst) : Int := if passD s.f s.dn = true then 20 else 0
def Dst.up (s : Dst) (ks : List UInt8) : Dst := ⟨upS s.S s.L ks, [], -1, false⟩
def Dst.fuse (s : Dst) (n : Int) : Dst := ⟨s.S, s.L, n, s.dn⟩
def DAt (wT : TypeId) (w : World) (g gs : Nat) (lv : Value) (s : Dst) : Prop := DiskAt wT w g gs lv s.S s.L s.f s.dn
/-- What an operation that turns a disk leaves. -/
def DPost (wT : TypeId) (w : World) (g gs : Nat) (lv : Value) (s' : Dst) (r : Value) (e : Ending) (w' : World) : Prop :=
  e = .returned r ∧ ∃ lv', DAt wT w' g gs lv' s' ∧ (∀ j, footD g gs lv' j → footD g gs lv j ∨ w.heap.size ≤ j) ∧ Chg (footD g gs lv) w w'
theorem own_one {w : World} {base n : Nat} {e : TypeId} {size : Nat} {v : Value} {xs : List Value} (h : w.ownsRow base e size v n xs) : v.oneCell' = true := by
  obtain ⟨A, c, rfl, _⟩ := own_rd h
  rfl
theorem rowsL_snoc (L : List (Nat × List UInt8)) (i : Nat) (b : List UInt8) : rowsL (L ++ [(i, b)]) = rowsL L ++ rowW (i : Int) b := by simp [rowsL, List.flatMap_append]
theorem DiskAt.snoc {wT : TypeId} {w w' : World} {g gs : Nat} {lv lv' : Value} {S : List (List UInt8)} {L : List (Nat × List UInt8)} {f f' : Int} {dn dn' : Bool} (h : DiskAt wT w g gs lv S L f dn) (i : Nat) (b : List UInt8) (hb : b.length = 32) (hi : i < S.length)
    (hd : Dk w' g (.slice (some ⟨gs, 0, none⟩) S.length S.length) lv' f' dn') (ho : w'.ownsRow 0 wT 33 lv' (L.length + 1) (rowsL L ++ rowW (i : Int) b)) (hl : lv'.ownBlock = lv.ownBlock ∨ ∃ j, lv'.ownBlock = some j ∧ w.heap.size ≤ j) (hc : Chg (fun j => j = g ∨ lv.ownBlock = some j) w w') :
    DiskAt wT w' g gs lv' S (L ++ [(i, b)]) f' dn' ∧ (∀ j, footD g gs lv' j → footD g gs lv j ∨ w.heap.size ≤ j) ∧ Chg (footD g gs lv) w w' := by
  refine ⟨⟨hd, h.sb.chg hc (fun hh => hh.elim (fun e => h.ne e.symm) h.ls), h.s32, by rw [rowsL_snoc, List.length_append]; exact ho, ?_, h.ne, ?_, ?_, h.sl⟩, ?_, hc.mono (fun j hj => hj.elim .inl (fun x => .inr (.inr x)))⟩
  · intro p hp
    rcases List.mem_append.1 hp with hp | hp
    · exact h.l32 p hp
    · obtain rfl := List.mem_singleton.1 hp
      exact ⟨hb, hi⟩
  · intro he
    rcases hl with hl | ⟨j, hl, hj⟩
    · exact h.lg (by rw [← hl, he])
    · rw [hl] at he
      injection he with he
      have := h.lt g (.inl rfl)
      omega
  · intro he
    rcases hl with hl | ⟨j, hl, hj⟩
    · exact h.ls (by rw [← hl, he])
    · rw [hl] at he
      injection he with he
      have := h.lt gs (.inr (.inl rfl))
      omega
  · rintro j (hj | hj | hj)
    · exact .inl (.inl hj)
    · exact .inl (.inr (.inl hj))
    · rcases hl with hl | ⟨k, hl, hk⟩
      · exact .inl (.inr (.inr (by rw [← hl, hj])))
      · rw [hl] at hj
        injection hj with hj
        exact .inr (by omega)
section
variable {wT : TypeId} {w w' : World} {g gs : Nat} {lv : Value} {s : Dst}
theorem DAt.same (h : DAt wT w g gs lv s) (hb : Below w.heap.size w w') (r : Value) : DPost wT w g gs lv s r (.returned r) w' := ⟨rfl, lv, h.below hb, fun _ hj => .inl hj, .of_below hb⟩
theorem DAt.only (h : DAt wT w' g gs lv s) (hc : Chg (· = g) w w') (r : Value) : DPost wT w g gs lv s r (.returned r) w' := ⟨rfl, lv, h, fun _ hj => .inl hj, hc.mono fun _ hj => .inl hj⟩
theorem DAt.nil (h : DAt wT w' g gs (.slice none 0 0) s) (hc : Chg (fun j => j = g ∨ j = gs) w w') (r : Value) : DPost wT w g gs lv s r (.returned r) w' :=
  ⟨rfl, _, h, fun j hj => .inl (hj.elim .inl fun hh => hh.elim (fun x => .inr (.inl x)) (fun x => by cases x)), hc.mono fun _ hj => hj.elim .inl fun x => .inr (.inl x)⟩
end
theorem diskWrite_at (w : World) (g gs : Nat) (lv : Value) (s : Dst) (i : Int) (b : List UInt8) (hd : DAt 91 w g gs lv s) (hb : b.length = 32) (hk : s.L.length ≤ 1000) (hf : -1 ≤ s.f) (hf2 : s.f ≤ 9223372036854775807) :
    Calls Try.prog 17 #[.pointer (some ⟨g, 0, none⟩), .int .i64 i, .agg (bts b).toArray] w (DPost 91 w g gs lv (s.write i b) (.int .i64 (s.writeE i))) := by
  by_cases hi : s.has i
  · rw [Dst.write, Dst.writeE, if_pos hi, if_pos hi]
    by_cases hp : passD s.f s.dn = true
    · rw [if_pos hp, if_pos hp]
      refine (diskWrite_down w g _ _ _ lv s.f s.dn i b hd.dk hi hp hf hf2 (own_one hd.own)).mono ?_
      rintro e w' ⟨rfl, h1, h2⟩
      exact DAt.only (by exact hd.redk h2 h1) h2 _
    · rw [if_neg hp, if_neg hp]
      obtain ⟨m, rfl⟩ := Int.eq_ofNat_of_zero_le hi.1
      refine (diskWrite_yes w 0 g _ _ _ lv s.f s.dn m b s.L.length (rowsL s.L) hd.dk hd.own hb hi.1 hi.2 (by simpa using hp) hd.lg hk (Nat.zero_le _) hf hf2 (own_one hd.own)).mono ?_
      rintro e w' ⟨rfl, lv', h1, h2, h3, h4⟩
      exact ⟨rfl, lv', hd.snoc m b hb (by have := hi.2; omega) h1 h2 h3 h4⟩
  · rw [Dst.write, Dst.writeE, if_neg hi, if_neg hi]
    refine (diskWrite_arg w g _ _ _ lv s.f s.dn i b hd.dk hi).mono ?_
    rintro e w' ⟨rfl, h1⟩
    exact DAt.same hd h1 _
theorem refWrite_at (w : World) (g gs : Nat) (lv : Value) (s : Dst) (i : Int) (b : List UInt8) (hd : DAt 93 w g gs lv s) (hb : b.length = 32) (hk : s.L.length ≤ 1000) (hf : -9223372036854775808 ≤ s.f) (hf2 : s.f ≤ 9223372036854775807) :
    Calls Try.prog 19 #[.pointer (some ⟨g, 0, none⟩), .int .i64 i, .agg (bts b).toArray] w (DPost 93 w g gs lv (s.write i b) (.int .i64 (s.writeE i))) := by
  by_cases hi : s.has i
  · rw [Dst.write, Dst.writeE, if_pos hi, if_pos hi]
    by_cases hp : passD s.f s.dn = true
    · rw [if_pos hp, if_pos hp]
      refine (refWrite_down w g _ _ _ lv s.f s.dn i b hd.dk hi hp hf hf2 (own_one hd.own)).mono ?_
      rintro e w' ⟨rfl, h1, h2⟩
      exact DAt.only (by exact hd.redk h2 h1) h2 _
    · rw [if_neg hp, if_neg hp]
      obtain ⟨m, rfl⟩ := Int.eq_ofNat_of_zero_le hi.1
      refine (refWrite_yes w 0 g _ _ _ lv s.f s.dn m b s.L.length (rowsL s.L) hd.dk hd.own hb hi.1 hi.2 (by simpa using hp) hd.lg hk (Nat.zero_le _) hf hf2 (own_one hd.own)).mono ?_
      rintro e w' ⟨rfl, lv', h1, h2, h3, h4⟩
      exact ⟨rfl, lv', hd.snoc m b hb (by have := hi.2; omega) h1 h2 h3 h4⟩
  · rw [Dst.write, Dst.writeE, if_neg hi, if_neg hi]
    refine (refWrite_arg w g _ _ _ lv s.f s.dn i b hd.dk hi).mono ?_
    rintro e w' ⟨rfl, h1⟩
    exact DAt.same hd h1 _
theorem diskFlush_at (w : World) (g gs : Nat) (lv : Value) (s : Dst) (hd : DAt 91 w g gs lv s) (hf : -1 ≤ s.f) (hf2 : s.f ≤ 9223372036854775807) :
    Calls Try.prog 22 #[.pointer (some ⟨g, 0, none⟩)] w (DPost 91 w g gs lv s.flush (.int .i64 s.flushE)) := by
  by_cases hp : passD s.f s.dn = true
  · rw [Dst.flush, Dst.flushE, if_pos hp, if_pos hp]
    refine (diskFlush_no w g gs lv s.S s.L s.f s.dn hd hp hf hf2).mono ?_
    rintro e w' ⟨rfl, h1, h2⟩
    exact DAt.only (by exact h1) h2 _
  · rw [Dst.flush, Dst.flushE, if_neg hp, if_neg hp]
    refine (diskFlush_yes w g gs lv s.S s.L s.f s.dn hd (by simpa using hp) hf hf2).mono ?_
    rintro e w' ⟨rfl, h1, h2⟩
    exact DAt.nil (by exact h1) h2 _
theorem refFlush_at (w : World) (g gs : Nat) (lv : Value) (s : Dst) (hd : DAt 93 w g gs lv s) (hf : -9223372036854775808 ≤ s.f) (hf2 : s.f ≤ 9223372036854775807) :
    Calls Try.prog 23 #[.pointer (some ⟨g, 0, none⟩)] w (DPost 93 w g gs lv s.flush (.int .i64 s.flushE)) := by
  by_cases hp : passD s.f s.dn = true
  · rw [Dst.flush, Dst.flushE, if_pos hp, if_pos hp]
    refine (refFlush_no w g gs lv s.S s.L s.f s.dn hd hp hf hf2).mono ?_
    rintro e w' ⟨rfl, h1, h2⟩
    exact DAt.only (by exact h1) h2 _
  · rw [Dst.flush, Dst.flushE, if_neg hp, if_neg hp]
    refine (refFlush_yes w g gs lv s.S s.L s.f s.dn hd (by simpa using hp) hf hf2).mono ?_
    rintro e w' ⟨rfl, h1, h2⟩
    exact DAt.nil (by exact h1) h2 _
theorem diskUp_at (w : World) (g gs : Nat) (lv : Value) (s : Dst) (AK : Option Addr) (nK cK : Nat) (ks : List UInt8) (hd : DAt 91 w g gs lv s) (hnk : ks.length = nK) (hkr : ∀ w', Chg (fun j => j = g ∨ j = gs) w w' → Rd w' AK (bts ks)) :
    Calls Try.prog 24 #[.pointer (some ⟨g, 0, none⟩), .slice AK nK cK] w (DPost 91 w g gs lv (s.up ks) (.tuple #[])) := by
  refine (diskUp_calls w g gs lv s.S s.L s.f s.dn AK nK cK ks hd hnk hkr).mono ?_
  rintro e w' ⟨rfl, h1, h2⟩
  exact DAt.nil (by exact h1) h2 _
theorem refUp_at (w : World) (g gs : Nat) (lv : Value) (s : Dst) (AK : Option Addr) (nK cK : Nat) (ks : List UInt8) (hd : DAt 93 w g gs lv s) (hnk : ks.length = nK) (hkr : ∀ w', Chg (fun j => j = g ∨ j = gs) w w' → Rd w' AK (bts ks)) :
    Calls Try.prog 25 #[.pointer (some ⟨g, 0, none⟩), .slice AK nK cK] w (DPost 93 w g gs lv (s.up ks) (.tuple #[])) := by
  refine (refUp_calls w g gs lv s.S s.L s.f s.dn AK nK cK ks hd hnk hkr).mono ?_
  rintro e w' ⟨rfl, h1, h2⟩
  exact DAt.nil (by exact h1) h2 _
theorem diskFuse_at (w : World) (g gs : Nat) (lv : Value) (s : Dst) (n : Int) (hd : DAt 91 w g gs lv s) :
    Calls Try.prog 26 #[.pointer (some ⟨g, 0, none⟩), .int .i64 n] w (DPost 91 w g gs lv (s.fuse (max n (-1))) (.tuple #[])) := by
  refine (diskFuse_calls w g _ lv s.f s.dn n hd.dk).mono ?_
  rintro e w' ⟨rfl, h1, h2⟩
  exact DAt.only (by exact hd.redk h2 h1) h2 _
/-- A new disk's state. -/
def Dst.new (n : Nat) : Dst := ⟨List.replicate n (List.replicate 32 0), [], -1, false⟩
theorem secs_new (n : Nat) : secs (List.replicate n (List.replicate 32 0)) = bts (List.replicate (n * 32) 0) := by
  unfold secs
  induction n with
  | zero => rfl
  | succ n ih => rw [List.replicate_succ, List.flatMap_cons, ih, ← bts_append, List.replicate_append_replicate, Nat.add_mul, Nat.add_comm, Nat.one_mul]
theorem NewPost.at_ {wT : TypeId} {w w' : World} {n : Nat} {e : Ending} (h2 : n ≤ 1024) (h : NewPost w n e w') : ∃ g gs, e = .returned (.tuple #[.pointer (some ⟨g, 0, none⟩), .int .i64 0]) ∧ DAt wT w' g gs (.slice none 0 0) (Dst.new n) ∧ (∀ j, footD g gs (.slice none 0 0) j → w.heap.size ≤ j) ∧ Below w.heap.size w w' := by
  obtain ⟨g, gs, rfl, hd, hb, h3, h4, h5⟩ := h
  refine ⟨g, gs, rfl, ⟨by simpa [Dst.new] using hd, by show Bk w' gs (secs (List.replicate n (List.replicate 32 0))); rw [secs_new]; exact hb, ?_, World.ownsRow_nil w' 0 wT 33, fun p hp => (by cases hp), by omega, fun he => (by cases he), fun he => (by cases he), by simpa [Dst.new] using h2⟩, ?_, h5⟩
  · intro s hs
    rw [List.eq_of_mem_replicate hs, List.length_replicate]
  · rintro j (rfl | rfl | hj)
    · omega
    · exact h3
    · cases hj
/-! ### a disk that nobody made -/
set_option maxHeartbeats 1000000 in
theorem diskHas_nil (w : World) (i : Int) : Calls Try.prog 40 #[.pointer none, .int .i64 i] w fun e w' => e = .returned (.bool false) ∧ w = w' := by
  by_cases hi : 0 ≤ i
  · have hn : ¬ (i < 0) := by omega
    go_enter Try.func40, Try.ntmps40
    go_wp2_with (go_at_call 29; refine (diskLen_nil w).mono ?_; rintro e w' ⟨rfl, rfl⟩)
    go_ret
    exact ⟨by rw [show decide (i < 0) = false from decide_eq_false (Int.not_lt.2 hi)]; rfl, rfl⟩
  · go_enter Try.func40, Try.ntmps40
    go_wp2
    go_ret
    exact ⟨rfl, rfl⟩
theorem diskFuse_nil (w : World) (n : Int) : Calls Try.prog 26 #[.pointer none, .int .i64 n] w fun e w' => e = .returned (.tuple #[]) ∧ w = w' := by
  go_enter Try.func26, Try.ntmps26
  go_wp2
  exact bodyPost_end (results_none rfl _ _) rfl ⟨rfl, rfl⟩
theorem diskUp_nil (w : World) (v : Value) : Calls Try.prog 24 #[.pointer none, v] w fun e w' => e = .returned (.tuple #[]) ∧ w = w' := by
  go_enter Try.func24, Try.ntmps24
  go_wp2
  exact bodyPost_ret (results_none rfl _ _) rfl ⟨rfl, rfl⟩
theorem diskLoose_nil (w : World) : Calls Try.prog 27 #[.pointer none] w fun e w' => e = .returned (.int .i64 0) ∧ w = w' := by
  go_enter Try.func27, Try.ntmps27
  go_wp2
  go_ret
  exact ⟨rfl, rfl⟩
theorem diskDown_nil (w : World) : Calls Try.prog 28 #[.pointer none] w fun e w' => e = .returned (.bool false) ∧ w = w' := by
  go_enter Try.func28, Try.ntmps28
  go_wp2
  go_ret
  exact ⟨rfl, rfl⟩
theorem diskFlush_nil (w : World) : Calls Try.prog 22 #[.pointer none] w fun e w' => e = .returned (.int .i64 1) ∧ w = w' := by
  go_enter Try.func22, Try.ntmps22
  go_wp2
  go_ret
  exact ⟨rfl, rfl⟩
set_option maxRecDepth 100000 in
set_option maxHeartbeats 2000000 in
theorem diskWrite_nil (w : World) (i : Int) (b : List UInt8) : Calls Try.prog 17 #[.pointer none, .int .i64 i, .agg (bts b).toArray] w fun e w' => e = .returned (.int .i64 1) ∧ Below w.heap.size w w' := by
  generalize bts b = vx
  go_enter Try.func17, Try.ntmps17
  go_wp2_with fail
  refine calls_at fun w1 hw1 => ?_
  have HE1 : Hid (Below w.heap.size w w1) := by rw [← hw1]; exact (Below.refl _ _).alloc (Nat.le_refl _) _
  clear hw1
  refine (diskHas_nil w1 i).mono ?_
  rintro e w' ⟨rfl, rfl⟩
  go_wp2
  go_ret
  exact ⟨rfl, HE1.out⟩
set_option maxRecDepth 100000 in
set_option maxHeartbeats 2000000 in
theorem diskRead_nil (w : World) (i : Int) : Calls Try.prog 20 #[.pointer none, .int .i64 i] w fun e w' => e = .returned (.tuple #[.agg (bts (List.replicate 32 0)).toArray, .int .i64 1]) ∧ Below w.heap.size w w' := by
  have HN0 : Hid ((bts (List.replicate 32 0)).length = 32) := by show _ = _; rw [bts_length, List.length_replicate]
  go_enter Try.func20, Try.ntmps20
  go_wp2_with (refine wpList_al rfl 37 rfl (bts (List.replicate 32 0)) (by kernel_rfl) ?_)
  intro gr w1 hg hb hc1 hs1
  subst hg
  have HZ1 := Lib.hid hb
  have HE1 : Hid (Below w.heap.size w w1) := hc1.below (Nat.le_refl _) (fun _ _ => id)
  clear hb hc1 hs1
  go_wp2_with fail
  refine (diskHas_nil w1 i).mono ?_
  rintro e w' ⟨rfl, rfl⟩
  go_wp2_with (first
    | (refine wpList_bld rfl 37 [] rfl (bts (List.replicate 32 0)) [] (bts (List.replicate 32 0)) (by kernel_rfl) (by kernel_rfl) trivial rfl ?_)
    | (refine wpList_st rfl 37 (.tmp 4) (.tmp 14) rfl w.heap.size 0 32 (bts (List.replicate 32 0)) (bts (List.replicate 32 0)) rfl rfl HZ1.out (by kernel_rfl) HN0.out (by rw [HN0.out]; decide) (one_bts _) ?_))
  intro w3 hb3 hc3
  rw [splice_whole _ _ rfl] at hb3
  have HE3 : Hid (Below w.heap.size w w3) := HE1.out.trans (hc3.below HE1.out.size (fun k hk he => by omega))
  have HB3 := Lib.hid hb3
  clear hb3 hc3
  go_wp2_with fail
  (try simp only [Exit.inBlock, Exit.then])
  refine bodyPost_ret (res_cell_tmp rfl _ _ w.heap.size 32 (bts (List.replicate 32 0)) rfl HB3.out (by kernel_rfl) (by kernel_rfl) HN0.out) rfl ?_
  exact ⟨rfl, HE3.out⟩
end Go.Proofs.Ytnpcehlbboeadaa
