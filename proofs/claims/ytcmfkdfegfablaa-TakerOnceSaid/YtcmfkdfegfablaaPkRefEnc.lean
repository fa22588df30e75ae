
import Derived.Test.YtcmfkdfegfablaaPkSealed
import Derived.Test.YtcmfkdfegfablaaG3
import Derived.Test.YtcmfkdfegfablaaG1

/- The walk of the reference's Encode of packets. -/
namespace Go.Proofs.Ytcmfkdfegfablaa
open Go.RowKit
set_option linter.unusedVariables false
set_option linter.unusedSimpArgs false

theorem wp_append_fullR {P : Program} {o : Oper} {a : Act} {w : World} {K : Act → World → Prop} {Q : Exit → Act → World → Prop} (s x : Operand) (t : TypeId) (ho : o.op = .call { callee := .builtin .append, args := #[s, x], argTypes := #[t, t] }) (e : TypeId) (z : Value) (size bytes : Nat) (ht : P.underlying t = some (.slice e)) (hinfo : (P.info? e).map (fun i => (i.zero, i.size, i.bytes)) = some (some z, size, bytes))
    (hzs : z.cells.size = size) (hsz : 0 < size) (b : Addr) (n cap : Nat) (olds : List Value) (hs : a.eval s = .slice (some b) n cap) (hlo : olds.length = n * size) (hR : Rd w (some b) olds) (A : Option Addr) (m c : Nat) (ys : List Value) (hx : a.eval x = .slice A m c) (hl : ys.length = m * size) (HR : Rd w A ys)
    (hm : 0 < m) (hfull : cap < n + m) (hbytes : (n + m) * bytes ≤ 140737488355328 ∧ n + m ≤ maxLen) (h1 : ∀ u ∈ ys, u.oneCell' = true)
    (h : ∀ A1 c1 w', w'.ownsRow w.heap.size e size (.slice A1 (n + m) c1) (n + m) (olds ++ ys) → Chg NoS w w' → K (a.put o.dst (.slice A1 (n + m) c1)) w') : o.wp P a w K Q := by
  obtain ⟨i0, hi, hzz⟩ := Option.map_eq_some_iff.1 hinfo
  simp only [Prod.mk.injEq] at hzz
  obtain ⟨hz0, hz1, hz2⟩ := hzz
  obtain ⟨ad, rfl, _⟩ := HR.at_ 0 (by rw [hl]; exact Nat.mul_pos hm hsz)
  obtain ⟨v', w', hr, ho', hg⟩ := run_append_arg_grows (P := P) w t o.type e i0 z size bytes ht hi hz0 hz1 hz2 hzs hsz b n cap olds hlo (fun j u hu => by obtain ⟨ad', e', hc⟩ := hR j u hu; injection e' with e'; subst e'; exact hc) ad m c ys hl
    (fun j u hu => by obtain ⟨ad', e', hc⟩ := HR j u hu; injection e' with e'; subst e'; exact hc) hfull hbytes.2 hbytes.1
  obtain ⟨A1, c1, rfl, _, _, _⟩ := own_rd ho'
  unfold Oper.wp execOp
  simp only [ho, resolve, invoke, builtin, Sem.run_bind, Sem.run_pure, Result.andThen_ok, List.map_toArray, List.map_cons, List.map_nil, hs, hx, hr]
  exact h A1 c1 w' ho' ⟨hg.os, hg.tape, hg.output, hg.size, fun k hk _ => hg.block k hk (fun h => by cases h)⟩
/-- An own row, not ahead of m. -/
def OwnG (base m n : Nat) (xs : List UInt8) : Fact := fun w v => ∃ A c, v = .slice A n c ∧ w.ownsRow base 5 1 (.slice A n c) n (bts xs) ∧ ∀ q, v.ownBlock = some q → m ≤ q
theorem OwnG.lasts {base m n : Nat} {xs : List UInt8} : ∀ w w' v, Chg NoS w w' → OwnG base m n xs w v → OwnG base m n xs w' v := fun _ _ _ h ⟨A, c, e, ho, hq⟩ => ⟨A, c, e, own_chg ho h (fun _ _ => id), hq⟩
theorem OwnG.lastsS {base m n : Nat} {xs : List UInt8} {lv : Value} (hl : ∀ q, LvE lv q → q < m) {w w' : World} {v : Value} (h : Chg (LvE lv) w w') (hf : OwnG base m n xs w v) : OwnG base m n xs w' v := by
  obtain ⟨A, c, e, ho, hq⟩ := hf
  subst e
  exact ⟨A, c, rfl, own_chg ho h (fun k hk hs => by have := hl _ hs; have := hq _ hk; omega), hq⟩
theorem blk_add (a : Addr) (n : Nat) : (a.add n).block = a.block := by unfold Addr.add; split <;> rfl
theorem rd_block {w : World} {A : Option Addr} {ad : Addr} {ps : List PutV} {k : Nat} (hr : Rd w A (ps.flatMap putC)) (hA : A = some ad) (hk : k < ps.length) (ho : PutsOk ps) : ad.block < w.heap.size := by
  subst hA
  obtain ⟨ad', e', hc⟩ := put_rd hr ho hk 0 _ (show (putC ps[k])[0]? = some (.int .i64 ps[k].at_) from rfl)
  injection e' with e'
  subst e'
  have h := World.block_lt_of_cell? w _ hc
  rwa [blk_add, blk_add] at h
theorem rd_chgA {S : Nat → Prop} {w w' : World} {ad : Addr} {vs : List Value} (h : Rd w (some ad) vs) (hb : Chg S w w') (hS : ¬ S ad.block) : Rd w' (some ad) vs := by
  intro j v hv
  obtain ⟨ad', e', hc⟩ := h j v hv
  injection e' with e'
  subst e'
  exact ⟨_, rfl, hb.cell hc (by rw [blk_add]; exact hS)⟩
/-- What the reference's Encode answers. -/
def RefEncPost (w : World) (k : Int) (e q : UInt32) (ps : List PutV) (en : Ending) (w' : World) : Prop :=
  if goodP k ps = true then (∃ A c, en = .returned (.tuple #[.slice A (encP k.toNat e q ps).length c, .int .i64 0]) ∧ Rd w' A (bts (encP k.toNat e q ps)) ∧ (encP k.toNat e q ps).length ≤ c ∧ c ≤ 9223372036854775807 ∧ Below w.heap.size w w')
  else (en = .returned (.tuple #[.slice none 0 0, .int .i64 11]) ∧ Below w.heap.size w w')
set_option maxRecDepth 100000 in
set_option maxHeartbeats 16000000 in
theorem refPackEncode_calls (k : Int) (e q : UInt32) (ps : List PutV) (A : Option Addr) (n c : Nat) (w : World) (hl : ps.length = n) (hm : n ≤ 9223372036854775807) (hr : Rd w A (ps.flatMap putC)) (ho : PutsOk ps) :
    Calls Try.prog 42 #[.agg (pktC k e q A n c).toArray] w (RefEncPost w k e q ps) := by
  subst hl
  have HR := Lib.hid hr
  have HO := Lib.hid ho
  clear hr ho
  obtain ⟨bx, hbx⟩ : ∃ bx, pktC k e q A ps.length c = bx := ⟨_, rfl⟩
  have HBX := Lib.hid hbx
  have D0 : Hid (bx[0]? = some (.int .i64 k)) := by rw [← hbx]; exact (rfl : _ = _)
  have D1 : Hid (bx[1]? = some (vu32 e)) := by rw [← hbx]; exact (rfl : _ = _)
  have D2 : Hid (bx[2]? = some (vu32 q)) := by rw [← hbx]; exact (rfl : _ = _)
  have D3 : Hid (bx[3]? = some (.slice A ps.length c)) := by rw [← hbx]; exact (rfl : _ = _)
  have HBL : Hid (bx.length = 4) := by show _ = _; rw [← hbx]; rfl
  rw [hbx]
  clear hbx
  go_enter Try.func42, Try.ntmps42
  go_wp2_with (refine wpList_ld rfl 67 (.tmp 1) rfl w.heap.size 0 4 bx bx rfl (Bk.new w bx _) (by kernel_rfl) (by kernel_rfl) (by rw [HBL.out]; decide) (by rw [List.drop_zero, List.take_of_length_le (by rw [HBL.out]; exact Nat.le_refl _)]) ?_)
  refine calls_at fun w0 hw0 => ?_
  have KX0 : Hid (Bk w0 w.heap.size bx) := by rw [← hw0]; exact Bk.new w bx _
  have E0 : Hid (Below w.heap.size w w0) := by rw [← hw0]; exact (Below.refl _ _).alloc (Nat.le_refl _) _
  clear hw0
  rw [← HBX.out]
  refine (refPackGood_calls k e q ps A ps.length c w0 rfl hm (HR.out.below E0.out) HO.out).mono ?_
  rintro en w1 ⟨rfl, hb⟩
  have KX1 := Lib.hid (KX0.out.below hb)
  have E1 : Hid (Below w.heap.size w w1) := E0.out.trans (hb.mono E0.out.size)
  have LW1 : Hid (w.heap.size < w1.heap.size) := KX1.out.lt
  rw [HBX.out]
  clear hb
  by_cases hg : goodP k ps = true
  case neg =>
    have HG : Hid (∀ {en : Ending} {w' : World}, (en = .returned (.tuple #[.slice none 0 0, .int .i64 11]) ∧ Below w.heap.size w w') → RefEncPost w k e q ps en w') := fun h => by rw [RefEncPost, if_neg hg]; exact h
    rw [Bool.eq_false_iff.2 hg]
    clear hg
    go_wp2_with fail
    (try simp only [Exit.inBlock, Exit.then])
    go_ret2
    exact HG.out ⟨rfl, E1.out⟩
  · have hgp := goodP_at hg
    obtain ⟨K, hK⟩ := Int.eq_ofNat_of_zero_le (show 0 ≤ k by omega)
    have hg2 := hg
    subst hK
    have HG : Hid (∀ {en : Ending} {w' : World}, (∃ A c, en = .returned (.tuple #[.slice A (encP K e q ps).length c, .int .i64 0]) ∧ Rd w' A (bts (encP K e q ps)) ∧ (encP K e q ps).length ≤ c ∧ c ≤ 9223372036854775807 ∧ Below w.heap.size w w') → RefEncPost w (K : Int) e q ps en w') := fun h => by rw [RefEncPost, if_pos hg]; exact h
    have HAT : Hid (∀ p ∈ ps, 0 ≤ p.at_ ∧ p.at_ < 256) := hgp.2.2.2
    have h5 : ps.length ≤ 5 := hgp.2.2.1
    have hK4 : K ≤ 4 := by have := hgp.2.1; omega
    have hK256 : K < 256 := by omega
    have hn256 : ps.length < 256 := by omega
    rw [hg]
    clear hg hg2 hgp
    go_wp2_with fail
    apply wp_region_rel 8 (Chg NoS) [(Veq _), (Veq _), (Veq _), (RowAt NoS 1 _), (Veq _), (Veq _), (OwnF w1.heap.size 4 (le e.toNat 4)), (OwnF w1.heap.size 5 ([UInt8.ofNat K] ++ le e.toNat 4))] [[], [0], [1], [2], [], [4], [5], [3, 6]] [9, 10, 11, 12, 13, 14, 15, 16] (by kernel_rfl) (by kernel_rfl) rfl rfl rfl Chg.refl (fun _ _ _ => Chg.trans) ⟨Veq.lasts, Veq.lasts, Veq.lasts, RowAt.lasts, Veq.lasts, Veq.lasts, OwnF.lasts, OwnF.lasts, trivial⟩ ?aops ?afin
    case aops =>
      refine ⟨?ao0, ?ao1, ?ao2, ?ao3, ?ao4, ?ao5, ?ao6, ?ao7, trivial⟩
      case ao0 =>
        intro a wx hE hin
        have i1 : a.eval (.tmp 1) = .pointer (some ⟨w.heap.size, 0, none⟩) := hin 1 rfl
        clear hin
        have hcst : ∀ v, a.eval (.const v) = v := fun _ => rfl
        have hfnc : ∀ f, a.eval (.func f) = .func (.func f) #[] #[] := fun _ => rfl
        refine want_none rfl ?_
        unfold Oper.wp
        generalize a.eval = ρ at *
        go_simp
        try go_bits
        first | exact rel_val (Chg.refl _) | (go_simp; exact rel_val (Chg.refl _))
      case ao1 =>
        rintro a wx hE hin (h0 : a.eval (.tmp 9) = _)
        clear hin
        have hcst : ∀ v, a.eval (.const v) = v := fun _ => rfl
        have hfnc : ∀ f, a.eval (.func f) = .func (.func f) #[] #[] := fun _ => rfl
        refine want_none rfl ?_
        unfold Oper.wp
        generalize a.eval = ρ at *
        have c := Bk.cell ((KX1.out.drew).chg hE id) D0.out
        go_simp
        try go_bits
        first | exact rel_val (Chg.refl _) | (go_simp; exact rel_val (Chg.refl _))
      case ao2 =>
        rintro a wx hE hin (h1 : a.eval (.tmp 10) = _)
        clear hin
        have hcst : ∀ v, a.eval (.const v) = v := fun _ => rfl
        have hfnc : ∀ f, a.eval (.func f) = .func (.func f) #[] #[] := fun _ => rfl
        refine want_none rfl ?_
        unfold Oper.wp
        generalize a.eval = ρ at *
        go_simp
        try go_bits
        first | exact rel_val (Chg.refl _) | (go_simp; exact rel_val (Chg.refl _))
      case ao3 =>
        rintro a wx hE hin (h2 : a.eval (.tmp 11) = _)
        clear hin
        have hcst : ∀ v, a.eval (.const v) = v := fun _ => rfl
        have hfnc : ∀ f, a.eval (.func f) = .func (.func f) #[] #[] := fun _ => rfl
        refine want_none rfl ?_
        unfold Oper.wp
        generalize a.eval = ρ at *
        go_simp
        try go_bits
        exact rel_row (id)
      case ao4 =>
        intro a wx hE hin
        have i1 : a.eval (.tmp 1) = .pointer (some ⟨w.heap.size, 0, none⟩) := hin 1 rfl
        clear hin
        have hcst : ∀ v, a.eval (.const v) = v := fun _ => rfl
        have hfnc : ∀ f, a.eval (.func f) = .func (.func f) #[] #[] := fun _ => rfl
        refine want_none rfl ?_
        unfold Oper.wp
        generalize a.eval = ρ at *
        go_simp
        try go_bits
        first | exact rel_val (Chg.refl _) | (go_simp; exact rel_val (Chg.refl _))
      case ao5 =>
        rintro a wx hE hin (h4 : a.eval (.tmp 13) = _)
        clear hin
        have hcst : ∀ v, a.eval (.const v) = v := fun _ => rfl
        have hfnc : ∀ f, a.eval (.func f) = .func (.func f) #[] #[] := fun _ => rfl
        refine want_none rfl ?_
        unfold Oper.wp
        generalize a.eval = ρ at *
        have c := Bk.cell ((KX1.out.drew).chg hE id) D1.out
        go_simp
        try go_bits
        first | exact rel_val (Chg.refl _) | (go_simp; exact rel_val (Chg.refl _))
      case ao6 =>
        rintro a wx hE hin (h5 : a.eval (.tmp 14) = _)
        clear hin
        have hcst : ∀ v, a.eval (.const v) = v := fun _ => rfl
        have hfnc : ∀ f, a.eval (.func f) = .func (.func f) #[] #[] := fun _ => rfl
        refine want_none rfl ?_
        unfold Oper.wp
        generalize a.eval = ρ at *
        go_simp
        refine (put_calls e 4 wx (by decide)).mono ?_
        rintro e' w' ⟨A, c, rfl, ho, hb⟩
        rw [le_length] at ho ⊢
        exact ⟨_, rfl, ⟨A, c, rfl, own_lower ho hE.size⟩, .of_below hb⟩
      case ao7 =>
        rintro a wx hE hin ⟨g3, h3, s3, t3, f3, c3⟩ ⟨A6, c6, h6, o6⟩
        clear hin
        have hcst : ∀ v, a.eval (.const v) = v := fun _ => rfl
        have hfnc : ∀ f, a.eval (.func f) = .func (.func f) #[] #[] := fun _ => rfl
        refine want_none rfl ?_
        have hb : bts [UInt8.ofNat K] = [Value.int .u8 (K : Int)] := by show [vu8 (UInt8.ofNat K)] = _; rw [byte_at K (by omega)]
        obtain ⟨A6', c6', hv6, hr6, _, _⟩ := own_rd o6
        injection hv6 with e1 _ e3
        subst e1
        subst e3
        exact wp_append_fullR _ _ 56 rfl 5 (.int .u8 0) 1 1 Try.underlying56 info_u8g rfl (by decide) ⟨g3, 0, none⟩ 1 1 (bts [UInt8.ofNat K]) h3 rfl (by rw [hb]; exact Rd.row (S := NoS) c3) A6 4 c6 (bts (le e.toNat 4)) h6 (by rw [bts_length, le_length]) hr6 (by decide) (by decide) (by decide) (one_bts _) (fun A1 c1 w1 ho hc => ⟨_, rfl, ⟨A1, c1, rfl, by rw [bts_append]; exact own_lower ho hE.size⟩, hc⟩)
    case afin =>
      intro wx hE
      rintro _ rfl _ rfl _ rfl _ ⟨g3, rfl, s3, t3, f3, c3⟩ _ rfl _ rfl _ ⟨A6, c6, rfl, o6⟩ _ ⟨A7, c7, rfl, o7⟩
      simp only [FinOk, List.take_succ_cons, List.take_zero, List.take_nil, List.drop_succ_cons, List.drop_zero, List.drop_nil, Act.put, List.setIfInBounds_toArray, List.set_cons_succ, List.set_cons_zero]
      have O1 := Lib.hid o7
      have E2 : Hid (Below w.heap.size w wx) := E1.out.trans (hE.undrew.below E1.out.size (fun _ _ => id))
      have KX2 : Hid (Bk wx w.heap.size bx) := KX1.out.drew.chg hE id
      have S2 : Hid (w1.heap.size ≤ wx.heap.size) := hE.size
      obtain ⟨w2, hw2⟩ : ∃ w2, w2 = wx := ⟨_, rfl⟩
      rw [← hw2] at O1 E2 KX2 S2 ⊢
      obtain ⟨v4, hv4⟩ : ∃ v4, Value.slice A7 5 c7 = v4 := ⟨_, rfl⟩
      have HV4 := Lib.hid hv4
      rw [hv4] at O1 ⊢
      clear hE o6 o7 c3 hw2 hv4
      have HOW : Hid (∀ j, LvE v4 j → w1.heap.size ≤ j ∧ j < w2.heap.size) := fun j hj => O1.out.lt j hj
      have N4x : ¬ LvE v4 w.heap.size := fun h => by have := (HOW.out _ h).1; have := LW1.out; omega
      have HN4 : Hid (∀ j, w2.heap.size ≤ j → ¬ LvE v4 j) := fun j hj h => by have := (HOW.out _ h).2; omega
      have LVB : Hid (∀ q, LvE v4 q → q < w2.heap.size) := fun q hq => (HOW.out _ hq).2
      go_wp2_with fail
      apply wp_region_relt 10 4 21 (OwnE w1.heap.size 9 ([UInt8.ofNat K] ++ le e.toNat 4 ++ le q.toNat 4) w2.heap.size v4) (Chg (LvE v4)) (Chg NoS) (Chg (LvE v4)) [(Veq _), (Veq _), (Veq _), (OwnG w1.heap.size w2.heap.size 4 (le q.toNat 4)), (fun _ _ => True), (Veq _), (Veq _), (Veq _), (Veq _), (RowAt (LvE v4) 1 (bts [UInt8.ofNat ps.length]))] [[], [], [1], [2], [0, 3], [], [5], [6], [7], [8]] [17, 18, 19, 20, 21, 22, 23, 24, 25, 26] (by kernel_rfl) (by kernel_rfl) rfl rfl rfl (by kernel_rfl) Chg.refl (fun _ _ _ => Chg.trans) (fun _ _ _ => Chg.trans) (fun _ _ h => h.mono (fun _ hk => hk.elim)) (fun _ _ h => h) ⟨Veq.lasts, Veq.lasts, Veq.lasts, OwnG.lasts, (fun _ _ _ _ _ => trivial), Veq.lasts, Veq.lasts, Veq.lasts, Veq.lasts, (fun w w' v h => RowAt.lasts w w' v (h.mono (fun _ hk => hk.elim))), trivial⟩ ⟨Veq.lasts, Veq.lasts, Veq.lasts, (fun _ _ _ h hf => OwnG.lastsS LVB.out h hf), (fun _ _ _ _ _ => trivial), Veq.lasts, Veq.lasts, Veq.lasts, Veq.lasts, RowAt.lasts, trivial⟩ OwnE.lasts (fun F h w v => by cases h; trivial) ?bops ?bfin
      case bops =>
        refine ⟨?bo0, ?bo1, ?bo2, ?bo3, ?bo4, ?bo5, ?bo6, ?bo7, ?bo8, ?bo9, trivial⟩
        case bo0 =>
          rw [if_neg (by decide)]
          intro a wx hE hin
          have i4 : a.eval (.tmp 4) = v4 := hin 4 rfl
          clear hin
          have hcst : ∀ v, a.eval (.const v) = v := fun _ => rfl
          have hfnc : ∀ f, a.eval (.func f) = .func (.func f) #[] #[] := fun _ => rfl
          refine want_none rfl ?_
          unfold Oper.wp
          generalize a.eval = ρ at *
          go_simp
          try go_bits
          first | exact rel_val (Chg.refl _) | (go_simp; exact rel_val (Chg.refl _))
        case bo1 =>
          rw [if_neg (by decide)]
          intro a wx hE hin
          have i1 : a.eval (.tmp 1) = .pointer (some ⟨w.heap.size, 0, none⟩) := hin 1 rfl
          clear hin
          have hcst : ∀ v, a.eval (.const v) = v := fun _ => rfl
          have hfnc : ∀ f, a.eval (.func f) = .func (.func f) #[] #[] := fun _ => rfl
          refine want_none rfl ?_
          unfold Oper.wp
          generalize a.eval = ρ at *
          go_simp
          try go_bits
          first | exact rel_val (Chg.refl _) | (go_simp; exact rel_val (Chg.refl _))
        case bo2 =>
          rw [if_neg (by decide)]
          rintro a wx hE hin (h1 : a.eval (.tmp 18) = _)
          clear hin
          have hcst : ∀ v, a.eval (.const v) = v := fun _ => rfl
          have hfnc : ∀ f, a.eval (.func f) = .func (.func f) #[] #[] := fun _ => rfl
          refine want_none rfl ?_
          unfold Oper.wp
          generalize a.eval = ρ at *
          have c := Bk.cell ((KX2.out.drew).chg hE N4x) D2.out
          go_simp
          try go_bits
          first | exact rel_val (Chg.refl _) | (go_simp; exact rel_val (Chg.refl _))
        case bo3 =>
          rw [if_neg (by decide)]
          rintro a wx hE hin (h2 : a.eval (.tmp 19) = _)
          clear hin
          have hcst : ∀ v, a.eval (.const v) = v := fun _ => rfl
          have hfnc : ∀ f, a.eval (.func f) = .func (.func f) #[] #[] := fun _ => rfl
          refine want_none rfl ?_
          unfold Oper.wp
          generalize a.eval = ρ at *
          go_simp
          refine (put_calls q 4 wx (by decide)).mono ?_
          rintro e' w' ⟨A, c, rfl, ho, hb⟩
          rw [le_length] at ho ⊢
          exact ⟨_, rfl, ⟨A, c, rfl, own_lower ho (Nat.le_trans S2.out hE.size), fun q hq => Nat.le_trans hE.size (ho.lt _ hq).1⟩, .of_below hb⟩
        case bo4 =>
          rw [if_pos (by decide)]
          rintro a wx hE hin (h0 : a.eval (.tmp 17) = _) ⟨A3, c3, h3, o3, b3⟩
          clear hin
          have hcst : ∀ v, a.eval (.const v) = v := fun _ => rfl
          have hfnc : ∀ f, a.eval (.func f) = .func (.func f) #[] #[] := fun _ => rfl
          obtain ⟨A3', c3', hv3, hr3, _, _⟩ := own_rd o3
          injection hv3 with e1 _ e3
          subst e1
          subst e3
          refine step_append_rd _ _ 56 rfl w1.heap.size 5 (.int .u8 0) 1 1 Try.underlying56 info_u8g rfl (by decide) (by decide) v4 5 (bts ([UInt8.ofNat K] ++ le e.toNat 4)) h0 (own_chg (own_drew O1.out) hE (fun _ _ => id)) A3 4 c3 (bts (le q.toNat 4)) h3 (by rw [bts_length, le_length]) hr3 (one_bts _) (by decide) (Nat.le_trans S2.out hE.size) ?_
          intro v1 w7 ho1 hg1 hat1
          refine ⟨v1, rfl, ?_, ⟨hg1.os, hg1.tape, hg1.output, hg1.size, fun j hj hne => hg1.block j hj (fun he => hne he.symm)⟩⟩
          rw [if_pos rfl]
          exact ⟨by rw [bts_append ([UInt8.ofNat K] ++ le e.toNat 4)]; exact ho1, hat1.imp id (fun h => ⟨_, h, hE.size⟩)⟩
        case bo5 =>
          rw [if_neg (by decide)]
          intro a wx hE hin
          have i1 : a.eval (.tmp 1) = .pointer (some ⟨w.heap.size, 0, none⟩) := hin 1 rfl
          clear hin
          have hcst : ∀ v, a.eval (.const v) = v := fun _ => rfl
          have hfnc : ∀ f, a.eval (.func f) = .func (.func f) #[] #[] := fun _ => rfl
          refine want_none rfl ?_
          unfold Oper.wp
          generalize a.eval = ρ at *
          go_simp
          try go_bits
          first | exact rel_val (Chg.refl _) | (go_simp; exact rel_val (Chg.refl _))
        case bo6 =>
          rw [if_neg (by decide)]
          rintro a wx hE hin (h5 : a.eval (.tmp 22) = _)
          clear hin
          have hcst : ∀ v, a.eval (.const v) = v := fun _ => rfl
          have hfnc : ∀ f, a.eval (.func f) = .func (.func f) #[] #[] := fun _ => rfl
          refine want_none rfl ?_
          unfold Oper.wp
          generalize a.eval = ρ at *
          have c := Bk.cell ((KX2.out.drew).chg hE N4x) D3.out
          go_simp
          try go_bits
          first | exact rel_val (Chg.refl _) | (go_simp; exact rel_val (Chg.refl _))
        case bo7 =>
          rw [if_neg (by decide)]
          rintro a wx hE hin (h6 : a.eval (.tmp 23) = _)
          clear hin
          have hcst : ∀ v, a.eval (.const v) = v := fun _ => rfl
          have hfnc : ∀ f, a.eval (.func f) = .func (.func f) #[] #[] := fun _ => rfl
          refine want_none rfl ?_
          unfold Oper.wp
          generalize a.eval = ρ at *
          go_simp
          try go_bits
          first | exact rel_val (Chg.refl _) | (go_simp; exact rel_val (Chg.refl _))
        case bo8 =>
          rw [if_neg (by decide)]
          rintro a wx hE hin (h7 : a.eval (.tmp 24) = _)
          clear hin
          have hcst : ∀ v, a.eval (.const v) = v := fun _ => rfl
          have hfnc : ∀ f, a.eval (.func f) = .func (.func f) #[] #[] := fun _ => rfl
          refine want_none rfl ?_
          unfold Oper.wp
          generalize a.eval = ρ at *
          go_simp
          try go_bits
          first | exact rel_val (Chg.refl _) | (go_simp; exact rel_val (Chg.refl _))
        case bo9 =>
          rw [if_neg (by decide)]
          rintro a wx hE hin (h8 : a.eval (.tmp 25) = _)
          clear hin
          have hcst : ∀ v, a.eval (.const v) = v := fun _ => rfl
          have hfnc : ∀ f, a.eval (.func f) = .func (.func f) #[] #[] := fun _ => rfl
          refine want_none rfl ?_
          unfold Oper.wp
          generalize a.eval = ρ at *
          go_simp
          have hb : bts [UInt8.ofNat ps.length] = [Value.int .u8 (ps.length : Int)] := by show [vu8 (UInt8.ofNat ps.length)] = _; rw [byte_at ps.length (by omega)]
          rw [hb]
          exact ⟨_, rfl, ⟨_, rfl, HN4.out _ hE.size, _, _, heap_alloc_new wx _⟩, (Chg.refl _).alloc _⟩
      case bfin =>
        intro wx hE
        rintro v4 rfl _ rfl _ rfl _ ⟨A3, c3, rfl, o3, b3⟩ vsp _ _ rfl _ rfl _ rfl _ rfl _ ⟨g9, rfl, s9, t9, f9, c9⟩ hsp
        simp only [FinOk, List.take_succ_cons, List.take_zero, List.take_nil, List.drop_succ_cons, List.drop_zero, List.drop_nil, Act.put, List.setIfInBounds_toArray, List.set_cons_succ, List.set_cons_zero]
        simp only [Act.put, List.setIfInBounds_toArray, List.set_cons_succ, List.set_cons_zero] at hsp
        have hsp' : OwnE w1.heap.size 9 ([UInt8.ofNat K] ++ le e.toNat 4 ++ le q.toNat 4) w2.heap.size v4 wx vsp := hsp
        clear hsp
        obtain ⟨ho3, hat3⟩ := hsp'
        have OX := Lib.hid ho3
        have KX3 : Hid (Bk wx w.heap.size bx) := KX2.out.drew.chg hE N4x
        have EX : Hid (Below w.heap.size w wx) := E2.out.trans (hE.undrew.below E2.out.size (fun j hj he => by have := (HOW.out j he).1; have := LW1.out; omega))
        have SX : Hid (w1.heap.size ≤ wx.heap.size) := Nat.le_trans S2.out hE.size
        have HRD : Hid (Rd wx (some ⟨g9, 0, none⟩) (bts [UInt8.ofNat ps.length])) := Rd.row (S := LvE v4) c9
        obtain ⟨A4, c4, rfl, _, _, _⟩ := own_rd OX.out
        clear ho3 hat3 hE c9 s9 o3 b3
        go_wp2_with (at_builtin; refine wpList_append_rd rfl (.tmp 21) (.tmp 26) 56 rfl w1.heap.size 5 (.int .u8 0) 1 1 Try.underlying56 info_u8g rfl (by decide) (by decide) (.slice A4 9 c4) 9 (bts ([UInt8.ofNat K] ++ le e.toNat 4 ++ le q.toNat 4)) rfl OX.out (some ⟨g9, 0, none⟩) 1 1 (bts [UInt8.ofNat ps.length]) rfl rfl HRD.out (one_bts _) (by decide) SX.out ?_)
        intro v8 w8 hown hg hat
        have O8 : Hid (w8.ownsRow w1.heap.size 5 1 v8 10 (bts (hdrP K e q ps.length))) := by
          show World.ownsRow _ _ _ _ _ _ _
          rw [show hdrP K e q ps.length = [UInt8.ofNat K] ++ le e.toNat 4 ++ le q.toNat 4 ++ [UInt8.ofNat ps.length] from rfl, bts_append ([UInt8.ofNat K] ++ le e.toNat 4 ++ le q.toNat 4)]
          exact hown
        have hch : Chg (fun j => (Value.slice A4 9 c4).ownBlock = some j) wx w8 := ⟨hg.os, hg.tape, hg.output, hg.size, fun j hj hne => hg.block j hj (fun he => hne he.symm)⟩
        have hge : ∀ j, (Value.slice A4 9 c4).ownBlock = some j → w1.heap.size ≤ j := fun j hj => (OX.out.lt j hj).1
        have E8 : Hid (Below w.heap.size w w8) := EX.out.trans (hch.below EX.out.size (fun j hj he => by have := hge j he; have := LW1.out; omega))
        have K8 : Hid (Bk w8 w.heap.size bx) := KX3.out.chg hch (fun he => by have := hge _ he; have := LW1.out; omega)
        have S8 : Hid (w1.heap.size ≤ w8.heap.size) := Nat.le_trans SX.out hch.size
        clear hown hg hat hch hge
        have d3 := K8.out.cell D3.out
        go_wp2_with fail
        clear d3
        obtain ⟨n0, hn0⟩ : ∃ n0, (hdrP K e q ps.length).length = n0 := ⟨_, rfl⟩
        have HN0 := Lib.hid hn0
        have H0 : Hid (EncRel w w1 bx K e q ps v8 (.int .i64 0) w8) := ⟨0, _, Nat.zero_le _, rfl, rfl, by rw [encK_zero, hdrP_len]; exact O8.out, K8.out, E8.out, S8.out⟩
        clear hn0
        go_loopw [4, 5] (fun v4 v5 wr => EncRel w w1 bx K e q ps v4 v5 wr) (fun _ v5 _ => ps.length - (intOf v5).toNat)
        case atStart => exact H0.out
        case round =>
          obtain ⟨k, v4, hk, rfl, rfl, ho, hbx2, hb, hsz⟩ := hrel
          have OR := Lib.hid ho
          have KR := Lib.hid hbx2
          have ER := Lib.hid hb
          have SR := Lib.hid hsz
          clear ho hbx2 hb hsz H0
          have d3 := KR.out.cell D3.out
          by_cases hlt : k < ps.length
          · have hki : (k : Int) < (ps.length : Int) := by omega
            obtain ⟨ad, hA⟩ := puts_some HR.out hlt
            have HPR := Lib.hid (put_rd (by rw [← hA]; exact HR.out.below ER.out) HO.out hlt)
            have HAA := Lib.hid hA
            have HPD := Lib.hid (HO.out _ (List.getElem_mem hlt)).1
            have hpa := HAT.out _ (List.getElem_mem hlt)
            obtain ⟨p, hp⟩ : ∃ p, ps[k] = p := ⟨_, rfl⟩
            have HPE := Lib.hid hp
            rw [hp] at HPR HPD hpa
            obtain ⟨x, hx⟩ := Int.eq_ofNat_of_zero_le hpa.1
            have HQ := Lib.hid hx
            have hx256 : x < 256 := by have := hpa.2; omega
            have HPD2 : Hid (Rd wr (some ((ad.add (k * 33)).add 1)) (bts p.data)) := HPR.out.drop 1
            have HPC : Hid (wr.cell? (ad.add (k * 33)) = some (.int .i64 (x : Int))) := by
              obtain ⟨ad', e', hc⟩ := HPR.out 0 _ (show (putC p)[0]? = some (.int .i64 p.at_) from rfl)
              injection e' with e'
              subst e'
              show _ = _
              rw [← hx]
              exact hc
            have D3A : Hid (bx[3]? = some (.slice (some ad) ps.length c)) := by rw [← HAA.out]; exact D3.out
            rw [hA] at d3
            clear hp hA hpa hx HPR
            have HOW : Hid (∀ j, v4.ownBlock = some j → w1.heap.size ≤ j ∧ j < wr.heap.size) := fun j hj => OR.out.lt j hj
            have HADB : Hid (ad.block < w.heap.size) := by
              show _ < _
              exact rd_block HR.out HAA.out hlt HO.out
            obtain ⟨lk, hlk⟩ : ∃ lk, encK K e q ps k = lk := ⟨_, rfl⟩
            have HLK := Lib.hid hlk
            have HLN : Hid (lk.length ≤ 10 + 33 * 50) := by show _ ≤ _; rw [← hlk, encK_len HO.out]; have := List.length_take_le k ps; omega
            rw [hlk] at OR
            clear hlk
            obtain ⟨n1, hn1⟩ : ∃ n1, lk.length = n1 := ⟨_, rfl⟩
            have HN1 := Lib.hid hn1
            rw [hn1] at OR HLN
            clear hn1
            have N9x : ¬ LvE v4 w.heap.size := fun h => by have := (HOW.out _ h).1; have := LW1.out; omega
            have N9p : ¬ LvE v4 ad.block := fun h => by have := (HOW.out _ h).1; have := LW1.out; have := HADB.out; omega
            have HNX : Hid (∀ j, wr.heap.size ≤ j → ¬ LvE v4 j) := fun j hj h => by have := (HOW.out _ h).2; omega
            go_wp2_with fail
            clear d3
            apply wp_region_relt 16 9 44 (OwnE w1.heap.size (n1 + 1) (lk ++ [UInt8.ofNat x]) wr.heap.size v4) (Chg (LvE v4)) (Chg NoS) (Chg (LvE v4)) [(Veq _), (Veq _), (Veq _), (Veq _), (Veq _), (Veq _), (Veq _), (Veq _), (RowAt (LvE v4) 1 (bts [UInt8.ofNat x])), (fun _ _ => True), (Veq _), (Veq _), (Veq _), (Veq _), (Veq _), (Veq _)] [[], [], [1], [], [2, 3], [4], [5], [6], [7], [0, 8], [], [10], [], [11, 12], [13], [14]] [35, 36, 37, 38, 39, 40, 41, 42, 43, 44, 45, 46, 47, 48, 49, 50] (by kernel_rfl) (by kernel_rfl) rfl rfl rfl (by kernel_rfl) Chg.refl (fun _ _ _ => Chg.trans) (fun _ _ _ => Chg.trans) (fun _ _ h => h.mono (fun _ hk => hk.elim)) (fun _ _ h => h) ⟨Veq.lasts, Veq.lasts, Veq.lasts, Veq.lasts, Veq.lasts, Veq.lasts, Veq.lasts, Veq.lasts, (fun w w' v h => RowAt.lasts w w' v (h.mono (fun _ hk => hk.elim))), (fun _ _ _ _ _ => trivial), Veq.lasts, Veq.lasts, Veq.lasts, Veq.lasts, Veq.lasts, Veq.lasts, trivial⟩ ⟨Veq.lasts, Veq.lasts, Veq.lasts, Veq.lasts, Veq.lasts, Veq.lasts, Veq.lasts, Veq.lasts, RowAt.lasts, (fun _ _ _ _ _ => trivial), Veq.lasts, Veq.lasts, Veq.lasts, Veq.lasts, Veq.lasts, Veq.lasts, trivial⟩ OwnE.lasts (fun F h w v => by cases h; trivial) ?cops ?cfin
            case cops =>
              refine ⟨?co0, ?co1, ?co2, ?co3, ?co4, ?co5, ?co6, ?co7, ?co8, ?co9, ?co10, ?co11, ?co12, ?co13, ?co14, ?co15, trivial⟩
              case co0 =>
                rw [if_neg (by decide)]
                intro a wx hE hin
                have i4 : a.eval (.tmp 4) = v4 := hin 4 rfl
                clear hin
                have hcst : ∀ v, a.eval (.const v) = v := fun _ => rfl
                have hfnc : ∀ f, a.eval (.func f) = .func (.func f) #[] #[] := fun _ => rfl
                refine want_none rfl ?_
                unfold Oper.wp
                generalize a.eval = ρ at *
                go_simp
                try go_bits
                first | exact rel_val (Chg.refl _) | (go_simp; exact rel_val (Chg.refl _))
              case co1 =>
                rw [if_neg (by decide)]
                intro a wx hE hin
                have i1 : a.eval (.tmp 1) = .pointer (some ⟨w.heap.size, 0, none⟩) := hin 1 rfl
                clear hin
                have hcst : ∀ v, a.eval (.const v) = v := fun _ => rfl
                have hfnc : ∀ f, a.eval (.func f) = .func (.func f) #[] #[] := fun _ => rfl
                refine want_none rfl ?_
                unfold Oper.wp
                generalize a.eval = ρ at *
                go_simp
                try go_bits
                first | exact rel_val (Chg.refl _) | (go_simp; exact rel_val (Chg.refl _))
              case co2 =>
                rw [if_neg (by decide)]
                rintro a wx hE hin (h1 : a.eval (.tmp 36) = _)
                clear hin
                have hcst : ∀ v, a.eval (.const v) = v := fun _ => rfl
                have hfnc : ∀ f, a.eval (.func f) = .func (.func f) #[] #[] := fun _ => rfl
                refine want_none rfl ?_
                unfold Oper.wp
                generalize a.eval = ρ at *
                have c := Bk.cell ((KR.out.drew).chg hE N9x) D3A.out
                go_simp
                try go_bits
                first | exact rel_val (Chg.refl _) | (go_simp; exact rel_val (Chg.refl _))
              case co3 =>
                rw [if_neg (by decide)]
                intro a wx hE hin
                have i5 : a.eval (.tmp 5) = .int .i64 (k : Int) := hin 5 rfl
                clear hin
                have hcst : ∀ v, a.eval (.const v) = v := fun _ => rfl
                have hfnc : ∀ f, a.eval (.func f) = .func (.func f) #[] #[] := fun _ => rfl
                refine want_none rfl ?_
                unfold Oper.wp
                generalize a.eval = ρ at *
                go_simp
                try go_bits
                first | exact rel_val (Chg.refl _) | (go_simp; exact rel_val (Chg.refl _))
              case co4 =>
                rw [if_neg (by decide)]
                rintro a wx hE hin (h2 : a.eval (.tmp 37) = _) (h3 : a.eval (.tmp 38) = _)
                clear hin
                have hcst : ∀ v, a.eval (.const v) = v := fun _ => rfl
                have hfnc : ∀ f, a.eval (.func f) = .func (.func f) #[] #[] := fun _ => rfl
                refine want_none rfl ?_
                unfold Oper.wp
                generalize a.eval = ρ at *
                go_simp
                try go_bits
                first | exact rel_val (Chg.refl _) | (go_simp; exact rel_val (Chg.refl _))
              case co5 =>
                rw [if_neg (by decide)]
                rintro a wx hE hin (h4 : a.eval (.tmp 39) = _)
                clear hin
                have hcst : ∀ v, a.eval (.const v) = v := fun _ => rfl
                have hfnc : ∀ f, a.eval (.func f) = .func (.func f) #[] #[] := fun _ => rfl
                refine want_none rfl ?_
                unfold Oper.wp
                generalize a.eval = ρ at *
                go_simp
                try go_bits
                first | exact rel_val (Chg.refl _) | (go_simp; exact rel_val (Chg.refl _))
              case co6 =>
                rw [if_neg (by decide)]
                rintro a wx hE hin (h5 : a.eval (.tmp 40) = _)
                clear hin
                have hcst : ∀ v, a.eval (.const v) = v := fun _ => rfl
                have hfnc : ∀ f, a.eval (.func f) = .func (.func f) #[] #[] := fun _ => rfl
                refine want_none rfl ?_
                unfold Oper.wp
                generalize a.eval = ρ at *
                have c : wx.cell? (ad.add (k * 33)) = some (.int .i64 (x : Int)) := hE.undrew.cell HPC.out (by rw [blk_add]; exact N9p)
                go_simp
                try go_bits
                first | exact rel_val (Chg.refl _) | (go_simp; exact rel_val (Chg.refl _))
              case co7 =>
                rw [if_neg (by decide)]
                rintro a wx hE hin (h6 : a.eval (.tmp 41) = _)
                clear hin
                have hcst : ∀ v, a.eval (.const v) = v := fun _ => rfl
                have hfnc : ∀ f, a.eval (.func f) = .func (.func f) #[] #[] := fun _ => rfl
                refine want_none rfl ?_
                unfold Oper.wp
                generalize a.eval = ρ at *
                go_simp
                try go_bits
                first | exact rel_val (Chg.refl _) | (go_simp; exact rel_val (Chg.refl _))
              case co8 =>
                rw [if_neg (by decide)]
                rintro a wx hE hin (h7 : a.eval (.tmp 42) = _)
                clear hin
                have hcst : ∀ v, a.eval (.const v) = v := fun _ => rfl
                have hfnc : ∀ f, a.eval (.func f) = .func (.func f) #[] #[] := fun _ => rfl
                refine want_none rfl ?_
                unfold Oper.wp
                generalize a.eval = ρ at *
                go_simp
                have hb : bts [UInt8.ofNat x] = [Value.int .u8 (x : Int)] := by show [vu8 (UInt8.ofNat x)] = _; rw [byte_at x (by omega)]
                rw [hb]
                exact ⟨_, rfl, ⟨_, rfl, HNX.out _ hE.size, _, _, heap_alloc_new wx _⟩, (Chg.refl _).alloc _⟩
              case co9 =>
                rw [if_pos (by decide)]
                rintro a wx hE hin (h0 : a.eval (.tmp 35) = _) ⟨g8s, h8, s8, t8, f8, c8⟩
                clear hin
                have hcst : ∀ v, a.eval (.const v) = v := fun _ => rfl
                have hfnc : ∀ f, a.eval (.func f) = .func (.func f) #[] #[] := fun _ => rfl
                refine step_append_rd _ _ 56 rfl w1.heap.size 5 (.int .u8 0) 1 1 Try.underlying56 info_u8g rfl (by decide) (by decide) v4 n1 (bts lk) h0 (own_chg (own_drew OR.out) hE (fun _ _ => id)) (some ⟨g8s, 0, none⟩) 1 1 (bts [UInt8.ofNat x]) h8 rfl (Rd.row (S := LvE v4) c8) (one_bts _) (by have := HLN.out; omega) (Nat.le_trans SR.out hE.size) ?_
                intro v1 w7 ho1 hg1 hat1
                refine ⟨v1, rfl, ?_, ⟨hg1.os, hg1.tape, hg1.output, hg1.size, fun j hj hne => hg1.block j hj (fun he => hne he.symm)⟩⟩
                rw [if_pos rfl]
                refine ⟨?_, hat1.imp id (fun h => ⟨_, h, hE.size⟩)⟩
                rw [bts_append]
                exact ho1
              case co10 =>
                rw [if_neg (by decide)]
                intro a wx hE hin
                have i1 : a.eval (.tmp 1) = .pointer (some ⟨w.heap.size, 0, none⟩) := hin 1 rfl
                clear hin
                have hcst : ∀ v, a.eval (.const v) = v := fun _ => rfl
                have hfnc : ∀ f, a.eval (.func f) = .func (.func f) #[] #[] := fun _ => rfl
                refine want_none rfl ?_
                unfold Oper.wp
                generalize a.eval = ρ at *
                go_simp
                try go_bits
                first | exact rel_val (Chg.refl _) | (go_simp; exact rel_val (Chg.refl _))
              case co11 =>
                rw [if_neg (by decide)]
                rintro a wx hE hin (h10 : a.eval (.tmp 45) = _)
                clear hin
                have hcst : ∀ v, a.eval (.const v) = v := fun _ => rfl
                have hfnc : ∀ f, a.eval (.func f) = .func (.func f) #[] #[] := fun _ => rfl
                refine want_none rfl ?_
                unfold Oper.wp
                generalize a.eval = ρ at *
                have c := Bk.cell ((KR.out.drew).chg hE N9x) D3A.out
                go_simp
                try go_bits
                first | exact rel_val (Chg.refl _) | (go_simp; exact rel_val (Chg.refl _))
              case co12 =>
                rw [if_neg (by decide)]
                intro a wx hE hin
                have i5 : a.eval (.tmp 5) = .int .i64 (k : Int) := hin 5 rfl
                clear hin
                have hcst : ∀ v, a.eval (.const v) = v := fun _ => rfl
                have hfnc : ∀ f, a.eval (.func f) = .func (.func f) #[] #[] := fun _ => rfl
                refine want_none rfl ?_
                unfold Oper.wp
                generalize a.eval = ρ at *
                go_simp
                try go_bits
                first | exact rel_val (Chg.refl _) | (go_simp; exact rel_val (Chg.refl _))
              case co13 =>
                rw [if_neg (by decide)]
                rintro a wx hE hin (h11 : a.eval (.tmp 46) = _) (h12 : a.eval (.tmp 47) = _)
                clear hin
                have hcst : ∀ v, a.eval (.const v) = v := fun _ => rfl
                have hfnc : ∀ f, a.eval (.func f) = .func (.func f) #[] #[] := fun _ => rfl
                refine want_none rfl ?_
                unfold Oper.wp
                generalize a.eval = ρ at *
                go_simp
                try go_bits
                first | exact rel_val (Chg.refl _) | (go_simp; exact rel_val (Chg.refl _))
              case co14 =>
                rw [if_neg (by decide)]
                rintro a wx hE hin (h13 : a.eval (.tmp 48) = _)
                clear hin
                have hcst : ∀ v, a.eval (.const v) = v := fun _ => rfl
                have hfnc : ∀ f, a.eval (.func f) = .func (.func f) #[] #[] := fun _ => rfl
                refine want_none rfl ?_
                unfold Oper.wp
                generalize a.eval = ρ at *
                go_simp
                try go_bits
                first | exact rel_val (Chg.refl _) | (go_simp; exact rel_val (Chg.refl _))
              case co15 =>
                rw [if_neg (by decide)]
                rintro a wx hE hin (h14 : a.eval (.tmp 49) = _)
                clear hin
                have hcst : ∀ v, a.eval (.const v) = v := fun _ => rfl
                have hfnc : ∀ f, a.eval (.func f) = .func (.func f) #[] #[] := fun _ => rfl
                refine want_none rfl ?_
                unfold Oper.wp
                generalize a.eval = ρ at *
                go_simp
                try go_bits
                first | exact rel_val (Chg.refl _) | (go_simp; exact rel_val (Chg.refl _))
            case cfin =>
              intro wx hE
              rintro v4 rfl _ rfl _ rfl _ rfl _ rfl _ rfl _ rfl _ rfl _ ⟨g8, rfl, s8, t8, f8, c8⟩ vsp _ _ rfl _ rfl _ rfl _ rfl _ rfl _ rfl hsp
              simp only [FinOk, List.take_succ_cons, List.take_zero, List.take_nil, List.drop_succ_cons, List.drop_zero, List.drop_nil, Act.put, List.setIfInBounds_toArray, List.set_cons_succ, List.set_cons_zero]
              simp only [Act.put, List.setIfInBounds_toArray, List.set_cons_succ, List.set_cons_zero] at hsp
              have hsp' : OwnE w1.heap.size (n1 + 1) (lk ++ [UInt8.ofNat x]) wr.heap.size v4 wx vsp := hsp
              clear hsp
              obtain ⟨ho3, hat3⟩ := hsp'
              have OX := Lib.hid ho3
              have KX7 : Hid (Bk wx w.heap.size bx) := KR.out.drew.chg hE N9x
              have EX : Hid (Below w.heap.size w wx) := ER.out.trans (hE.undrew.below ER.out.size (fun j hj he => by have := (HOW.out j he).1; have := LW1.out; omega))
              have SX : Hid (w1.heap.size ≤ wx.heap.size) := Nat.le_trans SR.out hE.size
              have HRD : Hid (Rd wx (some ((ad.add (k * 33)).add 1)) (bts p.data)) := rd_chgA HPD2.out hE.undrew (by rw [blk_add, blk_add]; exact N9p)
              obtain ⟨A3, c3, rfl, _, _, _⟩ := own_rd OX.out
              clear ho3 hat3 hE c8 s8
              go_wp2_with (at_builtin; refine wpList_append_rd rfl (.tmp 44) (.tmp 50) 56 rfl w1.heap.size 5 (.int .u8 0) 1 1 Try.underlying56 info_u8g rfl (by decide) (by decide) (.slice A3 (n1 + 1) c3) (n1 + 1) (bts (lk ++ [UInt8.ofNat x])) rfl OX.out (some ((ad.add (k * 33)).add 1)) 32 32 (bts p.data) rfl (by rw [bts_length, HPD.out]) HRD.out (one_bts _) (by have := HLN.out; omega) SX.out ?_)
              intro v8 w8 hown hg hat
              have hL : encK K e q ps (k + 1) = lk ++ [UInt8.ofNat x] ++ p.data := by rw [encK_succ hlt, HLK.out, HPE.out, HQ.out]; simp
              have hLn : (encK K e q ps (k + 1)).length = n1 + 1 + 32 := by rw [hL, List.length_append, List.length_append, HN1.out, HPD.out]; rfl
              have O8 : Hid (w8.ownsRow w1.heap.size 5 1 v8 (encK K e q ps (k + 1)).length (bts (encK K e q ps (k + 1)))) := by
                show World.ownsRow _ _ _ _ _ _ _
                rw [hLn, hL, bts_append]
                exact hown
              have hch : Chg (fun j => (Value.slice A3 (n1 + 1) c3).ownBlock = some j) wx w8 := ⟨hg.os, hg.tape, hg.output, hg.size, fun j hj hne => hg.block j hj (fun he => hne he.symm)⟩
              have hge : ∀ j, (Value.slice A3 (n1 + 1) c3).ownBlock = some j → w1.heap.size ≤ j := fun j hj => (OX.out.lt j hj).1
              have E8 : Hid (Below w.heap.size w w8) := EX.out.trans (hch.below EX.out.size (fun j hj he => by have := hge j he; have := LW1.out; omega))
              have K8 : Hid (Bk w8 w.heap.size bx) := KX7.out.chg hch (fun he => by have := hge _ he; have := LW1.out; omega)
              have S8 : Hid (w1.heap.size ≤ w8.heap.size) := Nat.le_trans SX.out hch.size
              clear hown hg hat hch hge hL hLn
              go_wp2_with fail
              go_roundw
              case rel => exact ⟨k + 1, _, by omega, by go_num, rfl, O8.out, K8.out, E8.out, S8.out⟩
              case measure => simp [intOf]; omega
          · have hke : k = ps.length := by omega
            subst hke
            have hki : ¬ (((ps.length : Nat) : Int) < (ps.length : Int)) := by omega
            obtain ⟨lk, hlk⟩ : ∃ lk, encK K e q ps ps.length = lk := ⟨_, rfl⟩
            have HLK := Lib.hid hlk
            have HLN : Hid (lk.length ≤ 10 + 33 * 50) := by show _ ≤ _; rw [← hlk, encK_len HO.out]; have := List.length_take_le ps.length ps; omega
            rw [hlk] at OR
            clear hlk
            obtain ⟨n1, hn1⟩ : ∃ n1, lk.length = n1 := ⟨_, rfl⟩
            have HN1 := Lib.hid hn1
            rw [hn1] at OR HLN
            clear hn1
            obtain ⟨A7, c7, rfl, rd7, hc7, hm7⟩ := own_rd OR.out
            have RD7 := Lib.hid rd7
            have HC7 := Lib.hid hc7
            have HM7 := Lib.hid hm7
            clear rd7 hc7 hm7
            go_wp2_with fail
            refine (pk_sealed_calls A7 n1 c7 lk wr HN1.out HC7.out HM7.out RD7.out (by have := HLN.out; omega)).mono ?_
            rintro en w' ⟨A2, c2, rfl, hr2, hc2, hm2, hb2⟩
            have R2 := Lib.hid hr2
            have C2 := Lib.hid hc2
            have M2 := Lib.hid hm2
            have B2 : Hid (Below w.heap.size w w') := ER.out.trans (hb2.mono ER.out.size)
            clear hr2 hc2 hm2 hb2 d3
            go_wp2_with fail
            (try simp only [Exit.inBlock, Exit.then])
            go_ret2
            have hl : (encP K e q ps).length = n1 + 2 := by rw [encP, List.length_append, HLK.out, HN1.out]; rfl
            refine HG.out ⟨A2, c2, by rw [hl]; rfl, by rw [encP, HLK.out]; exact R2.out, by rw [hl]; exact C2.out, M2.out, B2.out⟩
end Go.Proofs.Ytcmfkdfegfablaa
