/- The walks of the reference's Encode. -/
import Derived.Test.YtnpcehlbboeadaaSealRa
namespace Go.Proofs.Ytnpcehlbboeadaa
open Go.RowKit
set_option linter.unusedVariables false
set_option linter.unusedSimpArgs false


set_option maxRecDepth 100000 in
set_option maxHeartbeats 1000000 in
theorem refEncode_no (m : UInt8) (A : Option Addr) (n cap : Nat) (l : List UInt8) (w : World) (hl : l.length = n) (hn : n ≤ cap) (hc : cap ≤ 9223372036854775807) (hr : Rd w A (bts l)) (h : m = 0 ∨ 29 < n) :
    Calls Try.prog 52 #[vu8 m, .slice A n cap] w fun e w' => e = .returned (.tuple #[.agg (bts (encR m l).1).toArray, .int .i64 (encR m l).2]) ∧ Below w.heap.size w w' := by
  have HR := Lib.hid hr
  have he := encR_no (m := m) (l := l) (by rw [hl]; exact h)
  rw [he]
  have HL := Lib.hid hl
  clear hr hl he
  simp only [← zb_bts]
  by_cases h0 : m = 0
  · subst h0
    go_enter Try.func52, Try.ntmps52
    go_wp2_with (refine wpList_al rfl 37 rfl (zb 32) (by kernel_rfl) ?_)
    intro g w1 hg hb hc1 hs
    subst hg
    go_wp2_with (first
      | (refine wpList_bld rfl 37 [] rfl (zb 32) [] (zb 32) (by kernel_rfl) (by kernel_rfl) trivial rfl ?_)
      | (refine wpList_st rfl 37 _ _ rfl w.heap.size 0 32 (zb 32) (zb 32) rfl rfl hb (by kernel_rfl) rfl (by decide) (by decide) ?_))
    intro w2 hb2 hc2
    rw [splice_whole (zb 32) (zb 32) rfl] at hb2
    go_wp2_with fail
    (try simp only [Exit.inBlock, Exit.then])
    refine bodyPost_ret (res_cell_tmp rfl _ _ w.heap.size 32 (zb 32) rfl hb2 (by kernel_rfl) (by kernel_rfl) rfl) rfl ?_
    exact ⟨rfl, (hc1.below (Nat.le_refl _) (fun _ _ => id)).trans (hc2.below (by omega) (fun k hk he => by omega))⟩
  · have h0i : ¬ ((m.toNat : Int) = 0) := by intro h; exact h0 (UInt8.toNat_inj.1 (by simpa using h))
    have h1 : 29 < n := h.resolve_left h0
    have h1i : (29 : Int) < (n : Int) := by omega
    go_enter Try.func52, Try.ntmps52
    go_wp2_with (refine wpList_al rfl 37 rfl (zb 32) (by kernel_rfl) ?_)
    intro g w1 hg hb hc1 hs
    subst hg
    go_wp2_with (first
      | (refine wpList_bld rfl 37 [] rfl (zb 32) [] (zb 32) (by kernel_rfl) (by kernel_rfl) trivial rfl ?_)
      | (refine wpList_st rfl 37 _ _ rfl w.heap.size 0 32 (zb 32) (zb 32) rfl rfl hb (by kernel_rfl) rfl (by decide) (by decide) ?_))
    intro w2 hb2 hc2
    rw [splice_whole (zb 32) (zb 32) rfl] at hb2
    go_wp2_with fail
    (try simp only [Exit.inBlock, Exit.then])
    refine bodyPost_ret (res_cell_tmp rfl _ _ w.heap.size 32 (zb 32) rfl hb2 (by kernel_rfl) (by kernel_rfl) rfl) rfl ?_
    exact ⟨rfl, (hc1.below (Nat.le_refl _) (fun _ _ => id)).trans (hc2.below (by omega) (fun k hk he => by omega))⟩

set_option maxRecDepth 100000 in
set_option maxHeartbeats 2000000 in
theorem refEncode_yes (m : UInt8) (A : Option Addr) (n cap : Nat) (l : List UInt8) (w : World) (hl : l.length = n) (hn : n ≤ cap) (hc : cap ≤ 9223372036854775807) (hr : Rd w A (bts l)) (h0 : ¬ m = 0) (h1 : n ≤ 29) :
    Calls Try.prog 52 #[vu8 m, .slice A n cap] w fun e w' => e = .returned (.tuple #[.agg (bts (encR m l).1).toArray, .int .i64 (encR m l).2]) ∧ Below w.heap.size w w' := by
  have he := encR_yes (m := m) (l := l) (by rw [hl]; exact fun h => h.elim h0 (by omega))
  have hpl := padB_length (l := l) (by omega)
  have hpb : padB l = l ++ List.replicate (29 - n) 0 := by rw [← hl]; rfl
  rw [he]
  simp only
  have hsl := secOf_length (m := m) hpl
  have hss : secOf m (padB l) = m :: padB l ++ [(crcCheck (m :: padB l)).toUInt8, (crcCheck (m :: padB l) >>> 8).toUInt8] := rfl
  generalize secOf m (padB l) = rs at hsl hss ⊢
  have HRS := Lib.hid hss
  have HSL := Lib.hid hsl
  generalize padB l = b at hpl hss HRS hpb
  have RBa := Lib.hid hr
  have HPL := Lib.hid hpl
  have HPB := Lib.hid hpb
  have HL := Lib.hid hl
  have h0i : ¬ ((m.toNat : Int) = 0) := by intro h; exact h0 (UInt8.toNat_inj.1 (by simpa using h))
  have h1i : ¬ ((29 : Int) < (n : Int)) := by omega
  have h0b : ((m.toNat : Int) == 0) = false := by simpa using h0i
  clear hr hl he hpl hsl hss h0 hpb
  go_enter Try.func52, Try.ntmps52
  go_wp2_with (first | (refine wpList_al rfl 37 rfl (zb 32) (by kernel_rfl) ?_))
  intro gq w1 hg hbk hcg hsz
  have hle_gq : w.heap.size ≤ gq := by rw [hg]; exact (Below.refl w.heap.size w).size
  have E1 : Hid (Below w.heap.size w w1) := (Below.refl w.heap.size w).trans (hcg.below (Below.refl w.heap.size w).size (fun _ _ => id))
  have Ra1 : Hid (Rd w1 A (bts l)) := RBa.out.below E1.out
  have Kq1 := Lib.hid hbk
  clear hg hbk hcg hsz
  go_wp2_with (at_builtin; refine wpList_append_rd rfl _ _ 32 rfl w1.heap.size 5 (.int .u8 0) 1 1 Try.underlying32 infoU8 rfl (by decide) (by decide) (.slice (some ⟨w1.heap.size, 0, none⟩) 1 1) 1 [vu8 m] rfl ?own A n cap (bts l) rfl ?len ?rd (one_bts _) ?bytes ?base ?_)
  case own => exact row_own [m] rfl rfl (by decide)
  case len => rw [bts_length, HL.out, Nat.mul_one]
  case rd => exact Ra1.out.alloc _
  case bytes => omega
  case base => simp
  intro v2 w2 hown hg hat
  have E2 : Hid (Below w.heap.size w w2) := (E1.out.alloc E1.out.size _).trans (below_grown hg (by have := E1.out.size; simp; omega) (by intro k hk; have := E1.out.size; simp [Value.ownBlock] at hk; omega))
  have Kq2 : Hid (Bk w2 gq (zb 32)) := ((Kq1.out.alloc _).chg (S := (· = w1.heap.size)) ⟨hg.os, hg.tape, hg.output, hg.size, fun k hk hne => hg.block k hk (fun he => hne (by simp [Value.ownBlock] at he; omega))⟩ (by have := Kq1.out.lt; omega))
  obtain ⟨A2, c2, rfl, _, _, _⟩ := own_rd hown
  have hle2 : w1.heap.size ≤ w2.heap.size := by have := hg.size; simp at this; omega
  have HO := Lib.hid hown
  clear hown hg hat
  go_wp2_with (at_builtin; refine wpList_append_zr rfl _ _ 32 3 rfl w1.heap.size 5 (.int .u8 0) 1 1 Try.underlying32 Try.underlying3 infoU8 rfl (by decide) (by decide) (.slice A2 (1 + n) c2) (1 + n) ([vu8 m] ++ bts l) rfl HO.out .i64 (29 - n) ?hx (bts (List.replicate (29 - n) 0)) (zeroCells_u8 _) (one_bts _) ?bytes2 hle2 ?_)
  case hx => exact congrArg (Value.int .i64) (by omega)
  case bytes2 => omega
  intro v3 w3 hown hg hat
  have E3 : Hid (Below w.heap.size w w3) := E2.out.trans (below_grown hg E2.out.size (fun k hk => by have := (HO.out.lt k hk).1; have := E1.out.size; omega))
  have Kq3 : Hid (Bk w3 gq (zb 32)) := Kq2.out.chg (S := fun k => w1.heap.size ≤ k) ⟨hg.os, hg.tape, hg.output, hg.size, fun k hk hne => hg.block k hk (fun he => hne ((HO.out.lt k he.symm).1))⟩ (by have := Kq1.out.lt; omega)
  rw [show vu8 m :: (bts l ++ bts (List.replicate (29 - n) 0)) = bts (m :: b) by rw [HPB.out]; simp [bts], show 1 + n + (29 - n) = 30 by omega] at hown
  obtain ⟨A3, c3, rfl, hr3, hc3, hm3⟩ := own_rd hown
  have RD3 := Lib.hid hr3
  clear hown hg hat hr3 HO E1 E2 Kq1 Kq2 Ra1
  go_wp2_with (refine wpList_al rfl 37 rfl (zb 32) (by kernel_rfl) ?_)
  intro go w4 hg hbk hcg hsz
  have hlt_q_o : gq < go := by rw [hg]; exact Kq3.out.lt
  have hle_go : w.heap.size ≤ go := by rw [hg]; exact E3.out.size
  have E4 : Hid (Below w.heap.size w w4) := E3.out.trans (hcg.below E3.out.size (fun _ _ => id))
  have Kq4 : Hid (Bk w4 gq (zb 32)) := Kq3.out.chg hcg id
  have Ko4 := Lib.hid hbk
  have RD4 : Hid (Rd w4 A3 (bts (m :: b))) := RD3.out.chg hcg
  clear hg hbk hcg hsz E3 Kq3 RD3
  go_wp2_with fail
  apply wp_region_rel 3 (Chg NoS) [(Veq _), (Veq _), (SlAt 32 (bts rs))] [[], [], [1]] [25, 26, 27] (by kernel_rfl) (by kernel_rfl) rfl rfl rfl Chg.refl (fun _ _ _ => Chg.trans) ⟨Veq.lasts, Veq.lasts, SlAt.lasts, trivial⟩ ?aops ?afin
  case aops =>
    refine ⟨?ao0, ?ao1, ?ao2, trivial⟩
    case ao0 =>
      intro a wx hE hin
      have i7 : a.eval (.tmp 7) = .pointer (some ⟨go, 0, none⟩) := hin 7 rfl
      clear hin
      have hcst : ∀ v, a.eval (.const v) = v := fun _ => rfl
      have hfnc : ∀ f, a.eval (.func f) = .func (.func f) #[] #[] := fun _ => rfl
      refine want_none rfl ?_
      unfold Oper.wp
      generalize a.eval = ρ at *
      go_simp
      try go_bits
      first | exact rel_val (Chg.refl _) | (go_simp; exact rel_val (Chg.refl _))
    case ao1 =>
      intro a wx hE hin
      have i6 : a.eval (.tmp 6) = .slice A3 30 c3 := hin 6 rfl
      clear hin
      have hcst : ∀ v, a.eval (.const v) = v := fun _ => rfl
      have hfnc : ∀ f, a.eval (.func f) = .func (.func f) #[] #[] := fun _ => rfl
      refine want_none rfl ?_
      unfold Oper.wp
      generalize a.eval = ρ at *
      go_simp
      try go_bits
      first | exact rel_val (Chg.refl _) | (go_simp; exact rel_val (Chg.refl _))
    case ao2 =>
      rintro a wx hE hin (h1 : a.eval (.tmp 26) = _)
      clear hin
      have hcst : ∀ v, a.eval (.const v) = v := fun _ => rfl
      have hfnc : ∀ f, a.eval (.func f) = .func (.func f) #[] #[] := fun _ => rfl
      refine want_none rfl ?_
      unfold Oper.wp
      generalize a.eval = ρ at *
      go_simp
      refine (sealed_calls A3 30 c3 (m :: b) wx (by simp [HPL.out]) hc3 hm3 (RD4.out.drew.chg hE) (by decide)).mono ?_
      rintro e w' ⟨Ac, cc, rfl, hrc, hb⟩
      rw [← HRS.out] at hrc
      exact ⟨_, rfl, ⟨Ac, cc, rfl, hrc⟩, .of_below hb⟩
  case afin =>
    intro wx hE
    rintro _ rfl _ rfl _ ⟨Ac, cc, rfl, rc⟩
    simp only [FinOk, List.take_succ_cons, List.take_zero, List.take_nil, List.drop_succ_cons, List.drop_zero, List.drop_nil, Act.put, List.setIfInBounds_toArray, List.set_cons_succ, List.set_cons_zero]
    refine wpList_cp rfl _ _ 32 32 5 rfl Try.underlying32 (by kernel_rfl) go 0 32 32 Ac 32 cc (zb 32) (bts rs) rfl rfl (Ko4.out.drew.chg hE id) rc (by rw [bts_length, HSL.out]) (by decide) (one_bts _) ?_
    intro w5 hbk hcg
    rw [List.take_of_length_le (by rw [bts_length, HSL.out]; decide), splice_whole (zb 32) (bts rs) (by rw [bts_length, HSL.out]; rfl)] at hbk
    have E5 : Hid (Below w.heap.size w w5) := E4.out.trans ((hE.undrew.below (B := w.heap.size) E4.out.size (fun _ _ => id)).trans (hcg.below (Nat.le_trans E4.out.size hE.size) (fun k hk he => by omega)))
    have Kq5 : Hid (Bk w5 gq (zb 32)) := (Kq4.out.drew.chg hE id).chg hcg (by omega)
    have Ko5 := Lib.hid hbk
    clear hbk hcg hE rc
    go_wp2_with (first
      | (refine wpList_ld rfl 37 _ rfl go 0 32 (bts rs) (bts rs) rfl Ko5.out (by kernel_rfl) (by kernel_rfl) (by rw [bts_length, HSL.out]; decide) (by rw [List.drop_zero, List.take_of_length_le (by rw [bts_length, HSL.out]; decide)]) ?_)
      | (refine wpList_st rfl 37 _ _ rfl gq 0 32 (zb 32) (bts rs) rfl rfl Kq5.out (by kernel_rfl) (by rw [bts_length, HSL.out]) (by decide) (one_bts _) ?_))
    intro w6 hbk hcg
    rw [splice_whole (zb 32) (bts rs) (by rw [bts_length, HSL.out]; rfl)] at hbk
    have E6 : Hid (Below w.heap.size w w6) := E5.out.trans (hcg.below E5.out.size (fun k hk he => by omega))
    have Kq6 := Lib.hid hbk
    clear hbk hcg
    go_wp2_with fail
    (try simp only [Exit.inBlock, Exit.then])
    refine bodyPost_ret (res_cell_tmp rfl _ _ gq 32 (bts rs) rfl Kq6.out (by kernel_rfl) (by kernel_rfl) (by rw [bts_length, HSL.out])) rfl ?_
    exact ⟨rfl, E6.out⟩
theorem refEncode_calls (m : UInt8) (A : Option Addr) (n cap : Nat) (l : List UInt8) (w : World) (hl : l.length = n) (hn : n ≤ cap) (hc : cap ≤ 9223372036854775807) (hr : Rd w A (bts l)) :
    Calls Try.prog 52 #[vu8 m, .slice A n cap] w fun e w' => e = .returned (.tuple #[.agg (bts (encR m l).1).toArray, .int .i64 (encR m l).2]) ∧ Below w.heap.size w w' := by
  by_cases h : m = 0 ∨ 29 < n
  · exact refEncode_no m A n cap l w hl hn hc hr h
  · exact refEncode_yes m A n cap l w hl hn hc hr (fun h' => h (.inl h')) (by omega)
end Go.Proofs.Ytnpcehlbboeadaa
