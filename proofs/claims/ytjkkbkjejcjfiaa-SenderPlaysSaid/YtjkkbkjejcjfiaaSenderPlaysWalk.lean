
/- The walk of SenderPlays. -/
import Derived.Test.YtjkkbkjejcjfiaaWakes24
import Derived.Test.YtjkkbkjejcjfiaaSndOpen
import Derived.Test.YtjkkbkjejcjfiaaSndRefS
import Derived.Test.YtjkkbkjejcjfiaaSndRefA
import Derived.Test.YtjkkbkjejcjfiaaSndRefT
namespace Go.Proofs.Ytjkkbkjejcjfiaa
open Go.RowKit
set_option linter.unusedVariables false
set_option linter.unusedSimpArgs false

theorem SSt.new3 {w : World} {g g' : Nat} (h : Bk w g' (sndC .no none 0 0 none 0 0)) (e : g' = g) : SSt w g .no := e ▸ SSt.new h
theorem SSt.good {w : World} {g : Nat} {v : SV} (h : SSt w g v) : v.is = true → goodP v.o.k v.o.ps = true := fun hi => by
  obtain ⟨A, n, c, B, m, d, h⟩ := h
  exact (h.good hi).1
def SnF (g : Nat) (v : SV) (r : Value) : Fact := fun w x => x = r ∧ SSt w g v
theorem SnF.lasts {g : Nat} {v : SV} {r : Value} : ∀ w w' x, Chg NoS w w' → SnF g v r w x → SnF g v r w' x := fun _ _ _ h ⟨e, hs⟩ => ⟨e, hs.chgN h⟩
def PkN (base : Nat) (p : PkV) (n : Nat) : Fact := fun w v => ∃ A c, v = .agg (pktC p.k p.e p.q A n c).toArray ∧ RdN base w A (p.ps.flatMap putC)
theorem PkN.chg {base : Nat} {p : PkV} {n : Nat} {T : Nat → Prop} {w w' : World} {v : Value} (ho : PkN base p n w v) (h : Chg T w w') (hT : ∀ j, T j → j < base) : PkN base p n w' v := by
  obtain ⟨A, c, e, ho⟩ := ho
  exact ⟨A, c, e, ho.chg h hT⟩
theorem PkN.lasts {base : Nat} {p : PkV} {n : Nat} : ∀ w w' v, Chg NoS w w' → PkN base p n w v → PkN base p n w' v := fun _ _ _ h ho => ho.chg h (fun _ hj => hj.elim)
theorem send_wt (v : SV) (p : PkV) : (v.send p).wt ≤ v.wt := by
  rw [SV.send]
  split
  · exact Nat.zero_le _
  · exact Nat.le_refl _
theorem missed_wt (v : SV) : v.missed.wt ≤ v.wt + 1 := by
  rw [SV.missed]
  split
  · exact Nat.le_refl _
  · exact Nat.le_succ _
theorem touch_wt (v : SV) (ps : List PutV) : (v.touch ps).wt ≤ v.wt := by
  rw [SV.touch]
  split <;> exact Nat.le_refl _
theorem acked_wt (v : SV) (p : PkV) : (v.acked p).wt ≤ v.wt := by
  rw [SV.acked]
  split
  · exact Nat.zero_le _
  · exact Nat.le_refl _
def PlRel (w : World) (gs qq m : Nat) (v7 : Value) (wr : World) : Prop := ∃ (i : Nat) (v : SV) (u : World), u = wr ∧ i ≤ m ∧ v7 = .int .i64 i ∧ SSt u gs v ∧ QSt u qq v ∧ Below w.heap.size w u ∧ v.wt ≤ i
set_option maxRecDepth 100000 in
set_option maxHeartbeats 32000000 in
theorem senderPlays_calls (w : World) (A : Option Addr) (n c D : Nat) (l : List StpS) (hl : l.length = n) (hnc : n ≤ c) (hm : c ≤ 9223372036854775807) (hr : Rd w A (l.flatMap stsC)) (hok : ∀ s ∈ l, StsOk w s) (hD : D < 65536) :
    Calls Try.prog 6 #[.slice A n c, .int .u16 D] w fun e w' => e = .returned (.bool true) ∧ Below w.heap.size w w' := by
  subst hl
  have HR := Lib.hid hr
  have HOK := Lib.hid hok
  have HDD := Lib.hid hD
  clear hr hok hD
  go_enter Try.func6, Try.ntmps6
  go_wp2_with fail
  refine (fair24_calls w A l.length c l rfl (by omega) HR.out).mono ?_
  rintro en w' ⟨rfl, rfl⟩
  cases hq : fair24 l with
  | false =>
    clear hq
    go_wp2_with fail
    refine (wakes24_calls w).mono ?_
    rintro en wz ⟨rfl, hb⟩
    have EZ : Hid (Below w.heap.size w wz) := hb
    clear hb
    go_wp2_with fail
    (try simp only [Exit.inBlock, Exit.then])
    go_ret
    exact ⟨rfl, EZ.out⟩
  | true =>
    have HFA : Hid (∀ s ∈ l, s.n ≤ 50 ∧ s.m ≤ 50) := (fair24_at hq).1
    have HLL : Hid (l.length ≤ 120) := (fair24_at hq).2
    clear hq
    go_wp2_with (first
      | (refine wpList_bld rfl 57 [] rfl (sndC .no none 0 0 none 0 0) [] (sndC .no none 0 0 none 0 0) (by kernel_rfl) (by kernel_rfl) trivial rfl ?_)
      | (refine wpList_bld rfl 60 [] rfl (refC .no none 0 0 none 0 0) [] (refC .no none 0 0 none 0 0) (by kernel_rfl) (by kernel_rfl) trivial rfl ?_))
    refine code_at fun w1 hw => ?_
    have E1 : Hid (Below w.heap.size w w1) := by rw [← hw]; exact ((Below.refl _ _).alloc (Nat.le_refl _) _).alloc (by simp) _
    have S1 : Hid (SSt w1 w.heap.size .no) := by rw [← hw]; exact SSt.new3 ((Bk.new w _ _).below ((Below.refl _ _).alloc (Nat.le_refl _) _)) rfl
    obtain ⟨qq, hqq⟩ : ∃ qq, w.heap.size + 1 = qq := ⟨_, rfl⟩
    have Q1 : Hid (QSt w1 qq .no) := by rw [← hw]; exact QSt.new (Bk.new _ _ _) (by simpa using hqq)
    obtain ⟨gs, hgs⟩ : ∃ gs, w.heap.size = gs := ⟨_, rfl⟩
    have GS : Hid (w.heap.size ≤ gs) := by show _ ≤ _; omega
    have GQ : Hid (gs < qq) := by show _ < _; omega
    have GQ1 : Hid (qq = gs + 1) := by show _ = _; omega
    rw [hqq]
    have S2 : Hid (SSt w1 gs .no) := by rw [← hgs]; exact S1.out
    have H0 : Hid (PlRel w gs qq l.length (.int .i64 0) w1) := ⟨0, .no, _, rfl, Nat.zero_le _, rfl, S2.out, Q1.out, E1.out, Nat.le_refl _⟩
    rw [show (Value.pointer (some ⟨w.heap.size, 0, none⟩)) = Value.pointer (some ⟨gs, 0, none⟩) by rw [hgs]]
    clear hw hqq hgs S1 S2 Q1 E1
    go_loopw [7] (fun v7 wr => PlRel w gs qq l.length v7 wr) (fun v7 _ => l.length - (intOf v7).toNat)
    case atStart => exact H0.out
    case round =>
      obtain ⟨i, v, u, rfl, hi, rfl, hss, hqs, hbe, hwi⟩ := hrel
      have Su := Lib.hid hss
      have Qu := Lib.hid hqs
      have Eu := Lib.hid hbe
      have HWI := Lib.hid hwi
      have HGO := Lib.hid hss.good
      clear hss hqs hbe hwi H0
      by_cases hlt : i < l.length
      case neg =>
        have hki : ¬ ((i : Int) < (l.length : Int)) := by omega
        go_wp2_with fail
        refine (pick_calls D HDD.out u).mono ?_
        rintro en w' ⟨⟨r, b, rfl, hpr⟩, rfl⟩
        have HPR := Lib.hid hpr
        clear hpr
        go_wp2_with fail
        refine (refPick_calls D HDD.out u).mono ?_
        rintro en w' ⟨⟨z, rfl, hz⟩, rfl⟩
        have hz2 := hz r b HPR.out
        clear hz
        cases b with
        | true =>
          rw [if_pos rfl] at hz2
          subst hz2
          have h1 : (0 : Int) ≤ (r : Int) := by omega
          go_wp2_with fail
          refine (wakes24_calls u).mono ?_
          rintro en wz ⟨rfl, hb⟩
          have EZ : Hid (Below w.heap.size w wz) := Eu.out.trans (hb.mono Eu.out.size)
          clear hb
          go_wp2_with fail
          (try simp only [Exit.inBlock, Exit.then])
          go_ret
          exact ⟨rfl, EZ.out⟩
        | false =>
          rw [if_neg (by decide)] at hz2
          subst hz2
          obtain rfl : r = 0 := by
            rcases HPR.out with h | h
            · cases h.2.2.2.2
            · exact h.1
          go_wp2_with fail
          refine (wakes24_calls u).mono ?_
          rintro en wz ⟨rfl, hb⟩
          have EZ : Hid (Below w.heap.size w wz) := Eu.out.trans (hb.mono Eu.out.size)
          clear hb
          go_wp2_with fail
          (try simp only [Exit.inBlock, Exit.then])
          go_ret
          exact ⟨rfl, EZ.out⟩
      have hki : (i : Int) < (l.length : Int) := by omega
      obtain ⟨ad, hA⟩ := sts_some HR.out hlt
      subst hA
      obtain ⟨s, hs⟩ : ∃ s, l[i]'hlt = s := ⟨_, rfl⟩
      have hso : StsOk w s := by rw [← hs]; exact HOK.out _ (List.getElem_mem hlt)
      have hsf := HFA.out _ (List.getElem_mem hlt)
      have hst := (sts_rd HR.out hlt).below Eu.out
      rw [hs] at hsf hst
      have HSO := Lib.hid hso
      have HSF := Lib.hid hsf
      have HSR := Lib.hid hst
      have HONE := Lib.hid (one_sts s)
      obtain ⟨vs, hvs⟩ : ∃ vs, stsC s = vs := ⟨_, rfl⟩
      have DV0 : Hid (vs[0]? = some (.int .i64 s.k)) := by rw [← hvs]; exact (rfl : _ = _)
      have DV5 : Hid (vs[5]? = some (.slice s.B s.m s.d)) := by rw [← hvs]; exact (rfl : _ = _)
      have DV6 : Hid (vs[6]? = some (.bool s.er)) := by rw [← hvs]; exact (rfl : _ = _)
      have HV14 : Hid ((vs.drop 1).take 4 = pktC s.p.k s.p.e s.p.q s.A s.n s.c) := by rw [← hvs]; exact (rfl : _ = _)
      have HVL : Hid (vs.length = 7) := by show _ = _; rw [← hvs]; rfl
      have HLT := Lib.hid hlt
      rw [hvs] at HSR HONE
      clear hs hso hst hvs hsf hi
      have Qu0 := Qu
      go_wp2_with (first
        | (refine wpList_ldr2 rfl 62 (.tmp 36) rfl (ad.add (i * 7)) 7 vs rfl HSR.out (by kernel_rfl) (by kernel_rfl) HVL.out ?_)
        | (refine wpList_al rfl 62 rfl zSts (by kernel_rfl) ?_))
      intro gx z1 hg hb hc hs
      have HQx : Hid (Below u.heap.size u z1) := hc.below (Nat.le_refl _) (fun _ _ => id)
      have HGx : Hid (gx = u.heap.size) := hg
      have KZx := Lib.hid hb
      clear hg hb hc hs
      go_wp2_with (refine wpList_st rfl 62 (.tmp 8) (.tmp 37) rfl gx 0 7 zSts vs rfl rfl KZx.out (by kernel_rfl) HVL.out (by decide) HONE.out ?_)
      intro z2 hbk hc
      rw [splice_whole zSts vs (by rw [HVL.out]; rfl)] at hbk
      have hb : Below u.heap.size u z2 := HQx.out.trans (hc.below HQx.out.size (fun q hq he => by have := HGx.out; omega))
      have Ez2 : Hid (Below w.heap.size w z2) := Eu.out.trans (hb.mono Eu.out.size)
      clear Eu
      have Sz2 : Hid (SSt z2 gs v) := Su.out.below hb
      have Qz2 : Hid (QSt z2 qq v) := Qu.out.below hb
      clear Su Qu
      have Kxz2 : Hid (Bk z2 gx vs) := hbk
      have Kxz2 : Hid (Bk z2 gx vs) := hbk
      have HGX : qq < gx := by have := Qu0.out.lt; have := HGx.out; omega
      clear hbk hb hc KZx HQx HGx
      have Nx : Hid (qq < gx) := HGX
      clear HSR HONE
      clear hki
      by_cases hk0 : s.k = 0
      case pos =>
        rw [hk0] at DV0
        clear hk0
        as_aux_lemma =>
          have c0 := Kxz2.out.cell DV0.out
          go_wp2_with fail
          clear c0
          obtain ⟨zz, hzz⟩ : ∃ zz, v.sendE s.p = zz := ⟨_, rfl⟩
          have HZZ := Lib.hid hzz
          clear hzz
          have NXS : ¬ gx = gs := by have := Nx.out; have := GQ.out; omega
          apply wp_region_relt 9 4 46 (SnF gs (v.send s.p) (.int .i64 zz)) (Chg (· = gs)) (Chg NoS) (Chg (· = gs)) [(Veq _), (Veq _), (Veq _), (PkN (qq + 1) s.p s.n), (fun _ _ => True), (Veq _), (Veq _), (Veq _), (PkN (qq + 1) s.p s.n)] [[], [], [1], [2], [0, 3], [], [], [6], [7]] [42, 43, 44, 45, 46, 47, 48, 49, 50] (by kernel_rfl) (by kernel_rfl) rfl rfl rfl (by kernel_rfl) Chg.refl (fun _ _ _ => Chg.trans) (fun _ _ _ => Chg.trans) (fun _ _ h => h.mono (fun _ hk => hk.elim)) (fun _ _ h => h) ⟨Veq.lasts, Veq.lasts, Veq.lasts, PkN.lasts, (fun _ _ _ _ _ => trivial), Veq.lasts, Veq.lasts, Veq.lasts, PkN.lasts, trivial⟩ ⟨Veq.lasts, Veq.lasts, Veq.lasts, (fun w w' v h ho => PkN.chg ho h (fun j hj => by have := GQ.out; omega)), (fun _ _ _ _ _ => trivial), Veq.lasts, Veq.lasts, Veq.lasts, (fun w w' v h ho => PkN.chg ho h (fun j hj => by have := GQ.out; omega)), trivial⟩ SnF.lasts (fun F h w v => by cases h; trivial) ?aops ?afin
          case aops =>
            refine ⟨?ao0, ?ao1, ?ao2, ?ao3, ?ao4, ?ao5, ?ao6, ?ao7, ?ao8, trivial⟩
            case ao0 =>
              rw [if_neg (by decide)]
              intro a wx hE hin
              have i5 : a.eval (.tmp 5) = .pointer (some ⟨gs, 0, none⟩) := hin 5 rfl
              clear hin
              have hcst : ∀ v, a.eval (.const v) = v := fun _ => rfl
              have hfnc : ∀ f, a.eval (.func f) = .func (.func f) #[] #[] := fun _ => rfl
              refine want_none rfl ?_
              unfold Oper.wp
              generalize a.eval = ρ at *
              go_simp
              try go_bits
              first | exact rel_val (Chg.refl _) | (go_simp; exact rel_val (Chg.refl _))
            case ao1 =>
              rw [if_neg (by decide)]
              intro a wx hE hin
              have i8 : a.eval (.tmp 8) = .pointer (some ⟨gx, 0, none⟩) := hin 8 rfl
              clear hin
              have hcst : ∀ v, a.eval (.const v) = v := fun _ => rfl
              have hfnc : ∀ f, a.eval (.func f) = .func (.func f) #[] #[] := fun _ => rfl
              refine want_none rfl ?_
              unfold Oper.wp
              generalize a.eval = ρ at *
              go_simp
              try go_bits
              first | exact rel_val (Chg.refl _) | (go_simp; exact rel_val (Chg.refl _))
            case ao2 =>
              rw [if_neg (by decide)]
              rintro a wx hE hin (h1 : a.eval (.tmp 43) = _)
              clear hin
              have hcst : ∀ v, a.eval (.const v) = v := fun _ => rfl
              have hfnc : ∀ f, a.eval (.func f) = .func (.func f) #[] #[] := fun _ => rfl
              refine want_none rfl ?_
              exact wp_ld 25 _ rfl gx 1 4 vs _ h1 (Kxz2.out.drew.chg hE NXS) (by kernel_rfl) (by kernel_rfl) (by rw [HVL.out]; decide) HV14.out (rel_val (Chg.refl _))
            case ao3 =>
              rw [if_neg (by decide)]
              rintro a wx hE hin (h2 : a.eval (.tmp 44) = _)
              clear hin
              have hcst : ∀ v, a.eval (.const v) = v := fun _ => rfl
              have hfnc : ∀ f, a.eval (.func f) = .func (.func f) #[] #[] := fun _ => rfl
              refine want_none rfl ?_
              unfold Oper.wp
              generalize a.eval = ρ at *
              go_simp
              refine (own24_calls wx s.p s.A s.n s.c HSO.out.pk.len (by have := HSF.out.1; omega) (HSO.out.pk.rd.below (Ez2.out.trans (hE.undrew.below Ez2.out.size (fun k hk he => by have := GS.out; omega)))) HSO.out.pk.ok).mono ?_
              rintro e w' ⟨A, c, rfl, ho, hb⟩
              exact ⟨_, rfl, ⟨A, c, rfl, ho.mono (by have h1 := Qz2.out.lt; have h2 := hE.size; have h3 : z2.drew.heap.size = z2.heap.size := rfl; omega)⟩, .of_below hb⟩
            case ao4 =>
              rw [if_pos (by decide)]
              rintro a wx hE hin (h0 : a.eval (.tmp 42) = _) ⟨A3, c3, h3, o3⟩
              clear hin
              have hcst : ∀ v, a.eval (.const v) = v := fun _ => rfl
              have hfnc : ∀ f, a.eval (.func f) = .func (.func f) #[] #[] := fun _ => rfl
              unfold Oper.wp
              generalize a.eval = ρ at *
              go_simp
              go_simp
              refine (sndSend_calls wx gs v (Sz2.out.drew.chgN hE) s.p A3 s.n c3 HSO.out.pk.len (by have := HSF.out.1; omega) o3.rd HSO.out.pk.ok).mono ?_
              intro e w' hp
              rw [HZZ.out] at hp
              obtain ⟨rfl, hst, hch⟩ := hp
              refine ⟨_, rfl, ?_, hch⟩
              (try rw [if_pos rfl])
              exact ⟨rfl, hst⟩
            case ao5 =>
              rw [if_neg (by decide)]
              intro a wx hE hin
              have i6 : a.eval (.tmp 6) = .pointer (some ⟨qq, 0, none⟩) := hin 6 rfl
              clear hin
              have hcst : ∀ v, a.eval (.const v) = v := fun _ => rfl
              have hfnc : ∀ f, a.eval (.func f) = .func (.func f) #[] #[] := fun _ => rfl
              refine want_none rfl ?_
              unfold Oper.wp
              generalize a.eval = ρ at *
              go_simp
              try go_bits
              first | exact rel_val (Chg.refl _) | (go_simp; exact rel_val (Chg.refl _))
            case ao6 =>
              rw [if_neg (by decide)]
              intro a wx hE hin
              have i8 : a.eval (.tmp 8) = .pointer (some ⟨gx, 0, none⟩) := hin 8 rfl
              clear hin
              have hcst : ∀ v, a.eval (.const v) = v := fun _ => rfl
              have hfnc : ∀ f, a.eval (.func f) = .func (.func f) #[] #[] := fun _ => rfl
              refine want_none rfl ?_
              unfold Oper.wp
              generalize a.eval = ρ at *
              go_simp
              try go_bits
              first | exact rel_val (Chg.refl _) | (go_simp; exact rel_val (Chg.refl _))
            case ao7 =>
              rw [if_neg (by decide)]
              rintro a wx hE hin (h6 : a.eval (.tmp 48) = _)
              clear hin
              have hcst : ∀ v, a.eval (.const v) = v := fun _ => rfl
              have hfnc : ∀ f, a.eval (.func f) = .func (.func f) #[] #[] := fun _ => rfl
              refine want_none rfl ?_
              exact wp_ld 25 _ rfl gx 1 4 vs _ h6 (Kxz2.out.drew.chg hE NXS) (by kernel_rfl) (by kernel_rfl) (by rw [HVL.out]; decide) HV14.out (rel_val (Chg.refl _))
            case ao8 =>
              rw [if_neg (by decide)]
              rintro a wx hE hin (h7 : a.eval (.tmp 49) = _)
              clear hin
              have hcst : ∀ v, a.eval (.const v) = v := fun _ => rfl
              have hfnc : ∀ f, a.eval (.func f) = .func (.func f) #[] #[] := fun _ => rfl
              refine want_none rfl ?_
              unfold Oper.wp
              generalize a.eval = ρ at *
              go_simp
              refine (own24_calls wx s.p s.A s.n s.c HSO.out.pk.len (by have := HSF.out.1; omega) (HSO.out.pk.rd.below (Ez2.out.trans (hE.undrew.below Ez2.out.size (fun k hk he => by have := GS.out; omega)))) HSO.out.pk.ok).mono ?_
              rintro e w' ⟨A, c, rfl, ho, hb⟩
              exact ⟨_, rfl, ⟨A, c, rfl, ho.mono (by have h1 := Qz2.out.lt; have h2 := hE.size; have h3 : z2.drew.heap.size = z2.heap.size := rfl; omega)⟩, .of_below hb⟩
          case afin =>
            intro wx hE
            rintro _ rfl _ rfl _ rfl _ ⟨A3, c3, rfl, o3⟩ vsp _ _ rfl _ rfl _ rfl _ ⟨A8, c8, rfl, o8⟩ hsp
            simp only [FinOk, List.take_succ_cons, List.take_zero, List.take_nil, List.drop_succ_cons, List.drop_zero, List.drop_nil, Act.put, List.setIfInBounds_toArray, List.set_cons_succ, List.set_cons_zero]
            simp only [Act.put, List.setIfInBounds_toArray, List.set_cons_succ, List.set_cons_zero] at hsp
            have hsp' : SnF gs (v.send s.p) (.int .i64 zz) wx vsp := hsp
            clear hsp
            obtain ⟨rfl, hst⟩ := hsp'
            have Sx9 : Hid (SSt wx gs (v.send s.p)) := hst
            have Qx9 : Hid (QSt wx qq v) := Qz2.out.chg hE.undrew GQ.out
            have Ex9 : Hid (Below w.heap.size w wx) := (Ez2.out.trans (hE.undrew.below Ez2.out.size (fun k hk he => by have := GS.out; omega)))
            have HO8 := Lib.hid o8
            clear hE hst o3 o8 Sz2 Qz2 Ez2 Kxz2
            go_wp2_with fail
            refine (refSend_calls wx qq v Qx9.out s.p A8 s.n c8 HSO.out.pk.len (by have := HSF.out.1; omega) HO8.out HSO.out.pk.ok).mono ?_
            intro en y1 hp
            rw [HZZ.out] at hp
            obtain ⟨rfl, hst, hch⟩ := hp
            have Sy1 : Hid (SSt y1 gs (v.send s.p)) := Sx9.out.chgq hch GQ1.out
            have Qy1 : Hid (QSt y1 qq (v.send s.p)) := hst
            have Ey1 : Hid (Below w.heap.size w y1) := Ex9.out.trans (hch.below Ex9.out.size (fun k hk he => by have := GS.out; have := GQ.out; omega))
            clear hst hch Sx9 Qx9 Ex9
            go_wp2_with fail
            obtain ⟨vv, hvv⟩ : ∃ vv, (v.send s.p) = vv := ⟨_, rfl⟩
            have HWT : Hid (vv.wt ≤ i + 1) := by show _ ≤ _; rw [← hvv]; exact Nat.le_trans (send_wt v s.p) (by have := HWI.out; omega)
            rw [hvv] at Sy1 Qy1
            clear hvv
            go_wp2_with fail
            refine (sndOut_calls y1 gs vv Sy1.out).mono ?_
            rintro en y2 ⟨Ay2, cy2, rfl, hrn, hncy2, hmcy2, hb⟩
            have Ey2 : Hid (Below w.heap.size w y2) := Ey1.out.trans (hb.mono Ey1.out.size)
            clear Ey1
            have Sy2 : Hid (SSt y2 gs vv) := Sy1.out.below hb
            have Qy2 : Hid (QSt y2 qq vv) := Qy1.out.below hb
            clear Sy1 Qy1
            have RRy2 := Lib.hid hrn.rd
            clear hb hrn
            go_wp2_with (refine wpList_al rfl 25 rfl zPk (by kernel_rfl) ?_)
            intro ga y3 hg hb hc hs
            have HQa : Hid (Below y2.heap.size y2 y3) := hc.below (Nat.le_refl _) (fun _ _ => id)
            have HGa : Hid (ga = y2.heap.size) := hg
            have KZa := Lib.hid hb
            clear hg hb hc hs
            go_wp2_with (refine wpList_st rfl 25 (.tmp 13) (.tmp 110) rfl ga 0 4 zPk (pktC vv.o.k vv.o.e vv.o.q Ay2 vv.o.ps.length cy2) rfl rfl KZa.out (by kernel_rfl) rfl (by decide) (one_pkt _ _ _ _ _ _) ?_)
            intro y4 hbk hc
            rw [splice_whole zPk (pktC vv.o.k vv.o.e vv.o.q Ay2 vv.o.ps.length cy2) rfl] at hbk
            have hb : Below y2.heap.size y2 y4 := HQa.out.trans (hc.below HQa.out.size (fun q hq he => by have := HGa.out; omega))
            have Ey4 : Hid (Below w.heap.size w y4) := Ey2.out.trans (hb.mono Ey2.out.size)
            have Ray4 : Hid (Rd y4 Ay2 (vv.o.ps.flatMap putC)) := RRy2.out.below hb
            clear Ey2 RRy2
            have Sy4 : Hid (SSt y4 gs vv) := Sy2.out.below hb
            have Qy4 : Hid (QSt y4 qq vv) := Qy2.out.below hb
            clear Sy2 Qy2
            have Kay4 : Hid (Bk y4 ga (pktC vv.o.k vv.o.e vv.o.q Ay2 vv.o.ps.length cy2)) := hbk
            have Kay4 : Hid (Bk y4 ga (pktC vv.o.k vv.o.e vv.o.q Ay2 vv.o.ps.length cy2)) := hbk
            clear hbk hb hc KZa HQa HGa
            go_wp2_with fail
            refine (sndEarly_calls y4 gs vv Sy4.out).mono ?_
            rintro en y5 ⟨Ay5, cy5, rfl, hrn, hncy5, hmcy5, hb⟩
            have Ey5 : Hid (Below w.heap.size w y5) := Ey4.out.trans (hb.mono Ey4.out.size)
            have Kay5 : Hid (Bk y5 ga (pktC vv.o.k vv.o.e vv.o.q Ay2 vv.o.ps.length cy2)) := Kay4.out.below hb
            have Ray5 : Hid (Rd y5 Ay2 (vv.o.ps.flatMap putC)) := Ray4.out.below hb
            clear Ey4 Kay4 Ray4
            have Sy5 : Hid (SSt y5 gs vv) := Sy4.out.below hb
            have Qy5 : Hid (QSt y5 qq vv) := Qy4.out.below hb
            clear Sy4 Qy4
            have RRy5 := Lib.hid hrn.rd
            clear hb hrn
            go_wp2_with (refine wpList_al rfl 25 rfl zPk (by kernel_rfl) ?_)
            intro gb y6 hg hb hc hs
            have HQb : Hid (Below y5.heap.size y5 y6) := hc.below (Nat.le_refl _) (fun _ _ => id)
            have HGb : Hid (gb = y5.heap.size) := hg
            have KZb := Lib.hid hb
            clear hg hb hc hs
            go_wp2_with (refine wpList_st rfl 25 (.tmp 15) (.tmp 115) rfl gb 0 4 zPk (pktC vv.y.k vv.y.e vv.y.q Ay5 vv.y.ps.length cy5) rfl rfl KZb.out (by kernel_rfl) rfl (by decide) (one_pkt _ _ _ _ _ _) ?_)
            intro y7 hbk hc
            rw [splice_whole zPk (pktC vv.y.k vv.y.e vv.y.q Ay5 vv.y.ps.length cy5) rfl] at hbk
            have hb : Below y5.heap.size y5 y7 := HQb.out.trans (hc.below HQb.out.size (fun q hq he => by have := HGb.out; omega))
            have Aab : Hid (ga < gb) := by show _ < _; have := Kay5.out.lt; have := HGb.out; omega
            have Ey7 : Hid (Below w.heap.size w y7) := Ey5.out.trans (hb.mono Ey5.out.size)
            have Kay7 : Hid (Bk y7 ga (pktC vv.o.k vv.o.e vv.o.q Ay2 vv.o.ps.length cy2)) := Kay5.out.below hb
            have Ray7 : Hid (Rd y7 Ay2 (vv.o.ps.flatMap putC)) := Ray5.out.below hb
            have Rby7 : Hid (Rd y7 Ay5 (vv.y.ps.flatMap putC)) := RRy5.out.below hb
            clear Ey5 Kay5 Ray5 RRy5
            have Sy7 : Hid (SSt y7 gs vv) := Sy5.out.below hb
            have Qy7 : Hid (QSt y7 qq vv) := Qy5.out.below hb
            clear Sy5 Qy5
            have Kby7 : Hid (Bk y7 gb (pktC vv.y.k vv.y.e vv.y.q Ay5 vv.y.ps.length cy5)) := hbk
            have Kby7 : Hid (Bk y7 gb (pktC vv.y.k vv.y.e vv.y.q Ay5 vv.y.ps.length cy5)) := hbk
            clear hbk hb hc KZb HQb HGb
            go_wp2_with fail
            obtain ⟨A9, n9, c9, B9, m9, d9, hq9⟩ := Qy7.out
            have HQ9 := Lib.hid hq9
            clear hq9
            have HN9 := HQ9.out.n5
            have HM9 := HQ9.out.m5
            apply wp_region_rel 32 (Chg NoS) [(Veq _), (Veq _), (Veq _), (Veq _), (Veq _), (Veq (.bool false)), (Veq _), (Veq _), (Veq _), (Veq _), (Veq _), (Veq _), (Veq (.bool false)), (Veq _), (Veq _), (Veq _), (Veq _), (Veq _), (Veq _), (Veq _), (Veq _), (Veq _), (Veq _), (Veq _), (Veq _), (Veq _), (Veq _), (Veq _), (Veq _), (Veq _), (Veq _), (Veq _)] [[], [], [1], [2], [3], [0, 4], [5], [6], [6], [6, 8], [6, 9], [6, 10], [6, 7, 11], [6, 12], [13], [14], [14], [14, 16], [14, 17], [14, 18], [14, 15, 19], [14, 20], [14, 21], [22], [23], [23], [23, 25], [23, 26], [23, 27], [23, 24, 28], [23, 29], [23, 30]] [117, 118, 119, 120, 121, 122, 123, 124, 125, 126, 127, 128, 129, 130, 131, 132, 133, 134, 135, 136, 137, 138, 139, 140, 141, 142, 143, 144, 145, 146, 147, 148] (by kernel_rfl) (by kernel_rfl) rfl rfl rfl Chg.refl (fun _ _ _ => Chg.trans) ⟨Veq.lasts, Veq.lasts, Veq.lasts, Veq.lasts, Veq.lasts, Veq.lasts, Veq.lasts, Veq.lasts, Veq.lasts, Veq.lasts, Veq.lasts, Veq.lasts, Veq.lasts, Veq.lasts, Veq.lasts, Veq.lasts, Veq.lasts, Veq.lasts, Veq.lasts, Veq.lasts, Veq.lasts, Veq.lasts, Veq.lasts, Veq.lasts, Veq.lasts, Veq.lasts, Veq.lasts, Veq.lasts, Veq.lasts, Veq.lasts, Veq.lasts, Veq.lasts, trivial⟩ ?z1ops ?z1fin
            case z1ops =>
              refine ⟨?z1o0, ?z1o1, ?z1o2, ?z1o3, ?z1o4, ?z1o5, ?z1o6, ?z1o7, ?z1o8, ?z1o9, ?z1o10, ?z1o11, ?z1o12, ?z1o13, ?z1o14, ?z1o15, ?z1o16, ?z1o17, ?z1o18, ?z1o19, ?z1o20, ?z1o21, ?z1o22, ?z1o23, ?z1o24, ?z1o25, ?z1o26, ?z1o27, ?z1o28, ?z1o29, ?z1o30, ?z1o31, trivial⟩
              case z1o0 =>
                intro a wx hE hin
                have i14 : a.eval (.tmp 14) = .bool vv.is := hin 14 rfl
                clear hin
                have hcst : ∀ v, a.eval (.const v) = v := fun _ => rfl
                have hfnc : ∀ f, a.eval (.func f) = .func (.func f) #[] #[] := fun _ => rfl
                refine want_none rfl ?_
                unfold Oper.wp
                generalize a.eval = ρ at *
                go_simp
                try go_bits
                first | exact rel_val (Chg.refl _) | (go_simp; exact rel_val (Chg.refl _))
              case z1o1 =>
                intro a wx hE hin
                have i6 : a.eval (.tmp 6) = .pointer (some ⟨qq, 0, none⟩) := hin 6 rfl
                clear hin
                have hcst : ∀ v, a.eval (.const v) = v := fun _ => rfl
                have hfnc : ∀ f, a.eval (.func f) = .func (.func f) #[] #[] := fun _ => rfl
                refine want_none rfl ?_
                unfold Oper.wp
                generalize a.eval = ρ at *
                go_simp
                try go_bits
                first | exact rel_val (Chg.refl _) | (go_simp; exact rel_val (Chg.refl _))
              case z1o2 =>
                rintro a wx hE hin (h1 : a.eval (.tmp 118) = _)
                clear hin
                have hcst : ∀ v, a.eval (.const v) = v := fun _ => rfl
                have hfnc : ∀ f, a.eval (.func f) = .func (.func f) #[] #[] := fun _ => rfl
                refine want_none rfl ?_
                unfold Oper.wp
                generalize a.eval = ρ at *
                go_simp
                try go_bits
                first | exact rel_val (Chg.refl _) | (go_simp; exact rel_val (Chg.refl _))
              case z1o3 =>
                rintro a wx hE hin (h2 : a.eval (.tmp 119) = _)
                clear hin
                have hcst : ∀ v, a.eval (.const v) = v := fun _ => rfl
                have hfnc : ∀ f, a.eval (.func f) = .func (.func f) #[] #[] := fun _ => rfl
                refine want_none rfl ?_
                unfold Oper.wp
                generalize a.eval = ρ at *
                go_simp
                try go_bits
                first | exact rel_val (Chg.refl _) | (go_simp; exact rel_val (Chg.refl _))
              case z1o4 =>
                rintro a wx hE hin (h3 : a.eval (.tmp 120) = _)
                clear hin
                have hcst : ∀ v, a.eval (.const v) = v := fun _ => rfl
                have hfnc : ∀ f, a.eval (.func f) = .func (.func f) #[] #[] := fun _ => rfl
                refine want_none rfl ?_
                unfold Oper.wp
                generalize a.eval = ρ at *
                have c := Bk.cell (j := 0) (HQ9.out.bk.drew.chg hE id) rfl
                go_simp
                try go_bits
                first | exact rel_val (Chg.refl _) | (go_simp; exact rel_val (Chg.refl _))
              case z1o5 =>
                rintro a wx hE hin (h0 : a.eval (.tmp 117) = _) (h4 : a.eval (.tmp 121) = _)
                clear hin
                have hcst : ∀ v, a.eval (.const v) = v := fun _ => rfl
                have hfnc : ∀ f, a.eval (.func f) = .func (.func f) #[] #[] := fun _ => rfl
                refine want_none rfl ?_
                unfold Oper.wp
                generalize a.eval = ρ at *
                go_simp
                try go_bits
                first | exact rel_val (e := .bool false) (Chg.refl _) | (simp only [bne_self_eq_false]; exact rel_val (e := .bool false) (Chg.refl _)) | (rw [bne_self_eq_false]; exact rel_val (e := .bool false) (Chg.refl _))
              case z1o6 =>
                rintro a wx hE hin (h5 : a.eval (.tmp 122) = _)
                clear hin
                have hcst : ∀ v, a.eval (.const v) = v := fun _ => rfl
                have hfnc : ∀ f, a.eval (.func f) = .func (.func f) #[] #[] := fun _ => rfl
                refine want_none rfl ?_
                unfold Oper.wp
                generalize a.eval = ρ at *
                go_simp
                try go_bits
                first | exact rel_val (Chg.refl _) | (go_simp; exact rel_val (Chg.refl _))
              case z1o7 =>
                rintro a wx hE hin (h6 : a.eval (.tmp 123) = _)
                have i16 : a.eval (.tmp 16) = .bool vv.was := hin 16 rfl
                clear hin
                have hcst : ∀ v, a.eval (.const v) = v := fun _ => rfl
                have hfnc : ∀ f, a.eval (.func f) = .func (.func f) #[] #[] := fun _ => rfl
                refine want_yes rfl rfl h6 ?_
                unfold Oper.wp
                generalize a.eval = ρ at *
                go_simp
                try go_bits
                first | exact rel_val (Chg.refl _) | (go_simp; exact rel_val (Chg.refl _))
              case z1o8 =>
                rintro a wx hE hin (h6 : a.eval (.tmp 123) = _)
                have i6 : a.eval (.tmp 6) = .pointer (some ⟨qq, 0, none⟩) := hin 6 rfl
                clear hin
                have hcst : ∀ v, a.eval (.const v) = v := fun _ => rfl
                have hfnc : ∀ f, a.eval (.func f) = .func (.func f) #[] #[] := fun _ => rfl
                refine want_yes rfl rfl h6 ?_
                unfold Oper.wp
                generalize a.eval = ρ at *
                go_simp
                try go_bits
                first | exact rel_val (Chg.refl _) | (go_simp; exact rel_val (Chg.refl _))
              case z1o9 =>
                rintro a wx hE hin (h6 : a.eval (.tmp 123) = _) (h8 : a.eval (.tmp 125) = _)
                clear hin
                have hcst : ∀ v, a.eval (.const v) = v := fun _ => rfl
                have hfnc : ∀ f, a.eval (.func f) = .func (.func f) #[] #[] := fun _ => rfl
                refine want_yes rfl rfl h6 ?_
                unfold Oper.wp
                generalize a.eval = ρ at *
                go_simp
                try go_bits
                first | exact rel_val (Chg.refl _) | (go_simp; exact rel_val (Chg.refl _))
              case z1o10 =>
                rintro a wx hE hin (h6 : a.eval (.tmp 123) = _) (h9 : a.eval (.tmp 126) = _)
                clear hin
                have hcst : ∀ v, a.eval (.const v) = v := fun _ => rfl
                have hfnc : ∀ f, a.eval (.func f) = .func (.func f) #[] #[] := fun _ => rfl
                refine want_yes rfl rfl h6 ?_
                unfold Oper.wp
                generalize a.eval = ρ at *
                go_simp
                try go_bits
                first | exact rel_val (Chg.refl _) | (go_simp; exact rel_val (Chg.refl _))
              case z1o11 =>
                rintro a wx hE hin (h6 : a.eval (.tmp 123) = _) (h10 : a.eval (.tmp 127) = _)
                clear hin
                have hcst : ∀ v, a.eval (.const v) = v := fun _ => rfl
                have hfnc : ∀ f, a.eval (.func f) = .func (.func f) #[] #[] := fun _ => rfl
                refine want_yes rfl rfl h6 ?_
                unfold Oper.wp
                generalize a.eval = ρ at *
                have c := Bk.cell (j := 1) (HQ9.out.bk.drew.chg hE id) rfl
                go_simp
                try go_bits
                first | exact rel_val (Chg.refl _) | (go_simp; exact rel_val (Chg.refl _))
              case z1o12 =>
                rintro a wx hE hin (h6 : a.eval (.tmp 123) = _) (h7 : a.eval (.tmp 124) = _) (h11 : a.eval (.tmp 128) = _)
                clear hin
                have hcst : ∀ v, a.eval (.const v) = v := fun _ => rfl
                have hfnc : ∀ f, a.eval (.func f) = .func (.func f) #[] #[] := fun _ => rfl
                refine want_yes rfl rfl h6 ?_
                unfold Oper.wp
                generalize a.eval = ρ at *
                go_simp
                try go_bits
                first | exact rel_val (e := .bool false) (Chg.refl _) | (simp only [bne_self_eq_false]; exact rel_val (e := .bool false) (Chg.refl _)) | (rw [bne_self_eq_false]; exact rel_val (e := .bool false) (Chg.refl _))
              case z1o13 =>
                rintro a wx hE hin (h6 : a.eval (.tmp 123) = _) (h12 : a.eval (.tmp 129) = _)
                clear hin
                have hcst : ∀ v, a.eval (.const v) = v := fun _ => rfl
                have hfnc : ∀ f, a.eval (.func f) = .func (.func f) #[] #[] := fun _ => rfl
                refine want_none rfl ?_
                unfold Oper.wp
                generalize a.eval = ρ at *
                go_simp
                try go_bits
                first | exact rel_val (Chg.refl _) | (go_simp; exact rel_val (Chg.refl _))
              case z1o14 =>
                rintro a wx hE hin (h13 : a.eval (.tmp 130) = _)
                clear hin
                have hcst : ∀ v, a.eval (.const v) = v := fun _ => rfl
                have hfnc : ∀ f, a.eval (.func f) = .func (.func f) #[] #[] := fun _ => rfl
                refine want_none rfl ?_
                unfold Oper.wp
                generalize a.eval = ρ at *
                go_simp
                try go_bits
                first | exact rel_val (Chg.refl _) | (go_simp; exact rel_val (Chg.refl _))
              case z1o15 =>
                rintro a wx hE hin (h14 : a.eval (.tmp 131) = _)
                have i13 : a.eval (.tmp 13) = .pointer (some ⟨ga, 0, none⟩) := hin 13 rfl
                clear hin
                have hcst : ∀ v, a.eval (.const v) = v := fun _ => rfl
                have hfnc : ∀ f, a.eval (.func f) = .func (.func f) #[] #[] := fun _ => rfl
                refine want_yes rfl rfl h14 ?_
                exact wp_ld 25 _ rfl ga 0 4 _ (pktC vv.o.k vv.o.e vv.o.q Ay2 vv.o.ps.length cy2) i13 (Kay7.out.drew.chg hE id) (by kernel_rfl) (by kernel_rfl) (by show _ ≤ _; first | exact Nat.le_refl 4 | (show _ ≤ 12; decide)) rfl (rel_val (Chg.refl _))
              case z1o16 =>
                rintro a wx hE hin (h14 : a.eval (.tmp 131) = _)
                have i6 : a.eval (.tmp 6) = .pointer (some ⟨qq, 0, none⟩) := hin 6 rfl
                clear hin
                have hcst : ∀ v, a.eval (.const v) = v := fun _ => rfl
                have hfnc : ∀ f, a.eval (.func f) = .func (.func f) #[] #[] := fun _ => rfl
                refine want_yes rfl rfl h14 ?_
                unfold Oper.wp
                generalize a.eval = ρ at *
                go_simp
                try go_bits
                first | exact rel_val (Chg.refl _) | (go_simp; exact rel_val (Chg.refl _))
              case z1o17 =>
                rintro a wx hE hin (h14 : a.eval (.tmp 131) = _) (h16 : a.eval (.tmp 133) = _)
                clear hin
                have hcst : ∀ v, a.eval (.const v) = v := fun _ => rfl
                have hfnc : ∀ f, a.eval (.func f) = .func (.func f) #[] #[] := fun _ => rfl
                refine want_yes rfl rfl h14 ?_
                unfold Oper.wp
                generalize a.eval = ρ at *
                go_simp
                try go_bits
                first | exact rel_val (Chg.refl _) | (go_simp; exact rel_val (Chg.refl _))
              case z1o18 =>
                rintro a wx hE hin (h14 : a.eval (.tmp 131) = _) (h17 : a.eval (.tmp 134) = _)
                clear hin
                have hcst : ∀ v, a.eval (.const v) = v := fun _ => rfl
                have hfnc : ∀ f, a.eval (.func f) = .func (.func f) #[] #[] := fun _ => rfl
                refine want_yes rfl rfl h14 ?_
                unfold Oper.wp
                generalize a.eval = ρ at *
                go_simp
                try go_bits
                first | exact rel_val (Chg.refl _) | (go_simp; exact rel_val (Chg.refl _))
              case z1o19 =>
                rintro a wx hE hin (h14 : a.eval (.tmp 131) = _) (h18 : a.eval (.tmp 135) = _)
                clear hin
                have hcst : ∀ v, a.eval (.const v) = v := fun _ => rfl
                have hfnc : ∀ f, a.eval (.func f) = .func (.func f) #[] #[] := fun _ => rfl
                refine want_yes rfl rfl h14 ?_
                exact wp_ld 25 _ rfl qq 2 4 _ (pktC vv.o.k vv.o.e vv.o.q A9 n9 c9) h18 (HQ9.out.bk.drew.chg hE id) (by kernel_rfl) (by kernel_rfl) (by show _ ≤ _; first | exact Nat.le_refl 4 | (show _ ≤ 12; decide)) rfl (rel_val (Chg.refl _))
              case z1o20 =>
                rintro a wx hE hin (h14 : a.eval (.tmp 131) = _) (h15 : a.eval (.tmp 132) = _) (h19 : a.eval (.tmp 136) = _)
                clear hin
                have hcst : ∀ v, a.eval (.const v) = v := fun _ => rfl
                have hfnc : ∀ f, a.eval (.func f) = .func (.func f) #[] #[] := fun _ => rfl
                refine want_yes rfl rfl h14 ?_
                unfold Oper.wp
                generalize a.eval = ρ at *
                go_simp
                refine (keepPackets_calls vv.o vv.o Ay2 A9 vv.o.ps.length n9 cy2 c9 wx rfl HQ9.out.ln (by rw [HQ9.out.ln]; omega) (Ray7.out.chg hE.undrew) (HQ9.out.ra.rd.chg hE.undrew) HQ9.out.oa HQ9.out.oa).mono ?_
                rintro e w' ⟨rfl, hb⟩
                rw [pkEq_self]
                exact rel_val (.of_below hb)
              case z1o21 =>
                rintro a wx hE hin (h14 : a.eval (.tmp 131) = _) (h20 : a.eval (.tmp 137) = _)
                clear hin
                have hcst : ∀ v, a.eval (.const v) = v := fun _ => rfl
                have hfnc : ∀ f, a.eval (.func f) = .func (.func f) #[] #[] := fun _ => rfl
                refine want_yes rfl rfl h14 ?_
                unfold Oper.wp
                generalize a.eval = ρ at *
                go_simp
                try go_bits
                first | exact rel_val (Chg.refl _) | (go_simp; exact rel_val (Chg.refl _))
              case z1o22 =>
                rintro a wx hE hin (h14 : a.eval (.tmp 131) = _) (h21 : a.eval (.tmp 138) = _)
                clear hin
                have hcst : ∀ v, a.eval (.const v) = v := fun _ => rfl
                have hfnc : ∀ f, a.eval (.func f) = .func (.func f) #[] #[] := fun _ => rfl
                refine want_none rfl ?_
                unfold Oper.wp
                generalize a.eval = ρ at *
                go_simp
                try go_bits
                first | exact rel_val (Chg.refl _) | (go_simp; exact rel_val (Chg.refl _))
              case z1o23 =>
                rintro a wx hE hin (h22 : a.eval (.tmp 139) = _)
                clear hin
                have hcst : ∀ v, a.eval (.const v) = v := fun _ => rfl
                have hfnc : ∀ f, a.eval (.func f) = .func (.func f) #[] #[] := fun _ => rfl
                refine want_none rfl ?_
                unfold Oper.wp
                generalize a.eval = ρ at *
                go_simp
                try go_bits
                first | exact rel_val (Chg.refl _) | (go_simp; exact rel_val (Chg.refl _))
              case z1o24 =>
                rintro a wx hE hin (h23 : a.eval (.tmp 140) = _)
                have i15 : a.eval (.tmp 15) = .pointer (some ⟨gb, 0, none⟩) := hin 15 rfl
                clear hin
                have hcst : ∀ v, a.eval (.const v) = v := fun _ => rfl
                have hfnc : ∀ f, a.eval (.func f) = .func (.func f) #[] #[] := fun _ => rfl
                refine want_yes rfl rfl h23 ?_
                exact wp_ld 25 _ rfl gb 0 4 _ (pktC vv.y.k vv.y.e vv.y.q Ay5 vv.y.ps.length cy5) i15 (Kby7.out.drew.chg hE id) (by kernel_rfl) (by kernel_rfl) (by show _ ≤ _; first | exact Nat.le_refl 4 | (show _ ≤ 12; decide)) rfl (rel_val (Chg.refl _))
              case z1o25 =>
                rintro a wx hE hin (h23 : a.eval (.tmp 140) = _)
                have i6 : a.eval (.tmp 6) = .pointer (some ⟨qq, 0, none⟩) := hin 6 rfl
                clear hin
                have hcst : ∀ v, a.eval (.const v) = v := fun _ => rfl
                have hfnc : ∀ f, a.eval (.func f) = .func (.func f) #[] #[] := fun _ => rfl
                refine want_yes rfl rfl h23 ?_
                unfold Oper.wp
                generalize a.eval = ρ at *
                go_simp
                try go_bits
                first | exact rel_val (Chg.refl _) | (go_simp; exact rel_val (Chg.refl _))
              case z1o26 =>
                rintro a wx hE hin (h23 : a.eval (.tmp 140) = _) (h25 : a.eval (.tmp 142) = _)
                clear hin
                have hcst : ∀ v, a.eval (.const v) = v := fun _ => rfl
                have hfnc : ∀ f, a.eval (.func f) = .func (.func f) #[] #[] := fun _ => rfl
                refine want_yes rfl rfl h23 ?_
                unfold Oper.wp
                generalize a.eval = ρ at *
                go_simp
                try go_bits
                first | exact rel_val (Chg.refl _) | (go_simp; exact rel_val (Chg.refl _))
              case z1o27 =>
                rintro a wx hE hin (h23 : a.eval (.tmp 140) = _) (h26 : a.eval (.tmp 143) = _)
                clear hin
                have hcst : ∀ v, a.eval (.const v) = v := fun _ => rfl
                have hfnc : ∀ f, a.eval (.func f) = .func (.func f) #[] #[] := fun _ => rfl
                refine want_yes rfl rfl h23 ?_
                unfold Oper.wp
                generalize a.eval = ρ at *
                go_simp
                try go_bits
                first | exact rel_val (Chg.refl _) | (go_simp; exact rel_val (Chg.refl _))
              case z1o28 =>
                rintro a wx hE hin (h23 : a.eval (.tmp 140) = _) (h27 : a.eval (.tmp 144) = _)
                clear hin
                have hcst : ∀ v, a.eval (.const v) = v := fun _ => rfl
                have hfnc : ∀ f, a.eval (.func f) = .func (.func f) #[] #[] := fun _ => rfl
                refine want_yes rfl rfl h23 ?_
                exact wp_ld 25 _ rfl qq 6 4 _ (pktC vv.y.k vv.y.e vv.y.q B9 m9 d9) h27 (HQ9.out.bk.drew.chg hE id) (by kernel_rfl) (by kernel_rfl) (by show _ ≤ _; first | exact Nat.le_refl 4 | (show _ ≤ 12; decide)) rfl (rel_val (Chg.refl _))
              case z1o29 =>
                rintro a wx hE hin (h23 : a.eval (.tmp 140) = _) (h24 : a.eval (.tmp 141) = _) (h28 : a.eval (.tmp 145) = _)
                clear hin
                have hcst : ∀ v, a.eval (.const v) = v := fun _ => rfl
                have hfnc : ∀ f, a.eval (.func f) = .func (.func f) #[] #[] := fun _ => rfl
                refine want_yes rfl rfl h23 ?_
                unfold Oper.wp
                generalize a.eval = ρ at *
                go_simp
                refine (keepPackets_calls vv.y vv.y Ay5 B9 vv.y.ps.length m9 cy5 d9 wx rfl HQ9.out.lm (by rw [HQ9.out.lm]; omega) (Rby7.out.chg hE.undrew) (HQ9.out.rb.rd.chg hE.undrew) HQ9.out.ob HQ9.out.ob).mono ?_
                rintro e w' ⟨rfl, hb⟩
                rw [pkEq_self]
                exact rel_val (.of_below hb)
              case z1o30 =>
                rintro a wx hE hin (h23 : a.eval (.tmp 140) = _) (h29 : a.eval (.tmp 146) = _)
                clear hin
                have hcst : ∀ v, a.eval (.const v) = v := fun _ => rfl
                have hfnc : ∀ f, a.eval (.func f) = .func (.func f) #[] #[] := fun _ => rfl
                refine want_yes rfl rfl h23 ?_
                unfold Oper.wp
                generalize a.eval = ρ at *
                go_simp
                try go_bits
                first | exact rel_val (Chg.refl _) | (go_simp; exact rel_val (Chg.refl _))
              case z1o31 =>
                rintro a wx hE hin (h23 : a.eval (.tmp 140) = _) (h30 : a.eval (.tmp 147) = _)
                clear hin
                have hcst : ∀ v, a.eval (.const v) = v := fun _ => rfl
                have hfnc : ∀ f, a.eval (.func f) = .func (.func f) #[] #[] := fun _ => rfl
                refine want_none rfl ?_
                unfold Oper.wp
                generalize a.eval = ρ at *
                go_simp
                try go_bits
                first | exact rel_val (Chg.refl _) | (go_simp; exact rel_val (Chg.refl _))
            case z1fin =>
              intro wx hE
              rintro _ rfl _ rfl _ rfl _ rfl _ rfl _ rfl _ rfl _ rfl _ rfl _ rfl _ rfl _ rfl _ rfl _ rfl _ rfl _ rfl _ rfl _ rfl _ rfl _ rfl _ rfl _ rfl _ rfl _ rfl _ rfl _ rfl _ rfl _ rfl _ rfl _ rfl _ rfl _ rfl
              simp only [FinOk, List.take_succ_cons, List.take_zero, List.take_nil, List.drop_succ_cons, List.drop_zero, List.drop_nil, Act.put, List.setIfInBounds_toArray, List.set_cons_succ, List.set_cons_zero]
              have SX : Hid (SSt wx gs vv) := Sy7.out.chgN hE.undrew
              have QX : Hid (QSt wx qq vv) := Qy7.out.chgN hE.undrew
              have EX : Hid (Below w.heap.size w wx) := Ey7.out.trans (hE.undrew.below Ey7.out.size (fun _ _ => id))
              clear hE
              go_wp2_with fail
              go_roundw
              case rel => exact ⟨i + 1, vv, _, rfl, HLT.out, by go_num, SX.out, QX.out, EX.out, HWT.out⟩
              case measure => simp [intOf]; have := HLT.out; omega
      by_cases hk1 : s.k = 1
      case pos =>
        rw [hk1] at DV0
        clear hk0 hk1
        as_aux_lemma =>
          have c0 := Kxz2.out.cell DV0.out
          go_wp2_with fail
          clear c0
          refine (sndMissed_calls z2 gs v Sz2.out (by have := HWI.out; have := HLT.out; have := HLL.out; omega)).mono ?_
          intro en z3 hp
          obtain ⟨rfl, hst, hch⟩ := hp
          have Sz3 : Hid (SSt z3 gs v.missed) := hst
          have Qz3 : Hid (QSt z3 qq v) := Qz2.out.chg hch GQ.out
          have Ez3 : Hid (Below w.heap.size w z3) := Ez2.out.trans (hch.below Ez2.out.size (fun k hk he => by have := GS.out; have := GQ.out; omega))
          have Kxz3 : Hid (Bk z3 gx vs) := Kxz2.out.chg hch (fun h => by have := Nx.out; have := GQ.out; omega)
          clear Kxz2
          clear hst hch Sz2 Qz2 Ez2
          go_wp2_with fail
          refine (refMissed_calls z3 qq v Qz3.out (by have := HWI.out; have := HLT.out; have := HLL.out; omega)).mono ?_
          intro en z4 hp
          obtain ⟨rfl, hst, hch⟩ := hp
          have Sz4 : Hid (SSt z4 gs v.missed) := Sz3.out.chgq hch GQ1.out
          have Qz4 : Hid (QSt z4 qq v.missed) := hst
          have Ez4 : Hid (Below w.heap.size w z4) := Ez3.out.trans (hch.below Ez3.out.size (fun k hk he => by have := GS.out; have := GQ.out; omega))
          have Kxz4 : Hid (Bk z4 gx vs) := Kxz3.out.chg hch (fun h => by have := Nx.out; have := GQ.out; omega)
          clear Kxz3
          clear hst hch Sz3 Qz3 Ez3
          obtain ⟨vv, hvv⟩ : ∃ vv, v.missed = vv := ⟨_, rfl⟩
          have HWT : Hid (vv.wt ≤ i + 1) := by show _ ≤ _; rw [← hvv]; exact Nat.le_trans (missed_wt v) (by have := HWI.out; omega)
          rw [hvv] at Sz4 Qz4
          clear hvv
          go_wp2_with fail
          refine (sndOut_calls z4 gs vv Sz4.out).mono ?_
          rintro en z5 ⟨Az5, cz5, rfl, hrn, hncz5, hmcz5, hb⟩
          have Ez5 : Hid (Below w.heap.size w z5) := Ez4.out.trans (hb.mono Ez4.out.size)
          clear Ez4
          have Sz5 : Hid (SSt z5 gs vv) := Sz4.out.below hb
          have Qz5 : Hid (QSt z5 qq vv) := Qz4.out.below hb
          clear Sz4 Qz4
          have RRz5 := Lib.hid hrn.rd
          clear hb hrn
          go_wp2_with (refine wpList_al rfl 25 rfl zPk (by kernel_rfl) ?_)
          intro ga z6 hg hb hc hs
          have HQa : Hid (Below z5.heap.size z5 z6) := hc.below (Nat.le_refl _) (fun _ _ => id)
          have HGa : Hid (ga = z5.heap.size) := hg
          have KZa := Lib.hid hb
          clear hg hb hc hs
          go_wp2_with (refine wpList_st rfl 25 (.tmp 13) (.tmp 110) rfl ga 0 4 zPk (pktC vv.o.k vv.o.e vv.o.q Az5 vv.o.ps.length cz5) rfl rfl KZa.out (by kernel_rfl) rfl (by decide) (one_pkt _ _ _ _ _ _) ?_)
          intro z7 hbk hc
          rw [splice_whole zPk (pktC vv.o.k vv.o.e vv.o.q Az5 vv.o.ps.length cz5) rfl] at hbk
          have hb : Below z5.heap.size z5 z7 := HQa.out.trans (hc.below HQa.out.size (fun q hq he => by have := HGa.out; omega))
          have Ez7 : Hid (Below w.heap.size w z7) := Ez5.out.trans (hb.mono Ez5.out.size)
          have Raz7 : Hid (Rd z7 Az5 (vv.o.ps.flatMap putC)) := RRz5.out.below hb
          clear Ez5 RRz5
          have Sz7 : Hid (SSt z7 gs vv) := Sz5.out.below hb
          have Qz7 : Hid (QSt z7 qq vv) := Qz5.out.below hb
          clear Sz5 Qz5
          have Kaz7 : Hid (Bk z7 ga (pktC vv.o.k vv.o.e vv.o.q Az5 vv.o.ps.length cz5)) := hbk
          have Kaz7 : Hid (Bk z7 ga (pktC vv.o.k vv.o.e vv.o.q Az5 vv.o.ps.length cz5)) := hbk
          clear hbk hb hc KZa HQa HGa
          go_wp2_with fail
          refine (sndEarly_calls z7 gs vv Sz7.out).mono ?_
          rintro en z8 ⟨Az8, cz8, rfl, hrn, hncz8, hmcz8, hb⟩
          have Ez8 : Hid (Below w.heap.size w z8) := Ez7.out.trans (hb.mono Ez7.out.size)
          have Kaz8 : Hid (Bk z8 ga (pktC vv.o.k vv.o.e vv.o.q Az5 vv.o.ps.length cz5)) := Kaz7.out.below hb
          have Raz8 : Hid (Rd z8 Az5 (vv.o.ps.flatMap putC)) := Raz7.out.below hb
          clear Ez7 Kaz7 Raz7
          have Sz8 : Hid (SSt z8 gs vv) := Sz7.out.below hb
          have Qz8 : Hid (QSt z8 qq vv) := Qz7.out.below hb
          clear Sz7 Qz7
          have RRz8 := Lib.hid hrn.rd
          clear hb hrn
          go_wp2_with (refine wpList_al rfl 25 rfl zPk (by kernel_rfl) ?_)
          intro gb z9 hg hb hc hs
          have HQb : Hid (Below z8.heap.size z8 z9) := hc.below (Nat.le_refl _) (fun _ _ => id)
          have HGb : Hid (gb = z8.heap.size) := hg
          have KZb := Lib.hid hb
          clear hg hb hc hs
          go_wp2_with (refine wpList_st rfl 25 (.tmp 15) (.tmp 115) rfl gb 0 4 zPk (pktC vv.y.k vv.y.e vv.y.q Az8 vv.y.ps.length cz8) rfl rfl KZb.out (by kernel_rfl) rfl (by decide) (one_pkt _ _ _ _ _ _) ?_)
          intro z10 hbk hc
          rw [splice_whole zPk (pktC vv.y.k vv.y.e vv.y.q Az8 vv.y.ps.length cz8) rfl] at hbk
          have hb : Below z8.heap.size z8 z10 := HQb.out.trans (hc.below HQb.out.size (fun q hq he => by have := HGb.out; omega))
          have Aab : Hid (ga < gb) := by show _ < _; have := Kaz8.out.lt; have := HGb.out; omega
          have Ez10 : Hid (Below w.heap.size w z10) := Ez8.out.trans (hb.mono Ez8.out.size)
          have Kaz10 : Hid (Bk z10 ga (pktC vv.o.k vv.o.e vv.o.q Az5 vv.o.ps.length cz5)) := Kaz8.out.below hb
          have Raz10 : Hid (Rd z10 Az5 (vv.o.ps.flatMap putC)) := Raz8.out.below hb
          have Rbz10 : Hid (Rd z10 Az8 (vv.y.ps.flatMap putC)) := RRz8.out.below hb
          clear Ez8 Kaz8 Raz8 RRz8
          have Sz10 : Hid (SSt z10 gs vv) := Sz8.out.below hb
          have Qz10 : Hid (QSt z10 qq vv) := Qz8.out.below hb
          clear Sz8 Qz8
          have Kbz10 : Hid (Bk z10 gb (pktC vv.y.k vv.y.e vv.y.q Az8 vv.y.ps.length cz8)) := hbk
          have Kbz10 : Hid (Bk z10 gb (pktC vv.y.k vv.y.e vv.y.q Az8 vv.y.ps.length cz8)) := hbk
          clear hbk hb hc KZb HQb HGb
          go_wp2_with fail
          obtain ⟨A9, n9, c9, B9, m9, d9, hq9⟩ := Qz10.out
          have HQ9 := Lib.hid hq9
          clear hq9
          have HN9 := HQ9.out.n5
          have HM9 := HQ9.out.m5
          apply wp_region_rel 32 (Chg NoS) [(Veq _), (Veq _), (Veq _), (Veq _), (Veq _), (Veq (.bool false)), (Veq _), (Veq _), (Veq _), (Veq _), (Veq _), (Veq _), (Veq (.bool false)), (Veq _), (Veq _), (Veq _), (Veq _), (Veq _), (Veq _), (Veq _), (Veq _), (Veq _), (Veq _), (Veq _), (Veq _), (Veq _), (Veq _), (Veq _), (Veq _), (Veq _), (Veq _), (Veq _)] [[], [], [1], [2], [3], [0, 4], [5], [6], [6], [6, 8], [6, 9], [6, 10], [6, 7, 11], [6, 12], [13], [14], [14], [14, 16], [14, 17], [14, 18], [14, 15, 19], [14, 20], [14, 21], [22], [23], [23], [23, 25], [23, 26], [23, 27], [23, 24, 28], [23, 29], [23, 30]] [117, 118, 119, 120, 121, 122, 123, 124, 125, 126, 127, 128, 129, 130, 131, 132, 133, 134, 135, 136, 137, 138, 139, 140, 141, 142, 143, 144, 145, 146, 147, 148] (by kernel_rfl) (by kernel_rfl) rfl rfl rfl Chg.refl (fun _ _ _ => Chg.trans) ⟨Veq.lasts, Veq.lasts, Veq.lasts, Veq.lasts, Veq.lasts, Veq.lasts, Veq.lasts, Veq.lasts, Veq.lasts, Veq.lasts, Veq.lasts, Veq.lasts, Veq.lasts, Veq.lasts, Veq.lasts, Veq.lasts, Veq.lasts, Veq.lasts, Veq.lasts, Veq.lasts, Veq.lasts, Veq.lasts, Veq.lasts, Veq.lasts, Veq.lasts, Veq.lasts, Veq.lasts, Veq.lasts, Veq.lasts, Veq.lasts, Veq.lasts, Veq.lasts, trivial⟩ ?z2ops ?z2fin
          case z2ops =>
            refine ⟨?z2o0, ?z2o1, ?z2o2, ?z2o3, ?z2o4, ?z2o5, ?z2o6, ?z2o7, ?z2o8, ?z2o9, ?z2o10, ?z2o11, ?z2o12, ?z2o13, ?z2o14, ?z2o15, ?z2o16, ?z2o17, ?z2o18, ?z2o19, ?z2o20, ?z2o21, ?z2o22, ?z2o23, ?z2o24, ?z2o25, ?z2o26, ?z2o27, ?z2o28, ?z2o29, ?z2o30, ?z2o31, trivial⟩
            case z2o0 =>
              intro a wx hE hin
              have i14 : a.eval (.tmp 14) = .bool vv.is := hin 14 rfl
              clear hin
              have hcst : ∀ v, a.eval (.const v) = v := fun _ => rfl
              have hfnc : ∀ f, a.eval (.func f) = .func (.func f) #[] #[] := fun _ => rfl
              refine want_none rfl ?_
              unfold Oper.wp
              generalize a.eval = ρ at *
              go_simp
              try go_bits
              first | exact rel_val (Chg.refl _) | (go_simp; exact rel_val (Chg.refl _))
            case z2o1 =>
              intro a wx hE hin
              have i6 : a.eval (.tmp 6) = .pointer (some ⟨qq, 0, none⟩) := hin 6 rfl
              clear hin
              have hcst : ∀ v, a.eval (.const v) = v := fun _ => rfl
              have hfnc : ∀ f, a.eval (.func f) = .func (.func f) #[] #[] := fun _ => rfl
              refine want_none rfl ?_
              unfold Oper.wp
              generalize a.eval = ρ at *
              go_simp
              try go_bits
              first | exact rel_val (Chg.refl _) | (go_simp; exact rel_val (Chg.refl _))
            case z2o2 =>
              rintro a wx hE hin (h1 : a.eval (.tmp 118) = _)
              clear hin
              have hcst : ∀ v, a.eval (.const v) = v := fun _ => rfl
              have hfnc : ∀ f, a.eval (.func f) = .func (.func f) #[] #[] := fun _ => rfl
              refine want_none rfl ?_
              unfold Oper.wp
              generalize a.eval = ρ at *
              go_simp
              try go_bits
              first | exact rel_val (Chg.refl _) | (go_simp; exact rel_val (Chg.refl _))
            case z2o3 =>
              rintro a wx hE hin (h2 : a.eval (.tmp 119) = _)
              clear hin
              have hcst : ∀ v, a.eval (.const v) = v := fun _ => rfl
              have hfnc : ∀ f, a.eval (.func f) = .func (.func f) #[] #[] := fun _ => rfl
              refine want_none rfl ?_
              unfold Oper.wp
              generalize a.eval = ρ at *
              go_simp
              try go_bits
              first | exact rel_val (Chg.refl _) | (go_simp; exact rel_val (Chg.refl _))
            case z2o4 =>
              rintro a wx hE hin (h3 : a.eval (.tmp 120) = _)
              clear hin
              have hcst : ∀ v, a.eval (.const v) = v := fun _ => rfl
              have hfnc : ∀ f, a.eval (.func f) = .func (.func f) #[] #[] := fun _ => rfl
              refine want_none rfl ?_
              unfold Oper.wp
              generalize a.eval = ρ at *
              have c := Bk.cell (j := 0) (HQ9.out.bk.drew.chg hE id) rfl
              go_simp
              try go_bits
              first | exact rel_val (Chg.refl _) | (go_simp; exact rel_val (Chg.refl _))
            case z2o5 =>
              rintro a wx hE hin (h0 : a.eval (.tmp 117) = _) (h4 : a.eval (.tmp 121) = _)
              clear hin
              have hcst : ∀ v, a.eval (.const v) = v := fun _ => rfl
              have hfnc : ∀ f, a.eval (.func f) = .func (.func f) #[] #[] := fun _ => rfl
              refine want_none rfl ?_
              unfold Oper.wp
              generalize a.eval = ρ at *
              go_simp
              try go_bits
              first | exact rel_val (e := .bool false) (Chg.refl _) | (simp only [bne_self_eq_false]; exact rel_val (e := .bool false) (Chg.refl _)) | (rw [bne_self_eq_false]; exact rel_val (e := .bool false) (Chg.refl _))
            case z2o6 =>
              rintro a wx hE hin (h5 : a.eval (.tmp 122) = _)
              clear hin
              have hcst : ∀ v, a.eval (.const v) = v := fun _ => rfl
              have hfnc : ∀ f, a.eval (.func f) = .func (.func f) #[] #[] := fun _ => rfl
              refine want_none rfl ?_
              unfold Oper.wp
              generalize a.eval = ρ at *
              go_simp
              try go_bits
              first | exact rel_val (Chg.refl _) | (go_simp; exact rel_val (Chg.refl _))
            case z2o7 =>
              rintro a wx hE hin (h6 : a.eval (.tmp 123) = _)
              have i16 : a.eval (.tmp 16) = .bool vv.was := hin 16 rfl
              clear hin
              have hcst : ∀ v, a.eval (.const v) = v := fun _ => rfl
              have hfnc : ∀ f, a.eval (.func f) = .func (.func f) #[] #[] := fun _ => rfl
              refine want_yes rfl rfl h6 ?_
              unfold Oper.wp
              generalize a.eval = ρ at *
              go_simp
              try go_bits
              first | exact rel_val (Chg.refl _) | (go_simp; exact rel_val (Chg.refl _))
            case z2o8 =>
              rintro a wx hE hin (h6 : a.eval (.tmp 123) = _)
              have i6 : a.eval (.tmp 6) = .pointer (some ⟨qq, 0, none⟩) := hin 6 rfl
              clear hin
              have hcst : ∀ v, a.eval (.const v) = v := fun _ => rfl
              have hfnc : ∀ f, a.eval (.func f) = .func (.func f) #[] #[] := fun _ => rfl
              refine want_yes rfl rfl h6 ?_
              unfold Oper.wp
              generalize a.eval = ρ at *
              go_simp
              try go_bits
              first | exact rel_val (Chg.refl _) | (go_simp; exact rel_val (Chg.refl _))
            case z2o9 =>
              rintro a wx hE hin (h6 : a.eval (.tmp 123) = _) (h8 : a.eval (.tmp 125) = _)
              clear hin
              have hcst : ∀ v, a.eval (.const v) = v := fun _ => rfl
              have hfnc : ∀ f, a.eval (.func f) = .func (.func f) #[] #[] := fun _ => rfl
              refine want_yes rfl rfl h6 ?_
              unfold Oper.wp
              generalize a.eval = ρ at *
              go_simp
              try go_bits
              first | exact rel_val (Chg.refl _) | (go_simp; exact rel_val (Chg.refl _))
            case z2o10 =>
              rintro a wx hE hin (h6 : a.eval (.tmp 123) = _) (h9 : a.eval (.tmp 126) = _)
              clear hin
              have hcst : ∀ v, a.eval (.const v) = v := fun _ => rfl
              have hfnc : ∀ f, a.eval (.func f) = .func (.func f) #[] #[] := fun _ => rfl
              refine want_yes rfl rfl h6 ?_
              unfold Oper.wp
              generalize a.eval = ρ at *
              go_simp
              try go_bits
              first | exact rel_val (Chg.refl _) | (go_simp; exact rel_val (Chg.refl _))
            case z2o11 =>
              rintro a wx hE hin (h6 : a.eval (.tmp 123) = _) (h10 : a.eval (.tmp 127) = _)
              clear hin
              have hcst : ∀ v, a.eval (.const v) = v := fun _ => rfl
              have hfnc : ∀ f, a.eval (.func f) = .func (.func f) #[] #[] := fun _ => rfl
              refine want_yes rfl rfl h6 ?_
              unfold Oper.wp
              generalize a.eval = ρ at *
              have c := Bk.cell (j := 1) (HQ9.out.bk.drew.chg hE id) rfl
              go_simp
              try go_bits
              first | exact rel_val (Chg.refl _) | (go_simp; exact rel_val (Chg.refl _))
            case z2o12 =>
              rintro a wx hE hin (h6 : a.eval (.tmp 123) = _) (h7 : a.eval (.tmp 124) = _) (h11 : a.eval (.tmp 128) = _)
              clear hin
              have hcst : ∀ v, a.eval (.const v) = v := fun _ => rfl
              have hfnc : ∀ f, a.eval (.func f) = .func (.func f) #[] #[] := fun _ => rfl
              refine want_yes rfl rfl h6 ?_
              unfold Oper.wp
              generalize a.eval = ρ at *
              go_simp
              try go_bits
              first | exact rel_val (e := .bool false) (Chg.refl _) | (simp only [bne_self_eq_false]; exact rel_val (e := .bool false) (Chg.refl _)) | (rw [bne_self_eq_false]; exact rel_val (e := .bool false) (Chg.refl _))
            case z2o13 =>
              rintro a wx hE hin (h6 : a.eval (.tmp 123) = _) (h12 : a.eval (.tmp 129) = _)
              clear hin
              have hcst : ∀ v, a.eval (.const v) = v := fun _ => rfl
              have hfnc : ∀ f, a.eval (.func f) = .func (.func f) #[] #[] := fun _ => rfl
              refine want_none rfl ?_
              unfold Oper.wp
              generalize a.eval = ρ at *
              go_simp
              try go_bits
              first | exact rel_val (Chg.refl _) | (go_simp; exact rel_val (Chg.refl _))
            case z2o14 =>
              rintro a wx hE hin (h13 : a.eval (.tmp 130) = _)
              clear hin
              have hcst : ∀ v, a.eval (.const v) = v := fun _ => rfl
              have hfnc : ∀ f, a.eval (.func f) = .func (.func f) #[] #[] := fun _ => rfl
              refine want_none rfl ?_
              unfold Oper.wp
              generalize a.eval = ρ at *
              go_simp
              try go_bits
              first | exact rel_val (Chg.refl _) | (go_simp; exact rel_val (Chg.refl _))
            case z2o15 =>
              rintro a wx hE hin (h14 : a.eval (.tmp 131) = _)
              have i13 : a.eval (.tmp 13) = .pointer (some ⟨ga, 0, none⟩) := hin 13 rfl
              clear hin
              have hcst : ∀ v, a.eval (.const v) = v := fun _ => rfl
              have hfnc : ∀ f, a.eval (.func f) = .func (.func f) #[] #[] := fun _ => rfl
              refine want_yes rfl rfl h14 ?_
              exact wp_ld 25 _ rfl ga 0 4 _ (pktC vv.o.k vv.o.e vv.o.q Az5 vv.o.ps.length cz5) i13 (Kaz10.out.drew.chg hE id) (by kernel_rfl) (by kernel_rfl) (by show _ ≤ _; first | exact Nat.le_refl 4 | (show _ ≤ 12; decide)) rfl (rel_val (Chg.refl _))
            case z2o16 =>
              rintro a wx hE hin (h14 : a.eval (.tmp 131) = _)
              have i6 : a.eval (.tmp 6) = .pointer (some ⟨qq, 0, none⟩) := hin 6 rfl
              clear hin
              have hcst : ∀ v, a.eval (.const v) = v := fun _ => rfl
              have hfnc : ∀ f, a.eval (.func f) = .func (.func f) #[] #[] := fun _ => rfl
              refine want_yes rfl rfl h14 ?_
              unfold Oper.wp
              generalize a.eval = ρ at *
              go_simp
              try go_bits
              first | exact rel_val (Chg.refl _) | (go_simp; exact rel_val (Chg.refl _))
            case z2o17 =>
              rintro a wx hE hin (h14 : a.eval (.tmp 131) = _) (h16 : a.eval (.tmp 133) = _)
              clear hin
              have hcst : ∀ v, a.eval (.const v) = v := fun _ => rfl
              have hfnc : ∀ f, a.eval (.func f) = .func (.func f) #[] #[] := fun _ => rfl
              refine want_yes rfl rfl h14 ?_
              unfold Oper.wp
              generalize a.eval = ρ at *
              go_simp
              try go_bits
              first | exact rel_val (Chg.refl _) | (go_simp; exact rel_val (Chg.refl _))
            case z2o18 =>
              rintro a wx hE hin (h14 : a.eval (.tmp 131) = _) (h17 : a.eval (.tmp 134) = _)
              clear hin
              have hcst : ∀ v, a.eval (.const v) = v := fun _ => rfl
              have hfnc : ∀ f, a.eval (.func f) = .func (.func f) #[] #[] := fun _ => rfl
              refine want_yes rfl rfl h14 ?_
              unfold Oper.wp
              generalize a.eval = ρ at *
              go_simp
              try go_bits
              first | exact rel_val (Chg.refl _) | (go_simp; exact rel_val (Chg.refl _))
            case z2o19 =>
              rintro a wx hE hin (h14 : a.eval (.tmp 131) = _) (h18 : a.eval (.tmp 135) = _)
              clear hin
              have hcst : ∀ v, a.eval (.const v) = v := fun _ => rfl
              have hfnc : ∀ f, a.eval (.func f) = .func (.func f) #[] #[] := fun _ => rfl
              refine want_yes rfl rfl h14 ?_
              exact wp_ld 25 _ rfl qq 2 4 _ (pktC vv.o.k vv.o.e vv.o.q A9 n9 c9) h18 (HQ9.out.bk.drew.chg hE id) (by kernel_rfl) (by kernel_rfl) (by show _ ≤ _; first | exact Nat.le_refl 4 | (show _ ≤ 12; decide)) rfl (rel_val (Chg.refl _))
            case z2o20 =>
              rintro a wx hE hin (h14 : a.eval (.tmp 131) = _) (h15 : a.eval (.tmp 132) = _) (h19 : a.eval (.tmp 136) = _)
              clear hin
              have hcst : ∀ v, a.eval (.const v) = v := fun _ => rfl
              have hfnc : ∀ f, a.eval (.func f) = .func (.func f) #[] #[] := fun _ => rfl
              refine want_yes rfl rfl h14 ?_
              unfold Oper.wp
              generalize a.eval = ρ at *
              go_simp
              refine (keepPackets_calls vv.o vv.o Az5 A9 vv.o.ps.length n9 cz5 c9 wx rfl HQ9.out.ln (by rw [HQ9.out.ln]; omega) (Raz10.out.chg hE.undrew) (HQ9.out.ra.rd.chg hE.undrew) HQ9.out.oa HQ9.out.oa).mono ?_
              rintro e w' ⟨rfl, hb⟩
              rw [pkEq_self]
              exact rel_val (.of_below hb)
            case z2o21 =>
              rintro a wx hE hin (h14 : a.eval (.tmp 131) = _) (h20 : a.eval (.tmp 137) = _)
              clear hin
              have hcst : ∀ v, a.eval (.const v) = v := fun _ => rfl
              have hfnc : ∀ f, a.eval (.func f) = .func (.func f) #[] #[] := fun _ => rfl
              refine want_yes rfl rfl h14 ?_
              unfold Oper.wp
              generalize a.eval = ρ at *
              go_simp
              try go_bits
              first | exact rel_val (Chg.refl _) | (go_simp; exact rel_val (Chg.refl _))
            case z2o22 =>
              rintro a wx hE hin (h14 : a.eval (.tmp 131) = _) (h21 : a.eval (.tmp 138) = _)
              clear hin
              have hcst : ∀ v, a.eval (.const v) = v := fun _ => rfl
              have hfnc : ∀ f, a.eval (.func f) = .func (.func f) #[] #[] := fun _ => rfl
              refine want_none rfl ?_
              unfold Oper.wp
              generalize a.eval = ρ at *
              go_simp
              try go_bits
              first | exact rel_val (Chg.refl _) | (go_simp; exact rel_val (Chg.refl _))
            case z2o23 =>
              rintro a wx hE hin (h22 : a.eval (.tmp 139) = _)
              clear hin
              have hcst : ∀ v, a.eval (.const v) = v := fun _ => rfl
              have hfnc : ∀ f, a.eval (.func f) = .func (.func f) #[] #[] := fun _ => rfl
              refine want_none rfl ?_
              unfold Oper.wp
              generalize a.eval = ρ at *
              go_simp
              try go_bits
              first | exact rel_val (Chg.refl _) | (go_simp; exact rel_val (Chg.refl _))
            case z2o24 =>
              rintro a wx hE hin (h23 : a.eval (.tmp 140) = _)
              have i15 : a.eval (.tmp 15) = .pointer (some ⟨gb, 0, none⟩) := hin 15 rfl
              clear hin
              have hcst : ∀ v, a.eval (.const v) = v := fun _ => rfl
              have hfnc : ∀ f, a.eval (.func f) = .func (.func f) #[] #[] := fun _ => rfl
              refine want_yes rfl rfl h23 ?_
              exact wp_ld 25 _ rfl gb 0 4 _ (pktC vv.y.k vv.y.e vv.y.q Az8 vv.y.ps.length cz8) i15 (Kbz10.out.drew.chg hE id) (by kernel_rfl) (by kernel_rfl) (by show _ ≤ _; first | exact Nat.le_refl 4 | (show _ ≤ 12; decide)) rfl (rel_val (Chg.refl _))
            case z2o25 =>
              rintro a wx hE hin (h23 : a.eval (.tmp 140) = _)
              have i6 : a.eval (.tmp 6) = .pointer (some ⟨qq, 0, none⟩) := hin 6 rfl
              clear hin
              have hcst : ∀ v, a.eval (.const v) = v := fun _ => rfl
              have hfnc : ∀ f, a.eval (.func f) = .func (.func f) #[] #[] := fun _ => rfl
              refine want_yes rfl rfl h23 ?_
              unfold Oper.wp
              generalize a.eval = ρ at *
              go_simp
              try go_bits
              first | exact rel_val (Chg.refl _) | (go_simp; exact rel_val (Chg.refl _))
            case z2o26 =>
              rintro a wx hE hin (h23 : a.eval (.tmp 140) = _) (h25 : a.eval (.tmp 142) = _)
              clear hin
              have hcst : ∀ v, a.eval (.const v) = v := fun _ => rfl
              have hfnc : ∀ f, a.eval (.func f) = .func (.func f) #[] #[] := fun _ => rfl
              refine want_yes rfl rfl h23 ?_
              unfold Oper.wp
              generalize a.eval = ρ at *
              go_simp
              try go_bits
              first | exact rel_val (Chg.refl _) | (go_simp; exact rel_val (Chg.refl _))
            case z2o27 =>
              rintro a wx hE hin (h23 : a.eval (.tmp 140) = _) (h26 : a.eval (.tmp 143) = _)
              clear hin
              have hcst : ∀ v, a.eval (.const v) = v := fun _ => rfl
              have hfnc : ∀ f, a.eval (.func f) = .func (.func f) #[] #[] := fun _ => rfl
              refine want_yes rfl rfl h23 ?_
              unfold Oper.wp
              generalize a.eval = ρ at *
              go_simp
              try go_bits
              first | exact rel_val (Chg.refl _) | (go_simp; exact rel_val (Chg.refl _))
            case z2o28 =>
              rintro a wx hE hin (h23 : a.eval (.tmp 140) = _) (h27 : a.eval (.tmp 144) = _)
              clear hin
              have hcst : ∀ v, a.eval (.const v) = v := fun _ => rfl
              have hfnc : ∀ f, a.eval (.func f) = .func (.func f) #[] #[] := fun _ => rfl
              refine want_yes rfl rfl h23 ?_
              exact wp_ld 25 _ rfl qq 6 4 _ (pktC vv.y.k vv.y.e vv.y.q B9 m9 d9) h27 (HQ9.out.bk.drew.chg hE id) (by kernel_rfl) (by kernel_rfl) (by show _ ≤ _; first | exact Nat.le_refl 4 | (show _ ≤ 12; decide)) rfl (rel_val (Chg.refl _))
            case z2o29 =>
              rintro a wx hE hin (h23 : a.eval (.tmp 140) = _) (h24 : a.eval (.tmp 141) = _) (h28 : a.eval (.tmp 145) = _)
              clear hin
              have hcst : ∀ v, a.eval (.const v) = v := fun _ => rfl
              have hfnc : ∀ f, a.eval (.func f) = .func (.func f) #[] #[] := fun _ => rfl
              refine want_yes rfl rfl h23 ?_
              unfold Oper.wp
              generalize a.eval = ρ at *
              go_simp
              refine (keepPackets_calls vv.y vv.y Az8 B9 vv.y.ps.length m9 cz8 d9 wx rfl HQ9.out.lm (by rw [HQ9.out.lm]; omega) (Rbz10.out.chg hE.undrew) (HQ9.out.rb.rd.chg hE.undrew) HQ9.out.ob HQ9.out.ob).mono ?_
              rintro e w' ⟨rfl, hb⟩
              rw [pkEq_self]
              exact rel_val (.of_below hb)
            case z2o30 =>
              rintro a wx hE hin (h23 : a.eval (.tmp 140) = _) (h29 : a.eval (.tmp 146) = _)
              clear hin
              have hcst : ∀ v, a.eval (.const v) = v := fun _ => rfl
              have hfnc : ∀ f, a.eval (.func f) = .func (.func f) #[] #[] := fun _ => rfl
              refine want_yes rfl rfl h23 ?_
              unfold Oper.wp
              generalize a.eval = ρ at *
              go_simp
              try go_bits
              first | exact rel_val (Chg.refl _) | (go_simp; exact rel_val (Chg.refl _))
            case z2o31 =>
              rintro a wx hE hin (h23 : a.eval (.tmp 140) = _) (h30 : a.eval (.tmp 147) = _)
              clear hin
              have hcst : ∀ v, a.eval (.const v) = v := fun _ => rfl
              have hfnc : ∀ f, a.eval (.func f) = .func (.func f) #[] #[] := fun _ => rfl
              refine want_none rfl ?_
              unfold Oper.wp
              generalize a.eval = ρ at *
              go_simp
              try go_bits
              first | exact rel_val (Chg.refl _) | (go_simp; exact rel_val (Chg.refl _))
          case z2fin =>
            intro wx hE
            rintro _ rfl _ rfl _ rfl _ rfl _ rfl _ rfl _ rfl _ rfl _ rfl _ rfl _ rfl _ rfl _ rfl _ rfl _ rfl _ rfl _ rfl _ rfl _ rfl _ rfl _ rfl _ rfl _ rfl _ rfl _ rfl _ rfl _ rfl _ rfl _ rfl _ rfl _ rfl _ rfl
            simp only [FinOk, List.take_succ_cons, List.take_zero, List.take_nil, List.drop_succ_cons, List.drop_zero, List.drop_nil, Act.put, List.setIfInBounds_toArray, List.set_cons_succ, List.set_cons_zero]
            have SX : Hid (SSt wx gs vv) := Sz10.out.chgN hE.undrew
            have QX : Hid (QSt wx qq vv) := Qz10.out.chgN hE.undrew
            have EX : Hid (Below w.heap.size w wx) := Ez10.out.trans (hE.undrew.below Ez10.out.size (fun _ _ => id))
            clear hE
            go_wp2_with fail
            go_roundw
            case rel => exact ⟨i + 1, vv, _, rfl, HLT.out, by go_num, SX.out, QX.out, EX.out, HWT.out⟩
            case measure => simp [intOf]; have := HLT.out; omega
      by_cases hk2 : s.k = 2
      case pos =>
        rw [hk2] at DV0
        clear hk0 hk1 hk2
        as_aux_lemma =>
          have c0 := Kxz2.out.cell DV0.out
          have c5 : (z2.alloc (.cells #[] 48)).cell? ⟨gx, 5, none⟩ = some (.slice s.B s.m s.d) := Bk.cell (Kxz2.out.alloc _) DV5.out
          go_wp2_with (refine wpList_append_new rfl _ _ 23 rfl 48 zPut 33 40 Try.underlying23 infoPut3 rfl (by decide) (by decide) ⟨z2.heap.size, 0, none⟩ rfl s.B s.m s.d (s.ts.flatMap putC) rfl (by rw [puts_length HSO.out.ok, HSO.out.len]) (HSO.out.rd.below (Ez2.out.alloc Ez2.out.size _)) (by have := HSF.out.2; omega) (one_puts _) ?_)
          intro A6 c6 z3 hrn hcn
          have hb : Below z2.heap.size z2 z3 := ((Below.refl _ _).alloc (Nat.le_refl _) _).trans (hcn.below (by simp) (fun _ _ => id))
          have HRN : Hid (Rd z3 A6 (s.ts.flatMap putC)) := hrn.rd
          clear c0
          have Ez3 : Hid (Below w.heap.size w z3) := Ez2.out.trans (hb.mono Ez2.out.size)
          have Kxz3 : Hid (Bk z3 gx vs) := Kxz2.out.below hb
          clear Ez2 Kxz2
          have Sz3 : Hid (SSt z3 gs v) := Sz2.out.below hb
          have Qz3 : Hid (QSt z3 qq v) := Qz2.out.below hb
          clear Sz2 Qz2
          clear hb hrn hcn c5
          go_wp2_with fail
          refine (sndTouch_calls z3 gs v Sz3.out s.ts A6 s.m c6 HSO.out.len (by have := HSF.out.2; omega) HRN.out HSO.out.ok).mono ?_
          intro en z4 hp
          obtain ⟨rfl, hst, hch⟩ := hp
          have Sz4 : Hid (SSt z4 gs (v.touch s.ts)) := hst
          have Qz4 : Hid (QSt z4 qq v) := Qz3.out.chg hch GQ.out
          have Ez4 : Hid (Below w.heap.size w z4) := Ez3.out.trans (hch.below Ez3.out.size (fun k hk he => by have := GS.out; have := GQ.out; omega))
          have Kxz4 : Hid (Bk z4 gx vs) := Kxz3.out.chg hch (fun h => by have := Nx.out; have := GQ.out; omega)
          clear Kxz3
          clear hst hch Sz3 Qz3 Ez3
          have c5 := Kxz4.out.cell DV5.out
          clear HRN
          go_wp2_with fail
          clear c5
          refine (refTouch_calls z4 qq v Qz4.out HGO.out s.ts s.B s.m s.d HSO.out.len (by have := HSF.out.2; omega) (fun w' hc => HSO.out.rd.below (Ez4.out.trans (hc.below Ez4.out.size (fun k hk he => by have := GS.out; have := GQ.out; omega)))) HSO.out.ok).mono ?_
          intro en z5 hp
          obtain ⟨rfl, hst, hch⟩ := hp
          have Sz5 : Hid (SSt z5 gs (v.touch s.ts)) := Sz4.out.chgq hch GQ1.out
          have Qz5 : Hid (QSt z5 qq (v.touch s.ts)) := hst
          have Ez5 : Hid (Below w.heap.size w z5) := Ez4.out.trans (hch.below Ez4.out.size (fun k hk he => by have := GS.out; have := GQ.out; omega))
          have Kxz5 : Hid (Bk z5 gx vs) := Kxz4.out.chg hch (fun h => by have := Nx.out; have := GQ.out; omega)
          clear Kxz4
          clear hst hch Sz4 Qz4 Ez4
          obtain ⟨vv, hvv⟩ : ∃ vv, (v.touch s.ts) = vv := ⟨_, rfl⟩
          have HWT : Hid (vv.wt ≤ i + 1) := by show _ ≤ _; rw [← hvv]; exact Nat.le_trans (touch_wt v s.ts) (by have := HWI.out; omega)
          rw [hvv] at Sz5 Qz5
          clear hvv
          go_wp2_with fail
          refine (sndOut_calls z5 gs vv Sz5.out).mono ?_
          rintro en z6 ⟨Az6, cz6, rfl, hrn, hncz6, hmcz6, hb⟩
          have Ez6 : Hid (Below w.heap.size w z6) := Ez5.out.trans (hb.mono Ez5.out.size)
          clear Ez5
          have Sz6 : Hid (SSt z6 gs vv) := Sz5.out.below hb
          have Qz6 : Hid (QSt z6 qq vv) := Qz5.out.below hb
          clear Sz5 Qz5
          have RRz6 := Lib.hid hrn.rd
          clear hb hrn
          go_wp2_with (refine wpList_al rfl 25 rfl zPk (by kernel_rfl) ?_)
          intro ga z7 hg hb hc hs
          have HQa : Hid (Below z6.heap.size z6 z7) := hc.below (Nat.le_refl _) (fun _ _ => id)
          have HGa : Hid (ga = z6.heap.size) := hg
          have KZa := Lib.hid hb
          clear hg hb hc hs
          go_wp2_with (refine wpList_st rfl 25 (.tmp 13) (.tmp 110) rfl ga 0 4 zPk (pktC vv.o.k vv.o.e vv.o.q Az6 vv.o.ps.length cz6) rfl rfl KZa.out (by kernel_rfl) rfl (by decide) (one_pkt _ _ _ _ _ _) ?_)
          intro z8 hbk hc
          rw [splice_whole zPk (pktC vv.o.k vv.o.e vv.o.q Az6 vv.o.ps.length cz6) rfl] at hbk
          have hb : Below z6.heap.size z6 z8 := HQa.out.trans (hc.below HQa.out.size (fun q hq he => by have := HGa.out; omega))
          have Ez8 : Hid (Below w.heap.size w z8) := Ez6.out.trans (hb.mono Ez6.out.size)
          have Raz8 : Hid (Rd z8 Az6 (vv.o.ps.flatMap putC)) := RRz6.out.below hb
          clear Ez6 RRz6
          have Sz8 : Hid (SSt z8 gs vv) := Sz6.out.below hb
          have Qz8 : Hid (QSt z8 qq vv) := Qz6.out.below hb
          clear Sz6 Qz6
          have Kaz8 : Hid (Bk z8 ga (pktC vv.o.k vv.o.e vv.o.q Az6 vv.o.ps.length cz6)) := hbk
          have Kaz8 : Hid (Bk z8 ga (pktC vv.o.k vv.o.e vv.o.q Az6 vv.o.ps.length cz6)) := hbk
          clear hbk hb hc KZa HQa HGa
          go_wp2_with fail
          refine (sndEarly_calls z8 gs vv Sz8.out).mono ?_
          rintro en z9 ⟨Az9, cz9, rfl, hrn, hncz9, hmcz9, hb⟩
          have Ez9 : Hid (Below w.heap.size w z9) := Ez8.out.trans (hb.mono Ez8.out.size)
          have Kaz9 : Hid (Bk z9 ga (pktC vv.o.k vv.o.e vv.o.q Az6 vv.o.ps.length cz6)) := Kaz8.out.below hb
          have Raz9 : Hid (Rd z9 Az6 (vv.o.ps.flatMap putC)) := Raz8.out.below hb
          clear Ez8 Kaz8 Raz8
          have Sz9 : Hid (SSt z9 gs vv) := Sz8.out.below hb
          have Qz9 : Hid (QSt z9 qq vv) := Qz8.out.below hb
          clear Sz8 Qz8
          have RRz9 := Lib.hid hrn.rd
          clear hb hrn
          go_wp2_with (refine wpList_al rfl 25 rfl zPk (by kernel_rfl) ?_)
          intro gb z10 hg hb hc hs
          have HQb : Hid (Below z9.heap.size z9 z10) := hc.below (Nat.le_refl _) (fun _ _ => id)
          have HGb : Hid (gb = z9.heap.size) := hg
          have KZb := Lib.hid hb
          clear hg hb hc hs
          go_wp2_with (refine wpList_st rfl 25 (.tmp 15) (.tmp 115) rfl gb 0 4 zPk (pktC vv.y.k vv.y.e vv.y.q Az9 vv.y.ps.length cz9) rfl rfl KZb.out (by kernel_rfl) rfl (by decide) (one_pkt _ _ _ _ _ _) ?_)
          intro z11 hbk hc
          rw [splice_whole zPk (pktC vv.y.k vv.y.e vv.y.q Az9 vv.y.ps.length cz9) rfl] at hbk
          have hb : Below z9.heap.size z9 z11 := HQb.out.trans (hc.below HQb.out.size (fun q hq he => by have := HGb.out; omega))
          have Aab : Hid (ga < gb) := by show _ < _; have := Kaz9.out.lt; have := HGb.out; omega
          have Ez11 : Hid (Below w.heap.size w z11) := Ez9.out.trans (hb.mono Ez9.out.size)
          have Kaz11 : Hid (Bk z11 ga (pktC vv.o.k vv.o.e vv.o.q Az6 vv.o.ps.length cz6)) := Kaz9.out.below hb
          have Raz11 : Hid (Rd z11 Az6 (vv.o.ps.flatMap putC)) := Raz9.out.below hb
          have Rbz11 : Hid (Rd z11 Az9 (vv.y.ps.flatMap putC)) := RRz9.out.below hb
          clear Ez9 Kaz9 Raz9 RRz9
          have Sz11 : Hid (SSt z11 gs vv) := Sz9.out.below hb
          have Qz11 : Hid (QSt z11 qq vv) := Qz9.out.below hb
          clear Sz9 Qz9
          have Kbz11 : Hid (Bk z11 gb (pktC vv.y.k vv.y.e vv.y.q Az9 vv.y.ps.length cz9)) := hbk
          have Kbz11 : Hid (Bk z11 gb (pktC vv.y.k vv.y.e vv.y.q Az9 vv.y.ps.length cz9)) := hbk
          clear hbk hb hc KZb HQb HGb
          go_wp2_with fail
          obtain ⟨A9, n9, c9, B9, m9, d9, hq9⟩ := Qz11.out
          have HQ9 := Lib.hid hq9
          clear hq9
          have HN9 := HQ9.out.n5
          have HM9 := HQ9.out.m5
          apply wp_region_rel 32 (Chg NoS) [(Veq _), (Veq _), (Veq _), (Veq _), (Veq _), (Veq (.bool false)), (Veq _), (Veq _), (Veq _), (Veq _), (Veq _), (Veq _), (Veq (.bool false)), (Veq _), (Veq _), (Veq _), (Veq _), (Veq _), (Veq _), (Veq _), (Veq _), (Veq _), (Veq _), (Veq _), (Veq _), (Veq _), (Veq _), (Veq _), (Veq _), (Veq _), (Veq _), (Veq _)] [[], [], [1], [2], [3], [0, 4], [5], [6], [6], [6, 8], [6, 9], [6, 10], [6, 7, 11], [6, 12], [13], [14], [14], [14, 16], [14, 17], [14, 18], [14, 15, 19], [14, 20], [14, 21], [22], [23], [23], [23, 25], [23, 26], [23, 27], [23, 24, 28], [23, 29], [23, 30]] [117, 118, 119, 120, 121, 122, 123, 124, 125, 126, 127, 128, 129, 130, 131, 132, 133, 134, 135, 136, 137, 138, 139, 140, 141, 142, 143, 144, 145, 146, 147, 148] (by kernel_rfl) (by kernel_rfl) rfl rfl rfl Chg.refl (fun _ _ _ => Chg.trans) ⟨Veq.lasts, Veq.lasts, Veq.lasts, Veq.lasts, Veq.lasts, Veq.lasts, Veq.lasts, Veq.lasts, Veq.lasts, Veq.lasts, Veq.lasts, Veq.lasts, Veq.lasts, Veq.lasts, Veq.lasts, Veq.lasts, Veq.lasts, Veq.lasts, Veq.lasts, Veq.lasts, Veq.lasts, Veq.lasts, Veq.lasts, Veq.lasts, Veq.lasts, Veq.lasts, Veq.lasts, Veq.lasts, Veq.lasts, Veq.lasts, Veq.lasts, Veq.lasts, trivial⟩ ?z3ops ?z3fin
          case z3ops =>
            refine ⟨?z3o0, ?z3o1, ?z3o2, ?z3o3, ?z3o4, ?z3o5, ?z3o6, ?z3o7, ?z3o8, ?z3o9, ?z3o10, ?z3o11, ?z3o12, ?z3o13, ?z3o14, ?z3o15, ?z3o16, ?z3o17, ?z3o18, ?z3o19, ?z3o20, ?z3o21, ?z3o22, ?z3o23, ?z3o24, ?z3o25, ?z3o26, ?z3o27, ?z3o28, ?z3o29, ?z3o30, ?z3o31, trivial⟩
            case z3o0 =>
              intro a wx hE hin
              have i14 : a.eval (.tmp 14) = .bool vv.is := hin 14 rfl
              clear hin
              have hcst : ∀ v, a.eval (.const v) = v := fun _ => rfl
              have hfnc : ∀ f, a.eval (.func f) = .func (.func f) #[] #[] := fun _ => rfl
              refine want_none rfl ?_
              unfold Oper.wp
              generalize a.eval = ρ at *
              go_simp
              try go_bits
              first | exact rel_val (Chg.refl _) | (go_simp; exact rel_val (Chg.refl _))
            case z3o1 =>
              intro a wx hE hin
              have i6 : a.eval (.tmp 6) = .pointer (some ⟨qq, 0, none⟩) := hin 6 rfl
              clear hin
              have hcst : ∀ v, a.eval (.const v) = v := fun _ => rfl
              have hfnc : ∀ f, a.eval (.func f) = .func (.func f) #[] #[] := fun _ => rfl
              refine want_none rfl ?_
              unfold Oper.wp
              generalize a.eval = ρ at *
              go_simp
              try go_bits
              first | exact rel_val (Chg.refl _) | (go_simp; exact rel_val (Chg.refl _))
            case z3o2 =>
              rintro a wx hE hin (h1 : a.eval (.tmp 118) = _)
              clear hin
              have hcst : ∀ v, a.eval (.const v) = v := fun _ => rfl
              have hfnc : ∀ f, a.eval (.func f) = .func (.func f) #[] #[] := fun _ => rfl
              refine want_none rfl ?_
              unfold Oper.wp
              generalize a.eval = ρ at *
              go_simp
              try go_bits
              first | exact rel_val (Chg.refl _) | (go_simp; exact rel_val (Chg.refl _))
            case z3o3 =>
              rintro a wx hE hin (h2 : a.eval (.tmp 119) = _)
              clear hin
              have hcst : ∀ v, a.eval (.const v) = v := fun _ => rfl
              have hfnc : ∀ f, a.eval (.func f) = .func (.func f) #[] #[] := fun _ => rfl
              refine want_none rfl ?_
              unfold Oper.wp
              generalize a.eval = ρ at *
              go_simp
              try go_bits
              first | exact rel_val (Chg.refl _) | (go_simp; exact rel_val (Chg.refl _))
            case z3o4 =>
              rintro a wx hE hin (h3 : a.eval (.tmp 120) = _)
              clear hin
              have hcst : ∀ v, a.eval (.const v) = v := fun _ => rfl
              have hfnc : ∀ f, a.eval (.func f) = .func (.func f) #[] #[] := fun _ => rfl
              refine want_none rfl ?_
              unfold Oper.wp
              generalize a.eval = ρ at *
              have c := Bk.cell (j := 0) (HQ9.out.bk.drew.chg hE id) rfl
              go_simp
              try go_bits
              first | exact rel_val (Chg.refl _) | (go_simp; exact rel_val (Chg.refl _))
            case z3o5 =>
              rintro a wx hE hin (h0 : a.eval (.tmp 117) = _) (h4 : a.eval (.tmp 121) = _)
              clear hin
              have hcst : ∀ v, a.eval (.const v) = v := fun _ => rfl
              have hfnc : ∀ f, a.eval (.func f) = .func (.func f) #[] #[] := fun _ => rfl
              refine want_none rfl ?_
              unfold Oper.wp
              generalize a.eval = ρ at *
              go_simp
              try go_bits
              first | exact rel_val (e := .bool false) (Chg.refl _) | (simp only [bne_self_eq_false]; exact rel_val (e := .bool false) (Chg.refl _)) | (rw [bne_self_eq_false]; exact rel_val (e := .bool false) (Chg.refl _))
            case z3o6 =>
              rintro a wx hE hin (h5 : a.eval (.tmp 122) = _)
              clear hin
              have hcst : ∀ v, a.eval (.const v) = v := fun _ => rfl
              have hfnc : ∀ f, a.eval (.func f) = .func (.func f) #[] #[] := fun _ => rfl
              refine want_none rfl ?_
              unfold Oper.wp
              generalize a.eval = ρ at *
              go_simp
              try go_bits
              first | exact rel_val (Chg.refl _) | (go_simp; exact rel_val (Chg.refl _))
            case z3o7 =>
              rintro a wx hE hin (h6 : a.eval (.tmp 123) = _)
              have i16 : a.eval (.tmp 16) = .bool vv.was := hin 16 rfl
              clear hin
              have hcst : ∀ v, a.eval (.const v) = v := fun _ => rfl
              have hfnc : ∀ f, a.eval (.func f) = .func (.func f) #[] #[] := fun _ => rfl
              refine want_yes rfl rfl h6 ?_
              unfold Oper.wp
              generalize a.eval = ρ at *
              go_simp
              try go_bits
              first | exact rel_val (Chg.refl _) | (go_simp; exact rel_val (Chg.refl _))
            case z3o8 =>
              rintro a wx hE hin (h6 : a.eval (.tmp 123) = _)
              have i6 : a.eval (.tmp 6) = .pointer (some ⟨qq, 0, none⟩) := hin 6 rfl
              clear hin
              have hcst : ∀ v, a.eval (.const v) = v := fun _ => rfl
              have hfnc : ∀ f, a.eval (.func f) = .func (.func f) #[] #[] := fun _ => rfl
              refine want_yes rfl rfl h6 ?_
              unfold Oper.wp
              generalize a.eval = ρ at *
              go_simp
              try go_bits
              first | exact rel_val (Chg.refl _) | (go_simp; exact rel_val (Chg.refl _))
            case z3o9 =>
              rintro a wx hE hin (h6 : a.eval (.tmp 123) = _) (h8 : a.eval (.tmp 125) = _)
              clear hin
              have hcst : ∀ v, a.eval (.const v) = v := fun _ => rfl
              have hfnc : ∀ f, a.eval (.func f) = .func (.func f) #[] #[] := fun _ => rfl
              refine want_yes rfl rfl h6 ?_
              unfold Oper.wp
              generalize a.eval = ρ at *
              go_simp
              try go_bits
              first | exact rel_val (Chg.refl _) | (go_simp; exact rel_val (Chg.refl _))
            case z3o10 =>
              rintro a wx hE hin (h6 : a.eval (.tmp 123) = _) (h9 : a.eval (.tmp 126) = _)
              clear hin
              have hcst : ∀ v, a.eval (.const v) = v := fun _ => rfl
              have hfnc : ∀ f, a.eval (.func f) = .func (.func f) #[] #[] := fun _ => rfl
              refine want_yes rfl rfl h6 ?_
              unfold Oper.wp
              generalize a.eval = ρ at *
              go_simp
              try go_bits
              first | exact rel_val (Chg.refl _) | (go_simp; exact rel_val (Chg.refl _))
            case z3o11 =>
              rintro a wx hE hin (h6 : a.eval (.tmp 123) = _) (h10 : a.eval (.tmp 127) = _)
              clear hin
              have hcst : ∀ v, a.eval (.const v) = v := fun _ => rfl
              have hfnc : ∀ f, a.eval (.func f) = .func (.func f) #[] #[] := fun _ => rfl
              refine want_yes rfl rfl h6 ?_
              unfold Oper.wp
              generalize a.eval = ρ at *
              have c := Bk.cell (j := 1) (HQ9.out.bk.drew.chg hE id) rfl
              go_simp
              try go_bits
              first | exact rel_val (Chg.refl _) | (go_simp; exact rel_val (Chg.refl _))
            case z3o12 =>
              rintro a wx hE hin (h6 : a.eval (.tmp 123) = _) (h7 : a.eval (.tmp 124) = _) (h11 : a.eval (.tmp 128) = _)
              clear hin
              have hcst : ∀ v, a.eval (.const v) = v := fun _ => rfl
              have hfnc : ∀ f, a.eval (.func f) = .func (.func f) #[] #[] := fun _ => rfl
              refine want_yes rfl rfl h6 ?_
              unfold Oper.wp
              generalize a.eval = ρ at *
              go_simp
              try go_bits
              first | exact rel_val (e := .bool false) (Chg.refl _) | (simp only [bne_self_eq_false]; exact rel_val (e := .bool false) (Chg.refl _)) | (rw [bne_self_eq_false]; exact rel_val (e := .bool false) (Chg.refl _))
            case z3o13 =>
              rintro a wx hE hin (h6 : a.eval (.tmp 123) = _) (h12 : a.eval (.tmp 129) = _)
              clear hin
              have hcst : ∀ v, a.eval (.const v) = v := fun _ => rfl
              have hfnc : ∀ f, a.eval (.func f) = .func (.func f) #[] #[] := fun _ => rfl
              refine want_none rfl ?_
              unfold Oper.wp
              generalize a.eval = ρ at *
              go_simp
              try go_bits
              first | exact rel_val (Chg.refl _) | (go_simp; exact rel_val (Chg.refl _))
            case z3o14 =>
              rintro a wx hE hin (h13 : a.eval (.tmp 130) = _)
              clear hin
              have hcst : ∀ v, a.eval (.const v) = v := fun _ => rfl
              have hfnc : ∀ f, a.eval (.func f) = .func (.func f) #[] #[] := fun _ => rfl
              refine want_none rfl ?_
              unfold Oper.wp
              generalize a.eval = ρ at *
              go_simp
              try go_bits
              first | exact rel_val (Chg.refl _) | (go_simp; exact rel_val (Chg.refl _))
            case z3o15 =>
              rintro a wx hE hin (h14 : a.eval (.tmp 131) = _)
              have i13 : a.eval (.tmp 13) = .pointer (some ⟨ga, 0, none⟩) := hin 13 rfl
              clear hin
              have hcst : ∀ v, a.eval (.const v) = v := fun _ => rfl
              have hfnc : ∀ f, a.eval (.func f) = .func (.func f) #[] #[] := fun _ => rfl
              refine want_yes rfl rfl h14 ?_
              exact wp_ld 25 _ rfl ga 0 4 _ (pktC vv.o.k vv.o.e vv.o.q Az6 vv.o.ps.length cz6) i13 (Kaz11.out.drew.chg hE id) (by kernel_rfl) (by kernel_rfl) (by show _ ≤ _; first | exact Nat.le_refl 4 | (show _ ≤ 12; decide)) rfl (rel_val (Chg.refl _))
            case z3o16 =>
              rintro a wx hE hin (h14 : a.eval (.tmp 131) = _)
              have i6 : a.eval (.tmp 6) = .pointer (some ⟨qq, 0, none⟩) := hin 6 rfl
              clear hin
              have hcst : ∀ v, a.eval (.const v) = v := fun _ => rfl
              have hfnc : ∀ f, a.eval (.func f) = .func (.func f) #[] #[] := fun _ => rfl
              refine want_yes rfl rfl h14 ?_
              unfold Oper.wp
              generalize a.eval = ρ at *
              go_simp
              try go_bits
              first | exact rel_val (Chg.refl _) | (go_simp; exact rel_val (Chg.refl _))
            case z3o17 =>
              rintro a wx hE hin (h14 : a.eval (.tmp 131) = _) (h16 : a.eval (.tmp 133) = _)
              clear hin
              have hcst : ∀ v, a.eval (.const v) = v := fun _ => rfl
              have hfnc : ∀ f, a.eval (.func f) = .func (.func f) #[] #[] := fun _ => rfl
              refine want_yes rfl rfl h14 ?_
              unfold Oper.wp
              generalize a.eval = ρ at *
              go_simp
              try go_bits
              first | exact rel_val (Chg.refl _) | (go_simp; exact rel_val (Chg.refl _))
            case z3o18 =>
              rintro a wx hE hin (h14 : a.eval (.tmp 131) = _) (h17 : a.eval (.tmp 134) = _)
              clear hin
              have hcst : ∀ v, a.eval (.const v) = v := fun _ => rfl
              have hfnc : ∀ f, a.eval (.func f) = .func (.func f) #[] #[] := fun _ => rfl
              refine want_yes rfl rfl h14 ?_
              unfold Oper.wp
              generalize a.eval = ρ at *
              go_simp
              try go_bits
              first | exact rel_val (Chg.refl _) | (go_simp; exact rel_val (Chg.refl _))
            case z3o19 =>
              rintro a wx hE hin (h14 : a.eval (.tmp 131) = _) (h18 : a.eval (.tmp 135) = _)
              clear hin
              have hcst : ∀ v, a.eval (.const v) = v := fun _ => rfl
              have hfnc : ∀ f, a.eval (.func f) = .func (.func f) #[] #[] := fun _ => rfl
              refine want_yes rfl rfl h14 ?_
              exact wp_ld 25 _ rfl qq 2 4 _ (pktC vv.o.k vv.o.e vv.o.q A9 n9 c9) h18 (HQ9.out.bk.drew.chg hE id) (by kernel_rfl) (by kernel_rfl) (by show _ ≤ _; first | exact Nat.le_refl 4 | (show _ ≤ 12; decide)) rfl (rel_val (Chg.refl _))
            case z3o20 =>
              rintro a wx hE hin (h14 : a.eval (.tmp 131) = _) (h15 : a.eval (.tmp 132) = _) (h19 : a.eval (.tmp 136) = _)
              clear hin
              have hcst : ∀ v, a.eval (.const v) = v := fun _ => rfl
              have hfnc : ∀ f, a.eval (.func f) = .func (.func f) #[] #[] := fun _ => rfl
              refine want_yes rfl rfl h14 ?_
              unfold Oper.wp
              generalize a.eval = ρ at *
              go_simp
              refine (keepPackets_calls vv.o vv.o Az6 A9 vv.o.ps.length n9 cz6 c9 wx rfl HQ9.out.ln (by rw [HQ9.out.ln]; omega) (Raz11.out.chg hE.undrew) (HQ9.out.ra.rd.chg hE.undrew) HQ9.out.oa HQ9.out.oa).mono ?_
              rintro e w' ⟨rfl, hb⟩
              rw [pkEq_self]
              exact rel_val (.of_below hb)
            case z3o21 =>
              rintro a wx hE hin (h14 : a.eval (.tmp 131) = _) (h20 : a.eval (.tmp 137) = _)
              clear hin
              have hcst : ∀ v, a.eval (.const v) = v := fun _ => rfl
              have hfnc : ∀ f, a.eval (.func f) = .func (.func f) #[] #[] := fun _ => rfl
              refine want_yes rfl rfl h14 ?_
              unfold Oper.wp
              generalize a.eval = ρ at *
              go_simp
              try go_bits
              first | exact rel_val (Chg.refl _) | (go_simp; exact rel_val (Chg.refl _))
            case z3o22 =>
              rintro a wx hE hin (h14 : a.eval (.tmp 131) = _) (h21 : a.eval (.tmp 138) = _)
              clear hin
              have hcst : ∀ v, a.eval (.const v) = v := fun _ => rfl
              have hfnc : ∀ f, a.eval (.func f) = .func (.func f) #[] #[] := fun _ => rfl
              refine want_none rfl ?_
              unfold Oper.wp
              generalize a.eval = ρ at *
              go_simp
              try go_bits
              first | exact rel_val (Chg.refl _) | (go_simp; exact rel_val (Chg.refl _))
            case z3o23 =>
              rintro a wx hE hin (h22 : a.eval (.tmp 139) = _)
              clear hin
              have hcst : ∀ v, a.eval (.const v) = v := fun _ => rfl
              have hfnc : ∀ f, a.eval (.func f) = .func (.func f) #[] #[] := fun _ => rfl
              refine want_none rfl ?_
              unfold Oper.wp
              generalize a.eval = ρ at *
              go_simp
              try go_bits
              first | exact rel_val (Chg.refl _) | (go_simp; exact rel_val (Chg.refl _))
            case z3o24 =>
              rintro a wx hE hin (h23 : a.eval (.tmp 140) = _)
              have i15 : a.eval (.tmp 15) = .pointer (some ⟨gb, 0, none⟩) := hin 15 rfl
              clear hin
              have hcst : ∀ v, a.eval (.const v) = v := fun _ => rfl
              have hfnc : ∀ f, a.eval (.func f) = .func (.func f) #[] #[] := fun _ => rfl
              refine want_yes rfl rfl h23 ?_
              exact wp_ld 25 _ rfl gb 0 4 _ (pktC vv.y.k vv.y.e vv.y.q Az9 vv.y.ps.length cz9) i15 (Kbz11.out.drew.chg hE id) (by kernel_rfl) (by kernel_rfl) (by show _ ≤ _; first | exact Nat.le_refl 4 | (show _ ≤ 12; decide)) rfl (rel_val (Chg.refl _))
            case z3o25 =>
              rintro a wx hE hin (h23 : a.eval (.tmp 140) = _)
              have i6 : a.eval (.tmp 6) = .pointer (some ⟨qq, 0, none⟩) := hin 6 rfl
              clear hin
              have hcst : ∀ v, a.eval (.const v) = v := fun _ => rfl
              have hfnc : ∀ f, a.eval (.func f) = .func (.func f) #[] #[] := fun _ => rfl
              refine want_yes rfl rfl h23 ?_
              unfold Oper.wp
              generalize a.eval = ρ at *
              go_simp
              try go_bits
              first | exact rel_val (Chg.refl _) | (go_simp; exact rel_val (Chg.refl _))
            case z3o26 =>
              rintro a wx hE hin (h23 : a.eval (.tmp 140) = _) (h25 : a.eval (.tmp 142) = _)
              clear hin
              have hcst : ∀ v, a.eval (.const v) = v := fun _ => rfl
              have hfnc : ∀ f, a.eval (.func f) = .func (.func f) #[] #[] := fun _ => rfl
              refine want_yes rfl rfl h23 ?_
              unfold Oper.wp
              generalize a.eval = ρ at *
              go_simp
              try go_bits
              first | exact rel_val (Chg.refl _) | (go_simp; exact rel_val (Chg.refl _))
            case z3o27 =>
              rintro a wx hE hin (h23 : a.eval (.tmp 140) = _) (h26 : a.eval (.tmp 143) = _)
              clear hin
              have hcst : ∀ v, a.eval (.const v) = v := fun _ => rfl
              have hfnc : ∀ f, a.eval (.func f) = .func (.func f) #[] #[] := fun _ => rfl
              refine want_yes rfl rfl h23 ?_
              unfold Oper.wp
              generalize a.eval = ρ at *
              go_simp
              try go_bits
              first | exact rel_val (Chg.refl _) | (go_simp; exact rel_val (Chg.refl _))
            case z3o28 =>
              rintro a wx hE hin (h23 : a.eval (.tmp 140) = _) (h27 : a.eval (.tmp 144) = _)
              clear hin
              have hcst : ∀ v, a.eval (.const v) = v := fun _ => rfl
              have hfnc : ∀ f, a.eval (.func f) = .func (.func f) #[] #[] := fun _ => rfl
              refine want_yes rfl rfl h23 ?_
              exact wp_ld 25 _ rfl qq 6 4 _ (pktC vv.y.k vv.y.e vv.y.q B9 m9 d9) h27 (HQ9.out.bk.drew.chg hE id) (by kernel_rfl) (by kernel_rfl) (by show _ ≤ _; first | exact Nat.le_refl 4 | (show _ ≤ 12; decide)) rfl (rel_val (Chg.refl _))
            case z3o29 =>
              rintro a wx hE hin (h23 : a.eval (.tmp 140) = _) (h24 : a.eval (.tmp 141) = _) (h28 : a.eval (.tmp 145) = _)
              clear hin
              have hcst : ∀ v, a.eval (.const v) = v := fun _ => rfl
              have hfnc : ∀ f, a.eval (.func f) = .func (.func f) #[] #[] := fun _ => rfl
              refine want_yes rfl rfl h23 ?_
              unfold Oper.wp
              generalize a.eval = ρ at *
              go_simp
              refine (keepPackets_calls vv.y vv.y Az9 B9 vv.y.ps.length m9 cz9 d9 wx rfl HQ9.out.lm (by rw [HQ9.out.lm]; omega) (Rbz11.out.chg hE.undrew) (HQ9.out.rb.rd.chg hE.undrew) HQ9.out.ob HQ9.out.ob).mono ?_
              rintro e w' ⟨rfl, hb⟩
              rw [pkEq_self]
              exact rel_val (.of_below hb)
            case z3o30 =>
              rintro a wx hE hin (h23 : a.eval (.tmp 140) = _) (h29 : a.eval (.tmp 146) = _)
              clear hin
              have hcst : ∀ v, a.eval (.const v) = v := fun _ => rfl
              have hfnc : ∀ f, a.eval (.func f) = .func (.func f) #[] #[] := fun _ => rfl
              refine want_yes rfl rfl h23 ?_
              unfold Oper.wp
              generalize a.eval = ρ at *
              go_simp
              try go_bits
              first | exact rel_val (Chg.refl _) | (go_simp; exact rel_val (Chg.refl _))
            case z3o31 =>
              rintro a wx hE hin (h23 : a.eval (.tmp 140) = _) (h30 : a.eval (.tmp 147) = _)
              clear hin
              have hcst : ∀ v, a.eval (.const v) = v := fun _ => rfl
              have hfnc : ∀ f, a.eval (.func f) = .func (.func f) #[] #[] := fun _ => rfl
              refine want_none rfl ?_
              unfold Oper.wp
              generalize a.eval = ρ at *
              go_simp
              try go_bits
              first | exact rel_val (Chg.refl _) | (go_simp; exact rel_val (Chg.refl _))
          case z3fin =>
            intro wx hE
            rintro _ rfl _ rfl _ rfl _ rfl _ rfl _ rfl _ rfl _ rfl _ rfl _ rfl _ rfl _ rfl _ rfl _ rfl _ rfl _ rfl _ rfl _ rfl _ rfl _ rfl _ rfl _ rfl _ rfl _ rfl _ rfl _ rfl _ rfl _ rfl _ rfl _ rfl _ rfl _ rfl
            simp only [FinOk, List.take_succ_cons, List.take_zero, List.take_nil, List.drop_succ_cons, List.drop_zero, List.drop_nil, Act.put, List.setIfInBounds_toArray, List.set_cons_succ, List.set_cons_zero]
            have SX : Hid (SSt wx gs vv) := Sz11.out.chgN hE.undrew
            have QX : Hid (QSt wx qq vv) := Qz11.out.chgN hE.undrew
            have EX : Hid (Below w.heap.size w wx) := Ez11.out.trans (hE.undrew.below Ez11.out.size (fun _ _ => id))
            clear hE
            go_wp2_with fail
            go_roundw
            case rel => exact ⟨i + 1, vv, _, rfl, HLT.out, by go_num, SX.out, QX.out, EX.out, HWT.out⟩
            case measure => simp [intOf]; have := HLT.out; omega
      by_cases hk3 : s.k = 3
      case pos =>
        rw [hk3] at DV0
        clear hk0 hk1 hk2 hk3
        as_aux_lemma =>
          have c0 := Kxz2.out.cell DV0.out
          go_wp2_with (refine wpList_ld rfl 25 (.tmp 76) rfl gx 1 4 vs _ rfl Kxz2.out (by kernel_rfl) (by kernel_rfl) (by rw [HVL.out]; decide) HV14.out ?_)
          clear c0
          refine (own24_calls z2 s.p s.A s.n s.c HSO.out.pk.len (by have := HSF.out.1; omega) (HSO.out.pk.rd.below Ez2.out) HSO.out.pk.ok).mono ?_
          rintro en z3 ⟨A7, c7, rfl, ho, hb⟩
          have Ez3 : Hid (Below w.heap.size w z3) := Ez2.out.trans (hb.mono Ez2.out.size)
          have Kxz3 : Hid (Bk z3 gx vs) := Kxz2.out.below hb
          clear Ez2 Kxz2
          have Sz3 : Hid (SSt z3 gs v) := Sz2.out.below hb
          have Qz3 : Hid (QSt z3 qq v) := Qz2.out.below hb
          clear Sz2 Qz2
          clear hb ho
          go_wp2_with fail
          obtain ⟨b1, hb1⟩ : ∃ b1, (v.ackB s.p && v.tc) = b1 := ⟨_, rfl⟩
          obtain ⟨b2, hb2⟩ : ∃ b2, v.ackB s.p = b2 := ⟨_, rfl⟩
          have HB1 := Lib.hid hb1
          have HB2 := Lib.hid hb2
          clear hb1 hb2
          refine (sndAcked_calls z3 gs v Sz3.out s.p A7 s.n c7).mono ?_
          intro en z4 hp
          rw [HB1.out, HB2.out] at hp
          obtain ⟨rfl, hst, hch⟩ := hp
          have Sz4 : Hid (SSt z4 gs (v.acked s.p)) := hst
          have Qz4 : Hid (QSt z4 qq v) := Qz3.out.chg hch GQ.out
          have Ez4 : Hid (Below w.heap.size w z4) := Ez3.out.trans (hch.below Ez3.out.size (fun k hk he => by have := GS.out; have := GQ.out; omega))
          have Kxz4 : Hid (Bk z4 gx vs) := Kxz3.out.chg hch (fun h => by have := Nx.out; have := GQ.out; omega)
          clear Kxz3
          clear hst hch Sz3 Qz3 Ez3
          go_wp2_with (refine wpList_ld rfl 25 (.tmp 84) rfl gx 1 4 vs _ rfl Kxz4.out (by kernel_rfl) (by kernel_rfl) (by rw [HVL.out]; decide) HV14.out ?_)
          refine (refAcked_calls z4 qq v Qz4.out s.p s.A s.n s.c).mono ?_
          intro en z5 hp
          rw [HB1.out, HB2.out] at hp
          obtain ⟨rfl, hst, hch⟩ := hp
          have Sz5 : Hid (SSt z5 gs (v.acked s.p)) := Sz4.out.chgq hch GQ1.out
          have Qz5 : Hid (QSt z5 qq (v.acked s.p)) := hst
          have Ez5 : Hid (Below w.heap.size w z5) := Ez4.out.trans (hch.below Ez4.out.size (fun k hk he => by have := GS.out; have := GQ.out; omega))
          have Kxz5 : Hid (Bk z5 gx vs) := Kxz4.out.chg hch (fun h => by have := Nx.out; have := GQ.out; omega)
          clear Kxz4
          clear hst hch Sz4 Qz4 Ez4
          have hx1 : (b1 != b1) = false := bne_self_eq_false b1
          have hx2 : (b2 != b2) = false := bne_self_eq_false b2
          obtain ⟨vv, hvv⟩ : ∃ vv, (v.acked s.p) = vv := ⟨_, rfl⟩
          have HWT : Hid (vv.wt ≤ i + 1) := by show _ ≤ _; rw [← hvv]; exact Nat.le_trans (acked_wt v s.p) (by have := HWI.out; omega)
          rw [hvv] at Sz5 Qz5
          clear hvv
          go_wp2_with fail
          refine (sndOut_calls z5 gs vv Sz5.out).mono ?_
          rintro en z6 ⟨Az6, cz6, rfl, hrn, hncz6, hmcz6, hb⟩
          have Ez6 : Hid (Below w.heap.size w z6) := Ez5.out.trans (hb.mono Ez5.out.size)
          clear Ez5
          have Sz6 : Hid (SSt z6 gs vv) := Sz5.out.below hb
          have Qz6 : Hid (QSt z6 qq vv) := Qz5.out.below hb
          clear Sz5 Qz5
          have RRz6 := Lib.hid hrn.rd
          clear hb hrn
          go_wp2_with (refine wpList_al rfl 25 rfl zPk (by kernel_rfl) ?_)
          intro ga z7 hg hb hc hs
          have HQa : Hid (Below z6.heap.size z6 z7) := hc.below (Nat.le_refl _) (fun _ _ => id)
          have HGa : Hid (ga = z6.heap.size) := hg
          have KZa := Lib.hid hb
          clear hg hb hc hs
          go_wp2_with (refine wpList_st rfl 25 (.tmp 13) (.tmp 110) rfl ga 0 4 zPk (pktC vv.o.k vv.o.e vv.o.q Az6 vv.o.ps.length cz6) rfl rfl KZa.out (by kernel_rfl) rfl (by decide) (one_pkt _ _ _ _ _ _) ?_)
          intro z8 hbk hc
          rw [splice_whole zPk (pktC vv.o.k vv.o.e vv.o.q Az6 vv.o.ps.length cz6) rfl] at hbk
          have hb : Below z6.heap.size z6 z8 := HQa.out.trans (hc.below HQa.out.size (fun q hq he => by have := HGa.out; omega))
          have Ez8 : Hid (Below w.heap.size w z8) := Ez6.out.trans (hb.mono Ez6.out.size)
          have Raz8 : Hid (Rd z8 Az6 (vv.o.ps.flatMap putC)) := RRz6.out.below hb
          clear Ez6 RRz6
          have Sz8 : Hid (SSt z8 gs vv) := Sz6.out.below hb
          have Qz8 : Hid (QSt z8 qq vv) := Qz6.out.below hb
          clear Sz6 Qz6
          have Kaz8 : Hid (Bk z8 ga (pktC vv.o.k vv.o.e vv.o.q Az6 vv.o.ps.length cz6)) := hbk
          have Kaz8 : Hid (Bk z8 ga (pktC vv.o.k vv.o.e vv.o.q Az6 vv.o.ps.length cz6)) := hbk
          clear hbk hb hc KZa HQa HGa
          go_wp2_with fail
          refine (sndEarly_calls z8 gs vv Sz8.out).mono ?_
          rintro en z9 ⟨Az9, cz9, rfl, hrn, hncz9, hmcz9, hb⟩
          have Ez9 : Hid (Below w.heap.size w z9) := Ez8.out.trans (hb.mono Ez8.out.size)
          have Kaz9 : Hid (Bk z9 ga (pktC vv.o.k vv.o.e vv.o.q Az6 vv.o.ps.length cz6)) := Kaz8.out.below hb
          have Raz9 : Hid (Rd z9 Az6 (vv.o.ps.flatMap putC)) := Raz8.out.below hb
          clear Ez8 Kaz8 Raz8
          have Sz9 : Hid (SSt z9 gs vv) := Sz8.out.below hb
          have Qz9 : Hid (QSt z9 qq vv) := Qz8.out.below hb
          clear Sz8 Qz8
          have RRz9 := Lib.hid hrn.rd
          clear hb hrn
          go_wp2_with (refine wpList_al rfl 25 rfl zPk (by kernel_rfl) ?_)
          intro gb z10 hg hb hc hs
          have HQb : Hid (Below z9.heap.size z9 z10) := hc.below (Nat.le_refl _) (fun _ _ => id)
          have HGb : Hid (gb = z9.heap.size) := hg
          have KZb := Lib.hid hb
          clear hg hb hc hs
          go_wp2_with (refine wpList_st rfl 25 (.tmp 15) (.tmp 115) rfl gb 0 4 zPk (pktC vv.y.k vv.y.e vv.y.q Az9 vv.y.ps.length cz9) rfl rfl KZb.out (by kernel_rfl) rfl (by decide) (one_pkt _ _ _ _ _ _) ?_)
          intro z11 hbk hc
          rw [splice_whole zPk (pktC vv.y.k vv.y.e vv.y.q Az9 vv.y.ps.length cz9) rfl] at hbk
          have hb : Below z9.heap.size z9 z11 := HQb.out.trans (hc.below HQb.out.size (fun q hq he => by have := HGb.out; omega))
          have Aab : Hid (ga < gb) := by show _ < _; have := Kaz9.out.lt; have := HGb.out; omega
          have Ez11 : Hid (Below w.heap.size w z11) := Ez9.out.trans (hb.mono Ez9.out.size)
          have Kaz11 : Hid (Bk z11 ga (pktC vv.o.k vv.o.e vv.o.q Az6 vv.o.ps.length cz6)) := Kaz9.out.below hb
          have Raz11 : Hid (Rd z11 Az6 (vv.o.ps.flatMap putC)) := Raz9.out.below hb
          have Rbz11 : Hid (Rd z11 Az9 (vv.y.ps.flatMap putC)) := RRz9.out.below hb
          clear Ez9 Kaz9 Raz9 RRz9
          have Sz11 : Hid (SSt z11 gs vv) := Sz9.out.below hb
          have Qz11 : Hid (QSt z11 qq vv) := Qz9.out.below hb
          clear Sz9 Qz9
          have Kbz11 : Hid (Bk z11 gb (pktC vv.y.k vv.y.e vv.y.q Az9 vv.y.ps.length cz9)) := hbk
          have Kbz11 : Hid (Bk z11 gb (pktC vv.y.k vv.y.e vv.y.q Az9 vv.y.ps.length cz9)) := hbk
          clear hbk hb hc KZb HQb HGb
          go_wp2_with fail
          obtain ⟨A9, n9, c9, B9, m9, d9, hq9⟩ := Qz11.out
          have HQ9 := Lib.hid hq9
          clear hq9
          have HN9 := HQ9.out.n5
          have HM9 := HQ9.out.m5
          apply wp_region_rel 32 (Chg NoS) [(Veq _), (Veq _), (Veq _), (Veq _), (Veq _), (Veq (.bool false)), (Veq _), (Veq _), (Veq _), (Veq _), (Veq _), (Veq _), (Veq (.bool false)), (Veq _), (Veq _), (Veq _), (Veq _), (Veq _), (Veq _), (Veq _), (Veq _), (Veq _), (Veq _), (Veq _), (Veq _), (Veq _), (Veq _), (Veq _), (Veq _), (Veq _), (Veq _), (Veq _)] [[], [], [1], [2], [3], [0, 4], [5], [6], [6], [6, 8], [6, 9], [6, 10], [6, 7, 11], [6, 12], [13], [14], [14], [14, 16], [14, 17], [14, 18], [14, 15, 19], [14, 20], [14, 21], [22], [23], [23], [23, 25], [23, 26], [23, 27], [23, 24, 28], [23, 29], [23, 30]] [117, 118, 119, 120, 121, 122, 123, 124, 125, 126, 127, 128, 129, 130, 131, 132, 133, 134, 135, 136, 137, 138, 139, 140, 141, 142, 143, 144, 145, 146, 147, 148] (by kernel_rfl) (by kernel_rfl) rfl rfl rfl Chg.refl (fun _ _ _ => Chg.trans) ⟨Veq.lasts, Veq.lasts, Veq.lasts, Veq.lasts, Veq.lasts, Veq.lasts, Veq.lasts, Veq.lasts, Veq.lasts, Veq.lasts, Veq.lasts, Veq.lasts, Veq.lasts, Veq.lasts, Veq.lasts, Veq.lasts, Veq.lasts, Veq.lasts, Veq.lasts, Veq.lasts, Veq.lasts, Veq.lasts, Veq.lasts, Veq.lasts, Veq.lasts, Veq.lasts, Veq.lasts, Veq.lasts, Veq.lasts, Veq.lasts, Veq.lasts, Veq.lasts, trivial⟩ ?z4ops ?z4fin
          case z4ops =>
            refine ⟨?z4o0, ?z4o1, ?z4o2, ?z4o3, ?z4o4, ?z4o5, ?z4o6, ?z4o7, ?z4o8, ?z4o9, ?z4o10, ?z4o11, ?z4o12, ?z4o13, ?z4o14, ?z4o15, ?z4o16, ?z4o17, ?z4o18, ?z4o19, ?z4o20, ?z4o21, ?z4o22, ?z4o23, ?z4o24, ?z4o25, ?z4o26, ?z4o27, ?z4o28, ?z4o29, ?z4o30, ?z4o31, trivial⟩
            case z4o0 =>
              intro a wx hE hin
              have i14 : a.eval (.tmp 14) = .bool vv.is := hin 14 rfl
              clear hin
              have hcst : ∀ v, a.eval (.const v) = v := fun _ => rfl
              have hfnc : ∀ f, a.eval (.func f) = .func (.func f) #[] #[] := fun _ => rfl
              refine want_none rfl ?_
              unfold Oper.wp
              generalize a.eval = ρ at *
              go_simp
              try go_bits
              first | exact rel_val (Chg.refl _) | (go_simp; exact rel_val (Chg.refl _))
            case z4o1 =>
              intro a wx hE hin
              have i6 : a.eval (.tmp 6) = .pointer (some ⟨qq, 0, none⟩) := hin 6 rfl
              clear hin
              have hcst : ∀ v, a.eval (.const v) = v := fun _ => rfl
              have hfnc : ∀ f, a.eval (.func f) = .func (.func f) #[] #[] := fun _ => rfl
              refine want_none rfl ?_
              unfold Oper.wp
              generalize a.eval = ρ at *
              go_simp
              try go_bits
              first | exact rel_val (Chg.refl _) | (go_simp; exact rel_val (Chg.refl _))
            case z4o2 =>
              rintro a wx hE hin (h1 : a.eval (.tmp 118) = _)
              clear hin
              have hcst : ∀ v, a.eval (.const v) = v := fun _ => rfl
              have hfnc : ∀ f, a.eval (.func f) = .func (.func f) #[] #[] := fun _ => rfl
              refine want_none rfl ?_
              unfold Oper.wp
              generalize a.eval = ρ at *
              go_simp
              try go_bits
              first | exact rel_val (Chg.refl _) | (go_simp; exact rel_val (Chg.refl _))
            case z4o3 =>
              rintro a wx hE hin (h2 : a.eval (.tmp 119) = _)
              clear hin
              have hcst : ∀ v, a.eval (.const v) = v := fun _ => rfl
              have hfnc : ∀ f, a.eval (.func f) = .func (.func f) #[] #[] := fun _ => rfl
              refine want_none rfl ?_
              unfold Oper.wp
              generalize a.eval = ρ at *
              go_simp
              try go_bits
              first | exact rel_val (Chg.refl _) | (go_simp; exact rel_val (Chg.refl _))
            case z4o4 =>
              rintro a wx hE hin (h3 : a.eval (.tmp 120) = _)
              clear hin
              have hcst : ∀ v, a.eval (.const v) = v := fun _ => rfl
              have hfnc : ∀ f, a.eval (.func f) = .func (.func f) #[] #[] := fun _ => rfl
              refine want_none rfl ?_
              unfold Oper.wp
              generalize a.eval = ρ at *
              have c := Bk.cell (j := 0) (HQ9.out.bk.drew.chg hE id) rfl
              go_simp
              try go_bits
              first | exact rel_val (Chg.refl _) | (go_simp; exact rel_val (Chg.refl _))
            case z4o5 =>
              rintro a wx hE hin (h0 : a.eval (.tmp 117) = _) (h4 : a.eval (.tmp 121) = _)
              clear hin
              have hcst : ∀ v, a.eval (.const v) = v := fun _ => rfl
              have hfnc : ∀ f, a.eval (.func f) = .func (.func f) #[] #[] := fun _ => rfl
              refine want_none rfl ?_
              unfold Oper.wp
              generalize a.eval = ρ at *
              go_simp
              try go_bits
              first | exact rel_val (e := .bool false) (Chg.refl _) | (simp only [bne_self_eq_false]; exact rel_val (e := .bool false) (Chg.refl _)) | (rw [bne_self_eq_false]; exact rel_val (e := .bool false) (Chg.refl _))
            case z4o6 =>
              rintro a wx hE hin (h5 : a.eval (.tmp 122) = _)
              clear hin
              have hcst : ∀ v, a.eval (.const v) = v := fun _ => rfl
              have hfnc : ∀ f, a.eval (.func f) = .func (.func f) #[] #[] := fun _ => rfl
              refine want_none rfl ?_
              unfold Oper.wp
              generalize a.eval = ρ at *
              go_simp
              try go_bits
              first | exact rel_val (Chg.refl _) | (go_simp; exact rel_val (Chg.refl _))
            case z4o7 =>
              rintro a wx hE hin (h6 : a.eval (.tmp 123) = _)
              have i16 : a.eval (.tmp 16) = .bool vv.was := hin 16 rfl
              clear hin
              have hcst : ∀ v, a.eval (.const v) = v := fun _ => rfl
              have hfnc : ∀ f, a.eval (.func f) = .func (.func f) #[] #[] := fun _ => rfl
              refine want_yes rfl rfl h6 ?_
              unfold Oper.wp
              generalize a.eval = ρ at *
              go_simp
              try go_bits
              first | exact rel_val (Chg.refl _) | (go_simp; exact rel_val (Chg.refl _))
            case z4o8 =>
              rintro a wx hE hin (h6 : a.eval (.tmp 123) = _)
              have i6 : a.eval (.tmp 6) = .pointer (some ⟨qq, 0, none⟩) := hin 6 rfl
              clear hin
              have hcst : ∀ v, a.eval (.const v) = v := fun _ => rfl
              have hfnc : ∀ f, a.eval (.func f) = .func (.func f) #[] #[] := fun _ => rfl
              refine want_yes rfl rfl h6 ?_
              unfold Oper.wp
              generalize a.eval = ρ at *
              go_simp
              try go_bits
              first | exact rel_val (Chg.refl _) | (go_simp; exact rel_val (Chg.refl _))
            case z4o9 =>
              rintro a wx hE hin (h6 : a.eval (.tmp 123) = _) (h8 : a.eval (.tmp 125) = _)
              clear hin
              have hcst : ∀ v, a.eval (.const v) = v := fun _ => rfl
              have hfnc : ∀ f, a.eval (.func f) = .func (.func f) #[] #[] := fun _ => rfl
              refine want_yes rfl rfl h6 ?_
              unfold Oper.wp
              generalize a.eval = ρ at *
              go_simp
              try go_bits
              first | exact rel_val (Chg.refl _) | (go_simp; exact rel_val (Chg.refl _))
            case z4o10 =>
              rintro a wx hE hin (h6 : a.eval (.tmp 123) = _) (h9 : a.eval (.tmp 126) = _)
              clear hin
              have hcst : ∀ v, a.eval (.const v) = v := fun _ => rfl
              have hfnc : ∀ f, a.eval (.func f) = .func (.func f) #[] #[] := fun _ => rfl
              refine want_yes rfl rfl h6 ?_
              unfold Oper.wp
              generalize a.eval = ρ at *
              go_simp
              try go_bits
              first | exact rel_val (Chg.refl _) | (go_simp; exact rel_val (Chg.refl _))
            case z4o11 =>
              rintro a wx hE hin (h6 : a.eval (.tmp 123) = _) (h10 : a.eval (.tmp 127) = _)
              clear hin
              have hcst : ∀ v, a.eval (.const v) = v := fun _ => rfl
              have hfnc : ∀ f, a.eval (.func f) = .func (.func f) #[] #[] := fun _ => rfl
              refine want_yes rfl rfl h6 ?_
              unfold Oper.wp
              generalize a.eval = ρ at *
              have c := Bk.cell (j := 1) (HQ9.out.bk.drew.chg hE id) rfl
              go_simp
              try go_bits
              first | exact rel_val (Chg.refl _) | (go_simp; exact rel_val (Chg.refl _))
            case z4o12 =>
              rintro a wx hE hin (h6 : a.eval (.tmp 123) = _) (h7 : a.eval (.tmp 124) = _) (h11 : a.eval (.tmp 128) = _)
              clear hin
              have hcst : ∀ v, a.eval (.const v) = v := fun _ => rfl
              have hfnc : ∀ f, a.eval (.func f) = .func (.func f) #[] #[] := fun _ => rfl
              refine want_yes rfl rfl h6 ?_
              unfold Oper.wp
              generalize a.eval = ρ at *
              go_simp
              try go_bits
              first | exact rel_val (e := .bool false) (Chg.refl _) | (simp only [bne_self_eq_false]; exact rel_val (e := .bool false) (Chg.refl _)) | (rw [bne_self_eq_false]; exact rel_val (e := .bool false) (Chg.refl _))
            case z4o13 =>
              rintro a wx hE hin (h6 : a.eval (.tmp 123) = _) (h12 : a.eval (.tmp 129) = _)
              clear hin
              have hcst : ∀ v, a.eval (.const v) = v := fun _ => rfl
              have hfnc : ∀ f, a.eval (.func f) = .func (.func f) #[] #[] := fun _ => rfl
              refine want_none rfl ?_
              unfold Oper.wp
              generalize a.eval = ρ at *
              go_simp
              try go_bits
              first | exact rel_val (Chg.refl _) | (go_simp; exact rel_val (Chg.refl _))
            case z4o14 =>
              rintro a wx hE hin (h13 : a.eval (.tmp 130) = _)
              clear hin
              have hcst : ∀ v, a.eval (.const v) = v := fun _ => rfl
              have hfnc : ∀ f, a.eval (.func f) = .func (.func f) #[] #[] := fun _ => rfl
              refine want_none rfl ?_
              unfold Oper.wp
              generalize a.eval = ρ at *
              go_simp
              try go_bits
              first | exact rel_val (Chg.refl _) | (go_simp; exact rel_val (Chg.refl _))
            case z4o15 =>
              rintro a wx hE hin (h14 : a.eval (.tmp 131) = _)
              have i13 : a.eval (.tmp 13) = .pointer (some ⟨ga, 0, none⟩) := hin 13 rfl
              clear hin
              have hcst : ∀ v, a.eval (.const v) = v := fun _ => rfl
              have hfnc : ∀ f, a.eval (.func f) = .func (.func f) #[] #[] := fun _ => rfl
              refine want_yes rfl rfl h14 ?_
              exact wp_ld 25 _ rfl ga 0 4 _ (pktC vv.o.k vv.o.e vv.o.q Az6 vv.o.ps.length cz6) i13 (Kaz11.out.drew.chg hE id) (by kernel_rfl) (by kernel_rfl) (by show _ ≤ _; first | exact Nat.le_refl 4 | (show _ ≤ 12; decide)) rfl (rel_val (Chg.refl _))
            case z4o16 =>
              rintro a wx hE hin (h14 : a.eval (.tmp 131) = _)
              have i6 : a.eval (.tmp 6) = .pointer (some ⟨qq, 0, none⟩) := hin 6 rfl
              clear hin
              have hcst : ∀ v, a.eval (.const v) = v := fun _ => rfl
              have hfnc : ∀ f, a.eval (.func f) = .func (.func f) #[] #[] := fun _ => rfl
              refine want_yes rfl rfl h14 ?_
              unfold Oper.wp
              generalize a.eval = ρ at *
              go_simp
              try go_bits
              first | exact rel_val (Chg.refl _) | (go_simp; exact rel_val (Chg.refl _))
            case z4o17 =>
              rintro a wx hE hin (h14 : a.eval (.tmp 131) = _) (h16 : a.eval (.tmp 133) = _)
              clear hin
              have hcst : ∀ v, a.eval (.const v) = v := fun _ => rfl
              have hfnc : ∀ f, a.eval (.func f) = .func (.func f) #[] #[] := fun _ => rfl
              refine want_yes rfl rfl h14 ?_
              unfold Oper.wp
              generalize a.eval = ρ at *
              go_simp
              try go_bits
              first | exact rel_val (Chg.refl _) | (go_simp; exact rel_val (Chg.refl _))
            case z4o18 =>
              rintro a wx hE hin (h14 : a.eval (.tmp 131) = _) (h17 : a.eval (.tmp 134) = _)
              clear hin
              have hcst : ∀ v, a.eval (.const v) = v := fun _ => rfl
              have hfnc : ∀ f, a.eval (.func f) = .func (.func f) #[] #[] := fun _ => rfl
              refine want_yes rfl rfl h14 ?_
              unfold Oper.wp
              generalize a.eval = ρ at *
              go_simp
              try go_bits
              first | exact rel_val (Chg.refl _) | (go_simp; exact rel_val (Chg.refl _))
            case z4o19 =>
              rintro a wx hE hin (h14 : a.eval (.tmp 131) = _) (h18 : a.eval (.tmp 135) = _)
              clear hin
              have hcst : ∀ v, a.eval (.const v) = v := fun _ => rfl
              have hfnc : ∀ f, a.eval (.func f) = .func (.func f) #[] #[] := fun _ => rfl
              refine want_yes rfl rfl h14 ?_
              exact wp_ld 25 _ rfl qq 2 4 _ (pktC vv.o.k vv.o.e vv.o.q A9 n9 c9) h18 (HQ9.out.bk.drew.chg hE id) (by kernel_rfl) (by kernel_rfl) (by show _ ≤ _; first | exact Nat.le_refl 4 | (show _ ≤ 12; decide)) rfl (rel_val (Chg.refl _))
            case z4o20 =>
              rintro a wx hE hin (h14 : a.eval (.tmp 131) = _) (h15 : a.eval (.tmp 132) = _) (h19 : a.eval (.tmp 136) = _)
              clear hin
              have hcst : ∀ v, a.eval (.const v) = v := fun _ => rfl
              have hfnc : ∀ f, a.eval (.func f) = .func (.func f) #[] #[] := fun _ => rfl
              refine want_yes rfl rfl h14 ?_
              unfold Oper.wp
              generalize a.eval = ρ at *
              go_simp
              refine (keepPackets_calls vv.o vv.o Az6 A9 vv.o.ps.length n9 cz6 c9 wx rfl HQ9.out.ln (by rw [HQ9.out.ln]; omega) (Raz11.out.chg hE.undrew) (HQ9.out.ra.rd.chg hE.undrew) HQ9.out.oa HQ9.out.oa).mono ?_
              rintro e w' ⟨rfl, hb⟩
              rw [pkEq_self]
              exact rel_val (.of_below hb)
            case z4o21 =>
              rintro a wx hE hin (h14 : a.eval (.tmp 131) = _) (h20 : a.eval (.tmp 137) = _)
              clear hin
              have hcst : ∀ v, a.eval (.const v) = v := fun _ => rfl
              have hfnc : ∀ f, a.eval (.func f) = .func (.func f) #[] #[] := fun _ => rfl
              refine want_yes rfl rfl h14 ?_
              unfold Oper.wp
              generalize a.eval = ρ at *
              go_simp
              try go_bits
              first | exact rel_val (Chg.refl _) | (go_simp; exact rel_val (Chg.refl _))
            case z4o22 =>
              rintro a wx hE hin (h14 : a.eval (.tmp 131) = _) (h21 : a.eval (.tmp 138) = _)
              clear hin
              have hcst : ∀ v, a.eval (.const v) = v := fun _ => rfl
              have hfnc : ∀ f, a.eval (.func f) = .func (.func f) #[] #[] := fun _ => rfl
              refine want_none rfl ?_
              unfold Oper.wp
              generalize a.eval = ρ at *
              go_simp
              try go_bits
              first | exact rel_val (Chg.refl _) | (go_simp; exact rel_val (Chg.refl _))
            case z4o23 =>
              rintro a wx hE hin (h22 : a.eval (.tmp 139) = _)
              clear hin
              have hcst : ∀ v, a.eval (.const v) = v := fun _ => rfl
              have hfnc : ∀ f, a.eval (.func f) = .func (.func f) #[] #[] := fun _ => rfl
              refine want_none rfl ?_
              unfold Oper.wp
              generalize a.eval = ρ at *
              go_simp
              try go_bits
              first | exact rel_val (Chg.refl _) | (go_simp; exact rel_val (Chg.refl _))
            case z4o24 =>
              rintro a wx hE hin (h23 : a.eval (.tmp 140) = _)
              have i15 : a.eval (.tmp 15) = .pointer (some ⟨gb, 0, none⟩) := hin 15 rfl
              clear hin
              have hcst : ∀ v, a.eval (.const v) = v := fun _ => rfl
              have hfnc : ∀ f, a.eval (.func f) = .func (.func f) #[] #[] := fun _ => rfl
              refine want_yes rfl rfl h23 ?_
              exact wp_ld 25 _ rfl gb 0 4 _ (pktC vv.y.k vv.y.e vv.y.q Az9 vv.y.ps.length cz9) i15 (Kbz11.out.drew.chg hE id) (by kernel_rfl) (by kernel_rfl) (by show _ ≤ _; first | exact Nat.le_refl 4 | (show _ ≤ 12; decide)) rfl (rel_val (Chg.refl _))
            case z4o25 =>
              rintro a wx hE hin (h23 : a.eval (.tmp 140) = _)
              have i6 : a.eval (.tmp 6) = .pointer (some ⟨qq, 0, none⟩) := hin 6 rfl
              clear hin
              have hcst : ∀ v, a.eval (.const v) = v := fun _ => rfl
              have hfnc : ∀ f, a.eval (.func f) = .func (.func f) #[] #[] := fun _ => rfl
              refine want_yes rfl rfl h23 ?_
              unfold Oper.wp
              generalize a.eval = ρ at *
              go_simp
              try go_bits
              first | exact rel_val (Chg.refl _) | (go_simp; exact rel_val (Chg.refl _))
            case z4o26 =>
              rintro a wx hE hin (h23 : a.eval (.tmp 140) = _) (h25 : a.eval (.tmp 142) = _)
              clear hin
              have hcst : ∀ v, a.eval (.const v) = v := fun _ => rfl
              have hfnc : ∀ f, a.eval (.func f) = .func (.func f) #[] #[] := fun _ => rfl
              refine want_yes rfl rfl h23 ?_
              unfold Oper.wp
              generalize a.eval = ρ at *
              go_simp
              try go_bits
              first | exact rel_val (Chg.refl _) | (go_simp; exact rel_val (Chg.refl _))
            case z4o27 =>
              rintro a wx hE hin (h23 : a.eval (.tmp 140) = _) (h26 : a.eval (.tmp 143) = _)
              clear hin
              have hcst : ∀ v, a.eval (.const v) = v := fun _ => rfl
              have hfnc : ∀ f, a.eval (.func f) = .func (.func f) #[] #[] := fun _ => rfl
              refine want_yes rfl rfl h23 ?_
              unfold Oper.wp
              generalize a.eval = ρ at *
              go_simp
              try go_bits
              first | exact rel_val (Chg.refl _) | (go_simp; exact rel_val (Chg.refl _))
            case z4o28 =>
              rintro a wx hE hin (h23 : a.eval (.tmp 140) = _) (h27 : a.eval (.tmp 144) = _)
              clear hin
              have hcst : ∀ v, a.eval (.const v) = v := fun _ => rfl
              have hfnc : ∀ f, a.eval (.func f) = .func (.func f) #[] #[] := fun _ => rfl
              refine want_yes rfl rfl h23 ?_
              exact wp_ld 25 _ rfl qq 6 4 _ (pktC vv.y.k vv.y.e vv.y.q B9 m9 d9) h27 (HQ9.out.bk.drew.chg hE id) (by kernel_rfl) (by kernel_rfl) (by show _ ≤ _; first | exact Nat.le_refl 4 | (show _ ≤ 12; decide)) rfl (rel_val (Chg.refl _))
            case z4o29 =>
              rintro a wx hE hin (h23 : a.eval (.tmp 140) = _) (h24 : a.eval (.tmp 141) = _) (h28 : a.eval (.tmp 145) = _)
              clear hin
              have hcst : ∀ v, a.eval (.const v) = v := fun _ => rfl
              have hfnc : ∀ f, a.eval (.func f) = .func (.func f) #[] #[] := fun _ => rfl
              refine want_yes rfl rfl h23 ?_
              unfold Oper.wp
              generalize a.eval = ρ at *
              go_simp
              refine (keepPackets_calls vv.y vv.y Az9 B9 vv.y.ps.length m9 cz9 d9 wx rfl HQ9.out.lm (by rw [HQ9.out.lm]; omega) (Rbz11.out.chg hE.undrew) (HQ9.out.rb.rd.chg hE.undrew) HQ9.out.ob HQ9.out.ob).mono ?_
              rintro e w' ⟨rfl, hb⟩
              rw [pkEq_self]
              exact rel_val (.of_below hb)
            case z4o30 =>
              rintro a wx hE hin (h23 : a.eval (.tmp 140) = _) (h29 : a.eval (.tmp 146) = _)
              clear hin
              have hcst : ∀ v, a.eval (.const v) = v := fun _ => rfl
              have hfnc : ∀ f, a.eval (.func f) = .func (.func f) #[] #[] := fun _ => rfl
              refine want_yes rfl rfl h23 ?_
              unfold Oper.wp
              generalize a.eval = ρ at *
              go_simp
              try go_bits
              first | exact rel_val (Chg.refl _) | (go_simp; exact rel_val (Chg.refl _))
            case z4o31 =>
              rintro a wx hE hin (h23 : a.eval (.tmp 140) = _) (h30 : a.eval (.tmp 147) = _)
              clear hin
              have hcst : ∀ v, a.eval (.const v) = v := fun _ => rfl
              have hfnc : ∀ f, a.eval (.func f) = .func (.func f) #[] #[] := fun _ => rfl
              refine want_none rfl ?_
              unfold Oper.wp
              generalize a.eval = ρ at *
              go_simp
              try go_bits
              first | exact rel_val (Chg.refl _) | (go_simp; exact rel_val (Chg.refl _))
          case z4fin =>
            intro wx hE
            rintro _ rfl _ rfl _ rfl _ rfl _ rfl _ rfl _ rfl _ rfl _ rfl _ rfl _ rfl _ rfl _ rfl _ rfl _ rfl _ rfl _ rfl _ rfl _ rfl _ rfl _ rfl _ rfl _ rfl _ rfl _ rfl _ rfl _ rfl _ rfl _ rfl _ rfl _ rfl _ rfl
            simp only [FinOk, List.take_succ_cons, List.take_zero, List.take_nil, List.drop_succ_cons, List.drop_zero, List.drop_nil, Act.put, List.setIfInBounds_toArray, List.set_cons_succ, List.set_cons_zero]
            have SX : Hid (SSt wx gs vv) := Sz11.out.chgN hE.undrew
            have QX : Hid (QSt wx qq vv) := Qz11.out.chgN hE.undrew
            have EX : Hid (Below w.heap.size w wx) := Ez11.out.trans (hE.undrew.below Ez11.out.size (fun _ _ => id))
            clear hE
            go_wp2_with fail
            go_roundw
            case rel => exact ⟨i + 1, vv, _, rfl, HLT.out, by go_num, SX.out, QX.out, EX.out, HWT.out⟩
            case measure => simp [intOf]; have := HLT.out; omega
      by_cases hk4 : s.k = 4
      case pos =>
        rw [hk4] at DV0
        clear hk0 hk1 hk2 hk3 hk4
        as_aux_lemma =>
          have c0 := Kxz2.out.cell DV0.out
          have c6 := Kxz2.out.cell DV6.out
          go_wp2_with fail
          clear c0 c6
          refine (sndStop_calls z2 gs v s.er Sz2.out).mono ?_
          intro en z3 hp
          obtain ⟨rfl, hst, hch⟩ := hp
          have Sz3 : Hid (SSt z3 gs (v.stop s.er)) := hst
          have Qz3 : Hid (QSt z3 qq v) := Qz2.out.chg hch GQ.out
          have Ez3 : Hid (Below w.heap.size w z3) := Ez2.out.trans (hch.below Ez2.out.size (fun k hk he => by have := GS.out; have := GQ.out; omega))
          have Kxz3 : Hid (Bk z3 gx vs) := Kxz2.out.chg hch (fun h => by have := Nx.out; have := GQ.out; omega)
          clear Kxz2
          clear hst hch Sz2 Qz2 Ez2
          have c6 := Kxz3.out.cell DV6.out
          go_wp2_with fail
          clear c6
          refine (refStop_calls z3 qq v s.er Qz3.out).mono ?_
          intro en z4 hp
          obtain ⟨rfl, hst, hch⟩ := hp
          have Sz4 : Hid (SSt z4 gs (v.stop s.er)) := Sz3.out.chgq hch GQ1.out
          have Qz4 : Hid (QSt z4 qq (v.stop s.er)) := hst
          have Ez4 : Hid (Below w.heap.size w z4) := Ez3.out.trans (hch.below Ez3.out.size (fun k hk he => by have := GS.out; have := GQ.out; omega))
          have Kxz4 : Hid (Bk z4 gx vs) := Kxz3.out.chg hch (fun h => by have := Nx.out; have := GQ.out; omega)
          clear Kxz3
          clear hst hch Sz3 Qz3 Ez3
          obtain ⟨vv, hvv⟩ : ∃ vv, (v.stop s.er) = vv := ⟨_, rfl⟩
          have HWT : Hid (vv.wt ≤ i + 1) := by show _ ≤ _; rw [← hvv]; exact Nat.zero_le _
          rw [hvv] at Sz4 Qz4
          clear hvv
          go_wp2_with fail
          refine (sndOut_calls z4 gs vv Sz4.out).mono ?_
          rintro en z5 ⟨Az5, cz5, rfl, hrn, hncz5, hmcz5, hb⟩
          have Ez5 : Hid (Below w.heap.size w z5) := Ez4.out.trans (hb.mono Ez4.out.size)
          clear Ez4
          have Sz5 : Hid (SSt z5 gs vv) := Sz4.out.below hb
          have Qz5 : Hid (QSt z5 qq vv) := Qz4.out.below hb
          clear Sz4 Qz4
          have RRz5 := Lib.hid hrn.rd
          clear hb hrn
          go_wp2_with (refine wpList_al rfl 25 rfl zPk (by kernel_rfl) ?_)
          intro ga z6 hg hb hc hs
          have HQa : Hid (Below z5.heap.size z5 z6) := hc.below (Nat.le_refl _) (fun _ _ => id)
          have HGa : Hid (ga = z5.heap.size) := hg
          have KZa := Lib.hid hb
          clear hg hb hc hs
          go_wp2_with (refine wpList_st rfl 25 (.tmp 13) (.tmp 110) rfl ga 0 4 zPk (pktC vv.o.k vv.o.e vv.o.q Az5 vv.o.ps.length cz5) rfl rfl KZa.out (by kernel_rfl) rfl (by decide) (one_pkt _ _ _ _ _ _) ?_)
          intro z7 hbk hc
          rw [splice_whole zPk (pktC vv.o.k vv.o.e vv.o.q Az5 vv.o.ps.length cz5) rfl] at hbk
          have hb : Below z5.heap.size z5 z7 := HQa.out.trans (hc.below HQa.out.size (fun q hq he => by have := HGa.out; omega))
          have Ez7 : Hid (Below w.heap.size w z7) := Ez5.out.trans (hb.mono Ez5.out.size)
          have Raz7 : Hid (Rd z7 Az5 (vv.o.ps.flatMap putC)) := RRz5.out.below hb
          clear Ez5 RRz5
          have Sz7 : Hid (SSt z7 gs vv) := Sz5.out.below hb
          have Qz7 : Hid (QSt z7 qq vv) := Qz5.out.below hb
          clear Sz5 Qz5
          have Kaz7 : Hid (Bk z7 ga (pktC vv.o.k vv.o.e vv.o.q Az5 vv.o.ps.length cz5)) := hbk
          have Kaz7 : Hid (Bk z7 ga (pktC vv.o.k vv.o.e vv.o.q Az5 vv.o.ps.length cz5)) := hbk
          clear hbk hb hc KZa HQa HGa
          go_wp2_with fail
          refine (sndEarly_calls z7 gs vv Sz7.out).mono ?_
          rintro en z8 ⟨Az8, cz8, rfl, hrn, hncz8, hmcz8, hb⟩
          have Ez8 : Hid (Below w.heap.size w z8) := Ez7.out.trans (hb.mono Ez7.out.size)
          have Kaz8 : Hid (Bk z8 ga (pktC vv.o.k vv.o.e vv.o.q Az5 vv.o.ps.length cz5)) := Kaz7.out.below hb
          have Raz8 : Hid (Rd z8 Az5 (vv.o.ps.flatMap putC)) := Raz7.out.below hb
          clear Ez7 Kaz7 Raz7
          have Sz8 : Hid (SSt z8 gs vv) := Sz7.out.below hb
          have Qz8 : Hid (QSt z8 qq vv) := Qz7.out.below hb
          clear Sz7 Qz7
          have RRz8 := Lib.hid hrn.rd
          clear hb hrn
          go_wp2_with (refine wpList_al rfl 25 rfl zPk (by kernel_rfl) ?_)
          intro gb z9 hg hb hc hs
          have HQb : Hid (Below z8.heap.size z8 z9) := hc.below (Nat.le_refl _) (fun _ _ => id)
          have HGb : Hid (gb = z8.heap.size) := hg
          have KZb := Lib.hid hb
          clear hg hb hc hs
          go_wp2_with (refine wpList_st rfl 25 (.tmp 15) (.tmp 115) rfl gb 0 4 zPk (pktC vv.y.k vv.y.e vv.y.q Az8 vv.y.ps.length cz8) rfl rfl KZb.out (by kernel_rfl) rfl (by decide) (one_pkt _ _ _ _ _ _) ?_)
          intro z10 hbk hc
          rw [splice_whole zPk (pktC vv.y.k vv.y.e vv.y.q Az8 vv.y.ps.length cz8) rfl] at hbk
          have hb : Below z8.heap.size z8 z10 := HQb.out.trans (hc.below HQb.out.size (fun q hq he => by have := HGb.out; omega))
          have Aab : Hid (ga < gb) := by show _ < _; have := Kaz8.out.lt; have := HGb.out; omega
          have Ez10 : Hid (Below w.heap.size w z10) := Ez8.out.trans (hb.mono Ez8.out.size)
          have Kaz10 : Hid (Bk z10 ga (pktC vv.o.k vv.o.e vv.o.q Az5 vv.o.ps.length cz5)) := Kaz8.out.below hb
          have Raz10 : Hid (Rd z10 Az5 (vv.o.ps.flatMap putC)) := Raz8.out.below hb
          have Rbz10 : Hid (Rd z10 Az8 (vv.y.ps.flatMap putC)) := RRz8.out.below hb
          clear Ez8 Kaz8 Raz8 RRz8
          have Sz10 : Hid (SSt z10 gs vv) := Sz8.out.below hb
          have Qz10 : Hid (QSt z10 qq vv) := Qz8.out.below hb
          clear Sz8 Qz8
          have Kbz10 : Hid (Bk z10 gb (pktC vv.y.k vv.y.e vv.y.q Az8 vv.y.ps.length cz8)) := hbk
          have Kbz10 : Hid (Bk z10 gb (pktC vv.y.k vv.y.e vv.y.q Az8 vv.y.ps.length cz8)) := hbk
          clear hbk hb hc KZb HQb HGb
          go_wp2_with fail
          obtain ⟨A9, n9, c9, B9, m9, d9, hq9⟩ := Qz10.out
          have HQ9 := Lib.hid hq9
          clear hq9
          have HN9 := HQ9.out.n5
          have HM9 := HQ9.out.m5
          apply wp_region_rel 32 (Chg NoS) [(Veq _), (Veq _), (Veq _), (Veq _), (Veq _), (Veq (.bool false)), (Veq _), (Veq _), (Veq _), (Veq _), (Veq _), (Veq _), (Veq (.bool false)), (Veq _), (Veq _), (Veq _), (Veq _), (Veq _), (Veq _), (Veq _), (Veq _), (Veq _), (Veq _), (Veq _), (Veq _), (Veq _), (Veq _), (Veq _), (Veq _), (Veq _), (Veq _), (Veq _)] [[], [], [1], [2], [3], [0, 4], [5], [6], [6], [6, 8], [6, 9], [6, 10], [6, 7, 11], [6, 12], [13], [14], [14], [14, 16], [14, 17], [14, 18], [14, 15, 19], [14, 20], [14, 21], [22], [23], [23], [23, 25], [23, 26], [23, 27], [23, 24, 28], [23, 29], [23, 30]] [117, 118, 119, 120, 121, 122, 123, 124, 125, 126, 127, 128, 129, 130, 131, 132, 133, 134, 135, 136, 137, 138, 139, 140, 141, 142, 143, 144, 145, 146, 147, 148] (by kernel_rfl) (by kernel_rfl) rfl rfl rfl Chg.refl (fun _ _ _ => Chg.trans) ⟨Veq.lasts, Veq.lasts, Veq.lasts, Veq.lasts, Veq.lasts, Veq.lasts, Veq.lasts, Veq.lasts, Veq.lasts, Veq.lasts, Veq.lasts, Veq.lasts, Veq.lasts, Veq.lasts, Veq.lasts, Veq.lasts, Veq.lasts, Veq.lasts, Veq.lasts, Veq.lasts, Veq.lasts, Veq.lasts, Veq.lasts, Veq.lasts, Veq.lasts, Veq.lasts, Veq.lasts, Veq.lasts, Veq.lasts, Veq.lasts, Veq.lasts, Veq.lasts, trivial⟩ ?z5ops ?z5fin
          case z5ops =>
            refine ⟨?z5o0, ?z5o1, ?z5o2, ?z5o3, ?z5o4, ?z5o5, ?z5o6, ?z5o7, ?z5o8, ?z5o9, ?z5o10, ?z5o11, ?z5o12, ?z5o13, ?z5o14, ?z5o15, ?z5o16, ?z5o17, ?z5o18, ?z5o19, ?z5o20, ?z5o21, ?z5o22, ?z5o23, ?z5o24, ?z5o25, ?z5o26, ?z5o27, ?z5o28, ?z5o29, ?z5o30, ?z5o31, trivial⟩
            case z5o0 =>
              intro a wx hE hin
              have i14 : a.eval (.tmp 14) = .bool vv.is := hin 14 rfl
              clear hin
              have hcst : ∀ v, a.eval (.const v) = v := fun _ => rfl
              have hfnc : ∀ f, a.eval (.func f) = .func (.func f) #[] #[] := fun _ => rfl
              refine want_none rfl ?_
              unfold Oper.wp
              generalize a.eval = ρ at *
              go_simp
              try go_bits
              first | exact rel_val (Chg.refl _) | (go_simp; exact rel_val (Chg.refl _))
            case z5o1 =>
              intro a wx hE hin
              have i6 : a.eval (.tmp 6) = .pointer (some ⟨qq, 0, none⟩) := hin 6 rfl
              clear hin
              have hcst : ∀ v, a.eval (.const v) = v := fun _ => rfl
              have hfnc : ∀ f, a.eval (.func f) = .func (.func f) #[] #[] := fun _ => rfl
              refine want_none rfl ?_
              unfold Oper.wp
              generalize a.eval = ρ at *
              go_simp
              try go_bits
              first | exact rel_val (Chg.refl _) | (go_simp; exact rel_val (Chg.refl _))
            case z5o2 =>
              rintro a wx hE hin (h1 : a.eval (.tmp 118) = _)
              clear hin
              have hcst : ∀ v, a.eval (.const v) = v := fun _ => rfl
              have hfnc : ∀ f, a.eval (.func f) = .func (.func f) #[] #[] := fun _ => rfl
              refine want_none rfl ?_
              unfold Oper.wp
              generalize a.eval = ρ at *
              go_simp
              try go_bits
              first | exact rel_val (Chg.refl _) | (go_simp; exact rel_val (Chg.refl _))
            case z5o3 =>
              rintro a wx hE hin (h2 : a.eval (.tmp 119) = _)
              clear hin
              have hcst : ∀ v, a.eval (.const v) = v := fun _ => rfl
              have hfnc : ∀ f, a.eval (.func f) = .func (.func f) #[] #[] := fun _ => rfl
              refine want_none rfl ?_
              unfold Oper.wp
              generalize a.eval = ρ at *
              go_simp
              try go_bits
              first | exact rel_val (Chg.refl _) | (go_simp; exact rel_val (Chg.refl _))
            case z5o4 =>
              rintro a wx hE hin (h3 : a.eval (.tmp 120) = _)
              clear hin
              have hcst : ∀ v, a.eval (.const v) = v := fun _ => rfl
              have hfnc : ∀ f, a.eval (.func f) = .func (.func f) #[] #[] := fun _ => rfl
              refine want_none rfl ?_
              unfold Oper.wp
              generalize a.eval = ρ at *
              have c := Bk.cell (j := 0) (HQ9.out.bk.drew.chg hE id) rfl
              go_simp
              try go_bits
              first | exact rel_val (Chg.refl _) | (go_simp; exact rel_val (Chg.refl _))
            case z5o5 =>
              rintro a wx hE hin (h0 : a.eval (.tmp 117) = _) (h4 : a.eval (.tmp 121) = _)
              clear hin
              have hcst : ∀ v, a.eval (.const v) = v := fun _ => rfl
              have hfnc : ∀ f, a.eval (.func f) = .func (.func f) #[] #[] := fun _ => rfl
              refine want_none rfl ?_
              unfold Oper.wp
              generalize a.eval = ρ at *
              go_simp
              try go_bits
              first | exact rel_val (e := .bool false) (Chg.refl _) | (simp only [bne_self_eq_false]; exact rel_val (e := .bool false) (Chg.refl _)) | (rw [bne_self_eq_false]; exact rel_val (e := .bool false) (Chg.refl _))
            case z5o6 =>
              rintro a wx hE hin (h5 : a.eval (.tmp 122) = _)
              clear hin
              have hcst : ∀ v, a.eval (.const v) = v := fun _ => rfl
              have hfnc : ∀ f, a.eval (.func f) = .func (.func f) #[] #[] := fun _ => rfl
              refine want_none rfl ?_
              unfold Oper.wp
              generalize a.eval = ρ at *
              go_simp
              try go_bits
              first | exact rel_val (Chg.refl _) | (go_simp; exact rel_val (Chg.refl _))
            case z5o7 =>
              rintro a wx hE hin (h6 : a.eval (.tmp 123) = _)
              have i16 : a.eval (.tmp 16) = .bool vv.was := hin 16 rfl
              clear hin
              have hcst : ∀ v, a.eval (.const v) = v := fun _ => rfl
              have hfnc : ∀ f, a.eval (.func f) = .func (.func f) #[] #[] := fun _ => rfl
              refine want_yes rfl rfl h6 ?_
              unfold Oper.wp
              generalize a.eval = ρ at *
              go_simp
              try go_bits
              first | exact rel_val (Chg.refl _) | (go_simp; exact rel_val (Chg.refl _))
            case z5o8 =>
              rintro a wx hE hin (h6 : a.eval (.tmp 123) = _)
              have i6 : a.eval (.tmp 6) = .pointer (some ⟨qq, 0, none⟩) := hin 6 rfl
              clear hin
              have hcst : ∀ v, a.eval (.const v) = v := fun _ => rfl
              have hfnc : ∀ f, a.eval (.func f) = .func (.func f) #[] #[] := fun _ => rfl
              refine want_yes rfl rfl h6 ?_
              unfold Oper.wp
              generalize a.eval = ρ at *
              go_simp
              try go_bits
              first | exact rel_val (Chg.refl _) | (go_simp; exact rel_val (Chg.refl _))
            case z5o9 =>
              rintro a wx hE hin (h6 : a.eval (.tmp 123) = _) (h8 : a.eval (.tmp 125) = _)
              clear hin
              have hcst : ∀ v, a.eval (.const v) = v := fun _ => rfl
              have hfnc : ∀ f, a.eval (.func f) = .func (.func f) #[] #[] := fun _ => rfl
              refine want_yes rfl rfl h6 ?_
              unfold Oper.wp
              generalize a.eval = ρ at *
              go_simp
              try go_bits
              first | exact rel_val (Chg.refl _) | (go_simp; exact rel_val (Chg.refl _))
            case z5o10 =>
              rintro a wx hE hin (h6 : a.eval (.tmp 123) = _) (h9 : a.eval (.tmp 126) = _)
              clear hin
              have hcst : ∀ v, a.eval (.const v) = v := fun _ => rfl
              have hfnc : ∀ f, a.eval (.func f) = .func (.func f) #[] #[] := fun _ => rfl
              refine want_yes rfl rfl h6 ?_
              unfold Oper.wp
              generalize a.eval = ρ at *
              go_simp
              try go_bits
              first | exact rel_val (Chg.refl _) | (go_simp; exact rel_val (Chg.refl _))
            case z5o11 =>
              rintro a wx hE hin (h6 : a.eval (.tmp 123) = _) (h10 : a.eval (.tmp 127) = _)
              clear hin
              have hcst : ∀ v, a.eval (.const v) = v := fun _ => rfl
              have hfnc : ∀ f, a.eval (.func f) = .func (.func f) #[] #[] := fun _ => rfl
              refine want_yes rfl rfl h6 ?_
              unfold Oper.wp
              generalize a.eval = ρ at *
              have c := Bk.cell (j := 1) (HQ9.out.bk.drew.chg hE id) rfl
              go_simp
              try go_bits
              first | exact rel_val (Chg.refl _) | (go_simp; exact rel_val (Chg.refl _))
            case z5o12 =>
              rintro a wx hE hin (h6 : a.eval (.tmp 123) = _) (h7 : a.eval (.tmp 124) = _) (h11 : a.eval (.tmp 128) = _)
              clear hin
              have hcst : ∀ v, a.eval (.const v) = v := fun _ => rfl
              have hfnc : ∀ f, a.eval (.func f) = .func (.func f) #[] #[] := fun _ => rfl
              refine want_yes rfl rfl h6 ?_
              unfold Oper.wp
              generalize a.eval = ρ at *
              go_simp
              try go_bits
              first | exact rel_val (e := .bool false) (Chg.refl _) | (simp only [bne_self_eq_false]; exact rel_val (e := .bool false) (Chg.refl _)) | (rw [bne_self_eq_false]; exact rel_val (e := .bool false) (Chg.refl _))
            case z5o13 =>
              rintro a wx hE hin (h6 : a.eval (.tmp 123) = _) (h12 : a.eval (.tmp 129) = _)
              clear hin
              have hcst : ∀ v, a.eval (.const v) = v := fun _ => rfl
              have hfnc : ∀ f, a.eval (.func f) = .func (.func f) #[] #[] := fun _ => rfl
              refine want_none rfl ?_
              unfold Oper.wp
              generalize a.eval = ρ at *
              go_simp
              try go_bits
              first | exact rel_val (Chg.refl _) | (go_simp; exact rel_val (Chg.refl _))
            case z5o14 =>
              rintro a wx hE hin (h13 : a.eval (.tmp 130) = _)
              clear hin
              have hcst : ∀ v, a.eval (.const v) = v := fun _ => rfl
              have hfnc : ∀ f, a.eval (.func f) = .func (.func f) #[] #[] := fun _ => rfl
              refine want_none rfl ?_
              unfold Oper.wp
              generalize a.eval = ρ at *
              go_simp
              try go_bits
              first | exact rel_val (Chg.refl _) | (go_simp; exact rel_val (Chg.refl _))
            case z5o15 =>
              rintro a wx hE hin (h14 : a.eval (.tmp 131) = _)
              have i13 : a.eval (.tmp 13) = .pointer (some ⟨ga, 0, none⟩) := hin 13 rfl
              clear hin
              have hcst : ∀ v, a.eval (.const v) = v := fun _ => rfl
              have hfnc : ∀ f, a.eval (.func f) = .func (.func f) #[] #[] := fun _ => rfl
              refine want_yes rfl rfl h14 ?_
              exact wp_ld 25 _ rfl ga 0 4 _ (pktC vv.o.k vv.o.e vv.o.q Az5 vv.o.ps.length cz5) i13 (Kaz10.out.drew.chg hE id) (by kernel_rfl) (by kernel_rfl) (by show _ ≤ _; first | exact Nat.le_refl 4 | (show _ ≤ 12; decide)) rfl (rel_val (Chg.refl _))
            case z5o16 =>
              rintro a wx hE hin (h14 : a.eval (.tmp 131) = _)
              have i6 : a.eval (.tmp 6) = .pointer (some ⟨qq, 0, none⟩) := hin 6 rfl
              clear hin
              have hcst : ∀ v, a.eval (.const v) = v := fun _ => rfl
              have hfnc : ∀ f, a.eval (.func f) = .func (.func f) #[] #[] := fun _ => rfl
              refine want_yes rfl rfl h14 ?_
              unfold Oper.wp
              generalize a.eval = ρ at *
              go_simp
              try go_bits
              first | exact rel_val (Chg.refl _) | (go_simp; exact rel_val (Chg.refl _))
            case z5o17 =>
              rintro a wx hE hin (h14 : a.eval (.tmp 131) = _) (h16 : a.eval (.tmp 133) = _)
              clear hin
              have hcst : ∀ v, a.eval (.const v) = v := fun _ => rfl
              have hfnc : ∀ f, a.eval (.func f) = .func (.func f) #[] #[] := fun _ => rfl
              refine want_yes rfl rfl h14 ?_
              unfold Oper.wp
              generalize a.eval = ρ at *
              go_simp
              try go_bits
              first | exact rel_val (Chg.refl _) | (go_simp; exact rel_val (Chg.refl _))
            case z5o18 =>
              rintro a wx hE hin (h14 : a.eval (.tmp 131) = _) (h17 : a.eval (.tmp 134) = _)
              clear hin
              have hcst : ∀ v, a.eval (.const v) = v := fun _ => rfl
              have hfnc : ∀ f, a.eval (.func f) = .func (.func f) #[] #[] := fun _ => rfl
              refine want_yes rfl rfl h14 ?_
              unfold Oper.wp
              generalize a.eval = ρ at *
              go_simp
              try go_bits
              first | exact rel_val (Chg.refl _) | (go_simp; exact rel_val (Chg.refl _))
            case z5o19 =>
              rintro a wx hE hin (h14 : a.eval (.tmp 131) = _) (h18 : a.eval (.tmp 135) = _)
              clear hin
              have hcst : ∀ v, a.eval (.const v) = v := fun _ => rfl
              have hfnc : ∀ f, a.eval (.func f) = .func (.func f) #[] #[] := fun _ => rfl
              refine want_yes rfl rfl h14 ?_
              exact wp_ld 25 _ rfl qq 2 4 _ (pktC vv.o.k vv.o.e vv.o.q A9 n9 c9) h18 (HQ9.out.bk.drew.chg hE id) (by kernel_rfl) (by kernel_rfl) (by show _ ≤ _; first | exact Nat.le_refl 4 | (show _ ≤ 12; decide)) rfl (rel_val (Chg.refl _))
            case z5o20 =>
              rintro a wx hE hin (h14 : a.eval (.tmp 131) = _) (h15 : a.eval (.tmp 132) = _) (h19 : a.eval (.tmp 136) = _)
              clear hin
              have hcst : ∀ v, a.eval (.const v) = v := fun _ => rfl
              have hfnc : ∀ f, a.eval (.func f) = .func (.func f) #[] #[] := fun _ => rfl
              refine want_yes rfl rfl h14 ?_
              unfold Oper.wp
              generalize a.eval = ρ at *
              go_simp
              refine (keepPackets_calls vv.o vv.o Az5 A9 vv.o.ps.length n9 cz5 c9 wx rfl HQ9.out.ln (by rw [HQ9.out.ln]; omega) (Raz10.out.chg hE.undrew) (HQ9.out.ra.rd.chg hE.undrew) HQ9.out.oa HQ9.out.oa).mono ?_
              rintro e w' ⟨rfl, hb⟩
              rw [pkEq_self]
              exact rel_val (.of_below hb)
            case z5o21 =>
              rintro a wx hE hin (h14 : a.eval (.tmp 131) = _) (h20 : a.eval (.tmp 137) = _)
              clear hin
              have hcst : ∀ v, a.eval (.const v) = v := fun _ => rfl
              have hfnc : ∀ f, a.eval (.func f) = .func (.func f) #[] #[] := fun _ => rfl
              refine want_yes rfl rfl h14 ?_
              unfold Oper.wp
              generalize a.eval = ρ at *
              go_simp
              try go_bits
              first | exact rel_val (Chg.refl _) | (go_simp; exact rel_val (Chg.refl _))
            case z5o22 =>
              rintro a wx hE hin (h14 : a.eval (.tmp 131) = _) (h21 : a.eval (.tmp 138) = _)
              clear hin
              have hcst : ∀ v, a.eval (.const v) = v := fun _ => rfl
              have hfnc : ∀ f, a.eval (.func f) = .func (.func f) #[] #[] := fun _ => rfl
              refine want_none rfl ?_
              unfold Oper.wp
              generalize a.eval = ρ at *
              go_simp
              try go_bits
              first | exact rel_val (Chg.refl _) | (go_simp; exact rel_val (Chg.refl _))
            case z5o23 =>
              rintro a wx hE hin (h22 : a.eval (.tmp 139) = _)
              clear hin
              have hcst : ∀ v, a.eval (.const v) = v := fun _ => rfl
              have hfnc : ∀ f, a.eval (.func f) = .func (.func f) #[] #[] := fun _ => rfl
              refine want_none rfl ?_
              unfold Oper.wp
              generalize a.eval = ρ at *
              go_simp
              try go_bits
              first | exact rel_val (Chg.refl _) | (go_simp; exact rel_val (Chg.refl _))
            case z5o24 =>
              rintro a wx hE hin (h23 : a.eval (.tmp 140) = _)
              have i15 : a.eval (.tmp 15) = .pointer (some ⟨gb, 0, none⟩) := hin 15 rfl
              clear hin
              have hcst : ∀ v, a.eval (.const v) = v := fun _ => rfl
              have hfnc : ∀ f, a.eval (.func f) = .func (.func f) #[] #[] := fun _ => rfl
              refine want_yes rfl rfl h23 ?_
              exact wp_ld 25 _ rfl gb 0 4 _ (pktC vv.y.k vv.y.e vv.y.q Az8 vv.y.ps.length cz8) i15 (Kbz10.out.drew.chg hE id) (by kernel_rfl) (by kernel_rfl) (by show _ ≤ _; first | exact Nat.le_refl 4 | (show _ ≤ 12; decide)) rfl (rel_val (Chg.refl _))
            case z5o25 =>
              rintro a wx hE hin (h23 : a.eval (.tmp 140) = _)
              have i6 : a.eval (.tmp 6) = .pointer (some ⟨qq, 0, none⟩) := hin 6 rfl
              clear hin
              have hcst : ∀ v, a.eval (.const v) = v := fun _ => rfl
              have hfnc : ∀ f, a.eval (.func f) = .func (.func f) #[] #[] := fun _ => rfl
              refine want_yes rfl rfl h23 ?_
              unfold Oper.wp
              generalize a.eval = ρ at *
              go_simp
              try go_bits
              first | exact rel_val (Chg.refl _) | (go_simp; exact rel_val (Chg.refl _))
            case z5o26 =>
              rintro a wx hE hin (h23 : a.eval (.tmp 140) = _) (h25 : a.eval (.tmp 142) = _)
              clear hin
              have hcst : ∀ v, a.eval (.const v) = v := fun _ => rfl
              have hfnc : ∀ f, a.eval (.func f) = .func (.func f) #[] #[] := fun _ => rfl
              refine want_yes rfl rfl h23 ?_
              unfold Oper.wp
              generalize a.eval = ρ at *
              go_simp
              try go_bits
              first | exact rel_val (Chg.refl _) | (go_simp; exact rel_val (Chg.refl _))
            case z5o27 =>
              rintro a wx hE hin (h23 : a.eval (.tmp 140) = _) (h26 : a.eval (.tmp 143) = _)
              clear hin
              have hcst : ∀ v, a.eval (.const v) = v := fun _ => rfl
              have hfnc : ∀ f, a.eval (.func f) = .func (.func f) #[] #[] := fun _ => rfl
              refine want_yes rfl rfl h23 ?_
              unfold Oper.wp
              generalize a.eval = ρ at *
              go_simp
              try go_bits
              first | exact rel_val (Chg.refl _) | (go_simp; exact rel_val (Chg.refl _))
            case z5o28 =>
              rintro a wx hE hin (h23 : a.eval (.tmp 140) = _) (h27 : a.eval (.tmp 144) = _)
              clear hin
              have hcst : ∀ v, a.eval (.const v) = v := fun _ => rfl
              have hfnc : ∀ f, a.eval (.func f) = .func (.func f) #[] #[] := fun _ => rfl
              refine want_yes rfl rfl h23 ?_
              exact wp_ld 25 _ rfl qq 6 4 _ (pktC vv.y.k vv.y.e vv.y.q B9 m9 d9) h27 (HQ9.out.bk.drew.chg hE id) (by kernel_rfl) (by kernel_rfl) (by show _ ≤ _; first | exact Nat.le_refl 4 | (show _ ≤ 12; decide)) rfl (rel_val (Chg.refl _))
            case z5o29 =>
              rintro a wx hE hin (h23 : a.eval (.tmp 140) = _) (h24 : a.eval (.tmp 141) = _) (h28 : a.eval (.tmp 145) = _)
              clear hin
              have hcst : ∀ v, a.eval (.const v) = v := fun _ => rfl
              have hfnc : ∀ f, a.eval (.func f) = .func (.func f) #[] #[] := fun _ => rfl
              refine want_yes rfl rfl h23 ?_
              unfold Oper.wp
              generalize a.eval = ρ at *
              go_simp
              refine (keepPackets_calls vv.y vv.y Az8 B9 vv.y.ps.length m9 cz8 d9 wx rfl HQ9.out.lm (by rw [HQ9.out.lm]; omega) (Rbz10.out.chg hE.undrew) (HQ9.out.rb.rd.chg hE.undrew) HQ9.out.ob HQ9.out.ob).mono ?_
              rintro e w' ⟨rfl, hb⟩
              rw [pkEq_self]
              exact rel_val (.of_below hb)
            case z5o30 =>
              rintro a wx hE hin (h23 : a.eval (.tmp 140) = _) (h29 : a.eval (.tmp 146) = _)
              clear hin
              have hcst : ∀ v, a.eval (.const v) = v := fun _ => rfl
              have hfnc : ∀ f, a.eval (.func f) = .func (.func f) #[] #[] := fun _ => rfl
              refine want_yes rfl rfl h23 ?_
              unfold Oper.wp
              generalize a.eval = ρ at *
              go_simp
              try go_bits
              first | exact rel_val (Chg.refl _) | (go_simp; exact rel_val (Chg.refl _))
            case z5o31 =>
              rintro a wx hE hin (h23 : a.eval (.tmp 140) = _) (h30 : a.eval (.tmp 147) = _)
              clear hin
              have hcst : ∀ v, a.eval (.const v) = v := fun _ => rfl
              have hfnc : ∀ f, a.eval (.func f) = .func (.func f) #[] #[] := fun _ => rfl
              refine want_none rfl ?_
              unfold Oper.wp
              generalize a.eval = ρ at *
              go_simp
              try go_bits
              first | exact rel_val (Chg.refl _) | (go_simp; exact rel_val (Chg.refl _))
          case z5fin =>
            intro wx hE
            rintro _ rfl _ rfl _ rfl _ rfl _ rfl _ rfl _ rfl _ rfl _ rfl _ rfl _ rfl _ rfl _ rfl _ rfl _ rfl _ rfl _ rfl _ rfl _ rfl _ rfl _ rfl _ rfl _ rfl _ rfl _ rfl _ rfl _ rfl _ rfl _ rfl _ rfl _ rfl _ rfl
            simp only [FinOk, List.take_succ_cons, List.take_zero, List.take_nil, List.drop_succ_cons, List.drop_zero, List.drop_nil, Act.put, List.setIfInBounds_toArray, List.set_cons_succ, List.set_cons_zero]
            have SX : Hid (SSt wx gs vv) := Sz10.out.chgN hE.undrew
            have QX : Hid (QSt wx qq vv) := Qz10.out.chgN hE.undrew
            have EX : Hid (Below w.heap.size w wx) := Ez10.out.trans (hE.undrew.below Ez10.out.size (fun _ _ => id))
            clear hE
            go_wp2_with fail
            go_roundw
            case rel => exact ⟨i + 1, vv, _, rfl, HLT.out, by go_num, SX.out, QX.out, EX.out, HWT.out⟩
            case measure => simp [intOf]; have := HLT.out; omega
      have n0 : (s.k == 0) = false := by rw [beq_eq_false_iff_ne]; exact hk0
      have n1 : (s.k == 1) = false := by rw [beq_eq_false_iff_ne]; exact hk1
      have n2 : (s.k == 2) = false := by rw [beq_eq_false_iff_ne]; exact hk2
      have n3 : (s.k == 3) = false := by rw [beq_eq_false_iff_ne]; exact hk3
      have n4 : (s.k == 4) = false := by rw [beq_eq_false_iff_ne]; exact hk4
      clear hk0 hk1 hk2 hk3 hk4
      as_aux_lemma =>
        have c0 := Kxz2.out.cell DV0.out
        go_wp2_with fail
        clear c0
        obtain ⟨vv, hvv⟩ : ∃ vv, v = vv := ⟨_, rfl⟩
        have HWT : Hid (vv.wt ≤ i + 1) := by show _ ≤ _; rw [← hvv]; exact (by have := HWI.out; omega)
        rw [hvv] at Sz2 Qz2
        clear hvv
        refine (sndOut_calls z2 gs vv Sz2.out).mono ?_
        rintro en z3 ⟨Az3, cz3, rfl, hrn, hncz3, hmcz3, hb⟩
        have Ez3 : Hid (Below w.heap.size w z3) := Ez2.out.trans (hb.mono Ez2.out.size)
        clear Ez2
        have Sz3 : Hid (SSt z3 gs vv) := Sz2.out.below hb
        have Qz3 : Hid (QSt z3 qq vv) := Qz2.out.below hb
        clear Sz2 Qz2
        have RRz3 := Lib.hid hrn.rd
        clear hb hrn
        go_wp2_with (refine wpList_al rfl 25 rfl zPk (by kernel_rfl) ?_)
        intro ga z4 hg hb hc hs
        have HQa : Hid (Below z3.heap.size z3 z4) := hc.below (Nat.le_refl _) (fun _ _ => id)
        have HGa : Hid (ga = z3.heap.size) := hg
        have KZa := Lib.hid hb
        clear hg hb hc hs
        go_wp2_with (refine wpList_st rfl 25 (.tmp 13) (.tmp 110) rfl ga 0 4 zPk (pktC vv.o.k vv.o.e vv.o.q Az3 vv.o.ps.length cz3) rfl rfl KZa.out (by kernel_rfl) rfl (by decide) (one_pkt _ _ _ _ _ _) ?_)
        intro z5 hbk hc
        rw [splice_whole zPk (pktC vv.o.k vv.o.e vv.o.q Az3 vv.o.ps.length cz3) rfl] at hbk
        have hb : Below z3.heap.size z3 z5 := HQa.out.trans (hc.below HQa.out.size (fun q hq he => by have := HGa.out; omega))
        have Ez5 : Hid (Below w.heap.size w z5) := Ez3.out.trans (hb.mono Ez3.out.size)
        have Raz5 : Hid (Rd z5 Az3 (vv.o.ps.flatMap putC)) := RRz3.out.below hb
        clear Ez3 RRz3
        have Sz5 : Hid (SSt z5 gs vv) := Sz3.out.below hb
        have Qz5 : Hid (QSt z5 qq vv) := Qz3.out.below hb
        clear Sz3 Qz3
        have Kaz5 : Hid (Bk z5 ga (pktC vv.o.k vv.o.e vv.o.q Az3 vv.o.ps.length cz3)) := hbk
        have Kaz5 : Hid (Bk z5 ga (pktC vv.o.k vv.o.e vv.o.q Az3 vv.o.ps.length cz3)) := hbk
        clear hbk hb hc KZa HQa HGa
        go_wp2_with fail
        refine (sndEarly_calls z5 gs vv Sz5.out).mono ?_
        rintro en z6 ⟨Az6, cz6, rfl, hrn, hncz6, hmcz6, hb⟩
        have Ez6 : Hid (Below w.heap.size w z6) := Ez5.out.trans (hb.mono Ez5.out.size)
        have Kaz6 : Hid (Bk z6 ga (pktC vv.o.k vv.o.e vv.o.q Az3 vv.o.ps.length cz3)) := Kaz5.out.below hb
        have Raz6 : Hid (Rd z6 Az3 (vv.o.ps.flatMap putC)) := Raz5.out.below hb
        clear Ez5 Kaz5 Raz5
        have Sz6 : Hid (SSt z6 gs vv) := Sz5.out.below hb
        have Qz6 : Hid (QSt z6 qq vv) := Qz5.out.below hb
        clear Sz5 Qz5
        have RRz6 := Lib.hid hrn.rd
        clear hb hrn
        go_wp2_with (refine wpList_al rfl 25 rfl zPk (by kernel_rfl) ?_)
        intro gb z7 hg hb hc hs
        have HQb : Hid (Below z6.heap.size z6 z7) := hc.below (Nat.le_refl _) (fun _ _ => id)
        have HGb : Hid (gb = z6.heap.size) := hg
        have KZb := Lib.hid hb
        clear hg hb hc hs
        go_wp2_with (refine wpList_st rfl 25 (.tmp 15) (.tmp 115) rfl gb 0 4 zPk (pktC vv.y.k vv.y.e vv.y.q Az6 vv.y.ps.length cz6) rfl rfl KZb.out (by kernel_rfl) rfl (by decide) (one_pkt _ _ _ _ _ _) ?_)
        intro z8 hbk hc
        rw [splice_whole zPk (pktC vv.y.k vv.y.e vv.y.q Az6 vv.y.ps.length cz6) rfl] at hbk
        have hb : Below z6.heap.size z6 z8 := HQb.out.trans (hc.below HQb.out.size (fun q hq he => by have := HGb.out; omega))
        have Aab : Hid (ga < gb) := by show _ < _; have := Kaz6.out.lt; have := HGb.out; omega
        have Ez8 : Hid (Below w.heap.size w z8) := Ez6.out.trans (hb.mono Ez6.out.size)
        have Kaz8 : Hid (Bk z8 ga (pktC vv.o.k vv.o.e vv.o.q Az3 vv.o.ps.length cz3)) := Kaz6.out.below hb
        have Raz8 : Hid (Rd z8 Az3 (vv.o.ps.flatMap putC)) := Raz6.out.below hb
        have Rbz8 : Hid (Rd z8 Az6 (vv.y.ps.flatMap putC)) := RRz6.out.below hb
        clear Ez6 Kaz6 Raz6 RRz6
        have Sz8 : Hid (SSt z8 gs vv) := Sz6.out.below hb
        have Qz8 : Hid (QSt z8 qq vv) := Qz6.out.below hb
        clear Sz6 Qz6
        have Kbz8 : Hid (Bk z8 gb (pktC vv.y.k vv.y.e vv.y.q Az6 vv.y.ps.length cz6)) := hbk
        have Kbz8 : Hid (Bk z8 gb (pktC vv.y.k vv.y.e vv.y.q Az6 vv.y.ps.length cz6)) := hbk
        clear hbk hb hc KZb HQb HGb
        go_wp2_with fail
        obtain ⟨A9, n9, c9, B9, m9, d9, hq9⟩ := Qz8.out
        have HQ9 := Lib.hid hq9
        clear hq9
        have HN9 := HQ9.out.n5
        have HM9 := HQ9.out.m5
        apply wp_region_rel 32 (Chg NoS) [(Veq _), (Veq _), (Veq _), (Veq _), (Veq _), (Veq (.bool false)), (Veq _), (Veq _), (Veq _), (Veq _), (Veq _), (Veq _), (Veq (.bool false)), (Veq _), (Veq _), (Veq _), (Veq _), (Veq _), (Veq _), (Veq _), (Veq _), (Veq _), (Veq _), (Veq _), (Veq _), (Veq _), (Veq _), (Veq _), (Veq _), (Veq _), (Veq _), (Veq _)] [[], [], [1], [2], [3], [0, 4], [5], [6], [6], [6, 8], [6, 9], [6, 10], [6, 7, 11], [6, 12], [13], [14], [14], [14, 16], [14, 17], [14, 18], [14, 15, 19], [14, 20], [14, 21], [22], [23], [23], [23, 25], [23, 26], [23, 27], [23, 24, 28], [23, 29], [23, 30]] [117, 118, 119, 120, 121, 122, 123, 124, 125, 126, 127, 128, 129, 130, 131, 132, 133, 134, 135, 136, 137, 138, 139, 140, 141, 142, 143, 144, 145, 146, 147, 148] (by kernel_rfl) (by kernel_rfl) rfl rfl rfl Chg.refl (fun _ _ _ => Chg.trans) ⟨Veq.lasts, Veq.lasts, Veq.lasts, Veq.lasts, Veq.lasts, Veq.lasts, Veq.lasts, Veq.lasts, Veq.lasts, Veq.lasts, Veq.lasts, Veq.lasts, Veq.lasts, Veq.lasts, Veq.lasts, Veq.lasts, Veq.lasts, Veq.lasts, Veq.lasts, Veq.lasts, Veq.lasts, Veq.lasts, Veq.lasts, Veq.lasts, Veq.lasts, Veq.lasts, Veq.lasts, Veq.lasts, Veq.lasts, Veq.lasts, Veq.lasts, Veq.lasts, trivial⟩ ?z6ops ?z6fin
        case z6ops =>
          refine ⟨?z6o0, ?z6o1, ?z6o2, ?z6o3, ?z6o4, ?z6o5, ?z6o6, ?z6o7, ?z6o8, ?z6o9, ?z6o10, ?z6o11, ?z6o12, ?z6o13, ?z6o14, ?z6o15, ?z6o16, ?z6o17, ?z6o18, ?z6o19, ?z6o20, ?z6o21, ?z6o22, ?z6o23, ?z6o24, ?z6o25, ?z6o26, ?z6o27, ?z6o28, ?z6o29, ?z6o30, ?z6o31, trivial⟩
          case z6o0 =>
            intro a wx hE hin
            have i14 : a.eval (.tmp 14) = .bool vv.is := hin 14 rfl
            clear hin
            have hcst : ∀ v, a.eval (.const v) = v := fun _ => rfl
            have hfnc : ∀ f, a.eval (.func f) = .func (.func f) #[] #[] := fun _ => rfl
            refine want_none rfl ?_
            unfold Oper.wp
            generalize a.eval = ρ at *
            go_simp
            try go_bits
            first | exact rel_val (Chg.refl _) | (go_simp; exact rel_val (Chg.refl _))
          case z6o1 =>
            intro a wx hE hin
            have i6 : a.eval (.tmp 6) = .pointer (some ⟨qq, 0, none⟩) := hin 6 rfl
            clear hin
            have hcst : ∀ v, a.eval (.const v) = v := fun _ => rfl
            have hfnc : ∀ f, a.eval (.func f) = .func (.func f) #[] #[] := fun _ => rfl
            refine want_none rfl ?_
            unfold Oper.wp
            generalize a.eval = ρ at *
            go_simp
            try go_bits
            first | exact rel_val (Chg.refl _) | (go_simp; exact rel_val (Chg.refl _))
          case z6o2 =>
            rintro a wx hE hin (h1 : a.eval (.tmp 118) = _)
            clear hin
            have hcst : ∀ v, a.eval (.const v) = v := fun _ => rfl
            have hfnc : ∀ f, a.eval (.func f) = .func (.func f) #[] #[] := fun _ => rfl
            refine want_none rfl ?_
            unfold Oper.wp
            generalize a.eval = ρ at *
            go_simp
            try go_bits
            first | exact rel_val (Chg.refl _) | (go_simp; exact rel_val (Chg.refl _))
          case z6o3 =>
            rintro a wx hE hin (h2 : a.eval (.tmp 119) = _)
            clear hin
            have hcst : ∀ v, a.eval (.const v) = v := fun _ => rfl
            have hfnc : ∀ f, a.eval (.func f) = .func (.func f) #[] #[] := fun _ => rfl
            refine want_none rfl ?_
            unfold Oper.wp
            generalize a.eval = ρ at *
            go_simp
            try go_bits
            first | exact rel_val (Chg.refl _) | (go_simp; exact rel_val (Chg.refl _))
          case z6o4 =>
            rintro a wx hE hin (h3 : a.eval (.tmp 120) = _)
            clear hin
            have hcst : ∀ v, a.eval (.const v) = v := fun _ => rfl
            have hfnc : ∀ f, a.eval (.func f) = .func (.func f) #[] #[] := fun _ => rfl
            refine want_none rfl ?_
            unfold Oper.wp
            generalize a.eval = ρ at *
            have c := Bk.cell (j := 0) (HQ9.out.bk.drew.chg hE id) rfl
            go_simp
            try go_bits
            first | exact rel_val (Chg.refl _) | (go_simp; exact rel_val (Chg.refl _))
          case z6o5 =>
            rintro a wx hE hin (h0 : a.eval (.tmp 117) = _) (h4 : a.eval (.tmp 121) = _)
            clear hin
            have hcst : ∀ v, a.eval (.const v) = v := fun _ => rfl
            have hfnc : ∀ f, a.eval (.func f) = .func (.func f) #[] #[] := fun _ => rfl
            refine want_none rfl ?_
            unfold Oper.wp
            generalize a.eval = ρ at *
            go_simp
            try go_bits
            first | exact rel_val (e := .bool false) (Chg.refl _) | (simp only [bne_self_eq_false]; exact rel_val (e := .bool false) (Chg.refl _)) | (rw [bne_self_eq_false]; exact rel_val (e := .bool false) (Chg.refl _))
          case z6o6 =>
            rintro a wx hE hin (h5 : a.eval (.tmp 122) = _)
            clear hin
            have hcst : ∀ v, a.eval (.const v) = v := fun _ => rfl
            have hfnc : ∀ f, a.eval (.func f) = .func (.func f) #[] #[] := fun _ => rfl
            refine want_none rfl ?_
            unfold Oper.wp
            generalize a.eval = ρ at *
            go_simp
            try go_bits
            first | exact rel_val (Chg.refl _) | (go_simp; exact rel_val (Chg.refl _))
          case z6o7 =>
            rintro a wx hE hin (h6 : a.eval (.tmp 123) = _)
            have i16 : a.eval (.tmp 16) = .bool vv.was := hin 16 rfl
            clear hin
            have hcst : ∀ v, a.eval (.const v) = v := fun _ => rfl
            have hfnc : ∀ f, a.eval (.func f) = .func (.func f) #[] #[] := fun _ => rfl
            refine want_yes rfl rfl h6 ?_
            unfold Oper.wp
            generalize a.eval = ρ at *
            go_simp
            try go_bits
            first | exact rel_val (Chg.refl _) | (go_simp; exact rel_val (Chg.refl _))
          case z6o8 =>
            rintro a wx hE hin (h6 : a.eval (.tmp 123) = _)
            have i6 : a.eval (.tmp 6) = .pointer (some ⟨qq, 0, none⟩) := hin 6 rfl
            clear hin
            have hcst : ∀ v, a.eval (.const v) = v := fun _ => rfl
            have hfnc : ∀ f, a.eval (.func f) = .func (.func f) #[] #[] := fun _ => rfl
            refine want_yes rfl rfl h6 ?_
            unfold Oper.wp
            generalize a.eval = ρ at *
            go_simp
            try go_bits
            first | exact rel_val (Chg.refl _) | (go_simp; exact rel_val (Chg.refl _))
          case z6o9 =>
            rintro a wx hE hin (h6 : a.eval (.tmp 123) = _) (h8 : a.eval (.tmp 125) = _)
            clear hin
            have hcst : ∀ v, a.eval (.const v) = v := fun _ => rfl
            have hfnc : ∀ f, a.eval (.func f) = .func (.func f) #[] #[] := fun _ => rfl
            refine want_yes rfl rfl h6 ?_
            unfold Oper.wp
            generalize a.eval = ρ at *
            go_simp
            try go_bits
            first | exact rel_val (Chg.refl _) | (go_simp; exact rel_val (Chg.refl _))
          case z6o10 =>
            rintro a wx hE hin (h6 : a.eval (.tmp 123) = _) (h9 : a.eval (.tmp 126) = _)
            clear hin
            have hcst : ∀ v, a.eval (.const v) = v := fun _ => rfl
            have hfnc : ∀ f, a.eval (.func f) = .func (.func f) #[] #[] := fun _ => rfl
            refine want_yes rfl rfl h6 ?_
            unfold Oper.wp
            generalize a.eval = ρ at *
            go_simp
            try go_bits
            first | exact rel_val (Chg.refl _) | (go_simp; exact rel_val (Chg.refl _))
          case z6o11 =>
            rintro a wx hE hin (h6 : a.eval (.tmp 123) = _) (h10 : a.eval (.tmp 127) = _)
            clear hin
            have hcst : ∀ v, a.eval (.const v) = v := fun _ => rfl
            have hfnc : ∀ f, a.eval (.func f) = .func (.func f) #[] #[] := fun _ => rfl
            refine want_yes rfl rfl h6 ?_
            unfold Oper.wp
            generalize a.eval = ρ at *
            have c := Bk.cell (j := 1) (HQ9.out.bk.drew.chg hE id) rfl
            go_simp
            try go_bits
            first | exact rel_val (Chg.refl _) | (go_simp; exact rel_val (Chg.refl _))
          case z6o12 =>
            rintro a wx hE hin (h6 : a.eval (.tmp 123) = _) (h7 : a.eval (.tmp 124) = _) (h11 : a.eval (.tmp 128) = _)
            clear hin
            have hcst : ∀ v, a.eval (.const v) = v := fun _ => rfl
            have hfnc : ∀ f, a.eval (.func f) = .func (.func f) #[] #[] := fun _ => rfl
            refine want_yes rfl rfl h6 ?_
            unfold Oper.wp
            generalize a.eval = ρ at *
            go_simp
            try go_bits
            first | exact rel_val (e := .bool false) (Chg.refl _) | (simp only [bne_self_eq_false]; exact rel_val (e := .bool false) (Chg.refl _)) | (rw [bne_self_eq_false]; exact rel_val (e := .bool false) (Chg.refl _))
          case z6o13 =>
            rintro a wx hE hin (h6 : a.eval (.tmp 123) = _) (h12 : a.eval (.tmp 129) = _)
            clear hin
            have hcst : ∀ v, a.eval (.const v) = v := fun _ => rfl
            have hfnc : ∀ f, a.eval (.func f) = .func (.func f) #[] #[] := fun _ => rfl
            refine want_none rfl ?_
            unfold Oper.wp
            generalize a.eval = ρ at *
            go_simp
            try go_bits
            first | exact rel_val (Chg.refl _) | (go_simp; exact rel_val (Chg.refl _))
          case z6o14 =>
            rintro a wx hE hin (h13 : a.eval (.tmp 130) = _)
            clear hin
            have hcst : ∀ v, a.eval (.const v) = v := fun _ => rfl
            have hfnc : ∀ f, a.eval (.func f) = .func (.func f) #[] #[] := fun _ => rfl
            refine want_none rfl ?_
            unfold Oper.wp
            generalize a.eval = ρ at *
            go_simp
            try go_bits
            first | exact rel_val (Chg.refl _) | (go_simp; exact rel_val (Chg.refl _))
          case z6o15 =>
            rintro a wx hE hin (h14 : a.eval (.tmp 131) = _)
            have i13 : a.eval (.tmp 13) = .pointer (some ⟨ga, 0, none⟩) := hin 13 rfl
            clear hin
            have hcst : ∀ v, a.eval (.const v) = v := fun _ => rfl
            have hfnc : ∀ f, a.eval (.func f) = .func (.func f) #[] #[] := fun _ => rfl
            refine want_yes rfl rfl h14 ?_
            exact wp_ld 25 _ rfl ga 0 4 _ (pktC vv.o.k vv.o.e vv.o.q Az3 vv.o.ps.length cz3) i13 (Kaz8.out.drew.chg hE id) (by kernel_rfl) (by kernel_rfl) (by show _ ≤ _; first | exact Nat.le_refl 4 | (show _ ≤ 12; decide)) rfl (rel_val (Chg.refl _))
          case z6o16 =>
            rintro a wx hE hin (h14 : a.eval (.tmp 131) = _)
            have i6 : a.eval (.tmp 6) = .pointer (some ⟨qq, 0, none⟩) := hin 6 rfl
            clear hin
            have hcst : ∀ v, a.eval (.const v) = v := fun _ => rfl
            have hfnc : ∀ f, a.eval (.func f) = .func (.func f) #[] #[] := fun _ => rfl
            refine want_yes rfl rfl h14 ?_
            unfold Oper.wp
            generalize a.eval = ρ at *
            go_simp
            try go_bits
            first | exact rel_val (Chg.refl _) | (go_simp; exact rel_val (Chg.refl _))
          case z6o17 =>
            rintro a wx hE hin (h14 : a.eval (.tmp 131) = _) (h16 : a.eval (.tmp 133) = _)
            clear hin
            have hcst : ∀ v, a.eval (.const v) = v := fun _ => rfl
            have hfnc : ∀ f, a.eval (.func f) = .func (.func f) #[] #[] := fun _ => rfl
            refine want_yes rfl rfl h14 ?_
            unfold Oper.wp
            generalize a.eval = ρ at *
            go_simp
            try go_bits
            first | exact rel_val (Chg.refl _) | (go_simp; exact rel_val (Chg.refl _))
          case z6o18 =>
            rintro a wx hE hin (h14 : a.eval (.tmp 131) = _) (h17 : a.eval (.tmp 134) = _)
            clear hin
            have hcst : ∀ v, a.eval (.const v) = v := fun _ => rfl
            have hfnc : ∀ f, a.eval (.func f) = .func (.func f) #[] #[] := fun _ => rfl
            refine want_yes rfl rfl h14 ?_
            unfold Oper.wp
            generalize a.eval = ρ at *
            go_simp
            try go_bits
            first | exact rel_val (Chg.refl _) | (go_simp; exact rel_val (Chg.refl _))
          case z6o19 =>
            rintro a wx hE hin (h14 : a.eval (.tmp 131) = _) (h18 : a.eval (.tmp 135) = _)
            clear hin
            have hcst : ∀ v, a.eval (.const v) = v := fun _ => rfl
            have hfnc : ∀ f, a.eval (.func f) = .func (.func f) #[] #[] := fun _ => rfl
            refine want_yes rfl rfl h14 ?_
            exact wp_ld 25 _ rfl qq 2 4 _ (pktC vv.o.k vv.o.e vv.o.q A9 n9 c9) h18 (HQ9.out.bk.drew.chg hE id) (by kernel_rfl) (by kernel_rfl) (by show _ ≤ _; first | exact Nat.le_refl 4 | (show _ ≤ 12; decide)) rfl (rel_val (Chg.refl _))
          case z6o20 =>
            rintro a wx hE hin (h14 : a.eval (.tmp 131) = _) (h15 : a.eval (.tmp 132) = _) (h19 : a.eval (.tmp 136) = _)
            clear hin
            have hcst : ∀ v, a.eval (.const v) = v := fun _ => rfl
            have hfnc : ∀ f, a.eval (.func f) = .func (.func f) #[] #[] := fun _ => rfl
            refine want_yes rfl rfl h14 ?_
            unfold Oper.wp
            generalize a.eval = ρ at *
            go_simp
            refine (keepPackets_calls vv.o vv.o Az3 A9 vv.o.ps.length n9 cz3 c9 wx rfl HQ9.out.ln (by rw [HQ9.out.ln]; omega) (Raz8.out.chg hE.undrew) (HQ9.out.ra.rd.chg hE.undrew) HQ9.out.oa HQ9.out.oa).mono ?_
            rintro e w' ⟨rfl, hb⟩
            rw [pkEq_self]
            exact rel_val (.of_below hb)
          case z6o21 =>
            rintro a wx hE hin (h14 : a.eval (.tmp 131) = _) (h20 : a.eval (.tmp 137) = _)
            clear hin
            have hcst : ∀ v, a.eval (.const v) = v := fun _ => rfl
            have hfnc : ∀ f, a.eval (.func f) = .func (.func f) #[] #[] := fun _ => rfl
            refine want_yes rfl rfl h14 ?_
            unfold Oper.wp
            generalize a.eval = ρ at *
            go_simp
            try go_bits
            first | exact rel_val (Chg.refl _) | (go_simp; exact rel_val (Chg.refl _))
          case z6o22 =>
            rintro a wx hE hin (h14 : a.eval (.tmp 131) = _) (h21 : a.eval (.tmp 138) = _)
            clear hin
            have hcst : ∀ v, a.eval (.const v) = v := fun _ => rfl
            have hfnc : ∀ f, a.eval (.func f) = .func (.func f) #[] #[] := fun _ => rfl
            refine want_none rfl ?_
            unfold Oper.wp
            generalize a.eval = ρ at *
            go_simp
            try go_bits
            first | exact rel_val (Chg.refl _) | (go_simp; exact rel_val (Chg.refl _))
          case z6o23 =>
            rintro a wx hE hin (h22 : a.eval (.tmp 139) = _)
            clear hin
            have hcst : ∀ v, a.eval (.const v) = v := fun _ => rfl
            have hfnc : ∀ f, a.eval (.func f) = .func (.func f) #[] #[] := fun _ => rfl
            refine want_none rfl ?_
            unfold Oper.wp
            generalize a.eval = ρ at *
            go_simp
            try go_bits
            first | exact rel_val (Chg.refl _) | (go_simp; exact rel_val (Chg.refl _))
          case z6o24 =>
            rintro a wx hE hin (h23 : a.eval (.tmp 140) = _)
            have i15 : a.eval (.tmp 15) = .pointer (some ⟨gb, 0, none⟩) := hin 15 rfl
            clear hin
            have hcst : ∀ v, a.eval (.const v) = v := fun _ => rfl
            have hfnc : ∀ f, a.eval (.func f) = .func (.func f) #[] #[] := fun _ => rfl
            refine want_yes rfl rfl h23 ?_
            exact wp_ld 25 _ rfl gb 0 4 _ (pktC vv.y.k vv.y.e vv.y.q Az6 vv.y.ps.length cz6) i15 (Kbz8.out.drew.chg hE id) (by kernel_rfl) (by kernel_rfl) (by show _ ≤ _; first | exact Nat.le_refl 4 | (show _ ≤ 12; decide)) rfl (rel_val (Chg.refl _))
          case z6o25 =>
            rintro a wx hE hin (h23 : a.eval (.tmp 140) = _)
            have i6 : a.eval (.tmp 6) = .pointer (some ⟨qq, 0, none⟩) := hin 6 rfl
            clear hin
            have hcst : ∀ v, a.eval (.const v) = v := fun _ => rfl
            have hfnc : ∀ f, a.eval (.func f) = .func (.func f) #[] #[] := fun _ => rfl
            refine want_yes rfl rfl h23 ?_
            unfold Oper.wp
            generalize a.eval = ρ at *
            go_simp
            try go_bits
            first | exact rel_val (Chg.refl _) | (go_simp; exact rel_val (Chg.refl _))
          case z6o26 =>
            rintro a wx hE hin (h23 : a.eval (.tmp 140) = _) (h25 : a.eval (.tmp 142) = _)
            clear hin
            have hcst : ∀ v, a.eval (.const v) = v := fun _ => rfl
            have hfnc : ∀ f, a.eval (.func f) = .func (.func f) #[] #[] := fun _ => rfl
            refine want_yes rfl rfl h23 ?_
            unfold Oper.wp
            generalize a.eval = ρ at *
            go_simp
            try go_bits
            first | exact rel_val (Chg.refl _) | (go_simp; exact rel_val (Chg.refl _))
          case z6o27 =>
            rintro a wx hE hin (h23 : a.eval (.tmp 140) = _) (h26 : a.eval (.tmp 143) = _)
            clear hin
            have hcst : ∀ v, a.eval (.const v) = v := fun _ => rfl
            have hfnc : ∀ f, a.eval (.func f) = .func (.func f) #[] #[] := fun _ => rfl
            refine want_yes rfl rfl h23 ?_
            unfold Oper.wp
            generalize a.eval = ρ at *
            go_simp
            try go_bits
            first | exact rel_val (Chg.refl _) | (go_simp; exact rel_val (Chg.refl _))
          case z6o28 =>
            rintro a wx hE hin (h23 : a.eval (.tmp 140) = _) (h27 : a.eval (.tmp 144) = _)
            clear hin
            have hcst : ∀ v, a.eval (.const v) = v := fun _ => rfl
            have hfnc : ∀ f, a.eval (.func f) = .func (.func f) #[] #[] := fun _ => rfl
            refine want_yes rfl rfl h23 ?_
            exact wp_ld 25 _ rfl qq 6 4 _ (pktC vv.y.k vv.y.e vv.y.q B9 m9 d9) h27 (HQ9.out.bk.drew.chg hE id) (by kernel_rfl) (by kernel_rfl) (by show _ ≤ _; first | exact Nat.le_refl 4 | (show _ ≤ 12; decide)) rfl (rel_val (Chg.refl _))
          case z6o29 =>
            rintro a wx hE hin (h23 : a.eval (.tmp 140) = _) (h24 : a.eval (.tmp 141) = _) (h28 : a.eval (.tmp 145) = _)
            clear hin
            have hcst : ∀ v, a.eval (.const v) = v := fun _ => rfl
            have hfnc : ∀ f, a.eval (.func f) = .func (.func f) #[] #[] := fun _ => rfl
            refine want_yes rfl rfl h23 ?_
            unfold Oper.wp
            generalize a.eval = ρ at *
            go_simp
            refine (keepPackets_calls vv.y vv.y Az6 B9 vv.y.ps.length m9 cz6 d9 wx rfl HQ9.out.lm (by rw [HQ9.out.lm]; omega) (Rbz8.out.chg hE.undrew) (HQ9.out.rb.rd.chg hE.undrew) HQ9.out.ob HQ9.out.ob).mono ?_
            rintro e w' ⟨rfl, hb⟩
            rw [pkEq_self]
            exact rel_val (.of_below hb)
          case z6o30 =>
            rintro a wx hE hin (h23 : a.eval (.tmp 140) = _) (h29 : a.eval (.tmp 146) = _)
            clear hin
            have hcst : ∀ v, a.eval (.const v) = v := fun _ => rfl
            have hfnc : ∀ f, a.eval (.func f) = .func (.func f) #[] #[] := fun _ => rfl
            refine want_yes rfl rfl h23 ?_
            unfold Oper.wp
            generalize a.eval = ρ at *
            go_simp
            try go_bits
            first | exact rel_val (Chg.refl _) | (go_simp; exact rel_val (Chg.refl _))
          case z6o31 =>
            rintro a wx hE hin (h23 : a.eval (.tmp 140) = _) (h30 : a.eval (.tmp 147) = _)
            clear hin
            have hcst : ∀ v, a.eval (.const v) = v := fun _ => rfl
            have hfnc : ∀ f, a.eval (.func f) = .func (.func f) #[] #[] := fun _ => rfl
            refine want_none rfl ?_
            unfold Oper.wp
            generalize a.eval = ρ at *
            go_simp
            try go_bits
            first | exact rel_val (Chg.refl _) | (go_simp; exact rel_val (Chg.refl _))
        case z6fin =>
          intro wx hE
          rintro _ rfl _ rfl _ rfl _ rfl _ rfl _ rfl _ rfl _ rfl _ rfl _ rfl _ rfl _ rfl _ rfl _ rfl _ rfl _ rfl _ rfl _ rfl _ rfl _ rfl _ rfl _ rfl _ rfl _ rfl _ rfl _ rfl _ rfl _ rfl _ rfl _ rfl _ rfl _ rfl
          simp only [FinOk, List.take_succ_cons, List.take_zero, List.take_nil, List.drop_succ_cons, List.drop_zero, List.drop_nil, Act.put, List.setIfInBounds_toArray, List.set_cons_succ, List.set_cons_zero]
          have SX : Hid (SSt wx gs vv) := Sz8.out.chgN hE.undrew
          have QX : Hid (QSt wx qq vv) := Qz8.out.chgN hE.undrew
          have EX : Hid (Below w.heap.size w wx) := Ez8.out.trans (hE.undrew.below Ez8.out.size (fun _ _ => id))
          clear hE
          go_wp2_with fail
          go_roundw
          case rel => exact ⟨i + 1, vv, _, rfl, HLT.out, by go_num, SX.out, QX.out, EX.out, HWT.out⟩
          case measure => simp [intOf]; have := HLT.out; omega
end Go.Proofs.Ytjkkbkjejcjfiaa
