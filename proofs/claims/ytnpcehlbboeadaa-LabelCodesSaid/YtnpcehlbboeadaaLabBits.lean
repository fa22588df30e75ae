/- The walk of Bits. -/
import Derived.Test.YtnpcehlbboeadaaLabLater
import Derived.Test.YtnpcehlbboeadaaDiskPure
namespace Go.Proofs.Ytnpcehlbboeadaa
open Go.RowKit
set_option linter.unusedVariables false
set_option linter.unusedSimpArgs false

section
variable {P : Program} {o : Oper} {a : Act} {w : World} {Q : Exit → Act → World → Prop} {ops : Array Oper} {rest : List Oper}
theorem run_loadVar_rd2 (w : World) (ty : TypeId) (ad : Addr) (vs : List Value) (hr : Rd w (some ad) vs) (hagg : (match P.underlying ty with | some (.struct _) | some (.array _ _) => true | _ => false) = true) (hsz : (P.info? ty).map (·.size) = some vs.length) :
    (loadVar ty ad).run P w = .ok (.agg vs.toArray) w := by
  obtain ⟨i0, hi, hs⟩ := Option.map_eq_some_iff.1 hsz
  have hl : (loadCells ad vs.length).run P w = .ok vs.toArray w :=
    run_loadCells_list (P := P) w ad vs (fun j v hv => by
      obtain ⟨ad', e, hc⟩ := hr j v hv
      injection e with e
      subst e
      exact hc)
  have hag : (isAgg ty).run P w = .ok true w := by
    unfold isAgg
    cases hu : P.underlying ty with
    | none => simp [hu] at hagg
    | some d =>
      rw [Sem.run_bind, run_underlying hu w]
      cases d <;> simp_all
  simp [loadVar, Sem.run_bind, hag, sizeOf, typeInfo, hi, hs, hl]
/-- A struct is read where it may be read. -/
theorem wpList_ldr2 (hw : Region.wanted o (yielded ops a.tmps) = true) (ty : TypeId) (x : Operand) (ho : o.op = .load ty x) (ad : Addr) (n : Nat) (vs : List Value) (hx : a.eval x = .pointer (some ad)) (hr : Rd w (some ad) vs)
    (hagg : (match P.underlying ty with | some (.struct _) | some (.array _ _) => true | _ => false) = true) (hsz : (P.info? ty).map (·.size) = some n) (hn : vs.length = n)
    (h : wpList P ops Q rest (a.put o.dst (.agg vs.toArray)) w) : wpList P ops Q (o :: rest) a w := by
  subst hn
  refine wpl hw fun K hK => ?_
  unfold Oper.wp execOp
  simp only [ho, hx, Instr.loadAt, Instr.sureAddr, Sem.run_bind, Sem.run_pure, Result.andThen_ok, run_loadVar_rd2 w ty ad vs hr hagg hsz]
  exact hK _ _ h
end
/-- A put: its block's number and 32 bytes. -/
structure PutV where
  at_ : Int
  data : List UInt8
def putC (p : PutV) : List Value := .int .i64 p.at_ :: bts p.data
theorem putC_len {p : PutV} (h : p.data.length = 32) : (putC p).length = 33 := by simp [putC, h]
def bitOf (p : PutV) : Nat := if 0 ≤ p.at_ ∧ p.at_ < 12 then 2 ^ p.at_.toNat else 0
def bitsN (ps : List PutV) : Nat := ps.foldl (fun v p => v ||| bitOf p) 0
theorem bitOf_lt (p : PutV) : bitOf p < 4096 := by
  unfold bitOf
  split
  · rename_i h
    have : p.at_.toNat ≤ 11 := by omega
    have := Nat.pow_le_pow_right (show 0 < 2 by decide) this
    omega
  · decide
theorem bitsN_take (ps : List PutV) (k : Nat) (h : k < ps.length) : bitsN (ps.take (k + 1)) = bitsN (ps.take k) ||| bitOf ps[k] := by
  rw [bitsN, bitsN, List.take_succ_eq_append_getElem h, List.foldl_append]
  rfl
theorem bitsN_snoc (ps : List PutV) (p : PutV) : bitsN (ps ++ [p]) = bitsN ps ||| bitOf p := by
  rw [bitsN, bitsN, List.foldl_append]
  rfl
theorem bitsN_append (ps qs : List PutV) : bitsN (ps ++ qs) = bitsN ps ||| bitsN qs := by
  have : ∀ (l : List PutV) (v : Nat), l.foldl (fun v p => v ||| bitOf p) v = v ||| l.foldl (fun v p => v ||| bitOf p) 0 := by
    intro l
    induction l with
    | nil => intro v; simp
    | cons p l ih =>
      intro v
      rw [List.foldl_cons, List.foldl_cons, ih, ih (0 ||| bitOf p), Nat.zero_or, Nat.or_assoc]
  rw [bitsN, List.foldl_append, this]
  rfl
theorem bitsN_lt (ps : List PutV) : bitsN ps < 4096 := by
  unfold bitsN
  suffices h : ∀ (l : List PutV) (v : Nat), v < 4096 → l.foldl (fun v p => v ||| bitOf p) v < 4096 from h ps 0 (by decide)
  intro l
  induction l with
  | nil => intro v h; exact h
  | cons p l ih => intro v h; exact ih _ (Nat.or_lt_two_pow (n := 12) h (bitOf_lt p))
def PutsOk (ps : List PutV) : Prop := ∀ p ∈ ps, p.data.length = 32 ∧ -9223372036854775808 ≤ p.at_ ∧ p.at_ ≤ 9223372036854775807
theorem put_rd {w : World} {ad : Addr} {ps : List PutV} (hr : Rd w (some ad) (ps.flatMap putC)) (ho : PutsOk ps) {k : Nat} (hk : k < ps.length) : Rd w (some (ad.add (k * 33))) (putC ps[k]) := by
  have h := (hr.drop (k * 33)).take 33
  rwa [flat_piece putC 33 ps k ps[k] (fun p hp => putC_len (ho p hp).1) (List.getElem?_eq_getElem hk)] at h
theorem one_put (p : PutV) : ∀ u ∈ putC p, u.oneCell' = true := by
  intro u hu
  rcases List.mem_cons.1 hu with rfl | hu
  · rfl
  · exact one_bts _ u hu
theorem puts_some {w : World} {A : Option Addr} {ps : List PutV} (hr : Rd w A (ps.flatMap putC)) {k : Nat} (hk : k < ps.length) : ∃ ad, A = some ad := by
  obtain ⟨ad, h, _⟩ := hr.at_ 0 (by
    cases ps with
    | nil => exact absurd hk (Nat.not_lt_zero _)
    | cons p ps => simp [putC])
  exact ⟨ad, h⟩
theorem bits_or16 (m q : Nat) (hm : m < 4096) (hq : q < 12) : Go.bits .or .u16 (m : Int) (IntKind.u16.wrap ((2 : Int) ^ q)) = ((m ||| 2 ^ q : Nat) : Int) := by
  have h2 : ((2 : Int) ^ q) = ((2 ^ q : Nat) : Int) := by push_cast; rfl
  have h3 : 2 ^ q ≤ 2 ^ 11 := Nat.pow_le_pow_right (by decide) (by omega)
  rw [h2]
  generalize 2 ^ q = z at h3
  rw [IntWalk.u16_in _ (by omega)]
  exact (bits_u16 m z (by omega) (by omega)).2.2
def BitsRel (w : World) (ps : List PutV) (v3 v8 : Value) (wr : World) : Prop := ∃ k : Nat, k ≤ ps.length ∧ v8 = .int .i64 k ∧ v3 = .int .u16 (bitsN (ps.take k) : Nat) ∧ Below w.heap.size w wr
set_option maxRecDepth 100000 in
set_option maxHeartbeats 2000000 in
theorem bits_calls (ps : List PutV) (A : Option Addr) (n c : Nat) (w : World) (hl : ps.length = n) (hm : n ≤ 9223372036854775807) (hr : Rd w A (ps.flatMap putC)) (ho : PutsOk ps) :
    Calls Try.prog 38 #[.slice A n c] w fun e w' => e = .returned (.int .u16 (bitsN ps : Nat)) ∧ Below w.heap.size w w' := by
  subst hl
  have HR := Lib.hid hr
  have HO := Lib.hid ho
  have H0 : Hid (BitsRel w ps (.int .u16 0) (.int .i64 0) w) := ⟨0, Nat.zero_le _, rfl, rfl, Below.refl _ _⟩
  clear hr ho
  go_enter Try.func38, Try.ntmps38
  go_wp2_with fail
  go_loopw [3, 8] (fun v3 v8 wr => BitsRel w ps v3 v8 wr) (fun _ v8 _ => ps.length - (intOf v8).toNat)
  case atStart => exact H0.out
  case round =>
    obtain ⟨k, hk, rfl, hv3, hb⟩ := hrel
    obtain ⟨m, hmm⟩ : ∃ m, bitsN (ps.take k) = m := ⟨_, rfl⟩
    rw [hmm] at hv3
    subst hv3
    have HM := Lib.hid hmm
    have HB := Lib.hid hb
    clear hmm hb H0
    by_cases hlt : k < ps.length
    · have hki : (k : Int) < (ps.length : Int) := by omega
      have hrr := HR.out.below HB.out
      obtain ⟨ad, hA⟩ := puts_some hrr hlt
      subst hA
      have hpr := put_rd hrr HO.out hlt
      have hpo := HO.out _ (List.getElem_mem hlt)
      have hnx := bitsN_take ps k hlt
      obtain ⟨p, hp⟩ : ∃ p, ps[k] = p := ⟨_, rfl⟩
      rw [hp] at hpr hpo hnx
      rw [HM.out] at hnx
      have HPR := Lib.hid hpr
      have HPL := Lib.hid (putC_len hpo.1)
      have HNX := Lib.hid hnx
      have hml : m < 4096 := by rw [← HM.out]; exact bitsN_lt _
      clear hp hpr hpo hnx hrr
      go_wp2_with (first
        | (refine wpList_ldr2 rfl 84 (.tmp 10) rfl (ad.add (k * 33)) 33 (putC p) rfl HPR.out (by kernel_rfl) (by kernel_rfl) HPL.out ?_)
        | (refine wpList_al rfl 84 rfl (.int .i64 0 :: bts (List.replicate 32 0)) (by kernel_rfl) ?_))
      intro g5 w2 hg hb hc hs
      have HB2 : Hid (Below w.heap.size w w2) := HB.out.trans (hc.below HB.out.size (fun _ _ => id))
      have HG5 : Hid (w.heap.size ≤ g5) := by show _ ≤ _; rw [hg]; exact HB.out.size
      have K2 := Lib.hid hb
      clear hb hc hs hg
      go_wp2_with (refine wpList_st rfl 84 (.tmp 5) (.tmp 11) rfl g5 0 33 (.int .i64 0 :: bts (List.replicate 32 0)) (putC p) rfl rfl K2.out (by kernel_rfl) HPL.out (by decide) (one_put p) ?_)
      intro w3 hb hc
      rw [splice_whole _ _ (by rw [HPL.out]; rfl)] at hb
      have hg5 := HG5.out
      have HB3 : Hid (Below w.heap.size w w3) := HB2.out.trans (hc.below HB2.out.size (fun _ _ => by omega))
      have c0 := hb.cell (j := 0) rfl
      clear hb hc hg5 K2 HPR HPL
      by_cases h0 : 0 ≤ p.at_
      · by_cases h12 : p.at_ < 12
        · obtain ⟨q, hq⟩ := Int.eq_ofNat_of_zero_le h0
          rw [hq] at c0 h12
          have hq12 : q < 12 := by omega
          have hbo : bitOf p = 2 ^ q := by rw [bitOf, if_pos ⟨h0, by rw [hq]; exact h12⟩, hq]; rfl
          rw [hbo] at HNX
          clear hbo h0 hq
          have hor := bits_or16 m q hml hq12
          go_wp2_with fail
          go_roundw
          case rel => exact ⟨k + 1, by omega, by go_num, by rw [HNX.out], HB3.out⟩
          case measure => simp [intOf]; omega
        · have hbo : bitOf p = 0 := by rw [bitOf, if_neg (fun hh => h12 hh.2)]
          have HBO := Lib.hid hbo
          clear hbo
          go_wp2_with fail
          go_roundw
          case rel => exact ⟨k + 1, by omega, by go_num, by rw [HNX.out, HBO.out, Nat.or_zero], HB3.out⟩
          case measure => simp [intOf]; omega
      · have hbo : bitOf p = 0 := by rw [bitOf, if_neg (fun hh => h0 hh.1)]
        have HBO := Lib.hid hbo
        have h0n : p.at_ < 0 := by omega
        clear hbo
        go_wp2_with fail
        go_roundw
        case rel => exact ⟨k + 1, by omega, by go_num, by rw [HNX.out, HBO.out, Nat.or_zero], HB3.out⟩
        case measure => simp [intOf]; omega
    · have hke : k = ps.length := by omega
      have hki : ¬ ((k : Int) < (ps.length : Int)) := by omega
      have HF : Hid (bitsN ps = m) := by show _ = _; rw [← HM.out, hke, List.take_length]
      go_wp2
      go_ret
      exact ⟨by rw [HF.out]; rfl, HB.out⟩
theorem put_at {w : World} {ad : Addr} {ps : List PutV} (hr : Rd w (some ad) (ps.flatMap putC)) (ho : PutsOk ps) {k : Nat} (hk : k < ps.length) : w.cell? (ad.add (k * 33)) = some (.int .i64 ps[k].at_) := by
  obtain ⟨ad', e, hc⟩ := put_rd hr ho hk 0 _ rfl
  injection e with e
  subst e
  simpa [Addr.add] using hc
set_option maxRecDepth 100000 in
set_option maxHeartbeats 2000000 in
theorem refBits_calls (ps : List PutV) (A : Option Addr) (n c : Nat) (w : World) (hl : ps.length = n) (hm : n ≤ 9223372036854775807) (hr : Rd w A (ps.flatMap putC)) (ho : PutsOk ps) :
    Calls Try.prog 39 #[.slice A n c] w fun e w' => e = .returned (.int .u16 (bitsN ps : Nat)) ∧ w = w' := by
  subst hl
  have HR := Lib.hid hr
  have HO := Lib.hid ho
  clear hr ho
  go_enter Try.func39, Try.ntmps39
  go_wp2_with fail
  go_loop [3, 4] (fun v3 v4 => ∃ k : Nat, k ≤ ps.length ∧ v4 = .int .i64 k ∧ v3 = .int .u16 (bitsN (ps.take k) : Nat)) (fun _ v4 => ps.length - (intOf v4).toNat)
  case atStart => exact ⟨0, Nat.zero_le _, rfl, rfl⟩
  case round =>
    obtain ⟨k, hk, rfl, hv3⟩ := hrel
    obtain ⟨m, hmm⟩ : ∃ m, bitsN (ps.take k) = m := ⟨_, rfl⟩
    rw [hmm] at hv3
    subst hv3
    have HM := Lib.hid hmm
    clear hmm
    by_cases hlt : k < ps.length
    · have hki : (k : Int) < (ps.length : Int) := by omega
      obtain ⟨ad, hA⟩ := puts_some HR.out hlt
      subst hA
      have c0 := put_at HR.out HO.out hlt
      have hnx := bitsN_take ps k hlt
      obtain ⟨p, hp⟩ : ∃ p, ps[k] = p := ⟨_, rfl⟩
      rw [hp] at c0 hnx
      rw [HM.out] at hnx
      have HNX := Lib.hid hnx
      have hml : m < 4096 := by rw [← HM.out]; exact bitsN_lt _
      clear hp hnx
      by_cases h0 : 0 ≤ p.at_
      · by_cases h12 : p.at_ < 12
        · obtain ⟨q, hq⟩ := Int.eq_ofNat_of_zero_le h0
          rw [hq] at c0 h12
          have hq12 : q < 12 := by omega
          have hbo : bitOf p = 2 ^ q := by rw [bitOf, if_pos ⟨h0, by rw [hq]; exact h12⟩, hq]; rfl
          rw [hbo] at HNX
          clear hbo h0 hq
          have hor := bits_or16 m q hml hq12
          go_wp2_with fail
          go_round
          case rel => exact ⟨k + 1, by omega, by go_num, by rw [HNX.out]⟩
          case measure => simp [intOf]; omega
        · have hbo : bitOf p = 0 := by rw [bitOf, if_neg (fun hh => h12 hh.2)]
          have HBO := Lib.hid hbo
          clear hbo
          go_wp2_with fail
          go_round
          case rel => exact ⟨k + 1, by omega, by go_num, by rw [HNX.out, HBO.out, Nat.or_zero]⟩
          case measure => simp [intOf]; omega
      · have hbo : bitOf p = 0 := by rw [bitOf, if_neg (fun hh => h0 hh.1)]
        have HBO := Lib.hid hbo
        have h0n : p.at_ < 0 := by omega
        clear hbo
        go_wp2_with fail
        go_round
        case rel => exact ⟨k + 1, by omega, by go_num, by rw [HNX.out, HBO.out, Nat.or_zero]⟩
        case measure => simp [intOf]; omega
    · have hke : k = ps.length := by omega
      have hki : ¬ ((k : Int) < (ps.length : Int)) := by omega
      have HF : Hid (bitsN ps = m) := by show _ = _; rw [← HM.out, hke, List.take_length]
      go_wp2
      go_ret
      exact ⟨by rw [HF.out]; rfl, rfl⟩
end Go.Proofs.Ytnpcehlbboeadaa
