/- The walks of a sector with a check: what the program's functions compute. -/
import Derived.Test.YtnpcehlbboeadaaSealWb
import Derived.Test.YtnpcehlbboeadaaBlk
import Derived.Test.YtnpcehlbboeadaaArr
namespace Go.Proofs.Ytnpcehlbboeadaa
open Go.RowKit
set_option linter.unusedVariables false
set_option linter.unusedSimpArgs false


theorem pad_cells (m : UInt8) (l : List UInt8) (h : l.length ≤ 29) : splice (vu8 m :: zb 29) 1 ((bts l).take 29) = bts (m :: padB l) := by
  rw [List.take_of_length_le (by simpa using h)]
  simp only [splice, zb, bts, padB]
  rw [show 1 + (l.map vu8).length = l.length + 1 by simp [Nat.add_comm], List.drop_succ_cons, List.drop_replicate]
  simp
/-- What Encode answers. -/
def encR (m : UInt8) (l : List UInt8) : List UInt8 × Int := if m = 0 ∨ 29 < l.length then (List.replicate 32 0, 1) else (secOf m (padB l), 0)
theorem encR_no {m : UInt8} {l : List UInt8} (h : m = 0 ∨ 29 < l.length) : encR m l = (List.replicate 32 0, 1) := by rw [encR, if_pos h]
theorem encR_yes {m : UInt8} {l : List UInt8} (h : ¬ (m = 0 ∨ 29 < l.length)) : encR m l = (secOf m (padB l), 0) := by rw [encR, if_neg h]
theorem zb_bts (n : Nat) : zb n = bts (List.replicate n 0) := by simp [zb, bts]
set_option maxRecDepth 100000 in
set_option maxHeartbeats 1000000 in
theorem sealEncode_no (m : UInt8) (A : Option Addr) (n cap : Nat) (l : List UInt8) (w : World) (hl : l.length = n) (hn : n ≤ cap) (hc : cap ≤ 9223372036854775807) (hr : Rd w A (bts l)) (h : m = 0 ∨ 29 < n) :
    Calls Try.prog 49 #[vu8 m, .slice A n cap] w fun e w' => e = .returned (.tuple #[.agg (bts (encR m l).1).toArray, .int .i64 (encR m l).2]) ∧ Below w.heap.size w w' := by
  have HR := Lib.hid hr
  have he := encR_no (m := m) (l := l) (by rw [hl]; exact h)
  rw [he]
  have HL := Lib.hid hl
  clear hr hl he
  simp only [← zb_bts]
  by_cases h0 : m = 0
  · subst h0
    go_enter Try.func49, Try.ntmps49
    go_wp2_with (refine wpList_al rfl 37 rfl (zb 32) (by kernel_rfl) ?_)
    intro g w1 hg hb hc1 hs
    subst hg
    go_wp2_with (first
      | (refine wpList_bld rfl 37 [] rfl (zb 32) [] (zb 32) (by kernel_rfl) (by kernel_rfl) trivial rfl ?_)
      | (refine wpList_st rfl 37 _ _ rfl w.heap.size 0 32 (zb 32) (zb 32) rfl rfl hb (by kernel_rfl) rfl (by decide) (by decide) ?_))
    intro w2 hb2 hc2
    rw [splice_whole (zb 32) (zb 32) rfl] at hb2
    go_wp2_with fail
    (try simp only [Exit.inBlock, Exit.then])
    refine bodyPost_ret (res_cell_tmp rfl _ _ w.heap.size 32 (zb 32) rfl hb2 (by kernel_rfl) (by kernel_rfl) rfl) rfl ?_
    exact ⟨rfl, (hc1.below (Nat.le_refl _) (fun _ _ => id)).trans (hc2.below (by omega) (fun k hk he => by omega))⟩
  · have h0i : ¬ ((m.toNat : Int) = 0) := by intro h; exact h0 (UInt8.toNat_inj.1 (by simpa using h))
    have h1 : 29 < n := h.resolve_left h0
    have h1i : (29 : Int) < (n : Int) := by omega
    go_enter Try.func49, Try.ntmps49
    go_wp2_with (refine wpList_al rfl 37 rfl (zb 32) (by kernel_rfl) ?_)
    intro g w1 hg hb hc1 hs
    subst hg
    go_wp2_with (first
      | (refine wpList_bld rfl 37 [] rfl (zb 32) [] (zb 32) (by kernel_rfl) (by kernel_rfl) trivial rfl ?_)
      | (refine wpList_st rfl 37 _ _ rfl w.heap.size 0 32 (zb 32) (zb 32) rfl rfl hb (by kernel_rfl) rfl (by decide) (by decide) ?_))
    intro w2 hb2 hc2
    rw [splice_whole (zb 32) (zb 32) rfl] at hb2
    go_wp2_with fail
    (try simp only [Exit.inBlock, Exit.then])
    refine bodyPost_ret (res_cell_tmp rfl _ _ w.heap.size 32 (zb 32) rfl hb2 (by kernel_rfl) (by kernel_rfl) rfl) rfl ?_
    exact ⟨rfl, (hc1.below (Nat.le_refl _) (fun _ _ => id)).trans (hc2.below (by omega) (fun k hk he => by omega))⟩
set_option maxRecDepth 100000 in
set_option maxHeartbeats 1000000 in
theorem sealEncode_yes (m : UInt8) (A : Option Addr) (n cap : Nat) (l : List UInt8) (w : World) (hl : l.length = n) (hn : n ≤ cap) (hc : cap ≤ 9223372036854775807) (hr : Rd w A (bts l)) (h0 : ¬ m = 0) (h1 : n ≤ 29) :
    Calls Try.prog 49 #[vu8 m, .slice A n cap] w fun e w' => e = .returned (.tuple #[.agg (bts (encR m l).1).toArray, .int .i64 (encR m l).2]) ∧ Below w.heap.size w w' := by
  have he := encR_yes (m := m) (l := l) (by rw [hl]; exact fun h => h.elim h0 (by omega))
  have hp := pad_cells m l (by omega)
  have hpl := padB_length (l := l) (by omega)
  rw [he]
  simp only
  have hsl := secOf_length (m := m) hpl
  have hss : secOf m (padB l) = m :: padB l ++ [(crcCheck (m :: padB l)).toUInt8, (crcCheck (m :: padB l) >>> 8).toUInt8] := rfl
  generalize secOf m (padB l) = rs at hsl hss ⊢
  have HRS := Lib.hid hss
  have HSL := Lib.hid hsl
  generalize padB l = b at hp hpl hss HRS
  have HR := Lib.hid hr
  have HP := Lib.hid hp
  have HPL := Lib.hid hpl
  have HL := Lib.hid hl
  have h0i : ¬ ((m.toNat : Int) = 0) := by intro h; exact h0 (UInt8.toNat_inj.1 (by simpa using h))
  have h1i : ¬ ((29 : Int) < (n : Int)) := by omega
  have h0b : ((m.toNat : Int) == 0) = false := by simpa using h0i
  clear hr hl he hp hpl hsl hss h0
  go_enter Try.func49, Try.ntmps49
  go_wp2_with (refine wpList_al rfl 37 rfl (zb 32) (by kernel_rfl) ?_)
  intro g w1 hg hb hc1 hs
  subst hg
  have HB1 := Lib.hid hb
  have HE1 : Hid (Below w.heap.size w w1) := hc1.below (Nat.le_refl _) (fun _ _ => id)
  have HR1 : Hid (Rd w1 A (bts l)) := HR.out.below HE1.out
  clear hb hc1
  go_wp2_with (first
    | (refine wpList_bld rfl 97 [(0, .tmp 15)] rfl (zb 30) [(0, [vu8 m])] (vu8 m :: zb 29) (by kernel_rfl) (by kernel_rfl) ?f1 rfl ?_)
    | (refine wpList_al rfl 97 rfl (zb 30) (by kernel_rfl) ?_))
  case f1 => exact ⟨rfl, ⟨1, rfl, by kernel_rfl, by decide⟩, trivial⟩
  intro g w2 hg hb hc2 hs2
  (try rw [hs] at hg)
  subst hg
  have HE2 : Hid (Below w.heap.size w w2) := HE1.out.trans (hc2.below HE1.out.size (fun _ _ => id))
  have HB2 : Hid (Bk w2 w.heap.size (zb 32)) := HB1.out.chg hc2 id
  have HD2 := Lib.hid hb
  have HR2 : Hid (Rd w2 A (bts l)) := HR1.out.chg hc2
  clear hb hc2
  go_wp2_with (refine wpList_st rfl 97 _ _ rfl (w.heap.size + 1) 0 30 (zb 30) (vu8 m :: zb 29) rfl rfl HD2.out (by kernel_rfl) rfl (by decide) (one_bts (m :: List.replicate 29 0)) ?_)
  intro w3 hb hc3
  rw [splice_whole (zb 30) (vu8 m :: zb 29) rfl] at hb
  have HE3 : Hid (Below w.heap.size w w3) := HE2.out.trans (hc3.below HE2.out.size (fun k hk he => by omega))
  have HB3 : Hid (Bk w3 w.heap.size (zb 32)) := HB2.out.chg hc3 (by omega)
  have HD3 := Lib.hid hb
  have HR3 : Hid (Rd w3 A (bts l)) := HR.out.below HE3.out
  have hs3 := hc3.size
  clear hb hc3
  go_wp2_with (refine wpList_cp rfl _ _ 32 32 5 rfl Try.underlying32 (by kernel_rfl) (w.heap.size + 1) 1 29 29 A n cap (vu8 m :: zb 29) (bts l) rfl rfl HD3.out HR3.out (by rw [bts_length, HL.out]) (by simp [zb]) (one_bts _) ?_)
  intro w4 hb hc4
  rw [HP.out] at hb
  have HE4 : Hid (Below w.heap.size w w4) := HE3.out.trans (hc4.below HE3.out.size (fun k hk he => by omega))
  have HB4 : Hid (Bk w4 w.heap.size (zb 32)) := HB3.out.chg hc4 (by omega)
  have HD4 := Lib.hid hb
  have hs4 := hc4.size
  clear hb hc4
  go_wp2_with (refine wpList_ld rfl 97 _ rfl (w.heap.size + 1) 0 30 (bts (m :: b)) (bts (m :: b)) rfl HD4.out (by kernel_rfl) (by kernel_rfl) (by simp [HPL.out]) (by rw [List.drop_zero, List.take_of_length_le (by simp [HPL.out])]) ?_)
  refine (checkedOf_calls m b w4 HPL.out).mono ?_
  rintro e w5 ⟨rfl, hb5⟩
  have HE5 : Hid (Below w.heap.size w w5) := HE4.out.trans (hb5.mono HE4.out.size)
  have HB5 : Hid (Bk w5 w.heap.size (zb 32)) := HB4.out.below hb5
  clear hb5
  go_wp2_with fail
  refine (sealBlock_calls m b (crcCheck (m :: b)) w5 HPL.out).mono ?_
  rintro e w6 ⟨rfl, hb6⟩
  have HE6 : Hid (Below w.heap.size w w6) := HE5.out.trans (hb6.mono HE5.out.size)
  have HB6 : Hid (Bk w6 w.heap.size (zb 32)) := HB5.out.below hb6
  clear hb6
  rw [← HRS.out]
  go_wp2_with (refine wpList_st rfl 37 _ _ rfl w.heap.size 0 32 (zb 32) (bts rs) rfl rfl HB6.out (by kernel_rfl) (by rw [bts_length, HSL.out]) (by decide) (one_bts _) ?_)
  intro w7 hb7 hc7
  rw [splice_whole (zb 32) (bts rs) (by rw [bts_length, HSL.out]; rfl)] at hb7
  have HE7 : Hid (Below w.heap.size w w7) := HE6.out.trans (hc7.below HE6.out.size (fun k hk he => by omega))
  have HB7 := Lib.hid hb7
  clear hb7 hc7
  go_wp2_with fail
  (try simp only [Exit.inBlock, Exit.then])
  refine bodyPost_ret (res_cell_tmp rfl _ _ w.heap.size 32 (bts rs) rfl HB7.out (by kernel_rfl) (by kernel_rfl) (by rw [bts_length, HSL.out])) rfl ?_
  exact ⟨rfl, HE7.out⟩
theorem sealEncode_calls (m : UInt8) (A : Option Addr) (n cap : Nat) (l : List UInt8) (w : World) (hl : l.length = n) (hn : n ≤ cap) (hc : cap ≤ 9223372036854775807) (hr : Rd w A (bts l)) :
    Calls Try.prog 49 #[vu8 m, .slice A n cap] w fun e w' => e = .returned (.tuple #[.agg (bts (encR m l).1).toArray, .int .i64 (encR m l).2]) ∧ Below w.heap.size w w' := by
  by_cases h : m = 0 ∨ 29 < n
  · exact sealEncode_no m A n cap l w hl hn hc hr h
  · exact sealEncode_yes m A n cap l w hl hn hc hr (fun h' => h (.inl h')) (by omega)
end Go.Proofs.Ytnpcehlbboeadaa
