/- The walk of label.body. -/
import Derived.Test.YtnpcehlbboeadaaLabLow
namespace Go.Proofs.Ytnpcehlbboeadaa
open Go.RowKit
set_option linter.unusedVariables false
set_option linter.unusedSimpArgs false

structure Lab where
  e : UInt32
  s : UInt32
  n : UInt32
  d : UInt16
  la : UInt16
  deriving DecidableEq
def labC (l : Lab) : List Value := [vu32 l.e, vu32 l.s, vu32 l.n, vu16 l.d, vu16 l.la]
def bodyB (l : Lab) : List UInt8 := ([l.e, l.s, l.n].flatMap fun x => le x.toNat 4) ++ [l.d, l.la].flatMap fun x => le x.toNat 2
theorem bodyB_length (l : Lab) : (bodyB l).length = 16 := by simp [bodyB, le_length]
theorem own_lower {w : World} {B B' n : Nat} {e : TypeId} {size : Nat} {v : Value} {xs : List Value} (h : w.ownsRow B e size v n xs) (hB : B' ≤ B) : w.ownsRow B' e size v n xs := by
  refine ⟨h.1, ?_⟩
  rcases h.2 with h2 | ⟨g, cap, cur, hv, hbg, r⟩
  · exact .inl h2
  · exact .inr ⟨g, cap, cur, hv, Nat.le_trans hB hbg, r⟩
def BodyRel (w : World) (ns : List UInt32) (bx : List Value) (v3 v16 : Value) (wr : World) : Prop := ∃ k : Nat, k ≤ 3 ∧ v16 = .int .i64 k ∧ wr.ownsRow (w.heap.size + 2) 5 1 v3 (4 * k) (bts ((ns.take k).flatMap fun x => le x.toNat 4)) ∧ Bk wr (w.heap.size + 1) (ns.map vu32) ∧ Bk wr w.heap.size bx ∧ Below w.heap.size w wr
def BodyRel2 (w : World) (gd : Nat) (pre12 : List UInt8) (ds : List UInt16) (bx : List Value) (v3 v31 : Value) (wr : World) : Prop := ∃ k : Nat, k ≤ 2 ∧ v31 = .int .i64 k ∧ wr.ownsRow (w.heap.size + 2) 5 1 v3 (12 + 2 * k) (bts (pre12 ++ (ds.take k).flatMap fun x => le x.toNat 2)) ∧ Bk wr gd (ds.map vu16) ∧ v3.ownBlock ≠ some gd ∧ Bk wr w.heap.size bx ∧ Below w.heap.size w wr
set_option maxRecDepth 100000 in
set_option maxHeartbeats 4000000 in
theorem body_calls (l : Lab) (w : World) :
    Calls Try.prog 50 #[.agg (labC l).toArray] w (RowPost w (bodyB l)) := by
  obtain ⟨bx, hbx⟩ : ∃ bx, labC l = bx := ⟨_, rfl⟩
  have HBX := Lib.hid hbx
  rw [hbx]
  have d0 : bx[0]? = some (vu32 l.e) := by rw [← hbx]; rfl
  have d1 : bx[1]? = some (vu32 l.s) := by rw [← hbx]; rfl
  have d2 : bx[2]? = some (vu32 l.n) := by rw [← hbx]; rfl
  have d3 : bx[3]? = some (vu16 l.d) := by rw [← hbx]; rfl
  have d4 : bx[4]? = some (vu16 l.la) := by rw [← hbx]; rfl
  have D3 := Lib.hid d3
  have D4 := Lib.hid d4
  have c0 := Bk.cell (Bk.new w bx 63) d0
  have c1 := Bk.cell (Bk.new w bx 63) d1
  have c2 := Bk.cell (Bk.new w bx 63) d2
  clear hbx d0 d1 d2 d3 d4
  obtain ⟨ns, hns⟩ : ∃ ns, [l.e, l.s, l.n] = ns := ⟨_, rfl⟩
  have HNL : Hid (ns.length = 3) := by show _ = _; rw [← hns]; rfl
  have HGET : Hid (∀ k (h : k < ns.length), (ns.map vu32)[k]? = some (vu32 ns[k])) := fun k h => by rw [List.getElem?_map, List.getElem?_eq_getElem h]; rfl
  have H0 : Hid (BodyRel w ns bx (.slice none 0 0) (.int .i64 0) ((w.alloc (.cells bx.toArray 63)).alloc (.cells #[vu32 l.e, vu32 l.s, vu32 l.n] 60))) :=
    ⟨0, by omega, rfl, World.ownsRow_nil _ _ _ _, by rw [← hns]; exact Bk.new_at (by simp) rfl, (Bk.new w bx _).alloc _, ((Below.refl _ _).alloc (Nat.le_refl _) _).alloc (by simp) _⟩
  have HNS := Lib.hid hns
  clear hns
  go_enter Try.func50, Try.ntmps50
  go_wp2_with fail
  go_loopw [3, 16] (fun v3 v16 wr => BodyRel w ns bx v3 v16 wr) (fun _ v16 _ => 3 - (intOf v16).toNat)
  case atStart => exact H0.out
  case round =>
    clear c0 c1 c2
    obtain ⟨k, hk, rfl, hown, hrow, hbox, hb⟩ := hrel
    have HO := Lib.hid hown
    have HW := Lib.hid hrow
    have HX := Lib.hid hbox
    have HB := Lib.hid hb
    obtain ⟨A, c, rfl, _, _, _⟩ := own_rd hown
    clear hown hrow hbox hb H0
    by_cases hlt : k < 3
    · have hki : (k : Int) < 3 := by omega
      have hkl : k < ns.length := by rw [HNL.out]; exact hlt
      obtain ⟨x, hx⟩ : ∃ x, ns[k] = x := ⟨_, rfl⟩
      have hcx : wr.cell? ⟨w.heap.size + 1, k, none⟩ = some (vu32 x) := by
        have := HW.out.cell (j := k) (HGET.out k hkl)
        rw [hx] at this
        exact this
      have HXE := Lib.hid hx
      clear hx
      go_wp2_with fail
      refine (low_calls x 4 wr (by decide)).mono ?_
      intro e w2 hp
      obtain ⟨A2, c2, rfl, hown2, hb2⟩ := hp
      obtain ⟨A3, c3, hv3, hrd2, _, _⟩ := own_rd hown2
      injection hv3 with h1 _ h3
      subst h1
      subst h3
      have hll := le_length 4 x.toNat
      rw [hll]
      have HRD := Lib.hid hrd2
      have HO2 := Lib.hid (own_chg HO.out (Chg.of_below (S := NoS) hb2) (fun _ _ => id))
      have HW2 := Lib.hid (HW.out.below hb2)
      have HX2 := Lib.hid (HX.out.below hb2)
      have HB2 : Hid (Below w.heap.size w w2) := HB.out.trans (hb2.mono HB.out.size)
      have HSZ : Hid (w.heap.size + 2 ≤ wr.heap.size) := by show _ ≤ _; have := HW.out.lt; omega
      have HSZ2 : Hid (w.heap.size + 2 ≤ w2.heap.size) := Nat.le_trans HSZ.out hb2.size
      have HLL := Lib.hid hll
      clear hown2 hrd2 hb2 hcx hll
      go_wp2_with (at_builtin; refine wpList_append_rd rfl (.tmp 20) (.tmp 22) 32 rfl (w.heap.size + 2) 5 (.int .u8 0) 1 1 Try.underlying32 info_u8l rfl (by decide) (by decide) (.slice A (4 * k) c) (4 * k) (bts ((ns.take k).flatMap fun x => le x.toNat 4)) rfl HO2.out A2 4 c2 (bts (le x.toNat 4)) rfl ?len HRD.out (one_bts _) ?bytes ?base ?_)
      case len => rw [bts_length, HLL.out]
      case bytes => omega
      case base => exact HSZ2.out
      intro v1 w3 hown3 hg3 hat3
      rw [← bts_append, show ((ns.take k).flatMap fun x => le x.toNat 4) ++ le x.toNat 4 = (ns.take (k + 1)).flatMap fun x => le x.toNat 4 by rw [List.take_succ_eq_append_getElem hkl, HXE.out]; simp] at hown3
      have hc3 : Chg (fun q => (Value.slice A (4 * k) c).ownBlock = some q) w2 w3 := ⟨hg3.os, hg3.tape, hg3.output, hg3.size, fun q hq hne => hg3.block q hq (fun he => hne he.symm)⟩
      have hge : ∀ q, (Value.slice A (4 * k) c).ownBlock = some q → w.heap.size + 2 ≤ q := fun q hq => (HO2.out.lt _ hq).1
      have HO3 : Hid (w3.ownsRow (w.heap.size + 2) 5 1 v1 (4 * (k + 1)) (bts ((ns.take (k + 1)).flatMap fun x => le x.toNat 4))) := by
        have : 4 * (k + 1) = 4 * k + 4 := by omega
        rw [this]
        exact hown3
      have HW3 := Lib.hid (HW2.out.chg hc3 (fun he => by have := hge _ he; omega))
      have HX3 := Lib.hid (HX2.out.chg hc3 (fun he => by have := hge _ he; omega))
      have HB3 : Hid (Below w.heap.size w w3) := HB2.out.trans (hc3.below HB2.out.size (fun q hq he => by have := hge _ he; omega))
      clear hown3 hc3 hge hg3 hat3
      go_wp2_with fail
      go_roundw
      case rel => exact ⟨k + 1, by omega, by go_num, HO3.out, HW3.out, HX3.out, HB3.out⟩
      case measure => simp [intOf]; omega
    · have hke : k = 3 := by omega
      subst hke
      have hki : ¬ (((3 : Nat) : Int) < 3) := by omega
      have HO12 : Hid (wr.ownsRow (w.heap.size + 2) 5 1 (.slice A 12 c) 12 (bts (ns.flatMap fun x => le x.toNat 4))) := by
        have := HO.out
        rw [List.take_of_length_le (by rw [HNL.out]; decide)] at this
        exact this
      have HP12 : Hid ((ns.flatMap fun x => le x.toNat 4).length = 12) := by show _ = _; rw [← HNS.out]; simp [le_length]
      have HNSB : Hid ((ns.flatMap fun x => le x.toNat 4) ++ ([l.d, l.la].flatMap fun x => le x.toNat 2) = bodyB l) := by show _ = _; rw [← HNS.out]; rfl
      generalize (ns.flatMap fun x => le x.toNat 4) = pre12 at HO12 HP12 HNSB
      have e3 := Bk.cell HX.out D3.out
      have e4 := Bk.cell HX.out D4.out
      obtain ⟨ds, hds⟩ : ∃ ds, [l.d, l.la] = ds := ⟨_, rfl⟩
      have HNL2 : Hid (ds.length = 2) := by show _ = _; rw [← hds]; rfl
      have HGET2 : Hid (∀ k (h : k < ds.length), (ds.map vu16)[k]? = some (vu16 ds[k])) := fun k h => by rw [List.getElem?_map, List.getElem?_eq_getElem h]; rfl
      have HSW : Hid (w.heap.size + 2 ≤ wr.heap.size) := by show _ ≤ _; have := HW.out.lt; omega
      have H2 : Hid (BodyRel2 w wr.heap.size pre12 ds bx (.slice A 12 c) (.int .i64 0) (wr.alloc (.cells #[vu16 l.d, vu16 l.la] 61))) :=
        ⟨0, by omega, rfl, by rw [List.take_zero, List.flatMap_nil, List.append_nil]; exact own_chg HO12.out ((Chg.refl (S := NoS) wr).alloc _) (fun _ _ => id), by rw [← hds]; exact Bk.new_at rfl rfl, fun he => by have := (HO12.out.lt _ he).2; omega, HX.out.alloc _, HB.out.alloc HB.out.size _⟩
      rw [hds] at HNSB
      clear hds HO HO12
      obtain ⟨gd, hgd⟩ : ∃ gd, wr.heap.size = gd := ⟨_, rfl⟩
      have HGD : Hid (w.heap.size + 2 ≤ gd) := by rw [← hgd]; exact HSW.out
      rw [hgd] at H2
      go_wp2_with fail
      clear hgd
      go_loopw [3, 31] (fun v3 v31 wr => BodyRel2 w gd pre12 ds bx v3 v31 wr) (fun _ v31 _ => 2 - (intOf v31).toNat)
      case atStart => exact H2.out
      case round =>
        clear e3 e4
        obtain ⟨k, hk, rfl, hown, hrow, hne, hbox, hb⟩ := hrel
        have HNE := Lib.hid hne
        have HO := Lib.hid hown
        have HW := Lib.hid hrow
        have HX := Lib.hid hbox
        have HB := Lib.hid hb
        obtain ⟨A, c, rfl, _, _, _⟩ := own_rd hown
        clear hown hrow hne hbox hb H2
        by_cases hlt : k < 2
        · have hki : (k : Int) < 2 := by omega
          have hkl : k < ds.length := by rw [HNL2.out]; exact hlt
          obtain ⟨x, hx⟩ : ∃ x, ds[k] = x := ⟨_, rfl⟩
          have hcx : wr.cell? ⟨gd, k, none⟩ = some (vu16 x) := by
            have := HW.out.cell (j := k) (HGET2.out k hkl)
            rw [hx] at this
            exact this
          have HXE := Lib.hid hx
          clear hx
          go_wp2_with fail
          rw [show ((x.toNat : Int) % 4294967296) = ((x.toUInt32.toNat : Nat) : Int) by rw [UInt16.toNat_toUInt32]; have := x.toNat_lt; omega]
          refine (low_calls x.toUInt32 2 wr (by decide)).mono ?_
          intro e w2 hp
          rw [UInt16.toNat_toUInt32] at hp
          obtain ⟨A2, c2, rfl, hown2, hb2⟩ := hp
          obtain ⟨A3, c3, hv3, hrd2, _, _⟩ := own_rd hown2
          injection hv3 with h1 _ h3
          subst h1
          subst h3
          have hll := le_length 2 x.toNat
          rw [hll]
          have HRD := Lib.hid hrd2
          have HO2 := Lib.hid (own_chg HO.out (Chg.of_below (S := NoS) hb2) (fun _ _ => id))
          have HW2 := Lib.hid (HW.out.below hb2)
          have HX2 := Lib.hid (HX.out.below hb2)
          have HB2 : Hid (Below w.heap.size w w2) := HB.out.trans (hb2.mono HB.out.size)
          have HSZ : Hid (w.heap.size + 2 ≤ wr.heap.size) := by show _ ≤ _; have := HW.out.lt; have := HGD.out; omega
          have HSZ2 : Hid (w.heap.size + 2 ≤ w2.heap.size) := Nat.le_trans HSZ.out hb2.size
          have HLL := Lib.hid hll
          clear hown2 hrd2 hb2 hcx hll
          go_wp2_with (at_builtin; refine wpList_append_rd rfl (.tmp 35) (.tmp 38) 32 rfl (w.heap.size + 2) 5 (.int .u8 0) 1 1 Try.underlying32 info_u8l rfl (by decide) (by decide) (.slice A (12 + 2 * k) c) (12 + 2 * k) (bts (pre12 ++ (ds.take k).flatMap fun x => le x.toNat 2)) rfl HO2.out A2 2 c2 (bts (le x.toNat 2)) rfl ?len HRD.out (one_bts _) ?bytes ?base ?_)
          case len => rw [bts_length, HLL.out]
          case bytes => omega
          case base => exact HSZ2.out
          intro v1 w3 hown3 hg3 hat3
          rw [← bts_append, List.append_assoc, show ((ds.take k).flatMap fun x => le x.toNat 2) ++ le x.toNat 2 = (ds.take (k + 1)).flatMap fun x => le x.toNat 2 by rw [List.take_succ_eq_append_getElem hkl, HXE.out]; simp] at hown3
          have hc3 : Chg (fun q => (Value.slice A (12 + 2 * k) c).ownBlock = some q) w2 w3 := ⟨hg3.os, hg3.tape, hg3.output, hg3.size, fun q hq hne => hg3.block q hq (fun he => hne he.symm)⟩
          have hge : ∀ q, (Value.slice A (12 + 2 * k) c).ownBlock = some q → w.heap.size + 2 ≤ q := fun q hq => (HO2.out.lt _ hq).1
          have HO3 : Hid (w3.ownsRow (w.heap.size + 2) 5 1 v1 (12 + 2 * (k + 1)) (bts (pre12 ++ (ds.take (k + 1)).flatMap fun x => le x.toNat 2))) := by
            have : 12 + 2 * (k + 1) = 12 + 2 * k + 2 := by omega
            rw [this]
            exact hown3
          have HW3 := Lib.hid (HW2.out.chg hc3 (fun he => HNE.out he))
          have HNE3 : Hid (v1.ownBlock ≠ some gd) := by
            intro he
            rcases hat3 with h | h
            · exact HNE.out (by rw [← h, he])
            · rw [h] at he
              injection he with he
              have := HW2.out.lt
              omega
          have HX3 := Lib.hid (HX2.out.chg hc3 (fun he => by have := hge _ he; omega))
          have HB3 : Hid (Below w.heap.size w w3) := HB2.out.trans (hc3.below HB2.out.size (fun q hq he => by have := hge _ he; omega))
          clear hown3 hc3 hge hg3 hat3
          go_wp2_with fail
          go_roundw
          case rel => exact ⟨k + 1, by omega, by go_num, HO3.out, HW3.out, HNE3.out, HX3.out, HB3.out⟩
          case measure => simp [intOf]; omega
        · have hke : k = 2 := by omega
          subst hke
          have hki : ¬ (((2 : Nat) : Int) < 2) := by omega
          have HO16 : Hid (wr.ownsRow (w.heap.size + 2) 5 1 (.slice A 16 c) 16 (bts (bodyB l))) := by
            have := HO.out
            rw [List.take_of_length_le (by rw [HNL2.out]; decide), HNSB.out] at this
            exact this
          go_wp2
          go_ret
          have hl := bodyB_length l
          have ho := HO16.out
          refine ⟨A, c, by rw [hl]; rfl, by rw [hl]; exact own_lower ho (by omega), HB.out⟩

end Go.Proofs.Ytnpcehlbboeadaa
