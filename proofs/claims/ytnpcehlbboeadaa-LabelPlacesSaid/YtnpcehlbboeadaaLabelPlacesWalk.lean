/- The walk of LabelPlaces. -/
import Derived.Test.YtnpcehlbboeadaaLabPlain
namespace Go.Proofs.Ytnpcehlbboeadaa
open Go.RowKit
set_option linter.unusedVariables false
set_option linter.unusedSimpArgs false

theorem enc_head (l : Lab) : labEnc l = (76 : UInt8) :: (le l.e.toNat 4 ++ (le l.s.toNat 4 ++ (le l.n.toNat 4 ++ (le l.d.toNat 2 ++ (le l.la.toNat 2 ++ (List.replicate 13 (0 : UInt8) ++ [(crcCheck (76 :: padB (bodyB l))).toUInt8, (crcCheck (76 :: padB (bodyB l)) >>> 8).toUInt8])))))) := by
  rw [labEnc, secOf]
  generalize crcCheck (76 :: padB (bodyB l)) = c
  rw [body_list]
  simp [List.append_assoc]
theorem vu8_of (n : Nat) : vu8 (UInt8.ofNat n) = .int .u8 ((n : Int) % 256) := by
  show Value.int .u8 ((UInt8.ofNat n).toNat : Int) = _
  rw [UInt8.toNat_ofNat']
  rfl
theorem vu8_of1 (n : Nat) : vu8 (UInt8.ofNat (n / 256)) = .int .u8 ((n : Int) / 256 % 256) := by rw [vu8_of]; rfl
theorem vu8_of2 (n : Nat) : vu8 (UInt8.ofNat (n / 256 / 256)) = .int .u8 ((n : Int) / 65536 % 256) := by rw [vu8_of]; congr 1; omega
theorem vu8_of3 (n : Nat) : vu8 (UInt8.ofNat (n / 256 / 256 / 256)) = .int .u8 ((n : Int) / 16777216 % 256) := by rw [vu8_of]; congr 1; omega
theorem enc_at0 (l : Lab) : (bts (labEnc l))[0]? = some (.int .u8 76) := by rw [enc_head]; rfl
theorem enc_at1 (l : Lab) : (bts (labEnc l))[1]? = some (.int .u8 (((l.e.toNat : Nat) : Int) % 256)) := by rw [enc_head]; exact congrArg some (vu8_of _)
theorem enc_at2 (l : Lab) : (bts (labEnc l))[2]? = some (.int .u8 (((l.e.toNat : Nat) : Int) / 256 % 256)) := by rw [enc_head]; exact congrArg some (vu8_of1 _)
theorem enc_at3 (l : Lab) : (bts (labEnc l))[3]? = some (.int .u8 (((l.e.toNat : Nat) : Int) / 65536 % 256)) := by rw [enc_head]; exact congrArg some (vu8_of2 _)
theorem enc_at4 (l : Lab) : (bts (labEnc l))[4]? = some (.int .u8 (((l.e.toNat : Nat) : Int) / 16777216 % 256)) := by rw [enc_head]; exact congrArg some (vu8_of3 _)
theorem enc_at5 (l : Lab) : (bts (labEnc l))[5]? = some (.int .u8 (((l.s.toNat : Nat) : Int) % 256)) := by rw [enc_head]; exact congrArg some (vu8_of _)
theorem enc_at6 (l : Lab) : (bts (labEnc l))[6]? = some (.int .u8 (((l.s.toNat : Nat) : Int) / 256 % 256)) := by rw [enc_head]; exact congrArg some (vu8_of1 _)
theorem enc_at7 (l : Lab) : (bts (labEnc l))[7]? = some (.int .u8 (((l.s.toNat : Nat) : Int) / 65536 % 256)) := by rw [enc_head]; exact congrArg some (vu8_of2 _)
theorem enc_at8 (l : Lab) : (bts (labEnc l))[8]? = some (.int .u8 (((l.s.toNat : Nat) : Int) / 16777216 % 256)) := by rw [enc_head]; exact congrArg some (vu8_of3 _)
theorem enc_at9 (l : Lab) : (bts (labEnc l))[9]? = some (.int .u8 (((l.n.toNat : Nat) : Int) % 256)) := by rw [enc_head]; exact congrArg some (vu8_of _)
theorem enc_at10 (l : Lab) : (bts (labEnc l))[10]? = some (.int .u8 (((l.n.toNat : Nat) : Int) / 256 % 256)) := by rw [enc_head]; exact congrArg some (vu8_of1 _)
theorem enc_at11 (l : Lab) : (bts (labEnc l))[11]? = some (.int .u8 (((l.n.toNat : Nat) : Int) / 65536 % 256)) := by rw [enc_head]; exact congrArg some (vu8_of2 _)
theorem enc_at12 (l : Lab) : (bts (labEnc l))[12]? = some (.int .u8 (((l.n.toNat : Nat) : Int) / 16777216 % 256)) := by rw [enc_head]; exact congrArg some (vu8_of3 _)
theorem enc_at13 (l : Lab) : (bts (labEnc l))[13]? = some (.int .u8 (((l.d.toNat : Nat) : Int) % 256)) := by rw [enc_head]; exact congrArg some (vu8_of _)
theorem enc_at14 (l : Lab) : (bts (labEnc l))[14]? = some (.int .u8 (((l.d.toNat : Nat) : Int) / 256 % 256)) := by rw [enc_head]; exact congrArg some (vu8_of1 _)
theorem enc_at15 (l : Lab) : (bts (labEnc l))[15]? = some (.int .u8 (((l.la.toNat : Nat) : Int) % 256)) := by rw [enc_head]; exact congrArg some (vu8_of _)
theorem enc_at16 (l : Lab) : (bts (labEnc l))[16]? = some (.int .u8 (((l.la.toNat : Nat) : Int) / 256 % 256)) := by rw [enc_head]; exact congrArg some (vu8_of1 _)
theorem enc_at17 (l : Lab) : (bts (labEnc l))[17]? = some (.int .u8 0) := by rw [enc_head]; rfl
theorem enc_at29 (l : Lab) : (bts (labEnc l))[29]? = some (.int .u8 0) := by rw [enc_head]; rfl
def PlRel (w : World) (g3 g4 : Nat) (W : List Value) (rs : List Value) (bx : List Value) (v : Value) (wr : World) : Prop := ∃ k : Nat, k ≤ 12 ∧ v = .int .i64 k ∧ Bk wr g3 W ∧ Bk wr g4 rs ∧ Bk wr w.heap.size bx ∧ Below w.heap.size w wr
theorem upto12 {k : Nat} (h : k < 12) : k = 0 ∨ k = 1 ∨ k = 2 ∨ k = 3 ∨ k = 4 ∨ k = 5 ∨ k = 6 ∨ k = 7 ∨ k = 8 ∨ k = 9 ∨ k = 10 ∨ k = 11 := by omega
set_option maxRecDepth 100000 in
set_option maxHeartbeats 8000000 in
theorem labelPlaces_calls (w : World) (l : Lab) : Calls Try.prog 11 #[.agg (labC l).toArray] w fun e w' => e = .returned (.bool true) ∧ Below w.heap.size w w' := by
  have HW0 := Lib.hid (enc_at0 l)
  have HW1 := Lib.hid (enc_at1 l)
  have HW2 := Lib.hid (enc_at2 l)
  have HW3 := Lib.hid (enc_at3 l)
  have HW4 := Lib.hid (enc_at4 l)
  have HW5 := Lib.hid (enc_at5 l)
  have HW6 := Lib.hid (enc_at6 l)
  have HW7 := Lib.hid (enc_at7 l)
  have HW8 := Lib.hid (enc_at8 l)
  have HW9 := Lib.hid (enc_at9 l)
  have HW10 := Lib.hid (enc_at10 l)
  have HW11 := Lib.hid (enc_at11 l)
  have HW12 := Lib.hid (enc_at12 l)
  have HW13 := Lib.hid (enc_at13 l)
  have HW14 := Lib.hid (enc_at14 l)
  have HW15 := Lib.hid (enc_at15 l)
  have HW16 := Lib.hid (enc_at16 l)
  have HW17 := Lib.hid (enc_at17 l)
  have HW29 := Lib.hid (enc_at29 l)
  have HWL : Hid ((bts (labEnc l)).length = 32) := by show _ = _; rw [bts_length, labEnc_length]
  have HWO := Lib.hid (one_bts (labEnc l))
  obtain ⟨W, hW⟩ : ∃ W, bts (labEnc l) = W := ⟨_, rfl⟩
  rw [hW] at HW0 HW1 HW2 HW3 HW4 HW5 HW6 HW7 HW8 HW9 HW10 HW11 HW12 HW13 HW14 HW15 HW16 HW17 HW29 HWL HWO
  have HWE := Lib.hid hW
  clear hW
  obtain ⟨bx, hbx⟩ : ∃ bx, labC l = bx := ⟨_, rfl⟩
  have HBX := Lib.hid hbx
  have HBL : Hid (bx.length = 5) := by show _ = _; rw [← hbx]; rfl
  have D0 : Hid (bx[0]? = some (vu32 l.e)) := by rw [← hbx]; exact (rfl : _ = _)
  have D1 : Hid (bx[1]? = some (vu32 l.s)) := by rw [← hbx]; exact (rfl : _ = _)
  have D2 : Hid (bx[2]? = some (vu32 l.n)) := by rw [← hbx]; exact (rfl : _ = _)
  have D3 : Hid (bx[3]? = some (vu16 l.d)) := by rw [← hbx]; exact (rfl : _ = _)
  have D4 : Hid (bx[4]? = some (vu16 l.la)) := by rw [← hbx]; exact (rfl : _ = _)
  rw [hbx]
  clear hbx
  go_enter Try.func11, Try.ntmps11
  go_wp2_with (refine wpList_ld rfl 63 (.tmp 1) rfl w.heap.size 0 5 bx bx rfl (Bk.new w bx _) (by kernel_rfl) (by kernel_rfl) (by rw [HBL.out]; decide) (by rw [List.drop_zero, ← HBL.out, List.take_length]) ?_)
  refine calls_at fun w0 hw0 => ?_
  have X0 : Hid (Bk w0 w.heap.size bx) := by rw [← hw0]; exact Bk.new w bx _
  have E0 : Hid (Below w.heap.size w w0) := by rw [← hw0]; exact (Below.refl _ _).alloc (Nat.le_refl _) _
  clear hw0
  rw [← HBX.out]
  refine (labEncode_calls l w0).mono ?_
  rintro e w1 ⟨rfl, hb⟩
  rw [HWE.out, HBX.out]
  have X1 := Lib.hid (X0.out.below hb)
  have E1 : Hid (Below w.heap.size w w1) := E0.out.trans (hb.mono E0.out.size)
  clear hb
  go_wp2_with (refine wpList_al rfl 37 rfl (bts (List.replicate 32 0)) (by kernel_rfl) ?_)
  intro g3 w2 hg hb hc hs
  have X2 := Lib.hid (X1.out.chg hc id)
  have E2 : Hid (Below w.heap.size w w2) := E1.out.trans (hc.below E1.out.size (fun _ _ => id))
  have G3 : Hid (w.heap.size < g3) := by show _ < _; rw [hg]; exact X1.out.lt
  have M2 := Lib.hid hb
  clear hg hb hc hs
  go_wp2_with (refine wpList_st rfl 37 (.tmp 3) (.tmp 7) rfl g3 0 32 (bts (List.replicate 32 0)) W rfl rfl M2.out (by kernel_rfl) HWL.out (by decide) HWO.out ?_)
  intro w3 hb hc
  rw [splice_whole _ _ (by rw [HWL.out]; rfl)] at hb
  have hg3 := G3.out
  have X3 := Lib.hid (X2.out.chg hc (by omega))
  have E3 : Hid (Below w.heap.size w w3) := E2.out.trans (hc.below E2.out.size (fun _ _ => by omega))
  have M3 := Lib.hid hb
  have c0 := X3.out.cell D0.out
  have c1 := X3.out.cell D1.out
  have c2 := X3.out.cell D2.out
  obtain ⟨rs, hrs⟩ : ∃ rs, [vu32 l.e, vu32 l.s, vu32 l.n] = rs := ⟨_, rfl⟩
  have HR0 : Hid (rs[0]? = some (vu32 l.e)) := by rw [← hrs]; exact (rfl : _ = _)
  have HR1 : Hid (rs[1]? = some (vu32 l.s)) := by rw [← hrs]; exact (rfl : _ = _)
  have HR2 : Hid (rs[2]? = some (vu32 l.n)) := by rw [← hrs]; exact (rfl : _ = _)
  obtain ⟨g4, hg4⟩ : ∃ g4, w3.heap.size = g4 := ⟨_, rfl⟩
  have H0 : Hid (PlRel w g3 g4 W rs bx (.int .i64 0) (w3.alloc (.cells #[vu32 l.e, vu32 l.s, vu32 l.n] 60))) := ⟨0, by omega, rfl, M3.out.alloc _, by rw [← hrs]; exact Bk.new_at hg4.symm rfl, X3.out.alloc _, E3.out.alloc E3.out.size _⟩
  clear hb hc hg3 X0 X1 X2 M2 hrs
  go_wp2_with fail
  go_loopw [5] (fun v wr => PlRel w g3 g4 W rs bx v wr) (fun v _ => 12 - (intOf v).toNat)
  case atStart => exact H0.out
  case round =>
    clear c0 c1 c2 hg4
    obtain ⟨k, hk, rfl, hm, hr, hx, he⟩ := hrel
    have M := Lib.hid hm
    have R := Lib.hid hr
    have X := Lib.hid hx
    have E := Lib.hid he
    clear hm hr hx he H0 X3 M3
    by_cases hlt : k < 12
    · rcases upto12 hlt with rfl | rfl | rfl | rfl | rfl | rfl | rfl | rfl | rfl | rfl | rfl | rfl
      · clear hk
        go_wp2_with fail
        apply wp_region_rel 16 (Chg NoS) [(Veq _), (Veq _), (Veq _), (Veq _), (Veq _), (Veq _), (Veq _), (Veq _), (Veq _), (Veq _), (Veq _), (Veq _), (Veq _), (Veq _), (Veq _), (Veq _)] [[], [0], [1], [2], [], [], [5], [4, 6], [7], [], [9], [10], [11], [8, 12], [13], [3, 14]] [19, 20, 21, 22, 23, 24, 25, 26, 27, 28, 29, 30, 31, 32, 33, 34] (by kernel_rfl) (by kernel_rfl) rfl rfl rfl Chg.refl (fun _ _ _ => Chg.trans) ⟨Veq.lasts, Veq.lasts, Veq.lasts, Veq.lasts, Veq.lasts, Veq.lasts, Veq.lasts, Veq.lasts, Veq.lasts, Veq.lasts, Veq.lasts, Veq.lasts, Veq.lasts, Veq.lasts, Veq.lasts, Veq.lasts, trivial⟩ ?a0ops ?a0fin
        case a0ops =>
          refine ⟨?a0o0, ?a0o1, ?a0o2, ?a0o3, ?a0o4, ?a0o5, ?a0o6, ?a0o7, ?a0o8, ?a0o9, ?a0o10, ?a0o11, ?a0o12, ?a0o13, ?a0o14, ?a0o15, trivial⟩
          case a0o0 =>
            intro a wx hE hin
            have i5 : a.eval (.tmp 5) = .int .i64 0 := hin 5 rfl
            clear hin
            have hcst : ∀ v, a.eval (.const v) = v := fun _ => rfl
            have hfnc : ∀ f, a.eval (.func f) = .func (.func f) #[] #[] := fun _ => rfl
            refine want_none rfl ?_
            unfold Oper.wp
            generalize a.eval = ρ at *
            go_simp
            try go_bits
            first | exact rel_val (Chg.refl _) | (go_simp; exact rel_val (Chg.refl _))
          case a0o1 =>
            rintro a wx hE hin (h0 : a.eval (.tmp 19) = _)
            clear hin
            have hcst : ∀ v, a.eval (.const v) = v := fun _ => rfl
            have hfnc : ∀ f, a.eval (.func f) = .func (.func f) #[] #[] := fun _ => rfl
            refine want_none rfl ?_
            unfold Oper.wp
            generalize a.eval = ρ at *
            go_simp
            try go_bits
            first | exact rel_val (Chg.refl _) | (go_simp; exact rel_val (Chg.refl _))
          case a0o2 =>
            rintro a wx hE hin (h1 : a.eval (.tmp 20) = _)
            have i3 : a.eval (.tmp 3) = .pointer (some ⟨g3, 0, none⟩) := hin 3 rfl
            clear hin
            have hcst : ∀ v, a.eval (.const v) = v := fun _ => rfl
            have hfnc : ∀ f, a.eval (.func f) = .func (.func f) #[] #[] := fun _ => rfl
            refine want_none rfl ?_
            unfold Oper.wp
            generalize a.eval = ρ at *
            go_simp
            try go_bits
            first | exact rel_val (Chg.refl _) | (go_simp; exact rel_val (Chg.refl _))
          case a0o3 =>
            rintro a wx hE hin (h2 : a.eval (.tmp 21) = _)
            clear hin
            have hcst : ∀ v, a.eval (.const v) = v := fun _ => rfl
            have hfnc : ∀ f, a.eval (.func f) = .func (.func f) #[] #[] := fun _ => rfl
            refine want_none rfl ?_
            unfold Oper.wp
            generalize a.eval = ρ at *
            have c := Bk.cell ((M.out.drew).chg hE id) HW1.out
            go_simp
            try go_bits
            first | exact rel_val (Chg.refl _) | (go_simp; exact rel_val (Chg.refl _))
          case a0o4 =>
            intro a wx hE hin
            have i4 : a.eval (.tmp 4) = .slice (some ⟨g4, 0, none⟩) 3 3 := hin 4 rfl
            clear hin
            have hcst : ∀ v, a.eval (.const v) = v := fun _ => rfl
            have hfnc : ∀ f, a.eval (.func f) = .func (.func f) #[] #[] := fun _ => rfl
            refine want_none rfl ?_
            unfold Oper.wp
            generalize a.eval = ρ at *
            go_simp
            try go_bits
            first | exact rel_val (Chg.refl _) | (go_simp; exact rel_val (Chg.refl _))
          case a0o5 =>
            intro a wx hE hin
            have i5 : a.eval (.tmp 5) = .int .i64 0 := hin 5 rfl
            clear hin
            have hcst : ∀ v, a.eval (.const v) = v := fun _ => rfl
            have hfnc : ∀ f, a.eval (.func f) = .func (.func f) #[] #[] := fun _ => rfl
            refine want_none rfl ?_
            unfold Oper.wp
            generalize a.eval = ρ at *
            go_simp
            try go_bits
            first | exact rel_val (Chg.refl _) | (go_simp; exact rel_val (Chg.refl _))
          case a0o6 =>
            rintro a wx hE hin (h5 : a.eval (.tmp 24) = _)
            clear hin
            have hcst : ∀ v, a.eval (.const v) = v := fun _ => rfl
            have hfnc : ∀ f, a.eval (.func f) = .func (.func f) #[] #[] := fun _ => rfl
            refine want_none rfl ?_
            unfold Oper.wp
            generalize a.eval = ρ at *
            go_simp
            try go_bits
            first | exact rel_val (Chg.refl _) | (go_simp; exact rel_val (Chg.refl _))
          case a0o7 =>
            rintro a wx hE hin (h4 : a.eval (.tmp 23) = _) (h6 : a.eval (.tmp 25) = _)
            clear hin
            have hcst : ∀ v, a.eval (.const v) = v := fun _ => rfl
            have hfnc : ∀ f, a.eval (.func f) = .func (.func f) #[] #[] := fun _ => rfl
            refine want_none rfl ?_
            unfold Oper.wp
            generalize a.eval = ρ at *
            go_simp
            try go_bits
            first | exact rel_val (Chg.refl _) | (go_simp; exact rel_val (Chg.refl _))
          case a0o8 =>
            rintro a wx hE hin (h7 : a.eval (.tmp 26) = _)
            clear hin
            have hcst : ∀ v, a.eval (.const v) = v := fun _ => rfl
            have hfnc : ∀ f, a.eval (.func f) = .func (.func f) #[] #[] := fun _ => rfl
            refine want_none rfl ?_
            unfold Oper.wp
            generalize a.eval = ρ at *
            have c := Bk.cell ((R.out.drew).chg hE id) HR0.out
            go_simp
            try go_bits
            first | exact rel_val (Chg.refl _) | (go_simp; exact rel_val (Chg.refl _))
          case a0o9 =>
            intro a wx hE hin
            have i5 : a.eval (.tmp 5) = .int .i64 0 := hin 5 rfl
            clear hin
            have hcst : ∀ v, a.eval (.const v) = v := fun _ => rfl
            have hfnc : ∀ f, a.eval (.func f) = .func (.func f) #[] #[] := fun _ => rfl
            refine want_none rfl ?_
            unfold Oper.wp
            generalize a.eval = ρ at *
            go_simp
            try go_bits
            first | exact rel_val (Chg.refl _) | (go_simp; exact rel_val (Chg.refl _))
          case a0o10 =>
            rintro a wx hE hin (h9 : a.eval (.tmp 28) = _)
            clear hin
            have hcst : ∀ v, a.eval (.const v) = v := fun _ => rfl
            have hfnc : ∀ f, a.eval (.func f) = .func (.func f) #[] #[] := fun _ => rfl
            refine want_none rfl ?_
            unfold Oper.wp
            generalize a.eval = ρ at *
            go_simp
            try go_bits
            first | exact rel_val (Chg.refl _) | (go_simp; exact rel_val (Chg.refl _))
          case a0o11 =>
            rintro a wx hE hin (h10 : a.eval (.tmp 29) = _)
            clear hin
            have hcst : ∀ v, a.eval (.const v) = v := fun _ => rfl
            have hfnc : ∀ f, a.eval (.func f) = .func (.func f) #[] #[] := fun _ => rfl
            refine want_none rfl ?_
            unfold Oper.wp
            generalize a.eval = ρ at *
            go_simp
            try go_bits
            first | exact rel_val (Chg.refl _) | (go_simp; exact rel_val (Chg.refl _))
          case a0o12 =>
            rintro a wx hE hin (h11 : a.eval (.tmp 30) = _)
            clear hin
            have hcst : ∀ v, a.eval (.const v) = v := fun _ => rfl
            have hfnc : ∀ f, a.eval (.func f) = .func (.func f) #[] #[] := fun _ => rfl
            refine want_none rfl ?_
            unfold Oper.wp
            generalize a.eval = ρ at *
            go_simp
            try go_bits
            first | exact rel_val (Chg.refl _) | (go_simp; exact rel_val (Chg.refl _))
          case a0o13 =>
            rintro a wx hE hin (h8 : a.eval (.tmp 27) = _) (h12 : a.eval (.tmp 31) = _)
            clear hin
            have hcst : ∀ v, a.eval (.const v) = v := fun _ => rfl
            have hfnc : ∀ f, a.eval (.func f) = .func (.func f) #[] #[] := fun _ => rfl
            refine want_none rfl ?_
            unfold Oper.wp
            generalize a.eval = ρ at *
            go_simp
            try go_bits
            first | exact rel_val (Chg.refl _) | (go_simp; exact rel_val (Chg.refl _))
          case a0o14 =>
            rintro a wx hE hin (h13 : a.eval (.tmp 32) = _)
            clear hin
            have hcst : ∀ v, a.eval (.const v) = v := fun _ => rfl
            have hfnc : ∀ f, a.eval (.func f) = .func (.func f) #[] #[] := fun _ => rfl
            refine want_none rfl ?_
            unfold Oper.wp
            generalize a.eval = ρ at *
            go_simp
            try go_bits
            first | exact rel_val (Chg.refl _) | (go_simp; exact rel_val (Chg.refl _))
          case a0o15 =>
            rintro a wx hE hin (h3 : a.eval (.tmp 22) = _) (h14 : a.eval (.tmp 33) = _)
            clear hin
            have hcst : ∀ v, a.eval (.const v) = v := fun _ => rfl
            have hfnc : ∀ f, a.eval (.func f) = .func (.func f) #[] #[] := fun _ => rfl
            refine want_none rfl ?_
            unfold Oper.wp
            generalize a.eval = ρ at *
            go_simp
            try go_bits
            first | exact rel_val (e := .bool false) (Chg.refl _) | (simp only [bne_self_eq_false]; exact rel_val (e := .bool false) (Chg.refl _)) | (simp; exact rel_val (e := .bool false) (Chg.refl _))
        case a0fin =>
          intro wx hE
          rintro _ rfl _ rfl _ rfl _ rfl _ rfl _ rfl _ rfl _ rfl _ rfl _ rfl _ rfl _ rfl _ rfl _ rfl _ rfl _ rfl
          simp only [FinOk, List.take_succ_cons, List.take_zero, List.take_nil, List.drop_succ_cons, List.drop_zero, List.drop_nil, Act.put, List.setIfInBounds_toArray, List.set_cons_succ, List.set_cons_zero]
          have M2 := Lib.hid ((M.out.drew).chg hE id)
          have R2 := Lib.hid ((R.out.drew).chg hE id)
          have X2 := Lib.hid ((X.out.drew).chg hE id)
          have E2 : Hid (Below w.heap.size w wx) := E.out.trans ((hE.undrew).below (B := w.heap.size) E.out.size (fun _ _ => id))
          clear hE
          go_wp2_with fail
          go_roundw
          case rel => exact ⟨1, by omega, rfl, M2.out, R2.out, X2.out, E2.out⟩
          case measure => simp [intOf]
      · clear hk
        go_wp2_with fail
        apply wp_region_rel 16 (Chg NoS) [(Veq _), (Veq _), (Veq _), (Veq _), (Veq _), (Veq _), (Veq _), (Veq _), (Veq _), (Veq _), (Veq _), (Veq _), (Veq _), (Veq _), (Veq _), (Veq _)] [[], [0], [1], [2], [], [], [5], [4, 6], [7], [], [9], [10], [11], [8, 12], [13], [3, 14]] [19, 20, 21, 22, 23, 24, 25, 26, 27, 28, 29, 30, 31, 32, 33, 34] (by kernel_rfl) (by kernel_rfl) rfl rfl rfl Chg.refl (fun _ _ _ => Chg.trans) ⟨Veq.lasts, Veq.lasts, Veq.lasts, Veq.lasts, Veq.lasts, Veq.lasts, Veq.lasts, Veq.lasts, Veq.lasts, Veq.lasts, Veq.lasts, Veq.lasts, Veq.lasts, Veq.lasts, Veq.lasts, Veq.lasts, trivial⟩ ?a1ops ?a1fin
        case a1ops =>
          refine ⟨?a1o0, ?a1o1, ?a1o2, ?a1o3, ?a1o4, ?a1o5, ?a1o6, ?a1o7, ?a1o8, ?a1o9, ?a1o10, ?a1o11, ?a1o12, ?a1o13, ?a1o14, ?a1o15, trivial⟩
          case a1o0 =>
            intro a wx hE hin
            have i5 : a.eval (.tmp 5) = .int .i64 1 := hin 5 rfl
            clear hin
            have hcst : ∀ v, a.eval (.const v) = v := fun _ => rfl
            have hfnc : ∀ f, a.eval (.func f) = .func (.func f) #[] #[] := fun _ => rfl
            refine want_none rfl ?_
            unfold Oper.wp
            generalize a.eval = ρ at *
            go_simp
            try go_bits
            first | exact rel_val (Chg.refl _) | (go_simp; exact rel_val (Chg.refl _))
          case a1o1 =>
            rintro a wx hE hin (h0 : a.eval (.tmp 19) = _)
            clear hin
            have hcst : ∀ v, a.eval (.const v) = v := fun _ => rfl
            have hfnc : ∀ f, a.eval (.func f) = .func (.func f) #[] #[] := fun _ => rfl
            refine want_none rfl ?_
            unfold Oper.wp
            generalize a.eval = ρ at *
            go_simp
            try go_bits
            first | exact rel_val (Chg.refl _) | (go_simp; exact rel_val (Chg.refl _))
          case a1o2 =>
            rintro a wx hE hin (h1 : a.eval (.tmp 20) = _)
            have i3 : a.eval (.tmp 3) = .pointer (some ⟨g3, 0, none⟩) := hin 3 rfl
            clear hin
            have hcst : ∀ v, a.eval (.const v) = v := fun _ => rfl
            have hfnc : ∀ f, a.eval (.func f) = .func (.func f) #[] #[] := fun _ => rfl
            refine want_none rfl ?_
            unfold Oper.wp
            generalize a.eval = ρ at *
            go_simp
            try go_bits
            first | exact rel_val (Chg.refl _) | (go_simp; exact rel_val (Chg.refl _))
          case a1o3 =>
            rintro a wx hE hin (h2 : a.eval (.tmp 21) = _)
            clear hin
            have hcst : ∀ v, a.eval (.const v) = v := fun _ => rfl
            have hfnc : ∀ f, a.eval (.func f) = .func (.func f) #[] #[] := fun _ => rfl
            refine want_none rfl ?_
            unfold Oper.wp
            generalize a.eval = ρ at *
            have c := Bk.cell ((M.out.drew).chg hE id) HW2.out
            go_simp
            try go_bits
            first | exact rel_val (Chg.refl _) | (go_simp; exact rel_val (Chg.refl _))
          case a1o4 =>
            intro a wx hE hin
            have i4 : a.eval (.tmp 4) = .slice (some ⟨g4, 0, none⟩) 3 3 := hin 4 rfl
            clear hin
            have hcst : ∀ v, a.eval (.const v) = v := fun _ => rfl
            have hfnc : ∀ f, a.eval (.func f) = .func (.func f) #[] #[] := fun _ => rfl
            refine want_none rfl ?_
            unfold Oper.wp
            generalize a.eval = ρ at *
            go_simp
            try go_bits
            first | exact rel_val (Chg.refl _) | (go_simp; exact rel_val (Chg.refl _))
          case a1o5 =>
            intro a wx hE hin
            have i5 : a.eval (.tmp 5) = .int .i64 1 := hin 5 rfl
            clear hin
            have hcst : ∀ v, a.eval (.const v) = v := fun _ => rfl
            have hfnc : ∀ f, a.eval (.func f) = .func (.func f) #[] #[] := fun _ => rfl
            refine want_none rfl ?_
            unfold Oper.wp
            generalize a.eval = ρ at *
            go_simp
            try go_bits
            first | exact rel_val (Chg.refl _) | (go_simp; exact rel_val (Chg.refl _))
          case a1o6 =>
            rintro a wx hE hin (h5 : a.eval (.tmp 24) = _)
            clear hin
            have hcst : ∀ v, a.eval (.const v) = v := fun _ => rfl
            have hfnc : ∀ f, a.eval (.func f) = .func (.func f) #[] #[] := fun _ => rfl
            refine want_none rfl ?_
            unfold Oper.wp
            generalize a.eval = ρ at *
            go_simp
            try go_bits
            first | exact rel_val (Chg.refl _) | (go_simp; exact rel_val (Chg.refl _))
          case a1o7 =>
            rintro a wx hE hin (h4 : a.eval (.tmp 23) = _) (h6 : a.eval (.tmp 25) = _)
            clear hin
            have hcst : ∀ v, a.eval (.const v) = v := fun _ => rfl
            have hfnc : ∀ f, a.eval (.func f) = .func (.func f) #[] #[] := fun _ => rfl
            refine want_none rfl ?_
            unfold Oper.wp
            generalize a.eval = ρ at *
            go_simp
            try go_bits
            first | exact rel_val (Chg.refl _) | (go_simp; exact rel_val (Chg.refl _))
          case a1o8 =>
            rintro a wx hE hin (h7 : a.eval (.tmp 26) = _)
            clear hin
            have hcst : ∀ v, a.eval (.const v) = v := fun _ => rfl
            have hfnc : ∀ f, a.eval (.func f) = .func (.func f) #[] #[] := fun _ => rfl
            refine want_none rfl ?_
            unfold Oper.wp
            generalize a.eval = ρ at *
            have c := Bk.cell ((R.out.drew).chg hE id) HR0.out
            go_simp
            try go_bits
            first | exact rel_val (Chg.refl _) | (go_simp; exact rel_val (Chg.refl _))
          case a1o9 =>
            intro a wx hE hin
            have i5 : a.eval (.tmp 5) = .int .i64 1 := hin 5 rfl
            clear hin
            have hcst : ∀ v, a.eval (.const v) = v := fun _ => rfl
            have hfnc : ∀ f, a.eval (.func f) = .func (.func f) #[] #[] := fun _ => rfl
            refine want_none rfl ?_
            unfold Oper.wp
            generalize a.eval = ρ at *
            go_simp
            try go_bits
            first | exact rel_val (Chg.refl _) | (go_simp; exact rel_val (Chg.refl _))
          case a1o10 =>
            rintro a wx hE hin (h9 : a.eval (.tmp 28) = _)
            clear hin
            have hcst : ∀ v, a.eval (.const v) = v := fun _ => rfl
            have hfnc : ∀ f, a.eval (.func f) = .func (.func f) #[] #[] := fun _ => rfl
            refine want_none rfl ?_
            unfold Oper.wp
            generalize a.eval = ρ at *
            go_simp
            try go_bits
            first | exact rel_val (Chg.refl _) | (go_simp; exact rel_val (Chg.refl _))
          case a1o11 =>
            rintro a wx hE hin (h10 : a.eval (.tmp 29) = _)
            clear hin
            have hcst : ∀ v, a.eval (.const v) = v := fun _ => rfl
            have hfnc : ∀ f, a.eval (.func f) = .func (.func f) #[] #[] := fun _ => rfl
            refine want_none rfl ?_
            unfold Oper.wp
            generalize a.eval = ρ at *
            go_simp
            try go_bits
            first | exact rel_val (Chg.refl _) | (go_simp; exact rel_val (Chg.refl _))
          case a1o12 =>
            rintro a wx hE hin (h11 : a.eval (.tmp 30) = _)
            clear hin
            have hcst : ∀ v, a.eval (.const v) = v := fun _ => rfl
            have hfnc : ∀ f, a.eval (.func f) = .func (.func f) #[] #[] := fun _ => rfl
            refine want_none rfl ?_
            unfold Oper.wp
            generalize a.eval = ρ at *
            go_simp
            try go_bits
            first | exact rel_val (Chg.refl _) | (go_simp; exact rel_val (Chg.refl _))
          case a1o13 =>
            rintro a wx hE hin (h8 : a.eval (.tmp 27) = _) (h12 : a.eval (.tmp 31) = _)
            clear hin
            have hcst : ∀ v, a.eval (.const v) = v := fun _ => rfl
            have hfnc : ∀ f, a.eval (.func f) = .func (.func f) #[] #[] := fun _ => rfl
            refine want_none rfl ?_
            unfold Oper.wp
            generalize a.eval = ρ at *
            go_simp
            try go_bits
            first | exact rel_val (Chg.refl _) | (go_simp; exact rel_val (Chg.refl _))
          case a1o14 =>
            rintro a wx hE hin (h13 : a.eval (.tmp 32) = _)
            clear hin
            have hcst : ∀ v, a.eval (.const v) = v := fun _ => rfl
            have hfnc : ∀ f, a.eval (.func f) = .func (.func f) #[] #[] := fun _ => rfl
            refine want_none rfl ?_
            unfold Oper.wp
            generalize a.eval = ρ at *
            go_simp
            try go_bits
            first | exact rel_val (Chg.refl _) | (go_simp; exact rel_val (Chg.refl _))
          case a1o15 =>
            rintro a wx hE hin (h3 : a.eval (.tmp 22) = _) (h14 : a.eval (.tmp 33) = _)
            clear hin
            have hcst : ∀ v, a.eval (.const v) = v := fun _ => rfl
            have hfnc : ∀ f, a.eval (.func f) = .func (.func f) #[] #[] := fun _ => rfl
            refine want_none rfl ?_
            unfold Oper.wp
            generalize a.eval = ρ at *
            go_simp
            try go_bits
            first | exact rel_val (e := .bool false) (Chg.refl _) | (simp only [bne_self_eq_false]; exact rel_val (e := .bool false) (Chg.refl _)) | (simp; exact rel_val (e := .bool false) (Chg.refl _))
        case a1fin =>
          intro wx hE
          rintro _ rfl _ rfl _ rfl _ rfl _ rfl _ rfl _ rfl _ rfl _ rfl _ rfl _ rfl _ rfl _ rfl _ rfl _ rfl _ rfl
          simp only [FinOk, List.take_succ_cons, List.take_zero, List.take_nil, List.drop_succ_cons, List.drop_zero, List.drop_nil, Act.put, List.setIfInBounds_toArray, List.set_cons_succ, List.set_cons_zero]
          have M2 := Lib.hid ((M.out.drew).chg hE id)
          have R2 := Lib.hid ((R.out.drew).chg hE id)
          have X2 := Lib.hid ((X.out.drew).chg hE id)
          have E2 : Hid (Below w.heap.size w wx) := E.out.trans ((hE.undrew).below (B := w.heap.size) E.out.size (fun _ _ => id))
          clear hE
          go_wp2_with fail
          go_roundw
          case rel => exact ⟨2, by omega, rfl, M2.out, R2.out, X2.out, E2.out⟩
          case measure => simp [intOf]
      · clear hk
        go_wp2_with fail
        apply wp_region_rel 16 (Chg NoS) [(Veq _), (Veq _), (Veq _), (Veq _), (Veq _), (Veq _), (Veq _), (Veq _), (Veq _), (Veq _), (Veq _), (Veq _), (Veq _), (Veq _), (Veq _), (Veq _)] [[], [0], [1], [2], [], [], [5], [4, 6], [7], [], [9], [10], [11], [8, 12], [13], [3, 14]] [19, 20, 21, 22, 23, 24, 25, 26, 27, 28, 29, 30, 31, 32, 33, 34] (by kernel_rfl) (by kernel_rfl) rfl rfl rfl Chg.refl (fun _ _ _ => Chg.trans) ⟨Veq.lasts, Veq.lasts, Veq.lasts, Veq.lasts, Veq.lasts, Veq.lasts, Veq.lasts, Veq.lasts, Veq.lasts, Veq.lasts, Veq.lasts, Veq.lasts, Veq.lasts, Veq.lasts, Veq.lasts, Veq.lasts, trivial⟩ ?a2ops ?a2fin
        case a2ops =>
          refine ⟨?a2o0, ?a2o1, ?a2o2, ?a2o3, ?a2o4, ?a2o5, ?a2o6, ?a2o7, ?a2o8, ?a2o9, ?a2o10, ?a2o11, ?a2o12, ?a2o13, ?a2o14, ?a2o15, trivial⟩
          case a2o0 =>
            intro a wx hE hin
            have i5 : a.eval (.tmp 5) = .int .i64 2 := hin 5 rfl
            clear hin
            have hcst : ∀ v, a.eval (.const v) = v := fun _ => rfl
            have hfnc : ∀ f, a.eval (.func f) = .func (.func f) #[] #[] := fun _ => rfl
            refine want_none rfl ?_
            unfold Oper.wp
            generalize a.eval = ρ at *
            go_simp
            try go_bits
            first | exact rel_val (Chg.refl _) | (go_simp; exact rel_val (Chg.refl _))
          case a2o1 =>
            rintro a wx hE hin (h0 : a.eval (.tmp 19) = _)
            clear hin
            have hcst : ∀ v, a.eval (.const v) = v := fun _ => rfl
            have hfnc : ∀ f, a.eval (.func f) = .func (.func f) #[] #[] := fun _ => rfl
            refine want_none rfl ?_
            unfold Oper.wp
            generalize a.eval = ρ at *
            go_simp
            try go_bits
            first | exact rel_val (Chg.refl _) | (go_simp; exact rel_val (Chg.refl _))
          case a2o2 =>
            rintro a wx hE hin (h1 : a.eval (.tmp 20) = _)
            have i3 : a.eval (.tmp 3) = .pointer (some ⟨g3, 0, none⟩) := hin 3 rfl
            clear hin
            have hcst : ∀ v, a.eval (.const v) = v := fun _ => rfl
            have hfnc : ∀ f, a.eval (.func f) = .func (.func f) #[] #[] := fun _ => rfl
            refine want_none rfl ?_
            unfold Oper.wp
            generalize a.eval = ρ at *
            go_simp
            try go_bits
            first | exact rel_val (Chg.refl _) | (go_simp; exact rel_val (Chg.refl _))
          case a2o3 =>
            rintro a wx hE hin (h2 : a.eval (.tmp 21) = _)
            clear hin
            have hcst : ∀ v, a.eval (.const v) = v := fun _ => rfl
            have hfnc : ∀ f, a.eval (.func f) = .func (.func f) #[] #[] := fun _ => rfl
            refine want_none rfl ?_
            unfold Oper.wp
            generalize a.eval = ρ at *
            have c := Bk.cell ((M.out.drew).chg hE id) HW3.out
            go_simp
            try go_bits
            first | exact rel_val (Chg.refl _) | (go_simp; exact rel_val (Chg.refl _))
          case a2o4 =>
            intro a wx hE hin
            have i4 : a.eval (.tmp 4) = .slice (some ⟨g4, 0, none⟩) 3 3 := hin 4 rfl
            clear hin
            have hcst : ∀ v, a.eval (.const v) = v := fun _ => rfl
            have hfnc : ∀ f, a.eval (.func f) = .func (.func f) #[] #[] := fun _ => rfl
            refine want_none rfl ?_
            unfold Oper.wp
            generalize a.eval = ρ at *
            go_simp
            try go_bits
            first | exact rel_val (Chg.refl _) | (go_simp; exact rel_val (Chg.refl _))
          case a2o5 =>
            intro a wx hE hin
            have i5 : a.eval (.tmp 5) = .int .i64 2 := hin 5 rfl
            clear hin
            have hcst : ∀ v, a.eval (.const v) = v := fun _ => rfl
            have hfnc : ∀ f, a.eval (.func f) = .func (.func f) #[] #[] := fun _ => rfl
            refine want_none rfl ?_
            unfold Oper.wp
            generalize a.eval = ρ at *
            go_simp
            try go_bits
            first | exact rel_val (Chg.refl _) | (go_simp; exact rel_val (Chg.refl _))
          case a2o6 =>
            rintro a wx hE hin (h5 : a.eval (.tmp 24) = _)
            clear hin
            have hcst : ∀ v, a.eval (.const v) = v := fun _ => rfl
            have hfnc : ∀ f, a.eval (.func f) = .func (.func f) #[] #[] := fun _ => rfl
            refine want_none rfl ?_
            unfold Oper.wp
            generalize a.eval = ρ at *
            go_simp
            try go_bits
            first | exact rel_val (Chg.refl _) | (go_simp; exact rel_val (Chg.refl _))
          case a2o7 =>
            rintro a wx hE hin (h4 : a.eval (.tmp 23) = _) (h6 : a.eval (.tmp 25) = _)
            clear hin
            have hcst : ∀ v, a.eval (.const v) = v := fun _ => rfl
            have hfnc : ∀ f, a.eval (.func f) = .func (.func f) #[] #[] := fun _ => rfl
            refine want_none rfl ?_
            unfold Oper.wp
            generalize a.eval = ρ at *
            go_simp
            try go_bits
            first | exact rel_val (Chg.refl _) | (go_simp; exact rel_val (Chg.refl _))
          case a2o8 =>
            rintro a wx hE hin (h7 : a.eval (.tmp 26) = _)
            clear hin
            have hcst : ∀ v, a.eval (.const v) = v := fun _ => rfl
            have hfnc : ∀ f, a.eval (.func f) = .func (.func f) #[] #[] := fun _ => rfl
            refine want_none rfl ?_
            unfold Oper.wp
            generalize a.eval = ρ at *
            have c := Bk.cell ((R.out.drew).chg hE id) HR0.out
            go_simp
            try go_bits
            first | exact rel_val (Chg.refl _) | (go_simp; exact rel_val (Chg.refl _))
          case a2o9 =>
            intro a wx hE hin
            have i5 : a.eval (.tmp 5) = .int .i64 2 := hin 5 rfl
            clear hin
            have hcst : ∀ v, a.eval (.const v) = v := fun _ => rfl
            have hfnc : ∀ f, a.eval (.func f) = .func (.func f) #[] #[] := fun _ => rfl
            refine want_none rfl ?_
            unfold Oper.wp
            generalize a.eval = ρ at *
            go_simp
            try go_bits
            first | exact rel_val (Chg.refl _) | (go_simp; exact rel_val (Chg.refl _))
          case a2o10 =>
            rintro a wx hE hin (h9 : a.eval (.tmp 28) = _)
            clear hin
            have hcst : ∀ v, a.eval (.const v) = v := fun _ => rfl
            have hfnc : ∀ f, a.eval (.func f) = .func (.func f) #[] #[] := fun _ => rfl
            refine want_none rfl ?_
            unfold Oper.wp
            generalize a.eval = ρ at *
            go_simp
            try go_bits
            first | exact rel_val (Chg.refl _) | (go_simp; exact rel_val (Chg.refl _))
          case a2o11 =>
            rintro a wx hE hin (h10 : a.eval (.tmp 29) = _)
            clear hin
            have hcst : ∀ v, a.eval (.const v) = v := fun _ => rfl
            have hfnc : ∀ f, a.eval (.func f) = .func (.func f) #[] #[] := fun _ => rfl
            refine want_none rfl ?_
            unfold Oper.wp
            generalize a.eval = ρ at *
            go_simp
            try go_bits
            first | exact rel_val (Chg.refl _) | (go_simp; exact rel_val (Chg.refl _))
          case a2o12 =>
            rintro a wx hE hin (h11 : a.eval (.tmp 30) = _)
            clear hin
            have hcst : ∀ v, a.eval (.const v) = v := fun _ => rfl
            have hfnc : ∀ f, a.eval (.func f) = .func (.func f) #[] #[] := fun _ => rfl
            refine want_none rfl ?_
            unfold Oper.wp
            generalize a.eval = ρ at *
            go_simp
            try go_bits
            first | exact rel_val (Chg.refl _) | (go_simp; exact rel_val (Chg.refl _))
          case a2o13 =>
            rintro a wx hE hin (h8 : a.eval (.tmp 27) = _) (h12 : a.eval (.tmp 31) = _)
            clear hin
            have hcst : ∀ v, a.eval (.const v) = v := fun _ => rfl
            have hfnc : ∀ f, a.eval (.func f) = .func (.func f) #[] #[] := fun _ => rfl
            refine want_none rfl ?_
            unfold Oper.wp
            generalize a.eval = ρ at *
            go_simp
            try go_bits
            first | exact rel_val (Chg.refl _) | (go_simp; exact rel_val (Chg.refl _))
          case a2o14 =>
            rintro a wx hE hin (h13 : a.eval (.tmp 32) = _)
            clear hin
            have hcst : ∀ v, a.eval (.const v) = v := fun _ => rfl
            have hfnc : ∀ f, a.eval (.func f) = .func (.func f) #[] #[] := fun _ => rfl
            refine want_none rfl ?_
            unfold Oper.wp
            generalize a.eval = ρ at *
            go_simp
            try go_bits
            first | exact rel_val (Chg.refl _) | (go_simp; exact rel_val (Chg.refl _))
          case a2o15 =>
            rintro a wx hE hin (h3 : a.eval (.tmp 22) = _) (h14 : a.eval (.tmp 33) = _)
            clear hin
            have hcst : ∀ v, a.eval (.const v) = v := fun _ => rfl
            have hfnc : ∀ f, a.eval (.func f) = .func (.func f) #[] #[] := fun _ => rfl
            refine want_none rfl ?_
            unfold Oper.wp
            generalize a.eval = ρ at *
            go_simp
            try go_bits
            first | exact rel_val (e := .bool false) (Chg.refl _) | (simp only [bne_self_eq_false]; exact rel_val (e := .bool false) (Chg.refl _)) | (simp; exact rel_val (e := .bool false) (Chg.refl _))
        case a2fin =>
          intro wx hE
          rintro _ rfl _ rfl _ rfl _ rfl _ rfl _ rfl _ rfl _ rfl _ rfl _ rfl _ rfl _ rfl _ rfl _ rfl _ rfl _ rfl
          simp only [FinOk, List.take_succ_cons, List.take_zero, List.take_nil, List.drop_succ_cons, List.drop_zero, List.drop_nil, Act.put, List.setIfInBounds_toArray, List.set_cons_succ, List.set_cons_zero]
          have M2 := Lib.hid ((M.out.drew).chg hE id)
          have R2 := Lib.hid ((R.out.drew).chg hE id)
          have X2 := Lib.hid ((X.out.drew).chg hE id)
          have E2 : Hid (Below w.heap.size w wx) := E.out.trans ((hE.undrew).below (B := w.heap.size) E.out.size (fun _ _ => id))
          clear hE
          go_wp2_with fail
          go_roundw
          case rel => exact ⟨3, by omega, rfl, M2.out, R2.out, X2.out, E2.out⟩
          case measure => simp [intOf]
      · clear hk
        go_wp2_with fail
        apply wp_region_rel 16 (Chg NoS) [(Veq _), (Veq _), (Veq _), (Veq _), (Veq _), (Veq _), (Veq _), (Veq _), (Veq _), (Veq _), (Veq _), (Veq _), (Veq _), (Veq _), (Veq _), (Veq _)] [[], [0], [1], [2], [], [], [5], [4, 6], [7], [], [9], [10], [11], [8, 12], [13], [3, 14]] [19, 20, 21, 22, 23, 24, 25, 26, 27, 28, 29, 30, 31, 32, 33, 34] (by kernel_rfl) (by kernel_rfl) rfl rfl rfl Chg.refl (fun _ _ _ => Chg.trans) ⟨Veq.lasts, Veq.lasts, Veq.lasts, Veq.lasts, Veq.lasts, Veq.lasts, Veq.lasts, Veq.lasts, Veq.lasts, Veq.lasts, Veq.lasts, Veq.lasts, Veq.lasts, Veq.lasts, Veq.lasts, Veq.lasts, trivial⟩ ?a3ops ?a3fin
        case a3ops =>
          refine ⟨?a3o0, ?a3o1, ?a3o2, ?a3o3, ?a3o4, ?a3o5, ?a3o6, ?a3o7, ?a3o8, ?a3o9, ?a3o10, ?a3o11, ?a3o12, ?a3o13, ?a3o14, ?a3o15, trivial⟩
          case a3o0 =>
            intro a wx hE hin
            have i5 : a.eval (.tmp 5) = .int .i64 3 := hin 5 rfl
            clear hin
            have hcst : ∀ v, a.eval (.const v) = v := fun _ => rfl
            have hfnc : ∀ f, a.eval (.func f) = .func (.func f) #[] #[] := fun _ => rfl
            refine want_none rfl ?_
            unfold Oper.wp
            generalize a.eval = ρ at *
            go_simp
            try go_bits
            first | exact rel_val (Chg.refl _) | (go_simp; exact rel_val (Chg.refl _))
          case a3o1 =>
            rintro a wx hE hin (h0 : a.eval (.tmp 19) = _)
            clear hin
            have hcst : ∀ v, a.eval (.const v) = v := fun _ => rfl
            have hfnc : ∀ f, a.eval (.func f) = .func (.func f) #[] #[] := fun _ => rfl
            refine want_none rfl ?_
            unfold Oper.wp
            generalize a.eval = ρ at *
            go_simp
            try go_bits
            first | exact rel_val (Chg.refl _) | (go_simp; exact rel_val (Chg.refl _))
          case a3o2 =>
            rintro a wx hE hin (h1 : a.eval (.tmp 20) = _)
            have i3 : a.eval (.tmp 3) = .pointer (some ⟨g3, 0, none⟩) := hin 3 rfl
            clear hin
            have hcst : ∀ v, a.eval (.const v) = v := fun _ => rfl
            have hfnc : ∀ f, a.eval (.func f) = .func (.func f) #[] #[] := fun _ => rfl
            refine want_none rfl ?_
            unfold Oper.wp
            generalize a.eval = ρ at *
            go_simp
            try go_bits
            first | exact rel_val (Chg.refl _) | (go_simp; exact rel_val (Chg.refl _))
          case a3o3 =>
            rintro a wx hE hin (h2 : a.eval (.tmp 21) = _)
            clear hin
            have hcst : ∀ v, a.eval (.const v) = v := fun _ => rfl
            have hfnc : ∀ f, a.eval (.func f) = .func (.func f) #[] #[] := fun _ => rfl
            refine want_none rfl ?_
            unfold Oper.wp
            generalize a.eval = ρ at *
            have c := Bk.cell ((M.out.drew).chg hE id) HW4.out
            go_simp
            try go_bits
            first | exact rel_val (Chg.refl _) | (go_simp; exact rel_val (Chg.refl _))
          case a3o4 =>
            intro a wx hE hin
            have i4 : a.eval (.tmp 4) = .slice (some ⟨g4, 0, none⟩) 3 3 := hin 4 rfl
            clear hin
            have hcst : ∀ v, a.eval (.const v) = v := fun _ => rfl
            have hfnc : ∀ f, a.eval (.func f) = .func (.func f) #[] #[] := fun _ => rfl
            refine want_none rfl ?_
            unfold Oper.wp
            generalize a.eval = ρ at *
            go_simp
            try go_bits
            first | exact rel_val (Chg.refl _) | (go_simp; exact rel_val (Chg.refl _))
          case a3o5 =>
            intro a wx hE hin
            have i5 : a.eval (.tmp 5) = .int .i64 3 := hin 5 rfl
            clear hin
            have hcst : ∀ v, a.eval (.const v) = v := fun _ => rfl
            have hfnc : ∀ f, a.eval (.func f) = .func (.func f) #[] #[] := fun _ => rfl
            refine want_none rfl ?_
            unfold Oper.wp
            generalize a.eval = ρ at *
            go_simp
            try go_bits
            first | exact rel_val (Chg.refl _) | (go_simp; exact rel_val (Chg.refl _))
          case a3o6 =>
            rintro a wx hE hin (h5 : a.eval (.tmp 24) = _)
            clear hin
            have hcst : ∀ v, a.eval (.const v) = v := fun _ => rfl
            have hfnc : ∀ f, a.eval (.func f) = .func (.func f) #[] #[] := fun _ => rfl
            refine want_none rfl ?_
            unfold Oper.wp
            generalize a.eval = ρ at *
            go_simp
            try go_bits
            first | exact rel_val (Chg.refl _) | (go_simp; exact rel_val (Chg.refl _))
          case a3o7 =>
            rintro a wx hE hin (h4 : a.eval (.tmp 23) = _) (h6 : a.eval (.tmp 25) = _)
            clear hin
            have hcst : ∀ v, a.eval (.const v) = v := fun _ => rfl
            have hfnc : ∀ f, a.eval (.func f) = .func (.func f) #[] #[] := fun _ => rfl
            refine want_none rfl ?_
            unfold Oper.wp
            generalize a.eval = ρ at *
            go_simp
            try go_bits
            first | exact rel_val (Chg.refl _) | (go_simp; exact rel_val (Chg.refl _))
          case a3o8 =>
            rintro a wx hE hin (h7 : a.eval (.tmp 26) = _)
            clear hin
            have hcst : ∀ v, a.eval (.const v) = v := fun _ => rfl
            have hfnc : ∀ f, a.eval (.func f) = .func (.func f) #[] #[] := fun _ => rfl
            refine want_none rfl ?_
            unfold Oper.wp
            generalize a.eval = ρ at *
            have c := Bk.cell ((R.out.drew).chg hE id) HR0.out
            go_simp
            try go_bits
            first | exact rel_val (Chg.refl _) | (go_simp; exact rel_val (Chg.refl _))
          case a3o9 =>
            intro a wx hE hin
            have i5 : a.eval (.tmp 5) = .int .i64 3 := hin 5 rfl
            clear hin
            have hcst : ∀ v, a.eval (.const v) = v := fun _ => rfl
            have hfnc : ∀ f, a.eval (.func f) = .func (.func f) #[] #[] := fun _ => rfl
            refine want_none rfl ?_
            unfold Oper.wp
            generalize a.eval = ρ at *
            go_simp
            try go_bits
            first | exact rel_val (Chg.refl _) | (go_simp; exact rel_val (Chg.refl _))
          case a3o10 =>
            rintro a wx hE hin (h9 : a.eval (.tmp 28) = _)
            clear hin
            have hcst : ∀ v, a.eval (.const v) = v := fun _ => rfl
            have hfnc : ∀ f, a.eval (.func f) = .func (.func f) #[] #[] := fun _ => rfl
            refine want_none rfl ?_
            unfold Oper.wp
            generalize a.eval = ρ at *
            go_simp
            try go_bits
            first | exact rel_val (Chg.refl _) | (go_simp; exact rel_val (Chg.refl _))
          case a3o11 =>
            rintro a wx hE hin (h10 : a.eval (.tmp 29) = _)
            clear hin
            have hcst : ∀ v, a.eval (.const v) = v := fun _ => rfl
            have hfnc : ∀ f, a.eval (.func f) = .func (.func f) #[] #[] := fun _ => rfl
            refine want_none rfl ?_
            unfold Oper.wp
            generalize a.eval = ρ at *
            go_simp
            try go_bits
            first | exact rel_val (Chg.refl _) | (go_simp; exact rel_val (Chg.refl _))
          case a3o12 =>
            rintro a wx hE hin (h11 : a.eval (.tmp 30) = _)
            clear hin
            have hcst : ∀ v, a.eval (.const v) = v := fun _ => rfl
            have hfnc : ∀ f, a.eval (.func f) = .func (.func f) #[] #[] := fun _ => rfl
            refine want_none rfl ?_
            unfold Oper.wp
            generalize a.eval = ρ at *
            go_simp
            try go_bits
            first | exact rel_val (Chg.refl _) | (go_simp; exact rel_val (Chg.refl _))
          case a3o13 =>
            rintro a wx hE hin (h8 : a.eval (.tmp 27) = _) (h12 : a.eval (.tmp 31) = _)
            clear hin
            have hcst : ∀ v, a.eval (.const v) = v := fun _ => rfl
            have hfnc : ∀ f, a.eval (.func f) = .func (.func f) #[] #[] := fun _ => rfl
            refine want_none rfl ?_
            unfold Oper.wp
            generalize a.eval = ρ at *
            go_simp
            try go_bits
            first | exact rel_val (Chg.refl _) | (go_simp; exact rel_val (Chg.refl _))
          case a3o14 =>
            rintro a wx hE hin (h13 : a.eval (.tmp 32) = _)
            clear hin
            have hcst : ∀ v, a.eval (.const v) = v := fun _ => rfl
            have hfnc : ∀ f, a.eval (.func f) = .func (.func f) #[] #[] := fun _ => rfl
            refine want_none rfl ?_
            unfold Oper.wp
            generalize a.eval = ρ at *
            go_simp
            try go_bits
            first | exact rel_val (Chg.refl _) | (go_simp; exact rel_val (Chg.refl _))
          case a3o15 =>
            rintro a wx hE hin (h3 : a.eval (.tmp 22) = _) (h14 : a.eval (.tmp 33) = _)
            clear hin
            have hcst : ∀ v, a.eval (.const v) = v := fun _ => rfl
            have hfnc : ∀ f, a.eval (.func f) = .func (.func f) #[] #[] := fun _ => rfl
            refine want_none rfl ?_
            unfold Oper.wp
            generalize a.eval = ρ at *
            go_simp
            try go_bits
            first | exact rel_val (e := .bool false) (Chg.refl _) | (simp only [bne_self_eq_false]; exact rel_val (e := .bool false) (Chg.refl _)) | (simp; exact rel_val (e := .bool false) (Chg.refl _))
        case a3fin =>
          intro wx hE
          rintro _ rfl _ rfl _ rfl _ rfl _ rfl _ rfl _ rfl _ rfl _ rfl _ rfl _ rfl _ rfl _ rfl _ rfl _ rfl _ rfl
          simp only [FinOk, List.take_succ_cons, List.take_zero, List.take_nil, List.drop_succ_cons, List.drop_zero, List.drop_nil, Act.put, List.setIfInBounds_toArray, List.set_cons_succ, List.set_cons_zero]
          have M2 := Lib.hid ((M.out.drew).chg hE id)
          have R2 := Lib.hid ((R.out.drew).chg hE id)
          have X2 := Lib.hid ((X.out.drew).chg hE id)
          have E2 : Hid (Below w.heap.size w wx) := E.out.trans ((hE.undrew).below (B := w.heap.size) E.out.size (fun _ _ => id))
          clear hE
          go_wp2_with fail
          go_roundw
          case rel => exact ⟨4, by omega, rfl, M2.out, R2.out, X2.out, E2.out⟩
          case measure => simp [intOf]
      · clear hk
        go_wp2_with fail
        apply wp_region_rel 16 (Chg NoS) [(Veq _), (Veq _), (Veq _), (Veq _), (Veq _), (Veq _), (Veq _), (Veq _), (Veq _), (Veq _), (Veq _), (Veq _), (Veq _), (Veq _), (Veq _), (Veq _)] [[], [0], [1], [2], [], [], [5], [4, 6], [7], [], [9], [10], [11], [8, 12], [13], [3, 14]] [19, 20, 21, 22, 23, 24, 25, 26, 27, 28, 29, 30, 31, 32, 33, 34] (by kernel_rfl) (by kernel_rfl) rfl rfl rfl Chg.refl (fun _ _ _ => Chg.trans) ⟨Veq.lasts, Veq.lasts, Veq.lasts, Veq.lasts, Veq.lasts, Veq.lasts, Veq.lasts, Veq.lasts, Veq.lasts, Veq.lasts, Veq.lasts, Veq.lasts, Veq.lasts, Veq.lasts, Veq.lasts, Veq.lasts, trivial⟩ ?a4ops ?a4fin
        case a4ops =>
          refine ⟨?a4o0, ?a4o1, ?a4o2, ?a4o3, ?a4o4, ?a4o5, ?a4o6, ?a4o7, ?a4o8, ?a4o9, ?a4o10, ?a4o11, ?a4o12, ?a4o13, ?a4o14, ?a4o15, trivial⟩
          case a4o0 =>
            intro a wx hE hin
            have i5 : a.eval (.tmp 5) = .int .i64 4 := hin 5 rfl
            clear hin
            have hcst : ∀ v, a.eval (.const v) = v := fun _ => rfl
            have hfnc : ∀ f, a.eval (.func f) = .func (.func f) #[] #[] := fun _ => rfl
            refine want_none rfl ?_
            unfold Oper.wp
            generalize a.eval = ρ at *
            go_simp
            try go_bits
            first | exact rel_val (Chg.refl _) | (go_simp; exact rel_val (Chg.refl _))
          case a4o1 =>
            rintro a wx hE hin (h0 : a.eval (.tmp 19) = _)
            clear hin
            have hcst : ∀ v, a.eval (.const v) = v := fun _ => rfl
            have hfnc : ∀ f, a.eval (.func f) = .func (.func f) #[] #[] := fun _ => rfl
            refine want_none rfl ?_
            unfold Oper.wp
            generalize a.eval = ρ at *
            go_simp
            try go_bits
            first | exact rel_val (Chg.refl _) | (go_simp; exact rel_val (Chg.refl _))
          case a4o2 =>
            rintro a wx hE hin (h1 : a.eval (.tmp 20) = _)
            have i3 : a.eval (.tmp 3) = .pointer (some ⟨g3, 0, none⟩) := hin 3 rfl
            clear hin
            have hcst : ∀ v, a.eval (.const v) = v := fun _ => rfl
            have hfnc : ∀ f, a.eval (.func f) = .func (.func f) #[] #[] := fun _ => rfl
            refine want_none rfl ?_
            unfold Oper.wp
            generalize a.eval = ρ at *
            go_simp
            try go_bits
            first | exact rel_val (Chg.refl _) | (go_simp; exact rel_val (Chg.refl _))
          case a4o3 =>
            rintro a wx hE hin (h2 : a.eval (.tmp 21) = _)
            clear hin
            have hcst : ∀ v, a.eval (.const v) = v := fun _ => rfl
            have hfnc : ∀ f, a.eval (.func f) = .func (.func f) #[] #[] := fun _ => rfl
            refine want_none rfl ?_
            unfold Oper.wp
            generalize a.eval = ρ at *
            have c := Bk.cell ((M.out.drew).chg hE id) HW5.out
            go_simp
            try go_bits
            first | exact rel_val (Chg.refl _) | (go_simp; exact rel_val (Chg.refl _))
          case a4o4 =>
            intro a wx hE hin
            have i4 : a.eval (.tmp 4) = .slice (some ⟨g4, 0, none⟩) 3 3 := hin 4 rfl
            clear hin
            have hcst : ∀ v, a.eval (.const v) = v := fun _ => rfl
            have hfnc : ∀ f, a.eval (.func f) = .func (.func f) #[] #[] := fun _ => rfl
            refine want_none rfl ?_
            unfold Oper.wp
            generalize a.eval = ρ at *
            go_simp
            try go_bits
            first | exact rel_val (Chg.refl _) | (go_simp; exact rel_val (Chg.refl _))
          case a4o5 =>
            intro a wx hE hin
            have i5 : a.eval (.tmp 5) = .int .i64 4 := hin 5 rfl
            clear hin
            have hcst : ∀ v, a.eval (.const v) = v := fun _ => rfl
            have hfnc : ∀ f, a.eval (.func f) = .func (.func f) #[] #[] := fun _ => rfl
            refine want_none rfl ?_
            unfold Oper.wp
            generalize a.eval = ρ at *
            go_simp
            try go_bits
            first | exact rel_val (Chg.refl _) | (go_simp; exact rel_val (Chg.refl _))
          case a4o6 =>
            rintro a wx hE hin (h5 : a.eval (.tmp 24) = _)
            clear hin
            have hcst : ∀ v, a.eval (.const v) = v := fun _ => rfl
            have hfnc : ∀ f, a.eval (.func f) = .func (.func f) #[] #[] := fun _ => rfl
            refine want_none rfl ?_
            unfold Oper.wp
            generalize a.eval = ρ at *
            go_simp
            try go_bits
            first | exact rel_val (Chg.refl _) | (go_simp; exact rel_val (Chg.refl _))
          case a4o7 =>
            rintro a wx hE hin (h4 : a.eval (.tmp 23) = _) (h6 : a.eval (.tmp 25) = _)
            clear hin
            have hcst : ∀ v, a.eval (.const v) = v := fun _ => rfl
            have hfnc : ∀ f, a.eval (.func f) = .func (.func f) #[] #[] := fun _ => rfl
            refine want_none rfl ?_
            unfold Oper.wp
            generalize a.eval = ρ at *
            go_simp
            try go_bits
            first | exact rel_val (Chg.refl _) | (go_simp; exact rel_val (Chg.refl _))
          case a4o8 =>
            rintro a wx hE hin (h7 : a.eval (.tmp 26) = _)
            clear hin
            have hcst : ∀ v, a.eval (.const v) = v := fun _ => rfl
            have hfnc : ∀ f, a.eval (.func f) = .func (.func f) #[] #[] := fun _ => rfl
            refine want_none rfl ?_
            unfold Oper.wp
            generalize a.eval = ρ at *
            have c := Bk.cell ((R.out.drew).chg hE id) HR1.out
            go_simp
            try go_bits
            first | exact rel_val (Chg.refl _) | (go_simp; exact rel_val (Chg.refl _))
          case a4o9 =>
            intro a wx hE hin
            have i5 : a.eval (.tmp 5) = .int .i64 4 := hin 5 rfl
            clear hin
            have hcst : ∀ v, a.eval (.const v) = v := fun _ => rfl
            have hfnc : ∀ f, a.eval (.func f) = .func (.func f) #[] #[] := fun _ => rfl
            refine want_none rfl ?_
            unfold Oper.wp
            generalize a.eval = ρ at *
            go_simp
            try go_bits
            first | exact rel_val (Chg.refl _) | (go_simp; exact rel_val (Chg.refl _))
          case a4o10 =>
            rintro a wx hE hin (h9 : a.eval (.tmp 28) = _)
            clear hin
            have hcst : ∀ v, a.eval (.const v) = v := fun _ => rfl
            have hfnc : ∀ f, a.eval (.func f) = .func (.func f) #[] #[] := fun _ => rfl
            refine want_none rfl ?_
            unfold Oper.wp
            generalize a.eval = ρ at *
            go_simp
            try go_bits
            first | exact rel_val (Chg.refl _) | (go_simp; exact rel_val (Chg.refl _))
          case a4o11 =>
            rintro a wx hE hin (h10 : a.eval (.tmp 29) = _)
            clear hin
            have hcst : ∀ v, a.eval (.const v) = v := fun _ => rfl
            have hfnc : ∀ f, a.eval (.func f) = .func (.func f) #[] #[] := fun _ => rfl
            refine want_none rfl ?_
            unfold Oper.wp
            generalize a.eval = ρ at *
            go_simp
            try go_bits
            first | exact rel_val (Chg.refl _) | (go_simp; exact rel_val (Chg.refl _))
          case a4o12 =>
            rintro a wx hE hin (h11 : a.eval (.tmp 30) = _)
            clear hin
            have hcst : ∀ v, a.eval (.const v) = v := fun _ => rfl
            have hfnc : ∀ f, a.eval (.func f) = .func (.func f) #[] #[] := fun _ => rfl
            refine want_none rfl ?_
            unfold Oper.wp
            generalize a.eval = ρ at *
            go_simp
            try go_bits
            first | exact rel_val (Chg.refl _) | (go_simp; exact rel_val (Chg.refl _))
          case a4o13 =>
            rintro a wx hE hin (h8 : a.eval (.tmp 27) = _) (h12 : a.eval (.tmp 31) = _)
            clear hin
            have hcst : ∀ v, a.eval (.const v) = v := fun _ => rfl
            have hfnc : ∀ f, a.eval (.func f) = .func (.func f) #[] #[] := fun _ => rfl
            refine want_none rfl ?_
            unfold Oper.wp
            generalize a.eval = ρ at *
            go_simp
            try go_bits
            first | exact rel_val (Chg.refl _) | (go_simp; exact rel_val (Chg.refl _))
          case a4o14 =>
            rintro a wx hE hin (h13 : a.eval (.tmp 32) = _)
            clear hin
            have hcst : ∀ v, a.eval (.const v) = v := fun _ => rfl
            have hfnc : ∀ f, a.eval (.func f) = .func (.func f) #[] #[] := fun _ => rfl
            refine want_none rfl ?_
            unfold Oper.wp
            generalize a.eval = ρ at *
            go_simp
            try go_bits
            first | exact rel_val (Chg.refl _) | (go_simp; exact rel_val (Chg.refl _))
          case a4o15 =>
            rintro a wx hE hin (h3 : a.eval (.tmp 22) = _) (h14 : a.eval (.tmp 33) = _)
            clear hin
            have hcst : ∀ v, a.eval (.const v) = v := fun _ => rfl
            have hfnc : ∀ f, a.eval (.func f) = .func (.func f) #[] #[] := fun _ => rfl
            refine want_none rfl ?_
            unfold Oper.wp
            generalize a.eval = ρ at *
            go_simp
            try go_bits
            first | exact rel_val (e := .bool false) (Chg.refl _) | (simp only [bne_self_eq_false]; exact rel_val (e := .bool false) (Chg.refl _)) | (simp; exact rel_val (e := .bool false) (Chg.refl _))
        case a4fin =>
          intro wx hE
          rintro _ rfl _ rfl _ rfl _ rfl _ rfl _ rfl _ rfl _ rfl _ rfl _ rfl _ rfl _ rfl _ rfl _ rfl _ rfl _ rfl
          simp only [FinOk, List.take_succ_cons, List.take_zero, List.take_nil, List.drop_succ_cons, List.drop_zero, List.drop_nil, Act.put, List.setIfInBounds_toArray, List.set_cons_succ, List.set_cons_zero]
          have M2 := Lib.hid ((M.out.drew).chg hE id)
          have R2 := Lib.hid ((R.out.drew).chg hE id)
          have X2 := Lib.hid ((X.out.drew).chg hE id)
          have E2 : Hid (Below w.heap.size w wx) := E.out.trans ((hE.undrew).below (B := w.heap.size) E.out.size (fun _ _ => id))
          clear hE
          go_wp2_with fail
          go_roundw
          case rel => exact ⟨5, by omega, rfl, M2.out, R2.out, X2.out, E2.out⟩
          case measure => simp [intOf]
      · clear hk
        go_wp2_with fail
        apply wp_region_rel 16 (Chg NoS) [(Veq _), (Veq _), (Veq _), (Veq _), (Veq _), (Veq _), (Veq _), (Veq _), (Veq _), (Veq _), (Veq _), (Veq _), (Veq _), (Veq _), (Veq _), (Veq _)] [[], [0], [1], [2], [], [], [5], [4, 6], [7], [], [9], [10], [11], [8, 12], [13], [3, 14]] [19, 20, 21, 22, 23, 24, 25, 26, 27, 28, 29, 30, 31, 32, 33, 34] (by kernel_rfl) (by kernel_rfl) rfl rfl rfl Chg.refl (fun _ _ _ => Chg.trans) ⟨Veq.lasts, Veq.lasts, Veq.lasts, Veq.lasts, Veq.lasts, Veq.lasts, Veq.lasts, Veq.lasts, Veq.lasts, Veq.lasts, Veq.lasts, Veq.lasts, Veq.lasts, Veq.lasts, Veq.lasts, Veq.lasts, trivial⟩ ?a5ops ?a5fin
        case a5ops =>
          refine ⟨?a5o0, ?a5o1, ?a5o2, ?a5o3, ?a5o4, ?a5o5, ?a5o6, ?a5o7, ?a5o8, ?a5o9, ?a5o10, ?a5o11, ?a5o12, ?a5o13, ?a5o14, ?a5o15, trivial⟩
          case a5o0 =>
            intro a wx hE hin
            have i5 : a.eval (.tmp 5) = .int .i64 5 := hin 5 rfl
            clear hin
            have hcst : ∀ v, a.eval (.const v) = v := fun _ => rfl
            have hfnc : ∀ f, a.eval (.func f) = .func (.func f) #[] #[] := fun _ => rfl
            refine want_none rfl ?_
            unfold Oper.wp
            generalize a.eval = ρ at *
            go_simp
            try go_bits
            first | exact rel_val (Chg.refl _) | (go_simp; exact rel_val (Chg.refl _))
          case a5o1 =>
            rintro a wx hE hin (h0 : a.eval (.tmp 19) = _)
            clear hin
            have hcst : ∀ v, a.eval (.const v) = v := fun _ => rfl
            have hfnc : ∀ f, a.eval (.func f) = .func (.func f) #[] #[] := fun _ => rfl
            refine want_none rfl ?_
            unfold Oper.wp
            generalize a.eval = ρ at *
            go_simp
            try go_bits
            first | exact rel_val (Chg.refl _) | (go_simp; exact rel_val (Chg.refl _))
          case a5o2 =>
            rintro a wx hE hin (h1 : a.eval (.tmp 20) = _)
            have i3 : a.eval (.tmp 3) = .pointer (some ⟨g3, 0, none⟩) := hin 3 rfl
            clear hin
            have hcst : ∀ v, a.eval (.const v) = v := fun _ => rfl
            have hfnc : ∀ f, a.eval (.func f) = .func (.func f) #[] #[] := fun _ => rfl
            refine want_none rfl ?_
            unfold Oper.wp
            generalize a.eval = ρ at *
            go_simp
            try go_bits
            first | exact rel_val (Chg.refl _) | (go_simp; exact rel_val (Chg.refl _))
          case a5o3 =>
            rintro a wx hE hin (h2 : a.eval (.tmp 21) = _)
            clear hin
            have hcst : ∀ v, a.eval (.const v) = v := fun _ => rfl
            have hfnc : ∀ f, a.eval (.func f) = .func (.func f) #[] #[] := fun _ => rfl
            refine want_none rfl ?_
            unfold Oper.wp
            generalize a.eval = ρ at *
            have c := Bk.cell ((M.out.drew).chg hE id) HW6.out
            go_simp
            try go_bits
            first | exact rel_val (Chg.refl _) | (go_simp; exact rel_val (Chg.refl _))
          case a5o4 =>
            intro a wx hE hin
            have i4 : a.eval (.tmp 4) = .slice (some ⟨g4, 0, none⟩) 3 3 := hin 4 rfl
            clear hin
            have hcst : ∀ v, a.eval (.const v) = v := fun _ => rfl
            have hfnc : ∀ f, a.eval (.func f) = .func (.func f) #[] #[] := fun _ => rfl
            refine want_none rfl ?_
            unfold Oper.wp
            generalize a.eval = ρ at *
            go_simp
            try go_bits
            first | exact rel_val (Chg.refl _) | (go_simp; exact rel_val (Chg.refl _))
          case a5o5 =>
            intro a wx hE hin
            have i5 : a.eval (.tmp 5) = .int .i64 5 := hin 5 rfl
            clear hin
            have hcst : ∀ v, a.eval (.const v) = v := fun _ => rfl
            have hfnc : ∀ f, a.eval (.func f) = .func (.func f) #[] #[] := fun _ => rfl
            refine want_none rfl ?_
            unfold Oper.wp
            generalize a.eval = ρ at *
            go_simp
            try go_bits
            first | exact rel_val (Chg.refl _) | (go_simp; exact rel_val (Chg.refl _))
          case a5o6 =>
            rintro a wx hE hin (h5 : a.eval (.tmp 24) = _)
            clear hin
            have hcst : ∀ v, a.eval (.const v) = v := fun _ => rfl
            have hfnc : ∀ f, a.eval (.func f) = .func (.func f) #[] #[] := fun _ => rfl
            refine want_none rfl ?_
            unfold Oper.wp
            generalize a.eval = ρ at *
            go_simp
            try go_bits
            first | exact rel_val (Chg.refl _) | (go_simp; exact rel_val (Chg.refl _))
          case a5o7 =>
            rintro a wx hE hin (h4 : a.eval (.tmp 23) = _) (h6 : a.eval (.tmp 25) = _)
            clear hin
            have hcst : ∀ v, a.eval (.const v) = v := fun _ => rfl
            have hfnc : ∀ f, a.eval (.func f) = .func (.func f) #[] #[] := fun _ => rfl
            refine want_none rfl ?_
            unfold Oper.wp
            generalize a.eval = ρ at *
            go_simp
            try go_bits
            first | exact rel_val (Chg.refl _) | (go_simp; exact rel_val (Chg.refl _))
          case a5o8 =>
            rintro a wx hE hin (h7 : a.eval (.tmp 26) = _)
            clear hin
            have hcst : ∀ v, a.eval (.const v) = v := fun _ => rfl
            have hfnc : ∀ f, a.eval (.func f) = .func (.func f) #[] #[] := fun _ => rfl
            refine want_none rfl ?_
            unfold Oper.wp
            generalize a.eval = ρ at *
            have c := Bk.cell ((R.out.drew).chg hE id) HR1.out
            go_simp
            try go_bits
            first | exact rel_val (Chg.refl _) | (go_simp; exact rel_val (Chg.refl _))
          case a5o9 =>
            intro a wx hE hin
            have i5 : a.eval (.tmp 5) = .int .i64 5 := hin 5 rfl
            clear hin
            have hcst : ∀ v, a.eval (.const v) = v := fun _ => rfl
            have hfnc : ∀ f, a.eval (.func f) = .func (.func f) #[] #[] := fun _ => rfl
            refine want_none rfl ?_
            unfold Oper.wp
            generalize a.eval = ρ at *
            go_simp
            try go_bits
            first | exact rel_val (Chg.refl _) | (go_simp; exact rel_val (Chg.refl _))
          case a5o10 =>
            rintro a wx hE hin (h9 : a.eval (.tmp 28) = _)
            clear hin
            have hcst : ∀ v, a.eval (.const v) = v := fun _ => rfl
            have hfnc : ∀ f, a.eval (.func f) = .func (.func f) #[] #[] := fun _ => rfl
            refine want_none rfl ?_
            unfold Oper.wp
            generalize a.eval = ρ at *
            go_simp
            try go_bits
            first | exact rel_val (Chg.refl _) | (go_simp; exact rel_val (Chg.refl _))
          case a5o11 =>
            rintro a wx hE hin (h10 : a.eval (.tmp 29) = _)
            clear hin
            have hcst : ∀ v, a.eval (.const v) = v := fun _ => rfl
            have hfnc : ∀ f, a.eval (.func f) = .func (.func f) #[] #[] := fun _ => rfl
            refine want_none rfl ?_
            unfold Oper.wp
            generalize a.eval = ρ at *
            go_simp
            try go_bits
            first | exact rel_val (Chg.refl _) | (go_simp; exact rel_val (Chg.refl _))
          case a5o12 =>
            rintro a wx hE hin (h11 : a.eval (.tmp 30) = _)
            clear hin
            have hcst : ∀ v, a.eval (.const v) = v := fun _ => rfl
            have hfnc : ∀ f, a.eval (.func f) = .func (.func f) #[] #[] := fun _ => rfl
            refine want_none rfl ?_
            unfold Oper.wp
            generalize a.eval = ρ at *
            go_simp
            try go_bits
            first | exact rel_val (Chg.refl _) | (go_simp; exact rel_val (Chg.refl _))
          case a5o13 =>
            rintro a wx hE hin (h8 : a.eval (.tmp 27) = _) (h12 : a.eval (.tmp 31) = _)
            clear hin
            have hcst : ∀ v, a.eval (.const v) = v := fun _ => rfl
            have hfnc : ∀ f, a.eval (.func f) = .func (.func f) #[] #[] := fun _ => rfl
            refine want_none rfl ?_
            unfold Oper.wp
            generalize a.eval = ρ at *
            go_simp
            try go_bits
            first | exact rel_val (Chg.refl _) | (go_simp; exact rel_val (Chg.refl _))
          case a5o14 =>
            rintro a wx hE hin (h13 : a.eval (.tmp 32) = _)
            clear hin
            have hcst : ∀ v, a.eval (.const v) = v := fun _ => rfl
            have hfnc : ∀ f, a.eval (.func f) = .func (.func f) #[] #[] := fun _ => rfl
            refine want_none rfl ?_
            unfold Oper.wp
            generalize a.eval = ρ at *
            go_simp
            try go_bits
            first | exact rel_val (Chg.refl _) | (go_simp; exact rel_val (Chg.refl _))
          case a5o15 =>
            rintro a wx hE hin (h3 : a.eval (.tmp 22) = _) (h14 : a.eval (.tmp 33) = _)
            clear hin
            have hcst : ∀ v, a.eval (.const v) = v := fun _ => rfl
            have hfnc : ∀ f, a.eval (.func f) = .func (.func f) #[] #[] := fun _ => rfl
            refine want_none rfl ?_
            unfold Oper.wp
            generalize a.eval = ρ at *
            go_simp
            try go_bits
            first | exact rel_val (e := .bool false) (Chg.refl _) | (simp only [bne_self_eq_false]; exact rel_val (e := .bool false) (Chg.refl _)) | (simp; exact rel_val (e := .bool false) (Chg.refl _))
        case a5fin =>
          intro wx hE
          rintro _ rfl _ rfl _ rfl _ rfl _ rfl _ rfl _ rfl _ rfl _ rfl _ rfl _ rfl _ rfl _ rfl _ rfl _ rfl _ rfl
          simp only [FinOk, List.take_succ_cons, List.take_zero, List.take_nil, List.drop_succ_cons, List.drop_zero, List.drop_nil, Act.put, List.setIfInBounds_toArray, List.set_cons_succ, List.set_cons_zero]
          have M2 := Lib.hid ((M.out.drew).chg hE id)
          have R2 := Lib.hid ((R.out.drew).chg hE id)
          have X2 := Lib.hid ((X.out.drew).chg hE id)
          have E2 : Hid (Below w.heap.size w wx) := E.out.trans ((hE.undrew).below (B := w.heap.size) E.out.size (fun _ _ => id))
          clear hE
          go_wp2_with fail
          go_roundw
          case rel => exact ⟨6, by omega, rfl, M2.out, R2.out, X2.out, E2.out⟩
          case measure => simp [intOf]
      · clear hk
        go_wp2_with fail
        apply wp_region_rel 16 (Chg NoS) [(Veq _), (Veq _), (Veq _), (Veq _), (Veq _), (Veq _), (Veq _), (Veq _), (Veq _), (Veq _), (Veq _), (Veq _), (Veq _), (Veq _), (Veq _), (Veq _)] [[], [0], [1], [2], [], [], [5], [4, 6], [7], [], [9], [10], [11], [8, 12], [13], [3, 14]] [19, 20, 21, 22, 23, 24, 25, 26, 27, 28, 29, 30, 31, 32, 33, 34] (by kernel_rfl) (by kernel_rfl) rfl rfl rfl Chg.refl (fun _ _ _ => Chg.trans) ⟨Veq.lasts, Veq.lasts, Veq.lasts, Veq.lasts, Veq.lasts, Veq.lasts, Veq.lasts, Veq.lasts, Veq.lasts, Veq.lasts, Veq.lasts, Veq.lasts, Veq.lasts, Veq.lasts, Veq.lasts, Veq.lasts, trivial⟩ ?a6ops ?a6fin
        case a6ops =>
          refine ⟨?a6o0, ?a6o1, ?a6o2, ?a6o3, ?a6o4, ?a6o5, ?a6o6, ?a6o7, ?a6o8, ?a6o9, ?a6o10, ?a6o11, ?a6o12, ?a6o13, ?a6o14, ?a6o15, trivial⟩
          case a6o0 =>
            intro a wx hE hin
            have i5 : a.eval (.tmp 5) = .int .i64 6 := hin 5 rfl
            clear hin
            have hcst : ∀ v, a.eval (.const v) = v := fun _ => rfl
            have hfnc : ∀ f, a.eval (.func f) = .func (.func f) #[] #[] := fun _ => rfl
            refine want_none rfl ?_
            unfold Oper.wp
            generalize a.eval = ρ at *
            go_simp
            try go_bits
            first | exact rel_val (Chg.refl _) | (go_simp; exact rel_val (Chg.refl _))
          case a6o1 =>
            rintro a wx hE hin (h0 : a.eval (.tmp 19) = _)
            clear hin
            have hcst : ∀ v, a.eval (.const v) = v := fun _ => rfl
            have hfnc : ∀ f, a.eval (.func f) = .func (.func f) #[] #[] := fun _ => rfl
            refine want_none rfl ?_
            unfold Oper.wp
            generalize a.eval = ρ at *
            go_simp
            try go_bits
            first | exact rel_val (Chg.refl _) | (go_simp; exact rel_val (Chg.refl _))
          case a6o2 =>
            rintro a wx hE hin (h1 : a.eval (.tmp 20) = _)
            have i3 : a.eval (.tmp 3) = .pointer (some ⟨g3, 0, none⟩) := hin 3 rfl
            clear hin
            have hcst : ∀ v, a.eval (.const v) = v := fun _ => rfl
            have hfnc : ∀ f, a.eval (.func f) = .func (.func f) #[] #[] := fun _ => rfl
            refine want_none rfl ?_
            unfold Oper.wp
            generalize a.eval = ρ at *
            go_simp
            try go_bits
            first | exact rel_val (Chg.refl _) | (go_simp; exact rel_val (Chg.refl _))
          case a6o3 =>
            rintro a wx hE hin (h2 : a.eval (.tmp 21) = _)
            clear hin
            have hcst : ∀ v, a.eval (.const v) = v := fun _ => rfl
            have hfnc : ∀ f, a.eval (.func f) = .func (.func f) #[] #[] := fun _ => rfl
            refine want_none rfl ?_
            unfold Oper.wp
            generalize a.eval = ρ at *
            have c := Bk.cell ((M.out.drew).chg hE id) HW7.out
            go_simp
            try go_bits
            first | exact rel_val (Chg.refl _) | (go_simp; exact rel_val (Chg.refl _))
          case a6o4 =>
            intro a wx hE hin
            have i4 : a.eval (.tmp 4) = .slice (some ⟨g4, 0, none⟩) 3 3 := hin 4 rfl
            clear hin
            have hcst : ∀ v, a.eval (.const v) = v := fun _ => rfl
            have hfnc : ∀ f, a.eval (.func f) = .func (.func f) #[] #[] := fun _ => rfl
            refine want_none rfl ?_
            unfold Oper.wp
            generalize a.eval = ρ at *
            go_simp
            try go_bits
            first | exact rel_val (Chg.refl _) | (go_simp; exact rel_val (Chg.refl _))
          case a6o5 =>
            intro a wx hE hin
            have i5 : a.eval (.tmp 5) = .int .i64 6 := hin 5 rfl
            clear hin
            have hcst : ∀ v, a.eval (.const v) = v := fun _ => rfl
            have hfnc : ∀ f, a.eval (.func f) = .func (.func f) #[] #[] := fun _ => rfl
            refine want_none rfl ?_
            unfold Oper.wp
            generalize a.eval = ρ at *
            go_simp
            try go_bits
            first | exact rel_val (Chg.refl _) | (go_simp; exact rel_val (Chg.refl _))
          case a6o6 =>
            rintro a wx hE hin (h5 : a.eval (.tmp 24) = _)
            clear hin
            have hcst : ∀ v, a.eval (.const v) = v := fun _ => rfl
            have hfnc : ∀ f, a.eval (.func f) = .func (.func f) #[] #[] := fun _ => rfl
            refine want_none rfl ?_
            unfold Oper.wp
            generalize a.eval = ρ at *
            go_simp
            try go_bits
            first | exact rel_val (Chg.refl _) | (go_simp; exact rel_val (Chg.refl _))
          case a6o7 =>
            rintro a wx hE hin (h4 : a.eval (.tmp 23) = _) (h6 : a.eval (.tmp 25) = _)
            clear hin
            have hcst : ∀ v, a.eval (.const v) = v := fun _ => rfl
            have hfnc : ∀ f, a.eval (.func f) = .func (.func f) #[] #[] := fun _ => rfl
            refine want_none rfl ?_
            unfold Oper.wp
            generalize a.eval = ρ at *
            go_simp
            try go_bits
            first | exact rel_val (Chg.refl _) | (go_simp; exact rel_val (Chg.refl _))
          case a6o8 =>
            rintro a wx hE hin (h7 : a.eval (.tmp 26) = _)
            clear hin
            have hcst : ∀ v, a.eval (.const v) = v := fun _ => rfl
            have hfnc : ∀ f, a.eval (.func f) = .func (.func f) #[] #[] := fun _ => rfl
            refine want_none rfl ?_
            unfold Oper.wp
            generalize a.eval = ρ at *
            have c := Bk.cell ((R.out.drew).chg hE id) HR1.out
            go_simp
            try go_bits
            first | exact rel_val (Chg.refl _) | (go_simp; exact rel_val (Chg.refl _))
          case a6o9 =>
            intro a wx hE hin
            have i5 : a.eval (.tmp 5) = .int .i64 6 := hin 5 rfl
            clear hin
            have hcst : ∀ v, a.eval (.const v) = v := fun _ => rfl
            have hfnc : ∀ f, a.eval (.func f) = .func (.func f) #[] #[] := fun _ => rfl
            refine want_none rfl ?_
            unfold Oper.wp
            generalize a.eval = ρ at *
            go_simp
            try go_bits
            first | exact rel_val (Chg.refl _) | (go_simp; exact rel_val (Chg.refl _))
          case a6o10 =>
            rintro a wx hE hin (h9 : a.eval (.tmp 28) = _)
            clear hin
            have hcst : ∀ v, a.eval (.const v) = v := fun _ => rfl
            have hfnc : ∀ f, a.eval (.func f) = .func (.func f) #[] #[] := fun _ => rfl
            refine want_none rfl ?_
            unfold Oper.wp
            generalize a.eval = ρ at *
            go_simp
            try go_bits
            first | exact rel_val (Chg.refl _) | (go_simp; exact rel_val (Chg.refl _))
          case a6o11 =>
            rintro a wx hE hin (h10 : a.eval (.tmp 29) = _)
            clear hin
            have hcst : ∀ v, a.eval (.const v) = v := fun _ => rfl
            have hfnc : ∀ f, a.eval (.func f) = .func (.func f) #[] #[] := fun _ => rfl
            refine want_none rfl ?_
            unfold Oper.wp
            generalize a.eval = ρ at *
            go_simp
            try go_bits
            first | exact rel_val (Chg.refl _) | (go_simp; exact rel_val (Chg.refl _))
          case a6o12 =>
            rintro a wx hE hin (h11 : a.eval (.tmp 30) = _)
            clear hin
            have hcst : ∀ v, a.eval (.const v) = v := fun _ => rfl
            have hfnc : ∀ f, a.eval (.func f) = .func (.func f) #[] #[] := fun _ => rfl
            refine want_none rfl ?_
            unfold Oper.wp
            generalize a.eval = ρ at *
            go_simp
            try go_bits
            first | exact rel_val (Chg.refl _) | (go_simp; exact rel_val (Chg.refl _))
          case a6o13 =>
            rintro a wx hE hin (h8 : a.eval (.tmp 27) = _) (h12 : a.eval (.tmp 31) = _)
            clear hin
            have hcst : ∀ v, a.eval (.const v) = v := fun _ => rfl
            have hfnc : ∀ f, a.eval (.func f) = .func (.func f) #[] #[] := fun _ => rfl
            refine want_none rfl ?_
            unfold Oper.wp
            generalize a.eval = ρ at *
            go_simp
            try go_bits
            first | exact rel_val (Chg.refl _) | (go_simp; exact rel_val (Chg.refl _))
          case a6o14 =>
            rintro a wx hE hin (h13 : a.eval (.tmp 32) = _)
            clear hin
            have hcst : ∀ v, a.eval (.const v) = v := fun _ => rfl
            have hfnc : ∀ f, a.eval (.func f) = .func (.func f) #[] #[] := fun _ => rfl
            refine want_none rfl ?_
            unfold Oper.wp
            generalize a.eval = ρ at *
            go_simp
            try go_bits
            first | exact rel_val (Chg.refl _) | (go_simp; exact rel_val (Chg.refl _))
          case a6o15 =>
            rintro a wx hE hin (h3 : a.eval (.tmp 22) = _) (h14 : a.eval (.tmp 33) = _)
            clear hin
            have hcst : ∀ v, a.eval (.const v) = v := fun _ => rfl
            have hfnc : ∀ f, a.eval (.func f) = .func (.func f) #[] #[] := fun _ => rfl
            refine want_none rfl ?_
            unfold Oper.wp
            generalize a.eval = ρ at *
            go_simp
            try go_bits
            first | exact rel_val (e := .bool false) (Chg.refl _) | (simp only [bne_self_eq_false]; exact rel_val (e := .bool false) (Chg.refl _)) | (simp; exact rel_val (e := .bool false) (Chg.refl _))
        case a6fin =>
          intro wx hE
          rintro _ rfl _ rfl _ rfl _ rfl _ rfl _ rfl _ rfl _ rfl _ rfl _ rfl _ rfl _ rfl _ rfl _ rfl _ rfl _ rfl
          simp only [FinOk, List.take_succ_cons, List.take_zero, List.take_nil, List.drop_succ_cons, List.drop_zero, List.drop_nil, Act.put, List.setIfInBounds_toArray, List.set_cons_succ, List.set_cons_zero]
          have M2 := Lib.hid ((M.out.drew).chg hE id)
          have R2 := Lib.hid ((R.out.drew).chg hE id)
          have X2 := Lib.hid ((X.out.drew).chg hE id)
          have E2 : Hid (Below w.heap.size w wx) := E.out.trans ((hE.undrew).below (B := w.heap.size) E.out.size (fun _ _ => id))
          clear hE
          go_wp2_with fail
          go_roundw
          case rel => exact ⟨7, by omega, rfl, M2.out, R2.out, X2.out, E2.out⟩
          case measure => simp [intOf]
      · clear hk
        go_wp2_with fail
        apply wp_region_rel 16 (Chg NoS) [(Veq _), (Veq _), (Veq _), (Veq _), (Veq _), (Veq _), (Veq _), (Veq _), (Veq _), (Veq _), (Veq _), (Veq _), (Veq _), (Veq _), (Veq _), (Veq _)] [[], [0], [1], [2], [], [], [5], [4, 6], [7], [], [9], [10], [11], [8, 12], [13], [3, 14]] [19, 20, 21, 22, 23, 24, 25, 26, 27, 28, 29, 30, 31, 32, 33, 34] (by kernel_rfl) (by kernel_rfl) rfl rfl rfl Chg.refl (fun _ _ _ => Chg.trans) ⟨Veq.lasts, Veq.lasts, Veq.lasts, Veq.lasts, Veq.lasts, Veq.lasts, Veq.lasts, Veq.lasts, Veq.lasts, Veq.lasts, Veq.lasts, Veq.lasts, Veq.lasts, Veq.lasts, Veq.lasts, Veq.lasts, trivial⟩ ?a7ops ?a7fin
        case a7ops =>
          refine ⟨?a7o0, ?a7o1, ?a7o2, ?a7o3, ?a7o4, ?a7o5, ?a7o6, ?a7o7, ?a7o8, ?a7o9, ?a7o10, ?a7o11, ?a7o12, ?a7o13, ?a7o14, ?a7o15, trivial⟩
          case a7o0 =>
            intro a wx hE hin
            have i5 : a.eval (.tmp 5) = .int .i64 7 := hin 5 rfl
            clear hin
            have hcst : ∀ v, a.eval (.const v) = v := fun _ => rfl
            have hfnc : ∀ f, a.eval (.func f) = .func (.func f) #[] #[] := fun _ => rfl
            refine want_none rfl ?_
            unfold Oper.wp
            generalize a.eval = ρ at *
            go_simp
            try go_bits
            first | exact rel_val (Chg.refl _) | (go_simp; exact rel_val (Chg.refl _))
          case a7o1 =>
            rintro a wx hE hin (h0 : a.eval (.tmp 19) = _)
            clear hin
            have hcst : ∀ v, a.eval (.const v) = v := fun _ => rfl
            have hfnc : ∀ f, a.eval (.func f) = .func (.func f) #[] #[] := fun _ => rfl
            refine want_none rfl ?_
            unfold Oper.wp
            generalize a.eval = ρ at *
            go_simp
            try go_bits
            first | exact rel_val (Chg.refl _) | (go_simp; exact rel_val (Chg.refl _))
          case a7o2 =>
            rintro a wx hE hin (h1 : a.eval (.tmp 20) = _)
            have i3 : a.eval (.tmp 3) = .pointer (some ⟨g3, 0, none⟩) := hin 3 rfl
            clear hin
            have hcst : ∀ v, a.eval (.const v) = v := fun _ => rfl
            have hfnc : ∀ f, a.eval (.func f) = .func (.func f) #[] #[] := fun _ => rfl
            refine want_none rfl ?_
            unfold Oper.wp
            generalize a.eval = ρ at *
            go_simp
            try go_bits
            first | exact rel_val (Chg.refl _) | (go_simp; exact rel_val (Chg.refl _))
          case a7o3 =>
            rintro a wx hE hin (h2 : a.eval (.tmp 21) = _)
            clear hin
            have hcst : ∀ v, a.eval (.const v) = v := fun _ => rfl
            have hfnc : ∀ f, a.eval (.func f) = .func (.func f) #[] #[] := fun _ => rfl
            refine want_none rfl ?_
            unfold Oper.wp
            generalize a.eval = ρ at *
            have c := Bk.cell ((M.out.drew).chg hE id) HW8.out
            go_simp
            try go_bits
            first | exact rel_val (Chg.refl _) | (go_simp; exact rel_val (Chg.refl _))
          case a7o4 =>
            intro a wx hE hin
            have i4 : a.eval (.tmp 4) = .slice (some ⟨g4, 0, none⟩) 3 3 := hin 4 rfl
            clear hin
            have hcst : ∀ v, a.eval (.const v) = v := fun _ => rfl
            have hfnc : ∀ f, a.eval (.func f) = .func (.func f) #[] #[] := fun _ => rfl
            refine want_none rfl ?_
            unfold Oper.wp
            generalize a.eval = ρ at *
            go_simp
            try go_bits
            first | exact rel_val (Chg.refl _) | (go_simp; exact rel_val (Chg.refl _))
          case a7o5 =>
            intro a wx hE hin
            have i5 : a.eval (.tmp 5) = .int .i64 7 := hin 5 rfl
            clear hin
            have hcst : ∀ v, a.eval (.const v) = v := fun _ => rfl
            have hfnc : ∀ f, a.eval (.func f) = .func (.func f) #[] #[] := fun _ => rfl
            refine want_none rfl ?_
            unfold Oper.wp
            generalize a.eval = ρ at *
            go_simp
            try go_bits
            first | exact rel_val (Chg.refl _) | (go_simp; exact rel_val (Chg.refl _))
          case a7o6 =>
            rintro a wx hE hin (h5 : a.eval (.tmp 24) = _)
            clear hin
            have hcst : ∀ v, a.eval (.const v) = v := fun _ => rfl
            have hfnc : ∀ f, a.eval (.func f) = .func (.func f) #[] #[] := fun _ => rfl
            refine want_none rfl ?_
            unfold Oper.wp
            generalize a.eval = ρ at *
            go_simp
            try go_bits
            first | exact rel_val (Chg.refl _) | (go_simp; exact rel_val (Chg.refl _))
          case a7o7 =>
            rintro a wx hE hin (h4 : a.eval (.tmp 23) = _) (h6 : a.eval (.tmp 25) = _)
            clear hin
            have hcst : ∀ v, a.eval (.const v) = v := fun _ => rfl
            have hfnc : ∀ f, a.eval (.func f) = .func (.func f) #[] #[] := fun _ => rfl
            refine want_none rfl ?_
            unfold Oper.wp
            generalize a.eval = ρ at *
            go_simp
            try go_bits
            first | exact rel_val (Chg.refl _) | (go_simp; exact rel_val (Chg.refl _))
          case a7o8 =>
            rintro a wx hE hin (h7 : a.eval (.tmp 26) = _)
            clear hin
            have hcst : ∀ v, a.eval (.const v) = v := fun _ => rfl
            have hfnc : ∀ f, a.eval (.func f) = .func (.func f) #[] #[] := fun _ => rfl
            refine want_none rfl ?_
            unfold Oper.wp
            generalize a.eval = ρ at *
            have c := Bk.cell ((R.out.drew).chg hE id) HR1.out
            go_simp
            try go_bits
            first | exact rel_val (Chg.refl _) | (go_simp; exact rel_val (Chg.refl _))
          case a7o9 =>
            intro a wx hE hin
            have i5 : a.eval (.tmp 5) = .int .i64 7 := hin 5 rfl
            clear hin
            have hcst : ∀ v, a.eval (.const v) = v := fun _ => rfl
            have hfnc : ∀ f, a.eval (.func f) = .func (.func f) #[] #[] := fun _ => rfl
            refine want_none rfl ?_
            unfold Oper.wp
            generalize a.eval = ρ at *
            go_simp
            try go_bits
            first | exact rel_val (Chg.refl _) | (go_simp; exact rel_val (Chg.refl _))
          case a7o10 =>
            rintro a wx hE hin (h9 : a.eval (.tmp 28) = _)
            clear hin
            have hcst : ∀ v, a.eval (.const v) = v := fun _ => rfl
            have hfnc : ∀ f, a.eval (.func f) = .func (.func f) #[] #[] := fun _ => rfl
            refine want_none rfl ?_
            unfold Oper.wp
            generalize a.eval = ρ at *
            go_simp
            try go_bits
            first | exact rel_val (Chg.refl _) | (go_simp; exact rel_val (Chg.refl _))
          case a7o11 =>
            rintro a wx hE hin (h10 : a.eval (.tmp 29) = _)
            clear hin
            have hcst : ∀ v, a.eval (.const v) = v := fun _ => rfl
            have hfnc : ∀ f, a.eval (.func f) = .func (.func f) #[] #[] := fun _ => rfl
            refine want_none rfl ?_
            unfold Oper.wp
            generalize a.eval = ρ at *
            go_simp
            try go_bits
            first | exact rel_val (Chg.refl _) | (go_simp; exact rel_val (Chg.refl _))
          case a7o12 =>
            rintro a wx hE hin (h11 : a.eval (.tmp 30) = _)
            clear hin
            have hcst : ∀ v, a.eval (.const v) = v := fun _ => rfl
            have hfnc : ∀ f, a.eval (.func f) = .func (.func f) #[] #[] := fun _ => rfl
            refine want_none rfl ?_
            unfold Oper.wp
            generalize a.eval = ρ at *
            go_simp
            try go_bits
            first | exact rel_val (Chg.refl _) | (go_simp; exact rel_val (Chg.refl _))
          case a7o13 =>
            rintro a wx hE hin (h8 : a.eval (.tmp 27) = _) (h12 : a.eval (.tmp 31) = _)
            clear hin
            have hcst : ∀ v, a.eval (.const v) = v := fun _ => rfl
            have hfnc : ∀ f, a.eval (.func f) = .func (.func f) #[] #[] := fun _ => rfl
            refine want_none rfl ?_
            unfold Oper.wp
            generalize a.eval = ρ at *
            go_simp
            try go_bits
            first | exact rel_val (Chg.refl _) | (go_simp; exact rel_val (Chg.refl _))
          case a7o14 =>
            rintro a wx hE hin (h13 : a.eval (.tmp 32) = _)
            clear hin
            have hcst : ∀ v, a.eval (.const v) = v := fun _ => rfl
            have hfnc : ∀ f, a.eval (.func f) = .func (.func f) #[] #[] := fun _ => rfl
            refine want_none rfl ?_
            unfold Oper.wp
            generalize a.eval = ρ at *
            go_simp
            try go_bits
            first | exact rel_val (Chg.refl _) | (go_simp; exact rel_val (Chg.refl _))
          case a7o15 =>
            rintro a wx hE hin (h3 : a.eval (.tmp 22) = _) (h14 : a.eval (.tmp 33) = _)
            clear hin
            have hcst : ∀ v, a.eval (.const v) = v := fun _ => rfl
            have hfnc : ∀ f, a.eval (.func f) = .func (.func f) #[] #[] := fun _ => rfl
            refine want_none rfl ?_
            unfold Oper.wp
            generalize a.eval = ρ at *
            go_simp
            try go_bits
            first | exact rel_val (e := .bool false) (Chg.refl _) | (simp only [bne_self_eq_false]; exact rel_val (e := .bool false) (Chg.refl _)) | (simp; exact rel_val (e := .bool false) (Chg.refl _))
        case a7fin =>
          intro wx hE
          rintro _ rfl _ rfl _ rfl _ rfl _ rfl _ rfl _ rfl _ rfl _ rfl _ rfl _ rfl _ rfl _ rfl _ rfl _ rfl _ rfl
          simp only [FinOk, List.take_succ_cons, List.take_zero, List.take_nil, List.drop_succ_cons, List.drop_zero, List.drop_nil, Act.put, List.setIfInBounds_toArray, List.set_cons_succ, List.set_cons_zero]
          have M2 := Lib.hid ((M.out.drew).chg hE id)
          have R2 := Lib.hid ((R.out.drew).chg hE id)
          have X2 := Lib.hid ((X.out.drew).chg hE id)
          have E2 : Hid (Below w.heap.size w wx) := E.out.trans ((hE.undrew).below (B := w.heap.size) E.out.size (fun _ _ => id))
          clear hE
          go_wp2_with fail
          go_roundw
          case rel => exact ⟨8, by omega, rfl, M2.out, R2.out, X2.out, E2.out⟩
          case measure => simp [intOf]
      · clear hk
        go_wp2_with fail
        apply wp_region_rel 16 (Chg NoS) [(Veq _), (Veq _), (Veq _), (Veq _), (Veq _), (Veq _), (Veq _), (Veq _), (Veq _), (Veq _), (Veq _), (Veq _), (Veq _), (Veq _), (Veq _), (Veq _)] [[], [0], [1], [2], [], [], [5], [4, 6], [7], [], [9], [10], [11], [8, 12], [13], [3, 14]] [19, 20, 21, 22, 23, 24, 25, 26, 27, 28, 29, 30, 31, 32, 33, 34] (by kernel_rfl) (by kernel_rfl) rfl rfl rfl Chg.refl (fun _ _ _ => Chg.trans) ⟨Veq.lasts, Veq.lasts, Veq.lasts, Veq.lasts, Veq.lasts, Veq.lasts, Veq.lasts, Veq.lasts, Veq.lasts, Veq.lasts, Veq.lasts, Veq.lasts, Veq.lasts, Veq.lasts, Veq.lasts, Veq.lasts, trivial⟩ ?a8ops ?a8fin
        case a8ops =>
          refine ⟨?a8o0, ?a8o1, ?a8o2, ?a8o3, ?a8o4, ?a8o5, ?a8o6, ?a8o7, ?a8o8, ?a8o9, ?a8o10, ?a8o11, ?a8o12, ?a8o13, ?a8o14, ?a8o15, trivial⟩
          case a8o0 =>
            intro a wx hE hin
            have i5 : a.eval (.tmp 5) = .int .i64 8 := hin 5 rfl
            clear hin
            have hcst : ∀ v, a.eval (.const v) = v := fun _ => rfl
            have hfnc : ∀ f, a.eval (.func f) = .func (.func f) #[] #[] := fun _ => rfl
            refine want_none rfl ?_
            unfold Oper.wp
            generalize a.eval = ρ at *
            go_simp
            try go_bits
            first | exact rel_val (Chg.refl _) | (go_simp; exact rel_val (Chg.refl _))
          case a8o1 =>
            rintro a wx hE hin (h0 : a.eval (.tmp 19) = _)
            clear hin
            have hcst : ∀ v, a.eval (.const v) = v := fun _ => rfl
            have hfnc : ∀ f, a.eval (.func f) = .func (.func f) #[] #[] := fun _ => rfl
            refine want_none rfl ?_
            unfold Oper.wp
            generalize a.eval = ρ at *
            go_simp
            try go_bits
            first | exact rel_val (Chg.refl _) | (go_simp; exact rel_val (Chg.refl _))
          case a8o2 =>
            rintro a wx hE hin (h1 : a.eval (.tmp 20) = _)
            have i3 : a.eval (.tmp 3) = .pointer (some ⟨g3, 0, none⟩) := hin 3 rfl
            clear hin
            have hcst : ∀ v, a.eval (.const v) = v := fun _ => rfl
            have hfnc : ∀ f, a.eval (.func f) = .func (.func f) #[] #[] := fun _ => rfl
            refine want_none rfl ?_
            unfold Oper.wp
            generalize a.eval = ρ at *
            go_simp
            try go_bits
            first | exact rel_val (Chg.refl _) | (go_simp; exact rel_val (Chg.refl _))
          case a8o3 =>
            rintro a wx hE hin (h2 : a.eval (.tmp 21) = _)
            clear hin
            have hcst : ∀ v, a.eval (.const v) = v := fun _ => rfl
            have hfnc : ∀ f, a.eval (.func f) = .func (.func f) #[] #[] := fun _ => rfl
            refine want_none rfl ?_
            unfold Oper.wp
            generalize a.eval = ρ at *
            have c := Bk.cell ((M.out.drew).chg hE id) HW9.out
            go_simp
            try go_bits
            first | exact rel_val (Chg.refl _) | (go_simp; exact rel_val (Chg.refl _))
          case a8o4 =>
            intro a wx hE hin
            have i4 : a.eval (.tmp 4) = .slice (some ⟨g4, 0, none⟩) 3 3 := hin 4 rfl
            clear hin
            have hcst : ∀ v, a.eval (.const v) = v := fun _ => rfl
            have hfnc : ∀ f, a.eval (.func f) = .func (.func f) #[] #[] := fun _ => rfl
            refine want_none rfl ?_
            unfold Oper.wp
            generalize a.eval = ρ at *
            go_simp
            try go_bits
            first | exact rel_val (Chg.refl _) | (go_simp; exact rel_val (Chg.refl _))
          case a8o5 =>
            intro a wx hE hin
            have i5 : a.eval (.tmp 5) = .int .i64 8 := hin 5 rfl
            clear hin
            have hcst : ∀ v, a.eval (.const v) = v := fun _ => rfl
            have hfnc : ∀ f, a.eval (.func f) = .func (.func f) #[] #[] := fun _ => rfl
            refine want_none rfl ?_
            unfold Oper.wp
            generalize a.eval = ρ at *
            go_simp
            try go_bits
            first | exact rel_val (Chg.refl _) | (go_simp; exact rel_val (Chg.refl _))
          case a8o6 =>
            rintro a wx hE hin (h5 : a.eval (.tmp 24) = _)
            clear hin
            have hcst : ∀ v, a.eval (.const v) = v := fun _ => rfl
            have hfnc : ∀ f, a.eval (.func f) = .func (.func f) #[] #[] := fun _ => rfl
            refine want_none rfl ?_
            unfold Oper.wp
            generalize a.eval = ρ at *
            go_simp
            try go_bits
            first | exact rel_val (Chg.refl _) | (go_simp; exact rel_val (Chg.refl _))
          case a8o7 =>
            rintro a wx hE hin (h4 : a.eval (.tmp 23) = _) (h6 : a.eval (.tmp 25) = _)
            clear hin
            have hcst : ∀ v, a.eval (.const v) = v := fun _ => rfl
            have hfnc : ∀ f, a.eval (.func f) = .func (.func f) #[] #[] := fun _ => rfl
            refine want_none rfl ?_
            unfold Oper.wp
            generalize a.eval = ρ at *
            go_simp
            try go_bits
            first | exact rel_val (Chg.refl _) | (go_simp; exact rel_val (Chg.refl _))
          case a8o8 =>
            rintro a wx hE hin (h7 : a.eval (.tmp 26) = _)
            clear hin
            have hcst : ∀ v, a.eval (.const v) = v := fun _ => rfl
            have hfnc : ∀ f, a.eval (.func f) = .func (.func f) #[] #[] := fun _ => rfl
            refine want_none rfl ?_
            unfold Oper.wp
            generalize a.eval = ρ at *
            have c := Bk.cell ((R.out.drew).chg hE id) HR2.out
            go_simp
            try go_bits
            first | exact rel_val (Chg.refl _) | (go_simp; exact rel_val (Chg.refl _))
          case a8o9 =>
            intro a wx hE hin
            have i5 : a.eval (.tmp 5) = .int .i64 8 := hin 5 rfl
            clear hin
            have hcst : ∀ v, a.eval (.const v) = v := fun _ => rfl
            have hfnc : ∀ f, a.eval (.func f) = .func (.func f) #[] #[] := fun _ => rfl
            refine want_none rfl ?_
            unfold Oper.wp
            generalize a.eval = ρ at *
            go_simp
            try go_bits
            first | exact rel_val (Chg.refl _) | (go_simp; exact rel_val (Chg.refl _))
          case a8o10 =>
            rintro a wx hE hin (h9 : a.eval (.tmp 28) = _)
            clear hin
            have hcst : ∀ v, a.eval (.const v) = v := fun _ => rfl
            have hfnc : ∀ f, a.eval (.func f) = .func (.func f) #[] #[] := fun _ => rfl
            refine want_none rfl ?_
            unfold Oper.wp
            generalize a.eval = ρ at *
            go_simp
            try go_bits
            first | exact rel_val (Chg.refl _) | (go_simp; exact rel_val (Chg.refl _))
          case a8o11 =>
            rintro a wx hE hin (h10 : a.eval (.tmp 29) = _)
            clear hin
            have hcst : ∀ v, a.eval (.const v) = v := fun _ => rfl
            have hfnc : ∀ f, a.eval (.func f) = .func (.func f) #[] #[] := fun _ => rfl
            refine want_none rfl ?_
            unfold Oper.wp
            generalize a.eval = ρ at *
            go_simp
            try go_bits
            first | exact rel_val (Chg.refl _) | (go_simp; exact rel_val (Chg.refl _))
          case a8o12 =>
            rintro a wx hE hin (h11 : a.eval (.tmp 30) = _)
            clear hin
            have hcst : ∀ v, a.eval (.const v) = v := fun _ => rfl
            have hfnc : ∀ f, a.eval (.func f) = .func (.func f) #[] #[] := fun _ => rfl
            refine want_none rfl ?_
            unfold Oper.wp
            generalize a.eval = ρ at *
            go_simp
            try go_bits
            first | exact rel_val (Chg.refl _) | (go_simp; exact rel_val (Chg.refl _))
          case a8o13 =>
            rintro a wx hE hin (h8 : a.eval (.tmp 27) = _) (h12 : a.eval (.tmp 31) = _)
            clear hin
            have hcst : ∀ v, a.eval (.const v) = v := fun _ => rfl
            have hfnc : ∀ f, a.eval (.func f) = .func (.func f) #[] #[] := fun _ => rfl
            refine want_none rfl ?_
            unfold Oper.wp
            generalize a.eval = ρ at *
            go_simp
            try go_bits
            first | exact rel_val (Chg.refl _) | (go_simp; exact rel_val (Chg.refl _))
          case a8o14 =>
            rintro a wx hE hin (h13 : a.eval (.tmp 32) = _)
            clear hin
            have hcst : ∀ v, a.eval (.const v) = v := fun _ => rfl
            have hfnc : ∀ f, a.eval (.func f) = .func (.func f) #[] #[] := fun _ => rfl
            refine want_none rfl ?_
            unfold Oper.wp
            generalize a.eval = ρ at *
            go_simp
            try go_bits
            first | exact rel_val (Chg.refl _) | (go_simp; exact rel_val (Chg.refl _))
          case a8o15 =>
            rintro a wx hE hin (h3 : a.eval (.tmp 22) = _) (h14 : a.eval (.tmp 33) = _)
            clear hin
            have hcst : ∀ v, a.eval (.const v) = v := fun _ => rfl
            have hfnc : ∀ f, a.eval (.func f) = .func (.func f) #[] #[] := fun _ => rfl
            refine want_none rfl ?_
            unfold Oper.wp
            generalize a.eval = ρ at *
            go_simp
            try go_bits
            first | exact rel_val (e := .bool false) (Chg.refl _) | (simp only [bne_self_eq_false]; exact rel_val (e := .bool false) (Chg.refl _)) | (simp; exact rel_val (e := .bool false) (Chg.refl _))
        case a8fin =>
          intro wx hE
          rintro _ rfl _ rfl _ rfl _ rfl _ rfl _ rfl _ rfl _ rfl _ rfl _ rfl _ rfl _ rfl _ rfl _ rfl _ rfl _ rfl
          simp only [FinOk, List.take_succ_cons, List.take_zero, List.take_nil, List.drop_succ_cons, List.drop_zero, List.drop_nil, Act.put, List.setIfInBounds_toArray, List.set_cons_succ, List.set_cons_zero]
          have M2 := Lib.hid ((M.out.drew).chg hE id)
          have R2 := Lib.hid ((R.out.drew).chg hE id)
          have X2 := Lib.hid ((X.out.drew).chg hE id)
          have E2 : Hid (Below w.heap.size w wx) := E.out.trans ((hE.undrew).below (B := w.heap.size) E.out.size (fun _ _ => id))
          clear hE
          go_wp2_with fail
          go_roundw
          case rel => exact ⟨9, by omega, rfl, M2.out, R2.out, X2.out, E2.out⟩
          case measure => simp [intOf]
      · clear hk
        go_wp2_with fail
        apply wp_region_rel 16 (Chg NoS) [(Veq _), (Veq _), (Veq _), (Veq _), (Veq _), (Veq _), (Veq _), (Veq _), (Veq _), (Veq _), (Veq _), (Veq _), (Veq _), (Veq _), (Veq _), (Veq _)] [[], [0], [1], [2], [], [], [5], [4, 6], [7], [], [9], [10], [11], [8, 12], [13], [3, 14]] [19, 20, 21, 22, 23, 24, 25, 26, 27, 28, 29, 30, 31, 32, 33, 34] (by kernel_rfl) (by kernel_rfl) rfl rfl rfl Chg.refl (fun _ _ _ => Chg.trans) ⟨Veq.lasts, Veq.lasts, Veq.lasts, Veq.lasts, Veq.lasts, Veq.lasts, Veq.lasts, Veq.lasts, Veq.lasts, Veq.lasts, Veq.lasts, Veq.lasts, Veq.lasts, Veq.lasts, Veq.lasts, Veq.lasts, trivial⟩ ?a9ops ?a9fin
        case a9ops =>
          refine ⟨?a9o0, ?a9o1, ?a9o2, ?a9o3, ?a9o4, ?a9o5, ?a9o6, ?a9o7, ?a9o8, ?a9o9, ?a9o10, ?a9o11, ?a9o12, ?a9o13, ?a9o14, ?a9o15, trivial⟩
          case a9o0 =>
            intro a wx hE hin
            have i5 : a.eval (.tmp 5) = .int .i64 9 := hin 5 rfl
            clear hin
            have hcst : ∀ v, a.eval (.const v) = v := fun _ => rfl
            have hfnc : ∀ f, a.eval (.func f) = .func (.func f) #[] #[] := fun _ => rfl
            refine want_none rfl ?_
            unfold Oper.wp
            generalize a.eval = ρ at *
            go_simp
            try go_bits
            first | exact rel_val (Chg.refl _) | (go_simp; exact rel_val (Chg.refl _))
          case a9o1 =>
            rintro a wx hE hin (h0 : a.eval (.tmp 19) = _)
            clear hin
            have hcst : ∀ v, a.eval (.const v) = v := fun _ => rfl
            have hfnc : ∀ f, a.eval (.func f) = .func (.func f) #[] #[] := fun _ => rfl
            refine want_none rfl ?_
            unfold Oper.wp
            generalize a.eval = ρ at *
            go_simp
            try go_bits
            first | exact rel_val (Chg.refl _) | (go_simp; exact rel_val (Chg.refl _))
          case a9o2 =>
            rintro a wx hE hin (h1 : a.eval (.tmp 20) = _)
            have i3 : a.eval (.tmp 3) = .pointer (some ⟨g3, 0, none⟩) := hin 3 rfl
            clear hin
            have hcst : ∀ v, a.eval (.const v) = v := fun _ => rfl
            have hfnc : ∀ f, a.eval (.func f) = .func (.func f) #[] #[] := fun _ => rfl
            refine want_none rfl ?_
            unfold Oper.wp
            generalize a.eval = ρ at *
            go_simp
            try go_bits
            first | exact rel_val (Chg.refl _) | (go_simp; exact rel_val (Chg.refl _))
          case a9o3 =>
            rintro a wx hE hin (h2 : a.eval (.tmp 21) = _)
            clear hin
            have hcst : ∀ v, a.eval (.const v) = v := fun _ => rfl
            have hfnc : ∀ f, a.eval (.func f) = .func (.func f) #[] #[] := fun _ => rfl
            refine want_none rfl ?_
            unfold Oper.wp
            generalize a.eval = ρ at *
            have c := Bk.cell ((M.out.drew).chg hE id) HW10.out
            go_simp
            try go_bits
            first | exact rel_val (Chg.refl _) | (go_simp; exact rel_val (Chg.refl _))
          case a9o4 =>
            intro a wx hE hin
            have i4 : a.eval (.tmp 4) = .slice (some ⟨g4, 0, none⟩) 3 3 := hin 4 rfl
            clear hin
            have hcst : ∀ v, a.eval (.const v) = v := fun _ => rfl
            have hfnc : ∀ f, a.eval (.func f) = .func (.func f) #[] #[] := fun _ => rfl
            refine want_none rfl ?_
            unfold Oper.wp
            generalize a.eval = ρ at *
            go_simp
            try go_bits
            first | exact rel_val (Chg.refl _) | (go_simp; exact rel_val (Chg.refl _))
          case a9o5 =>
            intro a wx hE hin
            have i5 : a.eval (.tmp 5) = .int .i64 9 := hin 5 rfl
            clear hin
            have hcst : ∀ v, a.eval (.const v) = v := fun _ => rfl
            have hfnc : ∀ f, a.eval (.func f) = .func (.func f) #[] #[] := fun _ => rfl
            refine want_none rfl ?_
            unfold Oper.wp
            generalize a.eval = ρ at *
            go_simp
            try go_bits
            first | exact rel_val (Chg.refl _) | (go_simp; exact rel_val (Chg.refl _))
          case a9o6 =>
            rintro a wx hE hin (h5 : a.eval (.tmp 24) = _)
            clear hin
            have hcst : ∀ v, a.eval (.const v) = v := fun _ => rfl
            have hfnc : ∀ f, a.eval (.func f) = .func (.func f) #[] #[] := fun _ => rfl
            refine want_none rfl ?_
            unfold Oper.wp
            generalize a.eval = ρ at *
            go_simp
            try go_bits
            first | exact rel_val (Chg.refl _) | (go_simp; exact rel_val (Chg.refl _))
          case a9o7 =>
            rintro a wx hE hin (h4 : a.eval (.tmp 23) = _) (h6 : a.eval (.tmp 25) = _)
            clear hin
            have hcst : ∀ v, a.eval (.const v) = v := fun _ => rfl
            have hfnc : ∀ f, a.eval (.func f) = .func (.func f) #[] #[] := fun _ => rfl
            refine want_none rfl ?_
            unfold Oper.wp
            generalize a.eval = ρ at *
            go_simp
            try go_bits
            first | exact rel_val (Chg.refl _) | (go_simp; exact rel_val (Chg.refl _))
          case a9o8 =>
            rintro a wx hE hin (h7 : a.eval (.tmp 26) = _)
            clear hin
            have hcst : ∀ v, a.eval (.const v) = v := fun _ => rfl
            have hfnc : ∀ f, a.eval (.func f) = .func (.func f) #[] #[] := fun _ => rfl
            refine want_none rfl ?_
            unfold Oper.wp
            generalize a.eval = ρ at *
            have c := Bk.cell ((R.out.drew).chg hE id) HR2.out
            go_simp
            try go_bits
            first | exact rel_val (Chg.refl _) | (go_simp; exact rel_val (Chg.refl _))
          case a9o9 =>
            intro a wx hE hin
            have i5 : a.eval (.tmp 5) = .int .i64 9 := hin 5 rfl
            clear hin
            have hcst : ∀ v, a.eval (.const v) = v := fun _ => rfl
            have hfnc : ∀ f, a.eval (.func f) = .func (.func f) #[] #[] := fun _ => rfl
            refine want_none rfl ?_
            unfold Oper.wp
            generalize a.eval = ρ at *
            go_simp
            try go_bits
            first | exact rel_val (Chg.refl _) | (go_simp; exact rel_val (Chg.refl _))
          case a9o10 =>
            rintro a wx hE hin (h9 : a.eval (.tmp 28) = _)
            clear hin
            have hcst : ∀ v, a.eval (.const v) = v := fun _ => rfl
            have hfnc : ∀ f, a.eval (.func f) = .func (.func f) #[] #[] := fun _ => rfl
            refine want_none rfl ?_
            unfold Oper.wp
            generalize a.eval = ρ at *
            go_simp
            try go_bits
            first | exact rel_val (Chg.refl _) | (go_simp; exact rel_val (Chg.refl _))
          case a9o11 =>
            rintro a wx hE hin (h10 : a.eval (.tmp 29) = _)
            clear hin
            have hcst : ∀ v, a.eval (.const v) = v := fun _ => rfl
            have hfnc : ∀ f, a.eval (.func f) = .func (.func f) #[] #[] := fun _ => rfl
            refine want_none rfl ?_
            unfold Oper.wp
            generalize a.eval = ρ at *
            go_simp
            try go_bits
            first | exact rel_val (Chg.refl _) | (go_simp; exact rel_val (Chg.refl _))
          case a9o12 =>
            rintro a wx hE hin (h11 : a.eval (.tmp 30) = _)
            clear hin
            have hcst : ∀ v, a.eval (.const v) = v := fun _ => rfl
            have hfnc : ∀ f, a.eval (.func f) = .func (.func f) #[] #[] := fun _ => rfl
            refine want_none rfl ?_
            unfold Oper.wp
            generalize a.eval = ρ at *
            go_simp
            try go_bits
            first | exact rel_val (Chg.refl _) | (go_simp; exact rel_val (Chg.refl _))
          case a9o13 =>
            rintro a wx hE hin (h8 : a.eval (.tmp 27) = _) (h12 : a.eval (.tmp 31) = _)
            clear hin
            have hcst : ∀ v, a.eval (.const v) = v := fun _ => rfl
            have hfnc : ∀ f, a.eval (.func f) = .func (.func f) #[] #[] := fun _ => rfl
            refine want_none rfl ?_
            unfold Oper.wp
            generalize a.eval = ρ at *
            go_simp
            try go_bits
            first | exact rel_val (Chg.refl _) | (go_simp; exact rel_val (Chg.refl _))
          case a9o14 =>
            rintro a wx hE hin (h13 : a.eval (.tmp 32) = _)
            clear hin
            have hcst : ∀ v, a.eval (.const v) = v := fun _ => rfl
            have hfnc : ∀ f, a.eval (.func f) = .func (.func f) #[] #[] := fun _ => rfl
            refine want_none rfl ?_
            unfold Oper.wp
            generalize a.eval = ρ at *
            go_simp
            try go_bits
            first | exact rel_val (Chg.refl _) | (go_simp; exact rel_val (Chg.refl _))
          case a9o15 =>
            rintro a wx hE hin (h3 : a.eval (.tmp 22) = _) (h14 : a.eval (.tmp 33) = _)
            clear hin
            have hcst : ∀ v, a.eval (.const v) = v := fun _ => rfl
            have hfnc : ∀ f, a.eval (.func f) = .func (.func f) #[] #[] := fun _ => rfl
            refine want_none rfl ?_
            unfold Oper.wp
            generalize a.eval = ρ at *
            go_simp
            try go_bits
            first | exact rel_val (e := .bool false) (Chg.refl _) | (simp only [bne_self_eq_false]; exact rel_val (e := .bool false) (Chg.refl _)) | (simp; exact rel_val (e := .bool false) (Chg.refl _))
        case a9fin =>
          intro wx hE
          rintro _ rfl _ rfl _ rfl _ rfl _ rfl _ rfl _ rfl _ rfl _ rfl _ rfl _ rfl _ rfl _ rfl _ rfl _ rfl _ rfl
          simp only [FinOk, List.take_succ_cons, List.take_zero, List.take_nil, List.drop_succ_cons, List.drop_zero, List.drop_nil, Act.put, List.setIfInBounds_toArray, List.set_cons_succ, List.set_cons_zero]
          have M2 := Lib.hid ((M.out.drew).chg hE id)
          have R2 := Lib.hid ((R.out.drew).chg hE id)
          have X2 := Lib.hid ((X.out.drew).chg hE id)
          have E2 : Hid (Below w.heap.size w wx) := E.out.trans ((hE.undrew).below (B := w.heap.size) E.out.size (fun _ _ => id))
          clear hE
          go_wp2_with fail
          go_roundw
          case rel => exact ⟨10, by omega, rfl, M2.out, R2.out, X2.out, E2.out⟩
          case measure => simp [intOf]
      · clear hk
        go_wp2_with fail
        apply wp_region_rel 16 (Chg NoS) [(Veq _), (Veq _), (Veq _), (Veq _), (Veq _), (Veq _), (Veq _), (Veq _), (Veq _), (Veq _), (Veq _), (Veq _), (Veq _), (Veq _), (Veq _), (Veq _)] [[], [0], [1], [2], [], [], [5], [4, 6], [7], [], [9], [10], [11], [8, 12], [13], [3, 14]] [19, 20, 21, 22, 23, 24, 25, 26, 27, 28, 29, 30, 31, 32, 33, 34] (by kernel_rfl) (by kernel_rfl) rfl rfl rfl Chg.refl (fun _ _ _ => Chg.trans) ⟨Veq.lasts, Veq.lasts, Veq.lasts, Veq.lasts, Veq.lasts, Veq.lasts, Veq.lasts, Veq.lasts, Veq.lasts, Veq.lasts, Veq.lasts, Veq.lasts, Veq.lasts, Veq.lasts, Veq.lasts, Veq.lasts, trivial⟩ ?a10ops ?a10fin
        case a10ops =>
          refine ⟨?a10o0, ?a10o1, ?a10o2, ?a10o3, ?a10o4, ?a10o5, ?a10o6, ?a10o7, ?a10o8, ?a10o9, ?a10o10, ?a10o11, ?a10o12, ?a10o13, ?a10o14, ?a10o15, trivial⟩
          case a10o0 =>
            intro a wx hE hin
            have i5 : a.eval (.tmp 5) = .int .i64 10 := hin 5 rfl
            clear hin
            have hcst : ∀ v, a.eval (.const v) = v := fun _ => rfl
            have hfnc : ∀ f, a.eval (.func f) = .func (.func f) #[] #[] := fun _ => rfl
            refine want_none rfl ?_
            unfold Oper.wp
            generalize a.eval = ρ at *
            go_simp
            try go_bits
            first | exact rel_val (Chg.refl _) | (go_simp; exact rel_val (Chg.refl _))
          case a10o1 =>
            rintro a wx hE hin (h0 : a.eval (.tmp 19) = _)
            clear hin
            have hcst : ∀ v, a.eval (.const v) = v := fun _ => rfl
            have hfnc : ∀ f, a.eval (.func f) = .func (.func f) #[] #[] := fun _ => rfl
            refine want_none rfl ?_
            unfold Oper.wp
            generalize a.eval = ρ at *
            go_simp
            try go_bits
            first | exact rel_val (Chg.refl _) | (go_simp; exact rel_val (Chg.refl _))
          case a10o2 =>
            rintro a wx hE hin (h1 : a.eval (.tmp 20) = _)
            have i3 : a.eval (.tmp 3) = .pointer (some ⟨g3, 0, none⟩) := hin 3 rfl
            clear hin
            have hcst : ∀ v, a.eval (.const v) = v := fun _ => rfl
            have hfnc : ∀ f, a.eval (.func f) = .func (.func f) #[] #[] := fun _ => rfl
            refine want_none rfl ?_
            unfold Oper.wp
            generalize a.eval = ρ at *
            go_simp
            try go_bits
            first | exact rel_val (Chg.refl _) | (go_simp; exact rel_val (Chg.refl _))
          case a10o3 =>
            rintro a wx hE hin (h2 : a.eval (.tmp 21) = _)
            clear hin
            have hcst : ∀ v, a.eval (.const v) = v := fun _ => rfl
            have hfnc : ∀ f, a.eval (.func f) = .func (.func f) #[] #[] := fun _ => rfl
            refine want_none rfl ?_
            unfold Oper.wp
            generalize a.eval = ρ at *
            have c := Bk.cell ((M.out.drew).chg hE id) HW11.out
            go_simp
            try go_bits
            first | exact rel_val (Chg.refl _) | (go_simp; exact rel_val (Chg.refl _))
          case a10o4 =>
            intro a wx hE hin
            have i4 : a.eval (.tmp 4) = .slice (some ⟨g4, 0, none⟩) 3 3 := hin 4 rfl
            clear hin
            have hcst : ∀ v, a.eval (.const v) = v := fun _ => rfl
            have hfnc : ∀ f, a.eval (.func f) = .func (.func f) #[] #[] := fun _ => rfl
            refine want_none rfl ?_
            unfold Oper.wp
            generalize a.eval = ρ at *
            go_simp
            try go_bits
            first | exact rel_val (Chg.refl _) | (go_simp; exact rel_val (Chg.refl _))
          case a10o5 =>
            intro a wx hE hin
            have i5 : a.eval (.tmp 5) = .int .i64 10 := hin 5 rfl
            clear hin
            have hcst : ∀ v, a.eval (.const v) = v := fun _ => rfl
            have hfnc : ∀ f, a.eval (.func f) = .func (.func f) #[] #[] := fun _ => rfl
            refine want_none rfl ?_
            unfold Oper.wp
            generalize a.eval = ρ at *
            go_simp
            try go_bits
            first | exact rel_val (Chg.refl _) | (go_simp; exact rel_val (Chg.refl _))
          case a10o6 =>
            rintro a wx hE hin (h5 : a.eval (.tmp 24) = _)
            clear hin
            have hcst : ∀ v, a.eval (.const v) = v := fun _ => rfl
            have hfnc : ∀ f, a.eval (.func f) = .func (.func f) #[] #[] := fun _ => rfl
            refine want_none rfl ?_
            unfold Oper.wp
            generalize a.eval = ρ at *
            go_simp
            try go_bits
            first | exact rel_val (Chg.refl _) | (go_simp; exact rel_val (Chg.refl _))
          case a10o7 =>
            rintro a wx hE hin (h4 : a.eval (.tmp 23) = _) (h6 : a.eval (.tmp 25) = _)
            clear hin
            have hcst : ∀ v, a.eval (.const v) = v := fun _ => rfl
            have hfnc : ∀ f, a.eval (.func f) = .func (.func f) #[] #[] := fun _ => rfl
            refine want_none rfl ?_
            unfold Oper.wp
            generalize a.eval = ρ at *
            go_simp
            try go_bits
            first | exact rel_val (Chg.refl _) | (go_simp; exact rel_val (Chg.refl _))
          case a10o8 =>
            rintro a wx hE hin (h7 : a.eval (.tmp 26) = _)
            clear hin
            have hcst : ∀ v, a.eval (.const v) = v := fun _ => rfl
            have hfnc : ∀ f, a.eval (.func f) = .func (.func f) #[] #[] := fun _ => rfl
            refine want_none rfl ?_
            unfold Oper.wp
            generalize a.eval = ρ at *
            have c := Bk.cell ((R.out.drew).chg hE id) HR2.out
            go_simp
            try go_bits
            first | exact rel_val (Chg.refl _) | (go_simp; exact rel_val (Chg.refl _))
          case a10o9 =>
            intro a wx hE hin
            have i5 : a.eval (.tmp 5) = .int .i64 10 := hin 5 rfl
            clear hin
            have hcst : ∀ v, a.eval (.const v) = v := fun _ => rfl
            have hfnc : ∀ f, a.eval (.func f) = .func (.func f) #[] #[] := fun _ => rfl
            refine want_none rfl ?_
            unfold Oper.wp
            generalize a.eval = ρ at *
            go_simp
            try go_bits
            first | exact rel_val (Chg.refl _) | (go_simp; exact rel_val (Chg.refl _))
          case a10o10 =>
            rintro a wx hE hin (h9 : a.eval (.tmp 28) = _)
            clear hin
            have hcst : ∀ v, a.eval (.const v) = v := fun _ => rfl
            have hfnc : ∀ f, a.eval (.func f) = .func (.func f) #[] #[] := fun _ => rfl
            refine want_none rfl ?_
            unfold Oper.wp
            generalize a.eval = ρ at *
            go_simp
            try go_bits
            first | exact rel_val (Chg.refl _) | (go_simp; exact rel_val (Chg.refl _))
          case a10o11 =>
            rintro a wx hE hin (h10 : a.eval (.tmp 29) = _)
            clear hin
            have hcst : ∀ v, a.eval (.const v) = v := fun _ => rfl
            have hfnc : ∀ f, a.eval (.func f) = .func (.func f) #[] #[] := fun _ => rfl
            refine want_none rfl ?_
            unfold Oper.wp
            generalize a.eval = ρ at *
            go_simp
            try go_bits
            first | exact rel_val (Chg.refl _) | (go_simp; exact rel_val (Chg.refl _))
          case a10o12 =>
            rintro a wx hE hin (h11 : a.eval (.tmp 30) = _)
            clear hin
            have hcst : ∀ v, a.eval (.const v) = v := fun _ => rfl
            have hfnc : ∀ f, a.eval (.func f) = .func (.func f) #[] #[] := fun _ => rfl
            refine want_none rfl ?_
            unfold Oper.wp
            generalize a.eval = ρ at *
            go_simp
            try go_bits
            first | exact rel_val (Chg.refl _) | (go_simp; exact rel_val (Chg.refl _))
          case a10o13 =>
            rintro a wx hE hin (h8 : a.eval (.tmp 27) = _) (h12 : a.eval (.tmp 31) = _)
            clear hin
            have hcst : ∀ v, a.eval (.const v) = v := fun _ => rfl
            have hfnc : ∀ f, a.eval (.func f) = .func (.func f) #[] #[] := fun _ => rfl
            refine want_none rfl ?_
            unfold Oper.wp
            generalize a.eval = ρ at *
            go_simp
            try go_bits
            first | exact rel_val (Chg.refl _) | (go_simp; exact rel_val (Chg.refl _))
          case a10o14 =>
            rintro a wx hE hin (h13 : a.eval (.tmp 32) = _)
            clear hin
            have hcst : ∀ v, a.eval (.const v) = v := fun _ => rfl
            have hfnc : ∀ f, a.eval (.func f) = .func (.func f) #[] #[] := fun _ => rfl
            refine want_none rfl ?_
            unfold Oper.wp
            generalize a.eval = ρ at *
            go_simp
            try go_bits
            first | exact rel_val (Chg.refl _) | (go_simp; exact rel_val (Chg.refl _))
          case a10o15 =>
            rintro a wx hE hin (h3 : a.eval (.tmp 22) = _) (h14 : a.eval (.tmp 33) = _)
            clear hin
            have hcst : ∀ v, a.eval (.const v) = v := fun _ => rfl
            have hfnc : ∀ f, a.eval (.func f) = .func (.func f) #[] #[] := fun _ => rfl
            refine want_none rfl ?_
            unfold Oper.wp
            generalize a.eval = ρ at *
            go_simp
            try go_bits
            first | exact rel_val (e := .bool false) (Chg.refl _) | (simp only [bne_self_eq_false]; exact rel_val (e := .bool false) (Chg.refl _)) | (simp; exact rel_val (e := .bool false) (Chg.refl _))
        case a10fin =>
          intro wx hE
          rintro _ rfl _ rfl _ rfl _ rfl _ rfl _ rfl _ rfl _ rfl _ rfl _ rfl _ rfl _ rfl _ rfl _ rfl _ rfl _ rfl
          simp only [FinOk, List.take_succ_cons, List.take_zero, List.take_nil, List.drop_succ_cons, List.drop_zero, List.drop_nil, Act.put, List.setIfInBounds_toArray, List.set_cons_succ, List.set_cons_zero]
          have M2 := Lib.hid ((M.out.drew).chg hE id)
          have R2 := Lib.hid ((R.out.drew).chg hE id)
          have X2 := Lib.hid ((X.out.drew).chg hE id)
          have E2 : Hid (Below w.heap.size w wx) := E.out.trans ((hE.undrew).below (B := w.heap.size) E.out.size (fun _ _ => id))
          clear hE
          go_wp2_with fail
          go_roundw
          case rel => exact ⟨11, by omega, rfl, M2.out, R2.out, X2.out, E2.out⟩
          case measure => simp [intOf]
      · clear hk
        go_wp2_with fail
        apply wp_region_rel 16 (Chg NoS) [(Veq _), (Veq _), (Veq _), (Veq _), (Veq _), (Veq _), (Veq _), (Veq _), (Veq _), (Veq _), (Veq _), (Veq _), (Veq _), (Veq _), (Veq _), (Veq _)] [[], [0], [1], [2], [], [], [5], [4, 6], [7], [], [9], [10], [11], [8, 12], [13], [3, 14]] [19, 20, 21, 22, 23, 24, 25, 26, 27, 28, 29, 30, 31, 32, 33, 34] (by kernel_rfl) (by kernel_rfl) rfl rfl rfl Chg.refl (fun _ _ _ => Chg.trans) ⟨Veq.lasts, Veq.lasts, Veq.lasts, Veq.lasts, Veq.lasts, Veq.lasts, Veq.lasts, Veq.lasts, Veq.lasts, Veq.lasts, Veq.lasts, Veq.lasts, Veq.lasts, Veq.lasts, Veq.lasts, Veq.lasts, trivial⟩ ?a11ops ?a11fin
        case a11ops =>
          refine ⟨?a11o0, ?a11o1, ?a11o2, ?a11o3, ?a11o4, ?a11o5, ?a11o6, ?a11o7, ?a11o8, ?a11o9, ?a11o10, ?a11o11, ?a11o12, ?a11o13, ?a11o14, ?a11o15, trivial⟩
          case a11o0 =>
            intro a wx hE hin
            have i5 : a.eval (.tmp 5) = .int .i64 11 := hin 5 rfl
            clear hin
            have hcst : ∀ v, a.eval (.const v) = v := fun _ => rfl
            have hfnc : ∀ f, a.eval (.func f) = .func (.func f) #[] #[] := fun _ => rfl
            refine want_none rfl ?_
            unfold Oper.wp
            generalize a.eval = ρ at *
            go_simp
            try go_bits
            first | exact rel_val (Chg.refl _) | (go_simp; exact rel_val (Chg.refl _))
          case a11o1 =>
            rintro a wx hE hin (h0 : a.eval (.tmp 19) = _)
            clear hin
            have hcst : ∀ v, a.eval (.const v) = v := fun _ => rfl
            have hfnc : ∀ f, a.eval (.func f) = .func (.func f) #[] #[] := fun _ => rfl
            refine want_none rfl ?_
            unfold Oper.wp
            generalize a.eval = ρ at *
            go_simp
            try go_bits
            first | exact rel_val (Chg.refl _) | (go_simp; exact rel_val (Chg.refl _))
          case a11o2 =>
            rintro a wx hE hin (h1 : a.eval (.tmp 20) = _)
            have i3 : a.eval (.tmp 3) = .pointer (some ⟨g3, 0, none⟩) := hin 3 rfl
            clear hin
            have hcst : ∀ v, a.eval (.const v) = v := fun _ => rfl
            have hfnc : ∀ f, a.eval (.func f) = .func (.func f) #[] #[] := fun _ => rfl
            refine want_none rfl ?_
            unfold Oper.wp
            generalize a.eval = ρ at *
            go_simp
            try go_bits
            first | exact rel_val (Chg.refl _) | (go_simp; exact rel_val (Chg.refl _))
          case a11o3 =>
            rintro a wx hE hin (h2 : a.eval (.tmp 21) = _)
            clear hin
            have hcst : ∀ v, a.eval (.const v) = v := fun _ => rfl
            have hfnc : ∀ f, a.eval (.func f) = .func (.func f) #[] #[] := fun _ => rfl
            refine want_none rfl ?_
            unfold Oper.wp
            generalize a.eval = ρ at *
            have c := Bk.cell ((M.out.drew).chg hE id) HW12.out
            go_simp
            try go_bits
            first | exact rel_val (Chg.refl _) | (go_simp; exact rel_val (Chg.refl _))
          case a11o4 =>
            intro a wx hE hin
            have i4 : a.eval (.tmp 4) = .slice (some ⟨g4, 0, none⟩) 3 3 := hin 4 rfl
            clear hin
            have hcst : ∀ v, a.eval (.const v) = v := fun _ => rfl
            have hfnc : ∀ f, a.eval (.func f) = .func (.func f) #[] #[] := fun _ => rfl
            refine want_none rfl ?_
            unfold Oper.wp
            generalize a.eval = ρ at *
            go_simp
            try go_bits
            first | exact rel_val (Chg.refl _) | (go_simp; exact rel_val (Chg.refl _))
          case a11o5 =>
            intro a wx hE hin
            have i5 : a.eval (.tmp 5) = .int .i64 11 := hin 5 rfl
            clear hin
            have hcst : ∀ v, a.eval (.const v) = v := fun _ => rfl
            have hfnc : ∀ f, a.eval (.func f) = .func (.func f) #[] #[] := fun _ => rfl
            refine want_none rfl ?_
            unfold Oper.wp
            generalize a.eval = ρ at *
            go_simp
            try go_bits
            first | exact rel_val (Chg.refl _) | (go_simp; exact rel_val (Chg.refl _))
          case a11o6 =>
            rintro a wx hE hin (h5 : a.eval (.tmp 24) = _)
            clear hin
            have hcst : ∀ v, a.eval (.const v) = v := fun _ => rfl
            have hfnc : ∀ f, a.eval (.func f) = .func (.func f) #[] #[] := fun _ => rfl
            refine want_none rfl ?_
            unfold Oper.wp
            generalize a.eval = ρ at *
            go_simp
            try go_bits
            first | exact rel_val (Chg.refl _) | (go_simp; exact rel_val (Chg.refl _))
          case a11o7 =>
            rintro a wx hE hin (h4 : a.eval (.tmp 23) = _) (h6 : a.eval (.tmp 25) = _)
            clear hin
            have hcst : ∀ v, a.eval (.const v) = v := fun _ => rfl
            have hfnc : ∀ f, a.eval (.func f) = .func (.func f) #[] #[] := fun _ => rfl
            refine want_none rfl ?_
            unfold Oper.wp
            generalize a.eval = ρ at *
            go_simp
            try go_bits
            first | exact rel_val (Chg.refl _) | (go_simp; exact rel_val (Chg.refl _))
          case a11o8 =>
            rintro a wx hE hin (h7 : a.eval (.tmp 26) = _)
            clear hin
            have hcst : ∀ v, a.eval (.const v) = v := fun _ => rfl
            have hfnc : ∀ f, a.eval (.func f) = .func (.func f) #[] #[] := fun _ => rfl
            refine want_none rfl ?_
            unfold Oper.wp
            generalize a.eval = ρ at *
            have c := Bk.cell ((R.out.drew).chg hE id) HR2.out
            go_simp
            try go_bits
            first | exact rel_val (Chg.refl _) | (go_simp; exact rel_val (Chg.refl _))
          case a11o9 =>
            intro a wx hE hin
            have i5 : a.eval (.tmp 5) = .int .i64 11 := hin 5 rfl
            clear hin
            have hcst : ∀ v, a.eval (.const v) = v := fun _ => rfl
            have hfnc : ∀ f, a.eval (.func f) = .func (.func f) #[] #[] := fun _ => rfl
            refine want_none rfl ?_
            unfold Oper.wp
            generalize a.eval = ρ at *
            go_simp
            try go_bits
            first | exact rel_val (Chg.refl _) | (go_simp; exact rel_val (Chg.refl _))
          case a11o10 =>
            rintro a wx hE hin (h9 : a.eval (.tmp 28) = _)
            clear hin
            have hcst : ∀ v, a.eval (.const v) = v := fun _ => rfl
            have hfnc : ∀ f, a.eval (.func f) = .func (.func f) #[] #[] := fun _ => rfl
            refine want_none rfl ?_
            unfold Oper.wp
            generalize a.eval = ρ at *
            go_simp
            try go_bits
            first | exact rel_val (Chg.refl _) | (go_simp; exact rel_val (Chg.refl _))
          case a11o11 =>
            rintro a wx hE hin (h10 : a.eval (.tmp 29) = _)
            clear hin
            have hcst : ∀ v, a.eval (.const v) = v := fun _ => rfl
            have hfnc : ∀ f, a.eval (.func f) = .func (.func f) #[] #[] := fun _ => rfl
            refine want_none rfl ?_
            unfold Oper.wp
            generalize a.eval = ρ at *
            go_simp
            try go_bits
            first | exact rel_val (Chg.refl _) | (go_simp; exact rel_val (Chg.refl _))
          case a11o12 =>
            rintro a wx hE hin (h11 : a.eval (.tmp 30) = _)
            clear hin
            have hcst : ∀ v, a.eval (.const v) = v := fun _ => rfl
            have hfnc : ∀ f, a.eval (.func f) = .func (.func f) #[] #[] := fun _ => rfl
            refine want_none rfl ?_
            unfold Oper.wp
            generalize a.eval = ρ at *
            go_simp
            try go_bits
            first | exact rel_val (Chg.refl _) | (go_simp; exact rel_val (Chg.refl _))
          case a11o13 =>
            rintro a wx hE hin (h8 : a.eval (.tmp 27) = _) (h12 : a.eval (.tmp 31) = _)
            clear hin
            have hcst : ∀ v, a.eval (.const v) = v := fun _ => rfl
            have hfnc : ∀ f, a.eval (.func f) = .func (.func f) #[] #[] := fun _ => rfl
            refine want_none rfl ?_
            unfold Oper.wp
            generalize a.eval = ρ at *
            go_simp
            try go_bits
            first | exact rel_val (Chg.refl _) | (go_simp; exact rel_val (Chg.refl _))
          case a11o14 =>
            rintro a wx hE hin (h13 : a.eval (.tmp 32) = _)
            clear hin
            have hcst : ∀ v, a.eval (.const v) = v := fun _ => rfl
            have hfnc : ∀ f, a.eval (.func f) = .func (.func f) #[] #[] := fun _ => rfl
            refine want_none rfl ?_
            unfold Oper.wp
            generalize a.eval = ρ at *
            go_simp
            try go_bits
            first | exact rel_val (Chg.refl _) | (go_simp; exact rel_val (Chg.refl _))
          case a11o15 =>
            rintro a wx hE hin (h3 : a.eval (.tmp 22) = _) (h14 : a.eval (.tmp 33) = _)
            clear hin
            have hcst : ∀ v, a.eval (.const v) = v := fun _ => rfl
            have hfnc : ∀ f, a.eval (.func f) = .func (.func f) #[] #[] := fun _ => rfl
            refine want_none rfl ?_
            unfold Oper.wp
            generalize a.eval = ρ at *
            go_simp
            try go_bits
            first | exact rel_val (e := .bool false) (Chg.refl _) | (simp only [bne_self_eq_false]; exact rel_val (e := .bool false) (Chg.refl _)) | (simp; exact rel_val (e := .bool false) (Chg.refl _))
        case a11fin =>
          intro wx hE
          rintro _ rfl _ rfl _ rfl _ rfl _ rfl _ rfl _ rfl _ rfl _ rfl _ rfl _ rfl _ rfl _ rfl _ rfl _ rfl _ rfl
          simp only [FinOk, List.take_succ_cons, List.take_zero, List.take_nil, List.drop_succ_cons, List.drop_zero, List.drop_nil, Act.put, List.setIfInBounds_toArray, List.set_cons_succ, List.set_cons_zero]
          have M2 := Lib.hid ((M.out.drew).chg hE id)
          have R2 := Lib.hid ((R.out.drew).chg hE id)
          have X2 := Lib.hid ((X.out.drew).chg hE id)
          have E2 : Hid (Below w.heap.size w wx) := E.out.trans ((hE.undrew).below (B := w.heap.size) E.out.size (fun _ _ => id))
          clear hE
          go_wp2_with fail
          go_roundw
          case rel => exact ⟨12, by omega, rfl, M2.out, R2.out, X2.out, E2.out⟩
          case measure => simp [intOf]
    · have hke : k = 12 := by omega
      subst hke
      have c0 := M.out.cell HW0.out
      have c13 := M.out.cell HW13.out
      have c14 := M.out.cell HW14.out
      have c15 := M.out.cell HW15.out
      have c16 := M.out.cell HW16.out
      have c17 := M.out.cell HW17.out
      have c29 := M.out.cell HW29.out
      have e3 := X.out.cell D3.out
      have e4 := X.out.cell D4.out
      go_wp2_with fail
      refine (wakes7_calls wr).mono ?_
      rintro e w9 ⟨rfl, hb⟩
      have E9 : Hid (Below w.heap.size w w9) := E.out.trans (hb.mono E.out.size)
      clear hb
      go_wp2
      go_ret
      exact ⟨rfl, E9.out⟩
end Go.Proofs.Ytnpcehlbboeadaa
