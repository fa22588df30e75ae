/- The walks of a sector with a check: what the program's functions compute. -/
import Derived.Test.YtnjaldafejbdgaaSealWd
import Derived.Test.YtnjaldafejbdgaaBlk
import Derived.Test.YtnjaldafejbdgaaArr
namespace Go.Proofs.Ytnjaldafejbdgaa
open Go.RowKit
set_option linter.unusedVariables false
set_option linter.unusedSimpArgs false


def wakeW : List UInt8 := secOf 7 (padB [1, 2])
theorem wake_enc : encR 7 [1, 2] = (wakeW, 0) := by decide +kernel
theorem wake_dec : decR wakeW = (7 :: padB [1, 2], 0) := by decide +kernel
theorem wake_zero : decR (List.replicate 32 0) = (List.replicate 30 0, 11) := by decide +kernel
theorem wake_none : encR 0 [] = (List.replicate 32 0, 1) := by decide +kernel
theorem wake_len : wakeW.length = 32 := by decide +kernel
theorem wake_c0 : (bts wakeW)[0]? = some (.int .u8 7) := (bts_get (by rw [wake_len]; decide)).trans (by rw [show wakeW.getD 0 0 = 7 by decide +kernel]; rfl)
theorem wake_c2 : (bts wakeW)[2]? = some (.int .u8 2) := (bts_get (by rw [wake_len]; decide)).trans (by rw [show wakeW.getD 2 0 = 2 by decide +kernel]; rfl)
theorem wake_c3 : (bts wakeW)[3]? = some (.int .u8 0) := (bts_get (by rw [wake_len]; decide)).trans (by rw [show wakeW.getD 3 0 = 0 by decide +kernel]; rfl)
set_option maxHeartbeats 2000000 in
theorem wakes6_calls (w : World) :
    Calls Try.prog 19 #[] w fun e w' => e = .returned (.bool true) ∧ Below w.heap.size w w' := by
  have hlW := wake_len
  have hc0 := wake_c0
  have hc2 := wake_c2
  have hc3 := wake_c3
  have hdW := Lib.hid wake_dec
  have heW := Lib.hid wake_enc
  generalize wakeW = W at hlW hc0 hc2 hc3 hdW heW
  have HLW := Lib.hid hlW
  have H0 := Lib.hid hc0
  have H2 := Lib.hid hc2
  have H3 := Lib.hid hc3
  clear hlW hc0 hc2 hc3
  have hld : (7 :: padB [1, 2]).length = 30 := by decide
  have hd0 : (bts (7 :: padB [1, 2]))[0]? = some (.int .u8 7) := rfl
  have hd2 : (bts (7 :: padB [1, 2]))[2]? = some (.int .u8 2) := rfl
  generalize (7 :: padB [1, 2]) = D at hdW hld hd0 hd2
  have HLD := Lib.hid hld
  have HD0 := Lib.hid hd0
  have HD2 := Lib.hid hd2
  clear hld hd0 hd2
  go_enter Try.func19, Try.ntmps19
  go_wp2_with fail
  refine (sealEncode_calls 7 (some ⟨w.heap.size, 0, none⟩) 2 2 [1, 2] _ rfl (by decide) (by decide) (Rd.of_block (hal_new rfl))).mono ?_
  rintro e w1 ⟨rfl, hb⟩
  rw [heW.out]
  have HE1 : Hid (Below w.heap.size w w1) := ((Below.refl _ _).alloc (Nat.le_refl _) _).trans (hb.mono (by simp))
  clear hb
  go_wp2_with (refine wpList_al rfl 41 rfl (zb 32) (by kernel_rfl) ?_)
  intro g1 w2 hg hb2 hc2 hs2
  have hle1 : w.heap.size ≤ g1 := by rw [hg]; exact HE1.out.size
  clear hg hs2
  have HE2 : Hid (Below w.heap.size w w2) := HE1.out.trans (hc2.below HE1.out.size (fun _ _ => id))
  have HK2 := Lib.hid hb2
  clear hb2 hc2
  go_wp2_with (refine wpList_st rfl 41 _ _ rfl g1 0 32 (zb 32) (bts W) rfl rfl HK2.out (by kernel_rfl) (sized_bts _ HLW.out) (by decide) (one_bts _) ?_)
  intro w3 hb3 hc3
  rw [splice_whole (zb 32) (bts W) (by rw [bts_length, HLW.out]; rfl)] at hb3
  have HE3 : Hid (Below w.heap.size w w3) := HE2.out.trans (hc3.below HE2.out.size (fun k hk he => by omega))
  have HK3 := Lib.hid hb3
  clear hb3 hc3
  go_wp2_with (refine wpList_ld rfl 41 _ rfl g1 0 32 (bts W) (bts W) rfl HK3.out rfl (by kernel_rfl) (by rw [bts_length, HLW.out]; decide) (by rw [List.drop_zero, List.take_of_length_le (by simp [HLW.out])]) ?_)
  refine (sealDecode_calls W w3 HLW.out).mono ?_
  rintro e w4 ⟨rfl, hb⟩
  rw [hdW.out]
  have HE4 : Hid (Below w.heap.size w w4) := HE3.out.trans (hb.mono HE3.out.size)
  have HK4 : Hid (Bk w4 g1 (bts W)) := HK3.out.below hb
  clear hb
  go_wp2_with (refine wpList_al rfl 49 rfl (zb 30) (by kernel_rfl) ?_)
  intro g2 w5 hg hb5 hc5 hs5
  have hle2 : w.heap.size ≤ g2 := by rw [hg]; exact HE4.out.size
  have hlt2 : g1 < g2 := by rw [hg]; exact HK4.out.lt
  clear hg hs5
  have HE5 : Hid (Below w.heap.size w w5) := HE4.out.trans (hc5.below HE4.out.size (fun _ _ => id))
  have HK5 : Hid (Bk w5 g1 (bts W)) := HK4.out.chg hc5 id
  have HM5 := Lib.hid hb5
  clear hb5 hc5
  go_wp2_with (refine wpList_st rfl 49 _ _ rfl g2 0 30 (zb 30) (bts D) rfl rfl HM5.out (by kernel_rfl) (sized_bts _ HLD.out) (by decide) (one_bts _) ?_)
  intro w6 hb6 hc6
  rw [splice_whole (zb 30) (bts D) (by rw [bts_length, HLD.out]; rfl)] at hb6
  have HE6 : Hid (Below w.heap.size w w6) := HE5.out.trans (hc6.below HE5.out.size (fun k hk he => by omega))
  have HK6 : Hid (Bk w6 g1 (bts W)) := HK5.out.chg hc6 (by omega)
  have HM6 := Lib.hid hb6
  clear hb6 hc6
  go_wp2_with (refine wpList_bld rfl 41 [] rfl (zb 32) [] (bts (List.replicate 32 0)) (by kernel_rfl) (by kernel_rfl) trivial rfl ?_)
  refine (sealDecode_calls (List.replicate 32 0) w6 rfl).mono ?_
  rintro e w7 ⟨rfl, hb⟩
  rw [wake_zero]
  have HE7 : Hid (Below w.heap.size w w7) := HE6.out.trans (hb.mono HE6.out.size)
  have HK7 : Hid (Bk w7 g1 (bts W)) := HK6.out.below hb
  have HM7 : Hid (Bk w7 g2 (bts D)) := HM6.out.below hb
  clear hb
  go_wp2_with (refine wpList_al rfl 49 rfl (zb 30) (by kernel_rfl) ?_)
  intro g3 w8 hg hb8 hc8 hs8
  have hle3 : w.heap.size ≤ g3 := by rw [hg]; exact HE7.out.size
  have hlt3 : g1 < g3 := by rw [hg]; exact HK7.out.lt
  have hlt4 : g2 < g3 := by rw [hg]; exact HM7.out.lt
  clear hg hs8
  have HE8 : Hid (Below w.heap.size w w8) := HE7.out.trans (hc8.below HE7.out.size (fun _ _ => id))
  have HK8 : Hid (Bk w8 g1 (bts W)) := HK7.out.chg hc8 id
  have HM8 : Hid (Bk w8 g2 (bts D)) := HM7.out.chg hc8 id
  have HZ8 := Lib.hid hb8
  clear hb8 hc8
  go_wp2_with (refine wpList_st rfl 49 _ _ rfl g3 0 30 (zb 30) (bts (List.replicate 30 0)) rfl rfl HZ8.out (by kernel_rfl) rfl (by decide) (one_bts _) ?_)
  intro w9 hb9 hc9
  have HE9 : Hid (Below w.heap.size w w9) := HE8.out.trans (hc9.below HE8.out.size (fun k hk he => by omega))
  have HK9 : Hid (Bk w9 g1 (bts W)) := HK8.out.chg hc9 (by omega)
  have HM9 : Hid (Bk w9 g2 (bts D)) := HM8.out.chg hc9 (by omega)
  clear hb9 hc9
  go_wp2_with fail
  refine (sealEncode_calls 0 none 0 0 [] w9 rfl (by decide) (by decide) (Rd.nil _ _)).mono ?_
  rintro e w10 ⟨rfl, hb⟩
  rw [wake_none]
  have HE10 : Hid (Below w.heap.size w w10) := HE9.out.trans (hb.mono HE9.out.size)
  have HK10 : Hid (Bk w10 g1 (bts W)) := HK9.out.below hb
  have HM10 : Hid (Bk w10 g2 (bts D)) := HM9.out.below hb
  clear hb
  go_wp2_with (refine wpList_al rfl 41 rfl (zb 32) (by kernel_rfl) ?_)
  intro g4 w11 hg hb11 hc11 hs11
  have hle4 : w.heap.size ≤ g4 := by rw [hg]; exact HE10.out.size
  have hlt5 : g1 < g4 := by rw [hg]; exact HK10.out.lt
  have hlt6 : g2 < g4 := by rw [hg]; exact HM10.out.lt
  clear hg hs11
  have HE11 : Hid (Below w.heap.size w w11) := HE10.out.trans (hc11.below HE10.out.size (fun _ _ => id))
  have HK11 : Hid (Bk w11 g1 (bts W)) := HK10.out.chg hc11 id
  have HM11 : Hid (Bk w11 g2 (bts D)) := HM10.out.chg hc11 id
  have HZ11 := Lib.hid hb11
  clear hb11 hc11
  go_wp2_with (refine wpList_st rfl 41 _ _ rfl g4 0 32 (zb 32) (bts (List.replicate 32 0)) rfl rfl HZ11.out (by kernel_rfl) rfl (by decide) (one_bts _) ?_)
  intro w12 hb12 hc12
  have HE12 : Hid (Below w.heap.size w w12) := HE11.out.trans (hc12.below HE11.out.size (fun k hk he => by omega))
  have HK12 : Bk w12 g1 (bts W) := HK11.out.chg hc12 (by omega)
  have HM12 : Bk w12 g2 (bts D) := HM11.out.chg hc12 (by omega)
  clear hb12 hc12
  have c1 := HK12.cell H0.out
  have c2 := HK12.cell H2.out
  have c3 := HK12.cell H3.out
  have c4 := HM12.cell HD0.out
  have c5 := HM12.cell HD2.out
  clear HK12 HM12
  go_wp2
  go_ret
  exact ⟨rfl, HE12.out⟩
end Go.Proofs.Ytnjaldafejbdgaa
