
import Derived.Test.YtcmfkdfegfablaaWakes22

/- The walk of TakerNone. -/
namespace Go.Proofs.Ytcmfkdfegfablaa
open Go.RowKit
set_option linter.unusedVariables false
set_option linter.unusedSimpArgs false

set_option maxRecDepth 100000 in
set_option maxHeartbeats 8000000 in
theorem takerNone_calls (w : World) (A : Option Addr) (n c : Nat) : Calls Try.prog 9 #[.slice A n c] w fun e w' => e = .returned (.bool true) ∧ Below w.heap.size w w' := by
  go_enter Try.func9, Try.ntmps9
  by_cases h5 : 500 < n
  · have h5i : (500 : Int) < (n : Int) := by omega
    go_wp2_with fail
    refine (wakes22_calls w).mono ?_
    rintro en w1 ⟨rfl, hb⟩
    have HB := Lib.hid hb
    clear hb
    go_wp2_with fail
    (try simp only [Exit.inBlock, Exit.then])
    go_ret
    exact ⟨rfl, HB.out⟩
  have h5i : ¬ (500 : Int) < (n : Int) := by omega
  go_wp2_with fail
  refine (take_nil A n c w).mono ?_
  rintro en w1 ⟨rfl, hb⟩
  have Ew1 : Hid (Below w.heap.size w w1) := hb
  clear hb
  go_wp2_with (refine wpList_al rfl 67 rfl zPkD (by kernel_rfl) ?_)
  intro ga w2 hg hb hc hs
  have HQa : Hid (Below w1.heap.size w1 w2) := hc.below (Nat.le_refl _) (fun _ _ => id)
  have HGa : Hid (ga = w1.heap.size) := hg
  have KZa := Lib.hid hb
  clear hg hb hc hs
  go_wp2_with (refine wpList_st rfl 67 (.tmp 3) (.tmp 12) rfl ga 0 4 zPkD (pktC 0 0 0 none 0 0) rfl rfl KZa.out (by kernel_rfl) rfl (by decide) (one_pktD _ _ _ _ _ _) ?_)
  intro w3 hbk hc
  rw [splice_whole zPkD (pktC 0 0 0 none 0 0) rfl] at hbk
  have hb : Below w1.heap.size w1 w3 := HQa.out.trans (hc.below HQa.out.size (fun q hq he => by have := HGa.out; omega))
  have Ew3 : Hid (Below w.heap.size w w3) := Ew1.out.trans (hb.mono Ew1.out.size)
  clear Ew1
  have Kaw3 : Hid (Bk w3 ga (pktC 0 0 0 none 0 0)) := hbk
  have Kaw3 : Hid (Bk w3 ga (pktC 0 0 0 none 0 0)) := hbk
  clear hbk hb hc KZa HQa HGa
  have c0 : w3.cell? ⟨ga, 0, none⟩ = some (.int .i64 0) := Kaw3.out.cell rfl
  have c3 : w3.cell? ⟨ga, 3, none⟩ = some (.slice none 0 0) := Kaw3.out.cell rfl
  go_wp2_with fail
  clear c0 c3
  refine (wakes22_calls w3).mono ?_
  rintro en w4 ⟨rfl, hb⟩
  have Ew4 : Hid (Below w.heap.size w w4) := Ew3.out.trans (hb.mono Ew3.out.size)
  have Kaw4 : Hid (Bk w4 ga (pktC 0 0 0 none 0 0)) := Kaw3.out.below hb
  clear Ew3 Kaw3
  clear hb
  go_wp2_with fail
  (try simp only [Exit.inBlock, Exit.then])
  go_ret
  exact ⟨rfl, Ew4.out⟩
end Go.Proofs.Ytcmfkdfegfablaa
