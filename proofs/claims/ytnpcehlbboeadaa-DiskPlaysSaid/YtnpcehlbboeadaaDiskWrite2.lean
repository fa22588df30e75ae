/- The walk of disk.Write, where it does not go through. -/
import Derived.Test.YtnpcehlbboeadaaDiskWrite
namespace Go.Proofs.Ytnpcehlbboeadaa
open Go.RowKit
set_option linter.unusedVariables false
set_option linter.unusedSimpArgs false

set_option maxRecDepth 100000 in
set_option maxHeartbeats 2000000 in
theorem diskWrite_arg (w : World) (g : Nat) (A : Option Addr) (n c : Nat) (lv : Value) (f : Int) (dn : Bool) (i : Int) (b : List UInt8) (hd : Dk w g (.slice A n c) lv f dn) (hi : ¬ (0 ≤ i ∧ i < n)) :
    Calls Try.prog 17 #[.pointer (some ⟨g, 0, none⟩), .int .i64 i, .agg (bts b).toArray] w fun e w' => e = .returned (.int .i64 1) ∧ Below w.heap.size w w' := by
  have HD := Lib.hid hd
  clear hd
  generalize bts b = vx
  have hz : (decide (0 ≤ i) && decide (i < (n : Int))) = false := by
    rw [← Bool.decide_and]
    exact decide_eq_false hi
  go_enter Try.func17, Try.ntmps17
  go_wp2_with fail
  refine calls_at fun w1 hw1 => ?_
  have HD1 : Hid (Dk w1 g (.slice A n c) lv f dn) := by rw [← hw1]; exact HD.out.alloc _
  have HE1 : Hid (Below w.heap.size w w1) := by rw [← hw1]; exact (Below.refl _ _).alloc (Nat.le_refl _) _
  clear hw1
  refine (diskHas_calls w1 g A n c lv f dn i HD1.out).mono ?_
  rintro e w' ⟨rfl, rfl⟩
  rw [hz]
  clear hi
  go_wp2
  go_ret
  exact ⟨rfl, HE1.out⟩
set_option maxRecDepth 100000 in
set_option maxHeartbeats 2000000 in
theorem diskWrite_down (w : World) (g : Nat) (A : Option Addr) (n c : Nat) (lv : Value) (f : Int) (dn : Bool) (i : Int) (b : List UInt8) (hd : Dk w g (.slice A n c) lv f dn) (hi : 0 ≤ i ∧ i < n) (hp : passD f dn = true) (hf : -1 ≤ f) (hf2 : f ≤ 9223372036854775807) (hl1 : lv.oneCell' = true) :
    Calls Try.prog 17 #[.pointer (some ⟨g, 0, none⟩), .int .i64 i, .agg (bts b).toArray] w fun e w' => e = .returned (.int .i64 20) ∧ Dk w' g (.slice A n c) lv (passF f dn) true ∧ Chg (· = g) w w' := by
  have HD := Lib.hid hd
  clear hd
  generalize bts b = vx
  have hz : (decide (0 ≤ i) && decide (i < (n : Int))) = true := by
    rw [← Bool.decide_and]
    exact decide_eq_true hi
  have hpe : passE f dn = 20 := by
    unfold passE passD at *
    cases dn <;> simp_all
  go_enter Try.func17, Try.ntmps17
  go_wp2_with fail
  refine calls_at fun w1 hw1 => ?_
  have HD1 : Hid (Dk w1 g (.slice A n c) lv f dn) := by rw [← hw1]; exact HD.out.alloc _
  have HC1 : Hid (Chg NoS w w1) := by rw [← hw1]; exact (Chg.refl _).alloc _
  clear hw1
  refine (diskHas_calls w1 g A n c lv f dn i HD1.out).mono ?_
  rintro e w' ⟨rfl, rfl⟩
  rw [hz]
  go_wp2_with fail
  refine (diskPass_calls w1 g _ lv f dn HD1.out rfl hl1 hf hf2).mono ?_
  rintro e w2 ⟨rfl, hd2, hc2⟩
  rw [hpe]
  rw [hp] at hd2
  have HD2 := Lib.hid hd2
  have HC2 : Hid (Chg (· = g) w w2) := (HC1.out.mono (fun _ h => h.elim)).trans hc2
  clear hd2 hc2
  go_wp2
  go_ret
  exact ⟨rfl, HD2.out, HC2.out⟩
end Go.Proofs.Ytnpcehlbboeadaa
