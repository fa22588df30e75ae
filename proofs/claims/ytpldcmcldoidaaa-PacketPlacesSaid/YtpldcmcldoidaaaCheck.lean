
/- The walk of the check's statements' own trial of the program. -/
import Derived.Test.YtpldcmcldoidaaaWCrc
import Derived.Test.YtpldcmcldoidaaaMem
import Derived.Lib.SlBytesConst
import Derived.Deep.AppendLies
import Derived.Laws.OwnMore
namespace Go.Proofs.Ytpldcmcldoidaaa
open Go.RowKit
set_option linter.unusedVariables false
set_option linter.unusedSimpArgs false

theorem check_one {w : World} {A : Option Addr} {g n c : Nat} {l : List UInt8} (hh : Rd w (some ⟨g, 0, none⟩) [.slice A n c]) (hn : l.length = n) (hc : n ≤ c) (hm : c ≤ 9223372036854775807) (hr : Rd w A (bts l)) :
    Calls Try.prog 16 #[.slice (some ⟨g, 0, none⟩) 1 1] w fun e w' => e = .returned (vu16 (crcCheck l)) ∧ w = w' := by
  subst hn
  have := check_calls [⟨A, c, l⟩] (some ⟨g, 0, none⟩) 1 1 w rfl (by decide) hh (by
    intro p hp
    obtain rfl : p = ⟨A, c, l⟩ := by simpa using hp
    exact ⟨hr, hc, hm⟩)
  simpa [ptl] using this
theorem check_two {w : World} {A B : Option Addr} {g n c m d : Nat} {l k : List UInt8} (hh : Rd w (some ⟨g, 0, none⟩) [.slice A n c, .slice B m d]) (hn : l.length = n) (hc : n ≤ c) (hm : c ≤ 9223372036854775807) (hr : Rd w A (bts l))
    (hn' : k.length = m) (hc' : m ≤ d) (hm' : d ≤ 9223372036854775807) (hr' : Rd w B (bts k)) :
    Calls Try.prog 16 #[.slice (some ⟨g, 0, none⟩) 2 2] w fun e w' => e = .returned (vu16 (crcCheck (l ++ k))) ∧ w = w' := by
  subst hn
  subst hn'
  have := check_calls [⟨A, c, l⟩, ⟨B, d, k⟩] (some ⟨g, 0, none⟩) 2 2 w rfl (by decide) hh (by
    intro p hp
    have : p = ⟨A, c, l⟩ ∨ p = ⟨B, d, k⟩ := by simpa using hp
    rcases this with rfl | rfl
    · exact ⟨hr, hc, hm⟩
    · exact ⟨hr', hc', hm'⟩)
  simpa [ptl] using this
theorem check_none {w : World} : Calls Try.prog 16 #[.slice none 0 0] w fun e w' => e = .returned (vu16 0) ∧ w = w' :=
  check_calls [] none 0 0 w rfl (by decide) (Rd.nil _ _) (by intro p hp; cases hp)
theorem conv_bytes {P : Program} (t e : TypeId) (ht : P.underlying t = some (.slice e)) (he : P.underlying e = some (.int .u8)) : ∀ (W : World) (C : Array Value) (n c g : Nat), g = W.heap.size →
    (convert t t (.slice (some ⟨g, 0, none⟩) n c)).run P (W.alloc (.cells C e)) = .ok (.slice (some ⟨g, 0, none⟩) n c) (W.alloc (.cells C e (C.size, C.size + 1))) := by
  intro W C n c g hg
  subst hg
  exact Lib.run_convert_bytes_const W t e C n c ht he
theorem check_w1 : crcCheck [49,50,51,52,53,54,55,56,57] = 0x906e := by decide +kernel
theorem empty_own' {W : World} {g : Nat} (e : TypeId) (size : Nat) (hg : g = W.heap.size) : (W.alloc (.cells #[] e)).ownsRow g e size (.slice (some ⟨g, 0, none⟩) 0 0) 0 [] := by
  subst hg
  exact ⟨by simp, .inr ⟨W.heap.size, 0, #[], rfl, Nat.le_refl _, hal_new rfl, Nat.le_refl _, by simp [maxLen], by simp, by simp⟩⟩
theorem empty_own (w : World) (e : TypeId) (size : Nat) : (w.alloc (.cells #[] e)).ownsRow w.heap.size e size (.slice (some ⟨w.heap.size, 0, none⟩) 0 0) 0 [] :=
  ⟨by simp, .inr ⟨w.heap.size, 0, #[], rfl, Nat.le_refl _, hal_new rfl, Nat.le_refl _, by simp [maxLen], by simp, by simp⟩⟩
end Go.Proofs.Ytpldcmcldoidaaa
