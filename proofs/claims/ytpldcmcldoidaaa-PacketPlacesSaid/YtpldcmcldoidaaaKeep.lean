
/- Rows of bytes, held against each other as strings. -/
import Derived.Test.YtpldcmcldoidaaaProg
import Derived.Test.YtpldcmcldoidaaaBlk
import Derived.Laws.BytesArg
namespace Go.Proofs.Ytpldcmcldoidaaa
open Go.RowKit
set_option linter.unusedVariables false
set_option linter.unusedSimpArgs false

def strOf (l : List UInt8) : ByteArray := strOfNums (l.map fun x => (x.toNat : Int))
theorem strOf_data (l : List UInt8) : (strOf l).data.toList = l := by
  rw [strOf, strOfNums_data, List.map_map]
  conv => rhs; rw [← List.map_id l]
  apply List.map_congr_left
  intro x _
  simp
theorem strOf_inj (a b : List UInt8) : ((strOf a).toList == (strOf b).toList) = decide (a = b) := by
  rw [Bool.eq_iff_iff, beq_iff_eq, decide_eq_true_iff]
  have e : ∀ s : ByteArray, s.toList = s.data.toList := ByteArray.toList_eq
  rw [e, e, strOf_data, strOf_data]
theorem conv_rd {P : Program} (w : World) (src e : TypeId) (hs : P.underlying src = some (.slice e)) (he : P.underlying e = some (.int .u8)) (A : Option Addr) (n c : Nat) (l : List UInt8) (hl : l.length = n) (hr : Rd w A (bts l)) :
    ∀ dst, P.underlying dst = some .string → (convert src dst (.slice A n c)).run P w = .ok (.string (strOf l)) w := by
  intro dst hd
  subst hl
  rcases A with _ | ad
  · have h0 : l = [] := by
      cases l with
      | nil => rfl
      | cons x l => obtain ⟨ad, h, _⟩ := hr 0 (vu8 x) rfl; cases h
    subst h0
    exact run_convert_bytes_nil w src e hs he _ _ dst hd
  · have hld : (loadCells ad l.length).run P w = .ok ((l.map fun x => (x.toNat : Int)).map (Value.int .u8)).toArray w := by
      have := run_loadCells_list (P := P) w ad (bts l) (fun j v hj => by
        obtain ⟨ad', h, hc⟩ := hr j v hj
        injection h with h
        subst h
        exact hc)
      rw [bts_length] at this
      rw [this, List.map_map]
      rfl
    rw [run_convert_bytes_string w src dst e _ _ c hs he hd, run_bytesToString w _ _ c _ hld, foldl_push_bytes]
    simp [strOf, strOfNums, ByteArray.empty, ByteArray.emptyWithCapacity]
    try rfl
set_option maxHeartbeats 400000 in
theorem keepBytes_calls (A B : Option Addr) (n p ca cb : Nat) (a b : List UInt8) (w : World) (la : a.length = n) (lb : b.length = p) (ra : Rd w A (bts a)) (rb : Rd w B (bts b)) :
    Calls Try.prog 12 #[.slice A n ca, .slice B p cb] w fun e w' => e = .returned (.bool (decide (a = b))) ∧ w = w' := by
  have k1 := conv_rd (P := Try.prog) w 26 5 Try.underlying26 Try.underlying5 A n ca a la ra 9 Try.underlying9
  have k2 := conv_rd (P := Try.prog) w 26 5 Try.underlying26 Try.underlying5 B p cb b lb rb 9 Try.underlying9
  have HI := Lib.hid (strOf_inj a b)
  generalize strOf a = s at *
  generalize strOf b = t at *
  clear ra rb la lb
  go_enter Try.func12, Try.ntmps12
  go_wp2
  go_ret
  exact ⟨by rw [← HI.out]; rfl, rfl⟩
end Go.Proofs.Ytpldcmcldoidaaa
