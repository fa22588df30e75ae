
import Derived.Test.YtcmfkdfegfablaaPkDec

/- Packets and their bytes, in plain Lean. -/
namespace Go.Proofs.Ytcmfkdfegfablaa
open Go.RowKit
set_option linter.unusedVariables false
set_option linter.unusedSimpArgs false

theorem packEncode_yes (k : Int) (e q : UInt32) (ps : List PutV) (A : Option Addr) (n c : Nat) (w : World) (hl : ps.length = n) (hm : n ≤ 9223372036854775807) (hr : Rd w A (ps.flatMap putC)) (ho : PutsOk ps) (hg : goodP k ps = true) :
    Calls Try.prog 55 #[.agg (pktC k e q A n c).toArray] w fun en w' => ∃ A c, en = .returned (.tuple #[.slice A (encP k.toNat e q ps).length c, .int .i64 0]) ∧ w'.ownsRow w.heap.size 5 1 (.slice A (encP k.toNat e q ps).length c) (encP k.toNat e q ps).length (bts (encP k.toNat e q ps)) ∧ Below w.heap.size w w' :=
  (packEncode_calls k e q ps A n c w hl hm hr ho).mono fun en w' hp => by unfold EncPost at hp; rwa [if_pos hg] at hp
theorem packEncode_no (k : Int) (e q : UInt32) (ps : List PutV) (A : Option Addr) (n c : Nat) (w : World) (hl : ps.length = n) (hm : n ≤ 9223372036854775807) (hr : Rd w A (ps.flatMap putC)) (ho : PutsOk ps) (hg : ¬ goodP k ps = true) :
    Calls Try.prog 55 #[.agg (pktC k e q A n c).toArray] w fun en w' => en = .returned (.tuple #[.slice none 0 0, .int .i64 11]) ∧ Below w.heap.size w w' :=
  (packEncode_calls k e q ps A n c w hl hm hr ho).mono fun en w' hp => by unfold EncPost at hp; rwa [if_neg hg] at hp
theorem putV_eqP {p q : PutV} (h1 : p.at_ = q.at_) (h2 : p.data = q.data) : p = q := by
  cases p
  cases q
  simp at h1 h2
  rw [h1, h2]
theorem putB_len {p : PutV} (h : p.data.length = 32) : (putB p).length = 33 := by simp [putB, h]
theorem flatB_len : ∀ (ps : List PutV), PutsOk ps → (ps.flatMap putB).length = 33 * ps.length
  | [], _ => rfl
  | p :: ps, h => by
    rw [List.flatMap_cons, List.length_append, putB_len (h p List.mem_cons_self).1, flatB_len ps (fun x hx => h x (List.mem_cons_of_mem _ hx)), List.length_cons]
    omega
theorem flatB_piece : ∀ (ps : List PutV) (j : Nat) (hj : j < ps.length) (C : List UInt8), PutsOk ps → ((ps.flatMap putB ++ C).drop (33 * j)).take 33 = putB ps[j]
  | [], j, hj, _, _ => by simp at hj
  | p :: ps, 0, _, C, h => by
    have hl := putB_len (h p List.mem_cons_self).1
    rw [Nat.mul_zero, List.drop_zero, List.flatMap_cons, List.append_assoc, List.take_append_of_le_length (by rw [hl]; exact Nat.le_refl _), List.take_of_length_le (by rw [hl]; exact Nat.le_refl _)]
    rfl
  | p :: ps, j + 1, hj, C, h => by
    have hl := putB_len (h p List.mem_cons_self).1
    rw [List.flatMap_cons, List.append_assoc, List.drop_append, List.drop_eq_nil_of_le (by rw [hl]; omega), List.nil_append, hl, show 33 * (j + 1) - 33 = 33 * j by omega]
    exact flatB_piece ps j (by simpa using hj) C (fun x hx => h x (List.mem_cons_of_mem _ hx))
theorem encP_form (K : Nat) (e q : UInt32) (ps : List PutV) : encP K e q ps = hdrP K e q ps.length ++ (ps.flatMap putB ++ [(crcCheck (encK K e q ps ps.length)).toUInt8, (crcCheck (encK K e q ps ps.length) >>> 8).toUInt8]) := by
  rw [encP, ← List.append_assoc]
  congr 1
  rw [encK, List.take_length]
theorem encP_len {K : Nat} {e q : UInt32} {ps : List PutV} (h : PutsOk ps) : (encP K e q ps).length = 33 * ps.length + 12 := by
  rw [encP_form, List.length_append, hdrP_len, List.length_append, flatB_len ps h]
  simp
  omega
theorem encP_rest (K : Nat) (e q : UInt32) (ps : List PutV) : crcMore 0xffff (encP K e q ps) = 0xf0b8 := by
  rw [encP, crcMore_append]
  exact crcMore_rest _
theorem encP_zero (K : Nat) (e q : UInt32) (ps : List PutV) : (encP K e q ps).getD 0 0 = UInt8.ofNat K := by
  rw [encP_form]
  rfl
theorem encP_e (K : Nat) (e q : UInt32) (ps : List PutV) : ((encP K e q ps).drop 1).take 4 = le e.toNat 4 := by
  rw [encP_form]
  rfl
theorem encP_q (K : Nat) (e q : UInt32) (ps : List PutV) : ((encP K e q ps).drop 5).take 4 = le q.toNat 4 := by
  rw [encP_form]
  rfl
theorem encP_n (K : Nat) (e q : UInt32) (ps : List PutV) : (encP K e q ps).getD 9 0 = UInt8.ofNat ps.length := by
  rw [encP_form]
  rfl
theorem encP_put (K : Nat) (e q : UInt32) {ps : List PutV} (h : PutsOk ps) {j : Nat} (hj : j < ps.length) : ((encP K e q ps).drop (10 + 33 * j)).take 33 = putB ps[j] := by
  rw [encP_form, List.drop_append, List.drop_eq_nil_of_le (by rw [hdrP_len]; omega), List.nil_append, hdrP_len, show 10 + 33 * j - 10 = 33 * j by omega]
  exact flatB_piece ps j hj _ h
theorem encP_at (K : Nat) (e q : UInt32) {ps : List PutV} (h : PutsOk ps) {j : Nat} (hj : j < ps.length) : (encP K e q ps).getD (10 + 33 * j) 0 = UInt8.ofNat ps[j].at_.toNat := by
  have h1 := encP_put K e q h hj
  have h2 := congrArg (·.getD 0 0) h1
  simpa [List.getD_eq_getElem?_getD, List.getElem?_take, List.getElem?_drop, putB] using h2
theorem encP_data (K : Nat) (e q : UInt32) {ps : List PutV} (h : PutsOk ps) {j : Nat} (hj : j < ps.length) : ((encP K e q ps).drop (11 + 33 * j)).take 32 = ps[j].data := by
  have h1 := congrArg (List.drop 1) (encP_put K e q h hj)
  rw [List.drop_take, List.drop_drop] at h1
  rw [show 11 + 33 * j = 10 + 33 * j + 1 by omega]
  exact h1
theorem le4_u32 (e : UInt32) : UInt32.ofNat (num (le e.toNat 4)) = e := by
  rw [num_le 4 e.toNat e.toNat_lt]
  exact UInt32.toNat_inj.1 (by rw [UInt32.toNat_ofNat_of_lt' (by show e.toNat < 4294967296; exact e.toNat_lt)])
theorem byte_int {n : Int} (h0 : 0 ≤ n) (h1 : n < 256) : ((UInt8.ofNat n.toNat).toNat : Int) = n := by
  rw [UInt8.toNat_ofNat_of_lt' (by show n.toNat < 256; omega)]
  omega
theorem putsN_enc (K : Nat) (e q : UInt32) {ps : List PutV} (h : PutsOk ps) (ha : ∀ p ∈ ps, 0 ≤ p.at_ ∧ p.at_ < 256) : putsN (encP K e q ps) ps.length = ps := by
  apply List.ext_getElem?
  intro j
  by_cases h2 : j < ps.length
  case neg => rw [List.getElem?_eq_none (by rw [putsN_len]; omega), List.getElem?_eq_none (by omega)]
  rw [List.getElem?_eq_getElem h2, putsN, List.getElem?_map, List.getElem?_range h2]
  have hp := ha _ (List.getElem_mem h2)
  refine congrArg some (putV_eqP ?_ ?_)
  · show (((encP K e q ps).getD (10 + 33 * j) 0).toNat : Int) = _
    rw [encP_at K e q h h2]
    exact byte_int hp.1 hp.2
  · exact encP_data K e q h h2
theorem dec_enc {K : Int} {e q : UInt32} {ps : List PutV} (hg : goodP K ps = true) (h : PutsOk ps) : decP (encP K.toNat e q ps) = ((K, e, q, ps), 0) := by
  obtain ⟨h1, h4, h5, ha⟩ := goodP_at hg
  have hl := encP_len (K := K.toNat) (e := e) (q := q) h
  have hn : nD (encP K.toNat e q ps) = ps.length := by unfold nD; rw [hl]; omega
  have hk : kD (encP K.toNat e q ps) = K := by unfold kD; rw [encP_zero]; exact byte_int (by omega) (by omega)
  have he : eD (encP K.toNat e q ps) = e := by unfold eD; rw [encP_e]; exact le4_u32 e
  have hq : qD (encP K.toNat e q ps) = q := by unfold qD; rw [encP_q]; exact le4_u32 q
  have hp : putsN (encP K.toNat e q ps) (nD (encP K.toNat e q ps)) = ps := by rw [hn]; exact putsN_enc _ _ _ h ha
  have hlen : lenOkD (encP K.toNat e q ps) := ⟨by rw [hl]; omega, by rw [hl]; omega⟩
  have := decP_yes hlen (by rw [hk, hp]; exact hg) (by rw [hk, he, hq, hp])
  rw [hk, he, hq, hp] at this
  exact this
/-- Whatever is a packet's has the rest. -/
theorem dec_rest {b : List UInt8} (h : (decP b).2 = 0) : crcMore 0xffff b = 0xf0b8 ∧ lenOkD b := by
  unfold decP at h
  split at h
  · rename_i hh
    refine ⟨?_, hh.1⟩
    rw [← hh.2.2]
    exact encP_rest _ _ _ _
  · cases h
theorem decP_zero_or (b : List UInt8) : (decP b).2 = 0 ∨ decP b = ((0, 0, 0, []), 11) := by
  unfold decP
  split
  · exact .inl rfl
  · exact .inr rfl
/-- Two neighboring bytes that are turned. -/
theorem dec_turned {b : List UInt8} (hb : crcMore 0xffff b = 0xf0b8) {k : Nat} (hk : k + 1 < b.length) (u v : UInt8) (h : (decP ((b.set k u).set (k + 1) v)).2 = 0) : u = b.getD k 0 ∧ v = b.getD (k + 1) 0 := by
  have h1 := (dec_rest h).1
  have e1 : ∀ (c : UInt16) (x y : UInt8) (l : List UInt8), crcMore c (x :: y :: l) = crcMore (crcMore c [x, y]) l := fun c x y l => crcMore_append c [x, y] l
  have e2 : ∀ (A B : List UInt8) (x y : UInt8), crcMore 0xffff (A ++ x :: y :: B) = crcMore (crcMore (crcMore 0xffff A) [x, y]) B := fun A B x y => by rw [crcMore_append, e1]
  have h2 := split_two b k hk
  rw [set_two b k hk, e2] at h1
  rw [h2, e2] at hb
  exact crcMore_two_inj (crcMore_inj (h1.trans hb.symm))
theorem dec_short {b : List UInt8} {n : Nat} (hb : b.length = 33 * n + 12) : decP (b.take (b.length - 1)) = ((0, 0, 0, []), 11) := decP_len (fun h => by
  have h1 := h.1
  have h2 := h.2
  rw [List.length_take] at h1 h2
  omega)
theorem dec_long {b : List UInt8} {n : Nat} (hb : b.length = 33 * n + 12) (x : UInt8) : decP (b ++ [x]) = ((0, 0, 0, []), 11) := decP_len (fun h => by
  have h1 := h.1
  have h2 := h.2
  rw [List.length_append, List.length_singleton] at h1 h2
  omega)
end Go.Proofs.Ytcmfkdfegfablaa
