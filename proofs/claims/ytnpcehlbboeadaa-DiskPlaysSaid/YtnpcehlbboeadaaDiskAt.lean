/- A disk, all of it: sectors, loose writes, fuse, whether it is down. -/
import Derived.Test.YtnpcehlbboeadaaDiskPure
import Derived.Test.YtnpcehlbboeadaaDiskWrite2
import Derived.Test.YtnpcehlbboeadaaDiskWriteR2
namespace Go.Proofs.Ytnpcehlbboeadaa
open Go.RowKit
set_option linter.unusedVariables false
set_option linter.unusedSimpArgs false

theorem Chg.then_ {S T : Nat → Prop} {a b c : World} (h : Chg S a b) (k : Chg T b c) (hT : ∀ j, T j → j < a.heap.size → S j) : Chg S a c :=
  ⟨k.os.trans h.os, k.tape.trans h.tape, k.output.trans h.output, Nat.le_trans h.size k.size, fun j hj hn => (k.block j (Nat.lt_of_lt_of_le hj h.size) (fun ht => hn (hT j ht hj))).trans (h.block j hj hn)⟩
def rowsL (L : List (Nat × List UInt8)) : List Value := L.flatMap fun p => rowW p.1 p.2
def secs (S : List (List UInt8)) : List Value := S.flatMap bts
/-- The disk at g: its sectors' block gs, its loose slice lv. -/
structure DiskAt (wT : TypeId) (w : World) (g gs : Nat) (lv : Value) (S : List (List UInt8)) (L : List (Nat × List UInt8)) (f : Int) (dn : Bool) : Prop where
  dk : Dk w g (.slice (some ⟨gs, 0, none⟩) S.length S.length) lv f dn
  sb : Bk w gs (secs S)
  s32 : ∀ s ∈ S, s.length = 32
  own : w.ownsRow 0 wT 33 lv L.length (rowsL L)
  l32 : ∀ p ∈ L, p.2.length = 32 ∧ p.1 < S.length
  ne : g ≠ gs
  lg : lv.ownBlock ≠ some g
  ls : lv.ownBlock ≠ some gs
  sl : S.length ≤ 1024
/-- Its blocks. -/
def footD (g gs : Nat) (lv : Value) : Nat → Prop := fun j => j = g ∨ j = gs ∨ lv.ownBlock = some j
theorem DiskAt.chg {wT : TypeId} {w w' : World} {g gs : Nat} {lv : Value} {S : List (List UInt8)} {L : List (Nat × List UInt8)} {f : Int} {dn : Bool} {T : Nat → Prop} (h : DiskAt wT w g gs lv S L f dn) (hc : Chg T w w') (hT : ∀ j, footD g gs lv j → ¬ T j) : DiskAt wT w' g gs lv S L f dn :=
  ⟨Bk.chg h.dk hc (hT _ (.inl rfl)), h.sb.chg hc (hT _ (.inr (.inl rfl))), h.s32, own_chg h.own hc (fun k hk => hT _ (.inr (.inr hk))), h.l32, h.ne, h.lg, h.ls, h.sl⟩
theorem DiskAt.below {wT : TypeId} {w w' : World} {g gs : Nat} {lv : Value} {S : List (List UInt8)} {L : List (Nat × List UInt8)} {f : Int} {dn : Bool} (h : DiskAt wT w g gs lv S L f dn) (hc : Below w.heap.size w w') : DiskAt wT w' g gs lv S L f dn :=
  h.chg (T := NoS) (.of_below hc) (fun _ _ => id)
theorem DiskAt.lt {wT : TypeId} {w : World} {g gs : Nat} {lv : Value} {S : List (List UInt8)} {L : List (Nat × List UInt8)} {f : Int} {dn : Bool} (h : DiskAt wT w g gs lv S L f dn) : ∀ j, footD g gs lv j → j < w.heap.size := by
  rintro j (rfl | rfl | hj)
  · exact Bk.lt h.dk
  · exact h.sb.lt
  · exact (h.own.lt _ hj).2
theorem DiskAt.drew {wT : TypeId} {w : World} {g gs : Nat} {lv : Value} {S : List (List UInt8)} {L : List (Nat × List UInt8)} {f : Int} {dn : Bool} (h : DiskAt wT w g gs lv S L f dn) : DiskAt wT w.drew g gs lv S L f dn :=
  ⟨h.dk, h.sb, h.s32, own_drew h.own, h.l32, h.ne, h.lg, h.ls, h.sl⟩
theorem flat_piece_app {α : Type} (f : α → List Value) (C : Nat) (l : List α) (rest : List Value) (i : Nat) (x : α) (h : ∀ x ∈ l, (f x).length = C) (hx : l[i]? = some x) : ((l.flatMap f ++ rest).drop (i * C)).take C = f x := by
  have hi : i < l.length := (List.getElem?_eq_some_iff.1 hx).1
  have hl := flat_length f C l h
  have h1 : i * C + C ≤ l.length * C := by
    have := Nat.mul_le_mul_right C (show i + 1 ≤ l.length from hi)
    rwa [Nat.add_mul, Nat.one_mul] at this
  rw [List.drop_append_of_le_length (by omega), List.take_append_of_le_length (by rw [List.length_drop]; omega)]
  exact flat_piece f C l i x h hx
theorem rowW_length (i : Int) (b : List UInt8) (h : b.length = 32) : (rowW i b).length = 33 := by simp [rowW, h]
theorem DiskAt.row32 {wT : TypeId} {w : World} {g gs : Nat} {lv : Value} {S : List (List UInt8)} {L : List (Nat × List UInt8)} {f : Int} {dn : Bool} (h : DiskAt wT w g gs lv S L f dn) : ∀ p ∈ L, (rowW (p.1 : Int) p.2).length = 33 := fun p hp => rowW_length _ _ (h.l32 p hp).1
theorem DiskAt.sec32 {wT : TypeId} {w : World} {g gs : Nat} {lv : Value} {S : List (List UInt8)} {L : List (Nat × List UInt8)} {f : Int} {dn : Bool} (h : DiskAt wT w g gs lv S L f dn) : ∀ s ∈ S, (bts s).length = 32 := fun s hs => by rw [bts_length]; exact h.s32 s hs
theorem DiskAt.secs_len {wT : TypeId} {w : World} {g gs : Nat} {lv : Value} {S : List (List UInt8)} {L : List (Nat × List UInt8)} {f : Int} {dn : Bool} (h : DiskAt wT w g gs lv S L f dn) : (secs S).length = S.length * 32 := flat_length bts 32 S h.sec32
theorem DiskAt.sec {wT : TypeId} {w : World} {g gs : Nat} {lv : Value} {S : List (List UInt8)} {L : List (Nat × List UInt8)} {f : Int} {dn : Bool} (h : DiskAt wT w g gs lv S L f dn) (i : Nat) (hi : i < S.length) : ((secs S).drop (i * 32)).take 32 = bts (S.getD i []) :=
  flat_piece bts 32 S i _ h.sec32 (by rw [List.getD_eq_getElem?_getD, List.getElem?_eq_getElem hi]; rfl)
theorem DiskAt.now32 {wT : TypeId} {w : World} {g gs : Nat} {lv : Value} {S : List (List UInt8)} {L : List (Nat × List UInt8)} {f : Int} {dn : Bool} (h : DiskAt wT w g gs lv S L f dn) (i : Nat) (hi : i < S.length) : ∀ k, k ≤ L.length → (nowS S (L.take k) i).length = 32 := by
  intro k
  induction k with
  | zero =>
    intro _
    rw [List.take_zero, nowS, List.foldl_nil, List.getD_eq_getElem?_getD, List.getElem?_eq_getElem hi]
    exact h.s32 _ (List.getElem_mem hi)
  | succ k ih =>
    intro hk
    rw [nowS_take S L i k hk]
    split
    · exact (h.l32 _ (List.getElem_mem hk)).1
    · exact ih (by omega)
/-- The loose row's block, and the k-th write in it. -/
theorem DiskAt.loose {wT : TypeId} {w : World} {g gs : Nat} {lv : Value} {S : List (List UInt8)} {L : List (Nat × List UInt8)} {f : Int} {dn : Bool} (h : DiskAt wT w g gs lv S L f dn) (k : Nat) (hk : k < L.length) :
    ∃ gl cap vs, lv = .slice (some ⟨gl, 0, none⟩) L.length cap ∧ Bk w gl vs ∧ k * 33 + 33 ≤ vs.length ∧ (vs.drop (k * 33)).take 33 = rowW (L[k].1 : Int) L[k].2 ∧ gl ≠ g ∧ gl ≠ gs := by
  obtain ⟨gl, cap, rest, hv, hb, ho⟩ := own_bkr h.own (by omega)
  have hl := flat_length (fun p : Nat × List UInt8 => rowW p.1 p.2) 33 L h.row32
  have h1 : k * 33 + 33 ≤ L.length * 33 := by omega
  refine ⟨gl, cap, rowsL L ++ rest, hv, hb, ?_, flat_piece_app (fun p : Nat × List UInt8 => rowW p.1 p.2) 33 L rest k L[k] h.row32 (List.getElem?_eq_getElem hk), fun he => h.lg (by rw [ho, he]), fun he => h.ls (by rw [ho, he])⟩
  rw [List.length_append]
  show k * 33 + 33 ≤ (L.flatMap fun p => rowW p.1 p.2).length + rest.length
  rw [hl]
  omega
section
variable {wT : TypeId} {w w' : World} {g gs : Nat} {lv : Value} {S : List (List UInt8)} {L : List (Nat × List UInt8)} {f f' : Int} {dn dn' : Bool}
theorem DiskAt.redk (h : DiskAt wT w g gs lv S L f dn) (hc : Chg (· = g) w w') (hd : Dk w' g (.slice (some ⟨gs, 0, none⟩) S.length S.length) lv f' dn') : DiskAt wT w' g gs lv S L f' dn' :=
  ⟨hd, h.sb.chg hc h.ne.symm, h.s32, own_chg h.own hc (fun k hk he => h.lg (by rw [hk, he])), h.l32, h.ne, h.lg, h.ls, h.sl⟩
theorem DiskAt.empty (h : DiskAt wT w g gs lv S L f dn) (hc : Chg (· = g) w w') (hd : Dk w' g (.slice (some ⟨gs, 0, none⟩) S.length S.length) (.slice none 0 0) f' dn') : DiskAt wT w' g gs (.slice none 0 0) S [] f' dn' :=
  ⟨hd, h.sb.chg hc h.ne.symm, h.s32, World.ownsRow_nil w' 0 wT 33, fun p hp => (by cases hp), h.ne, fun he => (by cases he), fun he => (by cases he), h.sl⟩
theorem DiskAt.put (h : DiskAt wT w g gs lv S L f dn) (i : Nat) (b : List UInt8) (hi : i < S.length) (hb : b.length = 32) (hc : Chg (· = gs) w w') (hs : Bk w' gs (splice (secs S) (i * 32) (bts b))) : DiskAt wT w' g gs lv (S.set i b) L f dn := by
  refine ⟨by rw [List.length_set]; exact Bk.chg h.dk hc h.ne, ?_, ?_, own_chg h.own hc (fun k hk he => h.ls (by rw [hk, he])), fun p hp => by rw [List.length_set]; exact h.l32 p hp, h.ne, h.lg, h.ls, by rw [List.length_set]; exact h.sl⟩
  · rwa [secs, flat_set bts 32 S i b h.sec32 (by rw [bts_length, hb]) hi] at hs
  · intro s hs
    rcases List.mem_or_eq_of_mem_set hs with h2 | rfl
    · exact h.s32 s h2
    · exact hb
end
theorem piece_parts {vs : List Value} {off : Nat} {i : Int} {b : List UInt8} (hb : b.length = 32) (h : (vs.drop off).take 33 = rowW i b) : vs[off]? = some (.int .i64 i) ∧ (vs.drop (off + 1)).take 32 = bts b := by
  constructor
  · have h2 := congrArg (·[0]?) h
    simp only [rowW, List.getElem?_cons_zero, List.getElem?_take, List.getElem?_drop, Nat.add_zero] at h2
    rw [if_pos (by decide)] at h2
    exact h2
  · have h2 := congrArg (List.drop 1) h
    rw [List.drop_take, List.drop_drop] at h2
    simpa [rowW] using h2
end Go.Proofs.Ytnpcehlbboeadaa
