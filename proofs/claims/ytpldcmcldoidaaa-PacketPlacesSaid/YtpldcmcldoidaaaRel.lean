
/- A statement that leaves its order open: whatever the order, each operation leaves a fact that lasts; behind them all the facts are there. -/
import Derived.Test.YtpldcmcldoidaaaBase
import Derived.StillTail
namespace Go.Proofs.Ytpldcmcldoidaaa
open Go.RowKit
set_option linter.unusedVariables false
set_option linter.unusedSimpArgs false

/-- What is known of an operation's answer, once it has been carried out. -/
abbrev Fact := World → Value → Prop
def dv : Option Tmp → Value → Value
  | some _, v => v
  | none, _ => undef

def NoExit : Exit → Act → World → Prop := fun _ _ _ => False
def RelPost (E : World → World → Prop) (F : Fact) (a : Act) (dst : Option Tmp) (w : World) (a' : Act) (w' : World) : Prop :=
  ∃ v, a' = a.put dst v ∧ F w' (dv dst v) ∧ E w w'

def factOf (o : Oper) (F : Fact) (a : Act) (w : World) : Prop :=
  match o.dst with
  | some d => F w (a.eval (.tmp d))
  | none => F w undef

/-- G, where the facts of the operations D hold. -/
def WithFacts (l : List Oper) (Fs : List Fact) (a : Act) (w : World) (G : Prop) : List Nat → Prop
  | [] => G
  | j :: js => (match l[j]?, Fs[j]? with
      | some o, some F => factOf o F a w
      | _, _ => True) → WithFacts l Fs a w G js

def OpOk (P : Program) (l : List Oper) (E : World → World → Prop) (Fs : List Fact) (a0 : Act) (w0 : World) (wr : List Tmp) (o : Oper) (F : Fact) (D : List Nat) : Prop :=
  ∀ (a : Act) (w : World), E w0 w → (∀ t, wr.contains t = false → a.eval (.tmp t) = a0.eval (.tmp t)) →
    WithFacts l Fs a w (if Region.wanted o (yielded l.toArray a.tmps) = true then o.wp P a w (RelPost E F a o.dst w) NoExit else F w undef) D

def OpsOk (P : Program) (l : List Oper) (E : World → World → Prop) (Fs0 : List Fact) (a0 : Act) (w0 : World) (wr : List Tmp) : List Oper → List Fact → List (List Nat) → Prop
  | o :: os, F :: Fs, D :: Ds => OpOk P l E Fs0 a0 w0 wr o F D ∧ OpsOk P l E Fs0 a0 w0 wr os Fs Ds
  | [], _, _ => True
  | _ :: _, _, _ => False

def FinOk (w : World) (K : Act → Prop) : List Oper → List Fact → Act → Prop
  | o :: os, F :: Fs, a =>
    match o.dst with
    | some d => ∀ v, F w v → FinOk w K os Fs (a.put (some d) v)
    | none => F w undef → FinOk w K os Fs a
  | _, _, a => K a

def maskOf (acc : List Nat) (es : List Edge) : Nat :=
  es.foldl (fun s e => if Region.binds .any e then s ||| 2 ^ e.on ||| acc.getD e.on 0 else s) 0
def masks : List Oper → List Nat → List Nat
  | [], acc => acc
  | o :: os, acc => masks os (acc ++ [maskOf acc o.after.toList])

def headListed (n m : Nat) : Array Bool := (List.replicate n true ++ List.replicate (m - n) false).toArray
def nodupB : List Tmp → Bool
  | [] => true
  | t :: ts => !ts.contains t && nodupB ts
def relB (l : List Oper) (n : Nat) (Ds : List (List Nat)) : Bool :=
  decide (n ≤ l.length) && nodupB ((l.take n).filterMap (·.dst)) && decide (Ds.length = n) &&
  ((List.range n).all fun i => (Ds.getD i []).all fun j => decide (j < n) && ((masks l []).getD i 0).testBit j) &&
  (decide (n = l.length) || (Region.sinkB .any l.toArray n && Region.chainB .any l.toArray n)) &&
  ((List.range n).all fun i => match l[i]? with
    | some o => o.after.all fun e => !Region.binds .any e || decide (e.on < i)
    | none => true) &&
  Region.seqB .any l.toArray (l.length - n) n (headListed n l.length)

/-! ### the masks -/
theorem foldl_bit (acc : List Nat) (j : Nat) : ∀ (es : List Edge) (s : Nat),
    (es.foldl (fun s e => if Region.binds .any e then s ||| 2 ^ e.on ||| acc.getD e.on 0 else s) s).testBit j = true →
    s.testBit j = true ∨ ∃ e ∈ es, Region.binds .any e = true ∧ (e.on = j ∨ (acc.getD e.on 0).testBit j = true)
  | [], s, h => .inl h
  | e :: es, s, h => by
    simp only [List.foldl_cons] at h
    rcases foldl_bit acc j es _ h with h | ⟨e', he, hb, hj⟩
    · by_cases hb : Region.binds .any e = true
      · rw [if_pos hb, Nat.testBit_or, Nat.testBit_or, Bool.or_eq_true, Bool.or_eq_true] at h
        rcases h with (h | h) | h
        · exact .inl h
        · refine .inr ⟨e, List.mem_cons_self, hb, .inl ?_⟩
          rw [Nat.testBit_two_pow] at h
          exact of_decide_eq_true h
        · exact .inr ⟨e, List.mem_cons_self, hb, .inr h⟩
      · rw [if_neg hb] at h
        exact .inl h
    · exact .inr ⟨e', List.mem_cons_of_mem _ he, hb, hj⟩
theorem masks_get : ∀ (os : List Oper) (acc : List Nat) (k : Nat), k < acc.length → (masks os acc).getD k 0 = acc.getD k 0
  | [], _, _, _ => rfl
  | o :: os, acc, k, h => by
    rw [masks, masks_get os _ k (by rw [List.length_append]; omega)]
    simp [List.getElem?_append_left h]
theorem masks_at : ∀ (os : List Oper) (acc : List Nat) (i : Nat) (o : Oper), os[i]? = some o →
    (masks os acc).getD (acc.length + i) 0 = maskOf ((masks os acc).take (acc.length + i)) o.after.toList
  | o :: os, acc, 0, o', h => by
    have : o = o' := by simpa using h
    subst this
    have h1 : (masks os (acc ++ [maskOf acc o.after.toList])).getD acc.length 0 = maskOf acc o.after.toList := by
      rw [masks_get os _ _ (by simp)]
      simp
    have h2 : ∀ (os : List Oper) (a b : List Nat), (masks os (a ++ b)).take a.length = a := by
      intro os
      induction os with
      | nil => intro a b; simp [masks]
      | cons o os ih => intro a b; rw [masks, List.append_assoc]; exact ih a _
    rw [Nat.add_zero, masks, h1, h2]
  | o :: os, acc, i + 1, o', h => by
    have := masks_at os (acc ++ [maskOf acc o.after.toList]) i o' (by simpa using h)
    rw [List.length_append, List.length_singleton, show acc.length + 1 + i = acc.length + (i + 1) by omega] at this
    exact this
  | [], _, _, _, h => by simp at h

/-- Whoever is behind, behind those that it waits for, is listed where these are. -/
theorem mask_listed {l : List Oper} {listed : Array Bool} (hc : ∀ j oj, l.toArray[j]? = some oj → listed.getD j false = true → ∀ e ∈ oj.after, Region.binds .any e = true → listed.getD e.on false = true) :
    ∀ (i : Nat) (o : Oper), l[i]? = some o → (∀ e ∈ o.after, Region.binds .any e = true → listed.getD e.on false = true) →
      ∀ j, ((masks l []).getD i 0).testBit j = true → listed.getD j false = true := by
  intro i
  induction i using Nat.strongRecOn with
  | _ i ih =>
    intro o ho hall j hj
    have h1 := masks_at l [] i o ho
    rw [List.length_nil, Nat.zero_add] at h1
    rw [h1] at hj
    rcases foldl_bit _ j _ _ hj with h0 | ⟨e, he, hb, hej⟩
    · simp at h0
    · have hl := hall e (by simpa using he) hb
      rcases hej with rfl | hej
      · exact hl
      · have hei : e.on < i := by
          rcases Nat.lt_or_ge e.on i with h | h
          · exact h
          · rw [List.getD_eq_getElem?_getD, List.getElem?_eq_none (by rw [List.length_take]; omega)] at hej
            simp at hej
        have hg : ((masks l []).take i).getD e.on 0 = (masks l []).getD e.on 0 := by
          simp [List.getD_eq_getElem?_getD, List.getElem?_take, hei]
        rw [hg] at hej
        have hil : i < l.length := (List.getElem?_eq_some_iff.1 ho).1
        have hoe : l[e.on]? = some l[e.on] := List.getElem?_eq_getElem (by omega)
        exact ih e.on hei _ hoe (fun e' he' hb' => hc e.on _ (by simp [List.getElem?_eq_getElem (show e.on < l.length by omega)]) hl e' he' hb') j hej

/-! ### the frame -/
def putAll (a : Act) : List Tmp → (Tmp → Value) → Act
  | [], _ => a
  | t :: ts, f => putAll (a.put (some t) (f t)) ts f
theorem putAll_size (f : Tmp → Value) : ∀ (ts : List Tmp) (a : Act), (putAll a ts f).tmps.size = a.tmps.size
  | [], _ => rfl
  | t :: ts, a => by rw [putAll, putAll_size f ts]; simp [Act.put]
theorem putAll_defers (f : Tmp → Value) : ∀ (ts : List Tmp) (a : Act), (putAll a ts f).defers = a.defers
  | [], _ => rfl
  | t :: ts, a => by rw [putAll, putAll_defers f ts]; simp [Act.put]
theorem putAll_get (f : Tmp → Value) : ∀ (ts : List Tmp) (a : Act) (t : Nat), t < a.tmps.size → (putAll a ts f).tmps.getD t undef = if ts.contains t = true then f t else a.tmps.getD t undef
  | [], _, _, _ => by simp [putAll]
  | s :: ts, a, t, ht => by
    rw [putAll, putAll_get f ts _ t (by simpa [Act.put] using ht)]
    by_cases h : ts.contains t = true
    · rw [if_pos h, if_pos (by rw [List.contains_cons, h, Bool.or_true])]
    · rw [if_neg h]
      by_cases hs : t = s
      · subst hs
        rw [if_pos (by simp)]
        simp [Act.put, ht]
      · rw [if_neg (by rw [List.contains_cons]; simp only [Bool.or_eq_true, beq_iff_eq, not_or]; exact ⟨hs, h⟩)]
        simp [Act.put, Array.getElem?_setIfInBounds_ne (Ne.symm hs)]
theorem act_eq {a b : Act} (hd : a.defers = b.defers) (hs : a.tmps.size = b.tmps.size) (h : ∀ t, t < a.tmps.size → a.tmps.getD t undef = b.tmps.getD t undef) : a = b := by
  obtain ⟨ta, da⟩ := a
  obtain ⟨tb, db⟩ := b
  simp only at hd hs h
  subst hd
  congr 1
  apply Array.ext hs
  intro i h1 h2
  have := h i h1
  simpa [h1, h2] using this
theorem fin_of {w : World} {K : Act → Prop} {f : Tmp → Value} : ∀ (os : List Oper) (Fs : List Fact) (a : Act), os.length ≤ Fs.length →
    (∀ (i : Nat) (o : Oper) (F : Fact), os[i]? = some o → Fs[i]? = some F → match o.dst with | some d => F w (f d) | none => F w undef) →
    FinOk w K os Fs a → K (putAll a (os.filterMap (·.dst)) f)
  | [], _, a, _, _, h => by cases ‹List Fact› <;> exact h
  | o :: os, [], a, hl, _, _ => by simp at hl
  | o :: os, F :: Fs, a, hl, hf, h => by
    have h0 := hf 0 o F rfl rfl
    have hrest : ∀ (i : Nat) (o' : Oper) (F' : Fact), os[i]? = some o' → Fs[i]? = some F' → match o'.dst with | some d => F' w (f d) | none => F' w undef :=
      fun i o' F' h1 h2 => hf (i + 1) o' F' (by simpa using h1) (by simpa using h2)
    unfold FinOk at h
    cases hd : o.dst with
    | none =>
      rw [hd] at h h0
      rw [List.filterMap_cons_none (by simpa using hd)]
      exact fin_of os Fs a (by simpa using hl) hrest (h h0)
    | some d =>
      rw [hd] at h h0
      rw [List.filterMap_cons_some (by simpa using hd), putAll]
      exact fin_of os Fs _ (by simpa using hl) hrest (h _ h0)

/-! ### the rule -/
def Lasts (E : World → World → Prop) : List Fact → Prop
  | [] => True
  | F :: Fs => (∀ w w' v, E w w' → F w v → F w' v) ∧ Lasts E Fs
theorem lasts_at {E : World → World → Prop} (Fs : List Fact) (h : Lasts E Fs) : ∀ F, F ∈ Fs → ∀ w w' v, E w w' → F w v → F w' v := by
  induction Fs with
  | nil => intro F hF; cases hF
  | cons x Fs ih =>
    intro F hF
    rcases List.mem_cons.1 hF with rfl | hF
    · exact h.1
    · exact ih h.2 F hF
def cnt (L : Array Bool) : Nat → Nat
  | 0 => 0
  | k + 1 => cnt L k + if L.getD k false = true then 0 else 1
theorem cnt_same {L M : Array Bool} : ∀ (n : Nat), (∀ k, k < n → L.getD k false = M.getD k false) → cnt L n = cnt M n
  | 0, _ => rfl
  | n + 1, h => by rw [cnt, cnt, cnt_same n (fun k hk => h k (by omega)), h n (by omega)]
theorem cnt_set {L : Array Bool} {i : Nat} (hi : i < L.size) (hu : L.getD i false = false) : ∀ (n : Nat), i < n → cnt (L.setIfInBounds i true) n + 1 = cnt L n
  | n + 1, h => by
    rw [cnt, cnt]
    by_cases hin : i = n
    · subst hin
      rw [cnt_same i (fun k hk => getD_set_ne false (by omega)), hu]
      simp [hi]
    · have := cnt_set hi hu n (by omega)
      rw [getD_set_ne false hin]
      omega
theorem cnt_zero {L : Array Bool} : ∀ (n : Nat), cnt L n = 0 → ∀ i, i < n → L.getD i false = true
  | n + 1, h, i, hi => by
    rw [cnt] at h
    by_cases hin : i = n
    · subst hin
      cases hL : L.getD i false with
      | true => rfl
      | false => rw [hL] at h; simp at h
    · exact cnt_zero n (by omega) i (by omega)
theorem cnt_none (m : Nat) : ∀ n, cnt (Array.replicate m false) n = n
  | 0 => rfl
  | n + 1 => by rw [cnt, cnt_none m n, getD_replicate_false]; rfl
theorem cnt_pos {L : Array Bool} : ∀ (n : Nat), cnt L n ≠ 0 → ∃ i, i < n ∧ L.getD i false = false ∧ ∀ k, k < i → L.getD k false = true
  | 0, h => absurd rfl h
  | n + 1, h => by
    by_cases h0 : cnt L n = 0
    · rw [cnt, h0] at h
      refine ⟨n, by omega, ?_, fun k hk => cnt_zero n h0 k hk⟩
      cases hL : L.getD n false with
      | true => rw [hL] at h; simp at h
      | false => rfl
    · obtain ⟨i, hi, h1, h2⟩ := cnt_pos n h0
      exact ⟨i, by omega, h1, h2⟩
theorem wp_weaken {P : Program} {o : Oper} {a : Act} {w : World} {K : Act → World → Prop} {Q : Exit → Act → World → Prop} (h : o.wp P a w K NoExit) : o.wp P a w K Q := by
  unfold Oper.wp at *
  generalize (execOp a.eval o).run P w = r at *
  cases r with
  | ok n w' =>
    cases n <;> simp only [Oper.upon] at h ⊢ <;>
      first
        | exact h
        | exact Calls.mono h (fun e w'' he => by
            cases e
            · exact he
            · exact he.elim
            · obtain ⟨_, _, hf⟩ := he
              exact hf.elim)
  | halt x w' => cases x <;> simp only [Oper.upon] at h ⊢ <;> first | exact h | exact h.elim
theorem with_facts {l : List Oper} {Fs : List Fact} {a : Act} {w : World} {G : Prop} : ∀ (D : List Nat), (∀ j o F, j ∈ D → l[j]? = some o → Fs[j]? = some F → factOf o F a w) → WithFacts l Fs a w G D → G
  | [], _, h => h
  | j :: js, hf, h => by
    unfold WithFacts at h
    refine with_facts js (fun k o F hk => hf k o F (List.mem_cons_of_mem _ hk)) (h ?_)
    split
    · rename_i o F ho hF
      exact hf j o F List.mem_cons_self ho hF
    · trivial
theorem ops_at {P : Program} {l : List Oper} {E : World → World → Prop} {Fs0 : List Fact} {a0 : Act} {w0 : World} {wr : List Tmp} (os : List Oper) : ∀ (Fs : List Fact) (Ds : List (List Nat)), OpsOk P l E Fs0 a0 w0 wr os Fs Ds →
    ∀ (i : Nat) (o : Oper), os[i]? = some o → ∃ F, Fs[i]? = some F ∧ OpOk P l E Fs0 a0 w0 wr o F (Ds.getD i []) := by
  induction os with
  | nil => intro Fs Ds h i o ho; simp at ho
  | cons x os ih =>
    intro Fs Ds h i o ho
    cases Fs with
    | nil => exact h.elim
    | cons F Fs =>
      cases Ds with
      | nil => exact h.elim
      | cons D Ds =>
        cases i with
        | zero =>
          have : x = o := by simpa using ho
          subst this
          exact ⟨F, rfl, h.1⟩
        | succ i =>
          obtain ⟨F', h1, h2⟩ := ih Fs Ds h.2 i o (by simpa using ho)
          exact ⟨F', by simpa using h1, by simpa using h2⟩
theorem nodup_spec : ∀ (os : List Oper), nodupB (os.filterMap (·.dst)) = true → ∀ (i j : Nat) (o o' : Oper) (d : Tmp), os[i]? = some o → os[j]? = some o' → o.dst = some d → o'.dst = some d → i = j
  | [], _, i, _, _, _, _, h, _, _, _ => by simp at h
  | x :: os, hn, i, j, o, o', d, hi, hj, hd, hd' => by
    have key : ∀ (k : Nat) (y : Oper), os[k]? = some y → y.dst = some d → d ∈ os.filterMap (·.dst) := fun k y hk hy =>
      List.mem_filterMap.2 ⟨y, List.mem_of_getElem? hk, hy⟩
    have htail : nodupB (os.filterMap (·.dst)) = true := by
      cases hx : x.dst with
      | none => rwa [List.filterMap_cons_none (by simpa using hx)] at hn
      | some t =>
        rw [List.filterMap_cons_some (by simpa using hx), nodupB, Bool.and_eq_true] at hn
        exact hn.2
    have hhead : ∀ (k : Nat) (y : Oper), x.dst = some d → os[k]? = some y → y.dst = some d → False := by
      intro k y hx hk hy
      rw [List.filterMap_cons_some (by simpa using hx), nodupB, Bool.and_eq_true] at hn
      have := hn.1
      simp only [Bool.not_eq_true', List.contains_eq_mem, decide_eq_false_iff_not] at this
      exact this (key k y hk hy)
    cases i with
    | zero =>
      have : x = o := by simpa using hi
      subst this
      cases j with
      | zero => rfl
      | succ j => exact (hhead j o' hd (by simpa using hj) hd').elim
    | succ i =>
      cases j with
      | zero =>
        have : x = o' := by simpa using hj
        subst this
        exact (hhead i o hd' (by simpa using hi) hd).elim
      | succ j => rw [nodup_spec os htail i j o o' d (by simpa using hi) (by simpa using hj) hd hd']

theorem eval_put_ne {a : Act} {dst : Option Tmp} {v : Value} {t : Tmp} (h : dst ≠ some t) : (a.put dst v).eval (.tmp t) = a.eval (.tmp t) := by
  cases dst with
  | none => rfl
  | some d =>
    have : d ≠ t := fun e => h (by rw [e])
    simp [Act.put, Act.eval, Array.getElem?_setIfInBounds_ne this]
theorem eval_put_same {a : Act} {v : Value} {t : Tmp} (h : t < a.tmps.size) : (a.put (some t) v).eval (.tmp t) = v := by
  simp [Act.put, Act.eval, h]
theorem put_size (a : Act) (dst : Option Tmp) (v : Value) : (a.put dst v).tmps.size = a.tmps.size := by cases dst <;> simp [Act.put]
theorem put_defers (a : Act) (dst : Option Tmp) (v : Value) : (a.put dst v).defers = a.defers := by cases dst <;> simp [Act.put]

section
variable {P : Program} {id : Nat} {l : List Oper} {Q : Exit → Act → World → Prop} {a0 : Act} {w0 : World}
theorem wp_region_rel (n : Nat) (E : World → World → Prop) (Fs : List Fact) (Ds : List (List Nat)) (wr : List Tmp) (hm : P.follows .mixedOrders = true) (hB : relB l n Ds = true) (hlen : Fs.length = n)
    (hwr : (l.take n).filterMap (·.dst) = wr) (hsz : wr.all (fun t => decide (t < a0.tmps.size)) = true)
    (hr : ∀ w, E w w) (ht : ∀ a b c, E a b → E b c → E a c) (hs0 : Lasts E Fs)
    (hops : OpsOk P l E Fs a0 w0.drew wr (l.take n) Fs Ds)
    (hfin : ∀ w, E w0.drew w → FinOk w (fun a => wpList P l.toArray Q (l.drop n) a w) (l.take n) Fs a0) : (Code.region id l.toArray true).wp P Q a0 w0 := by
  simp only [relB, Bool.and_eq_true, decide_eq_true_eq] at hB
  obtain ⟨⟨⟨⟨⟨⟨hn, hnd⟩, hDl⟩, hDs⟩, htail⟩, hback⟩, hseq⟩ := hB
  have hs := lasts_at Fs hs0
  rw [hwr] at hnd
  have hsize : l.toArray.size = l.length := by simp
  have htk : ∀ i o, l[i]? = some o → i < n → (l.take n)[i]? = some o := fun i o ho hi => by simpa [List.getElem?_take, hi] using ho
  have hdst : ∀ (i : Nat) (o : Oper) (d : Tmp), i < n → l[i]? = some o → o.dst = some d → wr.contains d = true ∧ d < a0.tmps.size := by
    intro i o d hi ho hd
    have hmem : d ∈ wr := by
      rw [← hwr]
      exact List.mem_filterMap.2 ⟨o, List.mem_of_getElem? (htk i o ho hi), hd⟩
    exact ⟨by simpa using hmem, of_decide_eq_true (List.all_eq_true.1 hsz d hmem)⟩
  have key : ∀ (m : Nat) (listed : Array Bool) (a : Act) (w : World), cnt listed n = m → HeadInv .any l.toArray n listed → E w0.drew w → a.defers = a0.defers → a.tmps.size = a0.tmps.size →
      (∀ t, wr.contains t = false → a.eval (.tmp t) = a0.eval (.tmp t)) → (∀ (i : Nat) (o : Oper) (F : Fact), i < n → listed.getD i false = true → l[i]? = some o → Fs[i]? = some F → factOf o F a w) →
      wpAny P .any l.toArray Q (m + (l.length - n)) listed a w := by
    intro m
    induction m with
    | zero =>
      intro listed a w hc inv hE hd hs' hin hf
      have hall := cnt_zero n hc
      have hL : listed = headListed n l.length := by
        apply Array.ext
        · rw [inv.size]; simp [headListed]; omega
        · intro i h1 h2
          rw [inv.size, hsize] at h1
          by_cases hi : i < n
          · have := hall i hi
            have hi' : i < listed.size := by rw [inv.size, hsize]; omega
            simp [hi'] at this
            simp [headListed, List.getElem_append, hi, this]
          · have := inv.tail i (by omega) (by rw [hsize]; omega)
            have hi' : i < listed.size := by rw [inv.size, hsize]; omega
            simp [hi'] at this
            simp [headListed, List.getElem_append, hi, this]
      have hfo := hfin w hE
      have hput : putAll a0 wr (fun t => a.eval (.tmp t)) = a := by
        apply act_eq
        · rw [putAll_defers, hd]
        · rw [putAll_size, hs']
        · intro t htt
          rw [putAll_size] at htt
          rw [putAll_get _ _ _ _ htt]
          by_cases hct : wr.contains t = true
          · rw [if_pos hct]; rfl
          · rw [if_neg hct]
            exact (hin t (by simpa using hct)).symm
      have h1 := fin_of (f := fun t => a.eval (.tmp t)) (l.take n) Fs a0 (by rw [List.length_take]; omega) (fun i o F ho hF => by
        have hi : i < n := by
          have := (List.getElem?_eq_some_iff.1 ho).1
          rw [List.length_take] at this
          omega
        have ho' : l[i]? = some o := by simpa [List.getElem?_take, hi] using ho
        exact hf i o F hi (hall i hi) ho' hF) hfo
      rw [hwr, hput] at h1
      have h2 := wpAny_of_seq (md := .any) (Q' := Q) (l.drop n) n listed a w (fun j => by simp [List.getElem?_drop]) (by rw [hL, List.length_drop]; exact hseq) h1
      rw [List.length_drop] at h2
      rw [Nat.zero_add]
      exact h2
    | succ m ih =>
      intro listed a w hc inv hE hd hs' hin hf
      rw [show m + 1 + (l.length - n) = (m + (l.length - n)) + 1 by omega]
      obtain ⟨i0, hi0, hu0, hmin⟩ := cnt_pos (L := listed) n (by omega)
      refine ⟨fun hnil => ?_, fun i hi => ?_⟩
      · -- the first that is not listed is ready
        exfalso
        have : i0 ∈ Region.ready .any l.toArray listed := by
          have ho : l[i0]? = some l[i0] := List.getElem?_eq_getElem (by omega)
          refine mem_ready.2 ⟨getD_in (by rw [inv.size, hsize]; omega) hu0, l[i0], by simp, fun e he hb => ?_⟩
          have h1 := List.all_eq_true.1 hback i0 (List.mem_range.2 hi0)
          rw [ho] at h1
          have h2 := Array.all_eq_true_iff_forall_mem.1 h1 e he
          rw [hb] at h2
          exact hmin _ (by simpa using h2)
        rw [hnil] at this
        cases this
      · obtain ⟨hun, oi, hoi, hall⟩ := mem_ready.1 hi
        have hil : i < l.length := by have := (Array.getElem?_eq_some_iff.1 hoi).1; rwa [hsize] at this
        have hoi' : l[i]? = some oi := by simpa using hoi
        have hin' : i < n := by
          rcases Nat.lt_or_ge i n with h | h
          · exact h
          · exfalso
            simp only [Bool.or_eq_true, Bool.and_eq_true, decide_eq_true_eq] at htail
            rcases htail with h0 | ⟨h1, h2⟩
            · omega
            · exact tail_waits h1 h2 (by rw [hsize]; omega) inv _ i0 rfl hi0 (getD_in (by rw [inv.size, hsize]; omega) hu0) i h hi
        obtain ⟨F, hF, hop⟩ := ops_at _ _ _ hops i oi (htk i oi hoi' hin')
        have hun' := getD_both hun
        have hw := with_facts _ (fun j o F' hj ho hF' => by
          have h1 := List.all_eq_true.1 hDs i (List.mem_range.2 hin')
          have h2 := List.all_eq_true.1 h1 j hj
          simp only [Bool.and_eq_true, decide_eq_true_eq] at h2
          exact hf j o F' h2.1 (mask_listed inv.closed i oi hoi' hall j h2.2) ho hF') (hop a w hE hin)
        have hstep : ∀ (a' : Act) (w' : World) (v : Value), a' = a.put oi.dst v → F w' (dv oi.dst v) → E w w' → wpAny P .any l.toArray Q (m + (l.length - n)) (listed.setIfInBounds i true) a' w' := by
          intro a' w' v ha hFv hEw
          subst ha
          have hlt : i < listed.size := by rw [inv.size, hsize]; omega
          have hcs := cnt_set hlt hun' n hin'
          refine ih _ _ _ (by omega) (inv.set hi hin') (ht _ _ _ hE hEw) ((put_defers _ _ _).trans hd) ((put_size _ _ _).trans hs') (fun t htt => ?_) (fun j o F' hj hjl ho hF' => ?_)
          · rw [eval_put_ne, hin t htt]
            intro hdt
            rw [(hdst i oi t hin' hoi' hdt).1] at htt
            cases htt
          · by_cases hji : j = i
            · subst hji
              have : oi = o := Option.some.inj (hoi'.symm.trans ho)
              subst this
              have : F = F' := Option.some.inj (hF.symm.trans hF')
              subst this
              unfold factOf
              cases hdd : oi.dst with
              | none => rw [hdd] at hFv; exact hFv
              | some d =>
                rw [hdd] at hFv
                simp only
                rw [eval_put_same (by rw [hs']; exact (hdst j oi d hin' hoi' hdd).2)]
                exact hFv
            · rw [getD_set_ne false (Ne.symm hji)] at hjl
              have h1 := hf j o F' hj hjl ho hF'
              have hst := hs F' (List.mem_of_getElem? hF') w w'
              unfold factOf at h1 ⊢
              cases hdd : o.dst with
              | none => rw [hdd] at h1; exact hst _ hEw h1
              | some d =>
                rw [hdd] at h1
                simp only at h1 ⊢
                rw [eval_put_ne]
                · exact hst _ hEw h1
                · intro hdt
                  exact hji (nodup_spec (l.take n) (by rw [hwr]; exact hnd) j i o oi d (htk j o ho hj) (htk i oi hoi' hin') hdd hdt)
        unfold wpOp
        simp only [hoi]
        split
        · rename_i hwant
          rw [if_pos hwant] at hw
          refine .inl (wp_weaken (Oper.wp_mono (fun a' w' hp => ?_) hw))
          obtain ⟨v, h1, h2, h3⟩ := hp
          exact hstep a' w' v h1 h2 h3
        · rename_i hwant
          rw [if_neg hwant] at hw
          refine hstep _ w undef rfl ?_ (hr w)
          cases hdd : oi.dst <;> exact hw
  refine wp_region_any hm ?_
  have inv0 : HeadInv .any l.toArray n (Array.replicate l.toArray.size false) :=
    ⟨by simp, fun j oj _ hl => (by rw [getD_replicate_false] at hl; cases hl), fun t _ ht => getD_in (by simpa using ht) (getD_replicate_false _ _)⟩
  have := key n (Array.replicate l.toArray.size false) a0 w0.drew (cnt_none _ _) inv0 (hr _) rfl rfl (fun _ _ => rfl) (fun i o F _ hl => by rw [getD_replicate_false] at hl; cases hl)
  rw [show n + (l.length - n) = l.toArray.size by rw [hsize]; omega] at this
  exact this
end

/-! ### what has turned: the blocks of S, and new ones -/
structure Chg (S : Nat → Prop) (w w' : World) : Prop where
  os : w'.os = w.os
  tape : w'.tape = w.tape
  output : w'.output = w.output
  size : w.heap.size ≤ w'.heap.size
  block : ∀ k, k < w.heap.size → ¬ S k → w'.heap[k]? = w.heap[k]?
theorem Chg.refl {S : Nat → Prop} (w : World) : Chg S w w := ⟨rfl, rfl, rfl, Nat.le_refl _, fun _ _ _ => rfl⟩
theorem Chg.trans {S : Nat → Prop} {a b c : World} (h : Chg S a b) (k : Chg S b c) : Chg S a c :=
  ⟨k.os.trans h.os, k.tape.trans h.tape, k.output.trans h.output, Nat.le_trans h.size k.size, fun i hi hn => (k.block i (Nat.lt_of_lt_of_le hi h.size) hn).trans (h.block i hi hn)⟩
theorem Chg.mono {S S' : Nat → Prop} {a b : World} (h : Chg S a b) (hs : ∀ k, S k → S' k) : Chg S' a b :=
  ⟨h.os, h.tape, h.output, h.size, fun i hi hn => h.block i hi (fun hk => hn (hs i hk))⟩
theorem Chg.alloc {S : Nat → Prop} {a w : World} (h : Chg S a w) (o : Obj) : Chg S a (w.alloc o) :=
  h.trans ⟨rfl, rfl, rfl, by simp, fun k hk _ => Below.heap_alloc _ _ _ hk⟩
theorem Chg.drew {S : Nat → Prop} {a w : World} (h : Chg S a w) : Chg S a w.drew := ⟨h.os, h.tape, h.output, h.size, h.block⟩
theorem Chg.of_below {S : Nat → Prop} {w w' : World} (h : Below w.heap.size w w') : Chg S w w' := ⟨h.os, h.tape, h.output, h.size, fun k hk _ => h.block k hk⟩
theorem Chg.below {S : Nat → Prop} {w w' : World} (h : Chg S w w') {B : Nat} (hB : B ≤ w.heap.size) (hS : ∀ k, k < B → ¬ S k) : Below B w w' :=
  ⟨h.os, h.tape, h.output, h.size, fun k hk => h.block k (by omega) (hS k hk)⟩
theorem Chg.get {S : Nat → Prop} {w w' : World} (h : Chg S w w') {g : Nat} {o : Obj} (hg : w.heap[g]? = some o) (hS : ¬ S g) : w'.heap[g]? = some o :=
  (h.block g (Array.getElem?_eq_some_iff.1 hg).1 hS).trans hg
theorem Chg.cell {S : Nat → Prop} {w w' : World} (h : Chg S w w') {p : Addr} {v : Value} (hc : w.cell? p = some v) (hS : ¬ S p.block) : w'.cell? p = some v :=
  (World.cell?_of_block (w := w) (h.block p.block (World.block_lt_of_cell? w p hc) hS)).trans hc
def NoS : Nat → Prop := fun _ => False
theorem Rd.chg {w w1 : World} {A : Option Addr} {vs : List Value} (h : Rd w A vs) (hb : Chg NoS w w1) : Rd w1 A vs := by
  intro j v hj
  obtain ⟨ad, e, hc⟩ := h j v hj
  exact ⟨ad, e, hb.cell hc id⟩

/-! ### facts -/
def Veq (e : Value) : Fact := fun _ v => v = e
theorem Veq.lasts {E : World → World → Prop} {e : Value} : ∀ w w' v, E w w' → Veq e w v → Veq e w' v := fun _ _ _ _ h => h
/-- A row that the region itself makes. -/
def RowAt (S : Nat → Prop) (n : Nat) (vs : List Value) : Fact := fun w v => ∃ g, v = .slice (some ⟨g, 0, none⟩) n n ∧ ¬ S g ∧ ∃ t fr, w.heap[g]? = some (.cells vs.toArray t fr)
theorem RowAt.lasts {S : Nat → Prop} {n : Nat} {vs : List Value} : ∀ w w' v, Chg S w w' → RowAt S n vs w v → RowAt S n vs w' v :=
  fun _ _ _ h ⟨g, e, hs, t, fr, hg⟩ => ⟨g, e, hs, t, fr, h.get hg hs⟩
theorem rel_val {E : World → World → Prop} {a : Act} {d : Tmp} {w w' : World} {e : Value} (h : E w w') : RelPost E (Veq e) a (some d) w (a.put (some d) e) w' := ⟨e, rfl, rfl, h⟩
theorem rel_row {S : Nat → Prop} {a : Act} {d : Tmp} {w : World} {n : Nat} {t : TypeId} {fr : Nat × Nat} {vs : List Value} (hS : ¬ S w.heap.size) :
    RelPost (Chg S) (RowAt S n vs) a (some d) w (a.put (some d) (.slice (some ⟨w.heap.size, 0, none⟩) n n)) (w.alloc (.cells vs.toArray t fr)) :=
  ⟨_, rfl, ⟨_, rfl, hS, t, fr, heap_alloc_new w _⟩, (Chg.refl _).alloc _⟩
theorem want_none {o : Oper} {y : Nat → Option Bool} {A B : Prop} (hg : o.guard = none) (h : A) : if Region.wanted o y = true then A else B := by
  rw [if_pos (by simp [Region.wanted, hg])]; exact h
theorem yield_of {ops : Array Oper} {a : Act} {j : Nat} {d : Tmp} {b : Bool} (hd : (ops[j]?).bind (·.dst) = some d) (hv : a.eval (.tmp d) = .bool b) : yielded ops a.tmps j = some b := by
  unfold yielded
  rw [hd]
  simp only [Option.bind_some]
  simp only [Act.eval, Array.getD_eq_getD_getElem?] at hv
  cases ht : a.tmps[d]? with
  | none => rw [ht] at hv; simp [undef] at hv
  | some v => rw [ht] at hv; simp only [Option.getD_some] at hv; rw [hv]
theorem want_yes {o : Oper} {ops : Array Oper} {a : Act} {A B : Prop} {j : Nat} {d : Tmp} {b : Bool} (hg : o.guard = some (j, b)) (hd : (ops[j]?).bind (·.dst) = some d) (hv : a.eval (.tmp d) = .bool b) (h : A) :
    if Region.wanted o (yielded ops a.tmps) = true then A else B := by
  rw [if_pos (by simp [Region.wanted, hg, yield_of hd hv])]; exact h
theorem want_not {o : Oper} {ops : Array Oper} {a : Act} {A B : Prop} {j : Nat} {d : Tmp} {b : Bool} (hg : o.guard = some (j, b)) (hd : (ops[j]?).bind (·.dst) = some d) (hv : a.eval (.tmp d) = .bool (!b)) (h : B) :
    if Region.wanted o (yielded ops a.tmps) = true then A else B := by
  rw [if_neg (by simp [Region.wanted, hg, yield_of hd hv])]; exact h
end Go.Proofs.Ytpldcmcldoidaaa
