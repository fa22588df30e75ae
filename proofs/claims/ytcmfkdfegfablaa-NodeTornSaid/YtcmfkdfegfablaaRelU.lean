import Derived.Test.YtcmfkdfegfablaaG1

/- As in the text before, but what the operation apart left is known to those behind it: a region that draws its order, one of whose operations turns blocks that the others do not: the others' facts last, and its own is told of its answer, or of another operation's place. -/
namespace Go.Proofs.Ytcmfkdfegfablaa
open Go.RowKit
set_option linter.unusedVariables false
set_option linter.unusedSimpArgs false
set_option linter.unnecessarySimpa false

/-- Another operation: what the one apart left is known, if it waits for it. -/
def OpOkU (P : Program) (l : List Oper) (G E : World → World → Prop) (Fs : List Fact) (a0 : Act) (w0 : World) (wr : List Tmp) (s : Nat) (ts : Tmp) (Fp : Fact) (o : Oper) (F : Fact) (D : List Nat) : Prop :=
  ∀ (a : Act) (w : World), G w0 w → (∀ t, wr.contains t = false → a.eval (.tmp t) = a0.eval (.tmp t)) → (s ∈ D → Fp w (a.eval (.tmp ts))) →
    WithFacts l Fs a w (if Region.wanted o (yielded l.toArray a.tmps) = true then o.wp P a w (RelPost E F a o.dst w) NoExit else F w undef) D
def OpsOkU (P : Program) (l : List Oper) (G E Es : World → World → Prop) (Fs0 : List Fact) (a0 : Act) (w0 : World) (wr : List Tmp) (s : Nat) (ts : Tmp) (Fp : Fact) : Nat → List Oper → List Fact → List (List Nat) → Prop
  | k, o :: os, F :: Fs, D :: Ds => (if k = s then OpOkT P l E Es Fs0 a0 w0 wr o ts Fp D else OpOkU P l G E Fs0 a0 w0 wr s ts Fp o F D) ∧ OpsOkU P l G E Es Fs0 a0 w0 wr s ts Fp (k + 1) os Fs Ds
  | _, [], _, _ => True
  | _, _ :: _, _, _ => False
theorem ops_atU {P : Program} {l : List Oper} {G E Es : World → World → Prop} {Fs0 : List Fact} {a0 : Act} {w0 : World} {wr : List Tmp} {s : Nat} {ts : Tmp} {Fp : Fact} (os : List Oper) : ∀ (k : Nat) (Fs : List Fact) (Ds : List (List Nat)), OpsOkU P l G E Es Fs0 a0 w0 wr s ts Fp k os Fs Ds →
    ∀ (i : Nat) (o : Oper), os[i]? = some o → ∃ F, Fs[i]? = some F ∧ (if k + i = s then OpOkT P l E Es Fs0 a0 w0 wr o ts Fp (Ds.getD i []) else OpOkU P l G E Fs0 a0 w0 wr s ts Fp o F (Ds.getD i [])) := by
  induction os with
  | nil => intro k Fs Ds h i o ho; simp at ho
  | cons x os ih =>
    intro k Fs Ds h i o ho
    cases Fs with
    | nil => exact h.elim
    | cons F Fs =>
      cases Ds with
      | nil => exact h.elim
      | cons D Ds =>
        cases i with
        | zero =>
          have : x = o := by simpa using ho
          subst this
          exact ⟨F, rfl, h.1⟩
        | succ i =>
          obtain ⟨F', h1, h2⟩ := ih (k + 1) Fs Ds h.2 i o (by simpa using ho)
          refine ⟨F', by simpa using h1, ?_⟩
          rw [show k + (i + 1) = k + 1 + i by omega]
          simpa using h2
section
variable {P : Program} {id : Nat} {l : List Oper} {Q : Exit → Act → World → Prop} {a0 : Act} {w0 : World}
theorem wp_region_relu (n s : Nat) (ts : Tmp) (Fp : Fact) (G E Es : World → World → Prop) (Fs : List Fact) (Ds : List (List Nat)) (wr : List Tmp) (hm : P.follows .mixedOrders = true) (hB : relB l n Ds = true) (hlen : Fs.length = n)
    (hwr : (l.take n).filterMap (·.dst) = wr) (hsz : wr.all (fun t => decide (t < a0.tmps.size)) = true)
    (hA : apartT l Ds n s ts = true) (hr : ∀ w, E w w) (ht : ∀ a b c, G a b → G b c → G a c) (htE : ∀ a b c, E a b → E b c → E a c) (hGE : ∀ a b, E a b → G a b) (hGS : ∀ a b, Es a b → G a b) (hs0 : Lasts E Fs) (hs1 : Lasts Es Fs) (hsp : ∀ w w' v, E w w' → Fp w v → Fp w' v) (hFt : ∀ F, Fs[s]? = some F → ∀ w v, F w v)
    (hops : OpsOkU P l G E Es Fs a0 w0.drew wr s ts Fp 0 (l.take n) Fs Ds)
    (hfin : ∀ w, G w0.drew w → FinOk w (fun a => Fp w (a.eval (.tmp ts)) → wpList P l.toArray Q (l.drop n) a w) (l.take n) Fs a0) : (Code.region id l.toArray true).wp P Q a0 w0 := by
  simp only [relB, Bool.and_eq_true, decide_eq_true_eq] at hB
  obtain ⟨⟨⟨⟨⟨⟨hn, hnd⟩, hDl⟩, hDs⟩, htail⟩, hback⟩, hseq⟩ := hB
  have hs := lasts_at Fs hs0
  have hsS := lasts_at Fs hs1
  simp only [apartT, Bool.and_eq_true, decide_eq_true_eq] at hA
  obtain ⟨⟨hsn, hsd⟩, hsj⟩ := hA
  obtain ⟨js, hjs, hjd⟩ := List.any_eq_true.1 hsj
  rw [hwr] at hnd
  have hsize : l.toArray.size = l.length := by simp
  have htk : ∀ i o, l[i]? = some o → i < n → (l.take n)[i]? = some o := fun i o ho hi => by simpa [List.getElem?_take, hi] using ho
  have hdst : ∀ (i : Nat) (o : Oper) (d : Tmp), i < n → l[i]? = some o → o.dst = some d → wr.contains d = true ∧ d < a0.tmps.size := by
    intro i o d hi ho hd
    have hmem : d ∈ wr := by
      rw [← hwr]
      exact List.mem_filterMap.2 ⟨o, List.mem_of_getElem? (htk i o ho hi), hd⟩
    exact ⟨by simpa using hmem, of_decide_eq_true (List.all_eq_true.1 hsz d hmem)⟩
  have key : ∀ (m : Nat) (listed : Array Bool) (a : Act) (w : World), cnt listed n = m → HeadInv .any l.toArray n listed → G w0.drew w → (listed.getD s false = true → Fp w (a.eval (.tmp ts))) → (listed.getD s false = false → E w0.drew w) → a.defers = a0.defers → a.tmps.size = a0.tmps.size →
      (∀ t, wr.contains t = false → a.eval (.tmp t) = a0.eval (.tmp t)) → (∀ (i : Nat) (o : Oper) (F : Fact), i < n → listed.getD i false = true → l[i]? = some o → Fs[i]? = some F → factOf o F a w) →
      wpAny P .any l.toArray Q (m + (l.length - n)) listed a w := by
    intro m
    induction m with
    | zero =>
      intro listed a w hc inv hE hsf hE0 hd hs' hin hf
      have hall := cnt_zero n hc
      have hL : listed = headListed n l.length := by
        apply Array.ext
        · rw [inv.size]; simp [headListed]; omega
        · intro i h1 h2
          rw [inv.size, hsize] at h1
          by_cases hi : i < n
          · have := hall i hi
            have hi' : i < listed.size := by rw [inv.size, hsize]; omega
            simp [hi'] at this
            simp [headListed, List.getElem_append, hi, this]
          · have := inv.tail i (by omega) (by rw [hsize]; omega)
            have hi' : i < listed.size := by rw [inv.size, hsize]; omega
            simp [hi'] at this
            simp [headListed, List.getElem_append, hi, this]
      have hfo := hfin w hE
      have hput : putAll a0 wr (fun t => a.eval (.tmp t)) = a := by
        apply act_eq
        · rw [putAll_defers, hd]
        · rw [putAll_size, hs']
        · intro t htt
          rw [putAll_size] at htt
          rw [putAll_get _ _ _ _ htt]
          by_cases hct : wr.contains t = true
          · rw [if_pos hct]; rfl
          · rw [if_neg hct]
            exact (hin t (by simpa using hct)).symm
      have h1 := fin_of (f := fun t => a.eval (.tmp t)) (l.take n) Fs a0 (by rw [List.length_take]; omega) (fun i o F ho hF => by
        have hi : i < n := by
          have := (List.getElem?_eq_some_iff.1 ho).1
          rw [List.length_take] at this
          omega
        have ho' : l[i]? = some o := by simpa [List.getElem?_take, hi] using ho
        exact hf i o F hi (hall i hi) ho' hF) hfo
      rw [hwr, hput] at h1
      replace h1 := h1 (hsf (hall s hsn))
      have h2 := wpAny_of_seq (md := .any) (Q' := Q) (l.drop n) n listed a w (fun j => by simp [List.getElem?_drop]) (by rw [hL, List.length_drop]; exact hseq) h1
      rw [List.length_drop] at h2
      rw [Nat.zero_add]
      exact h2
    | succ m ih =>
      intro listed a w hc inv hE hsf hE0 hd hs' hin hf
      rw [show m + 1 + (l.length - n) = (m + (l.length - n)) + 1 by omega]
      obtain ⟨i0, hi0, hu0, hmin⟩ := cnt_pos (L := listed) n (by omega)
      refine ⟨fun hnil => ?_, fun i hi => ?_⟩
      · -- the first that is not listed is ready
        exfalso
        have : i0 ∈ Region.ready .any l.toArray listed := by
          have ho : l[i0]? = some l[i0] := List.getElem?_eq_getElem (by omega)
          refine mem_ready.2 ⟨getD_in (by rw [inv.size, hsize]; omega) hu0, l[i0], by simp, fun e he hb => ?_⟩
          have h1 := List.all_eq_true.1 hback i0 (List.mem_range.2 hi0)
          rw [ho] at h1
          have h2 := Array.all_eq_true_iff_forall_mem.1 h1 e he
          rw [hb] at h2
          exact hmin _ (by simpa using h2)
        rw [hnil] at this
        cases this
      · obtain ⟨hun, oi, hoi, hall⟩ := mem_ready.1 hi
        have hil : i < l.length := by have := (Array.getElem?_eq_some_iff.1 hoi).1; rwa [hsize] at this
        have hoi' : l[i]? = some oi := by simpa using hoi
        have hin' : i < n := by
          rcases Nat.lt_or_ge i n with h | h
          · exact h
          · exfalso
            simp only [Bool.or_eq_true, Bool.and_eq_true, decide_eq_true_eq] at htail
            rcases htail with h0 | ⟨h1, h2⟩
            · omega
            · exact tail_waits h1 h2 (by rw [hsize]; omega) inv _ i0 rfl hi0 (getD_in (by rw [inv.size, hsize]; omega) hu0) i h hi
        obtain ⟨F, hF, hop⟩ := ops_atU _ _ _ _ hops i oi (htk i oi hoi' hin')
        rw [Nat.zero_add] at hop
        have hun' := getD_both hun
        have hmaskd : ∀ j, j ∈ Ds.getD i [] → j < n ∧ listed.getD j false = true := by
          intro j hj
          have h1 := List.all_eq_true.1 hDs i (List.mem_range.2 hin')
          have h2 := List.all_eq_true.1 h1 j hj
          simp only [Bool.and_eq_true, decide_eq_true_eq] at h2
          exact ⟨h2.1, mask_listed inv.closed i oi hoi' hall j h2.2⟩
        by_cases his : i = s
        · -- the operation apart
          rw [if_pos his] at hop
          subst his
          have hw := with_facts _ (fun j o F' hj ho hF' => hf j o F' (hmaskd j hj).1 (hmaskd j hj).2 ho hF') (hop a w (hE0 hun') hin)
          rw [hoi'] at hsd
          simp only [Option.isNone_iff_eq_none] at hsd
          have hwant : Region.wanted oi (yielded l.toArray a.tmps) = true := by simp [Region.wanted, hsd]
          unfold wpOp
          simp only [hoi]
          rw [if_pos hwant]
          refine .inl (wp_weaken (Oper.wp_mono (fun a' w' hp => ?_) hw))
          obtain ⟨v, rfl, hFp0, hEw⟩ := hp
          have hFp : Fp w' ((a.put oi.dst v).eval (.tmp ts)) := by
            by_cases hdt : oi.dst = some ts
            · rw [if_pos hdt] at hFp0
              rw [hdt, eval_put_same (by rw [hs']; exact (hdst i oi ts hin' hoi' hdt).2)]
              exact hFp0
            · rw [if_neg hdt] at hFp0
              rw [eval_put_ne hdt]
              exact hFp0
          have hlt : i < listed.size := by rw [inv.size, hsize]; omega
          have hcs := cnt_set hlt hun' n hin'
          refine ih _ _ _ (by omega) (inv.set hi hin') (ht _ _ _ hE (hGS _ _ hEw)) (fun _ => hFp) (fun hl => by rw [show (listed.setIfInBounds i true).getD i false = true by simp [hlt]] at hl; cases hl) ((put_defers _ _ _).trans hd) ((put_size _ _ _).trans hs') (fun t htt => ?_) (fun j o F' hj hjl ho hF' => ?_)
          · rw [eval_put_ne, hin t htt]
            intro hdt
            rw [(hdst i oi t hin' hoi' hdt).1] at htt
            cases htt
          · by_cases hji : j = i
            · subst hji
              have : oi = o := Option.some.inj (hoi'.symm.trans ho)
              subst this
              have : F = F' := Option.some.inj (hF.symm.trans hF')
              subst this
              unfold factOf
              cases oi.dst <;> exact hFt _ hF _ _
            · rw [getD_set_ne false (Ne.symm hji)] at hjl
              have h1 := hf j o F' hj hjl ho hF'
              have hst := hsS F' (List.mem_of_getElem? hF') w w'
              unfold factOf at h1 ⊢
              cases hdd : o.dst with
              | none => rw [hdd] at h1; exact hst _ hEw h1
              | some d =>
                rw [hdd] at h1
                simp only at h1 ⊢
                rw [eval_put_ne]
                · exact hst _ hEw h1
                · intro hdt
                  exact hji (nodup_spec (l.take n) (by rw [hwr]; exact hnd) j i o oi d (htk j o ho hj) (htk i oi hoi' hin') hdd hdt)
        rw [if_neg his] at hop
        have hw := with_facts _ (fun j o F' hj ho hF' => hf j o F' (hmaskd j hj).1 (hmaskd j hj).2 ho hF') (hop a w hE hin (fun hsD => hsf (hmaskd s hsD).2))
        have hstep : ∀ (a' : Act) (w' : World) (v : Value), a' = a.put oi.dst v → F w' (dv oi.dst v) → E w w' → wpAny P .any l.toArray Q (m + (l.length - n)) (listed.setIfInBounds i true) a' w' := by
          intro a' w' v ha hFv hEw
          subst ha
          have hlt : i < listed.size := by rw [inv.size, hsize]; omega
          have hcs := cnt_set hlt hun' n hin'
          refine ih _ _ _ (by omega) (inv.set hi hin') (ht _ _ _ hE (hGE _ _ hEw)) (fun hsl => ?_) (fun hsl => htE _ _ _ (hE0 (by rwa [getD_set_ne false his] at hsl)) hEw) ((put_defers _ _ _).trans hd) ((put_size _ _ _).trans hs') (fun t htt => ?_) (fun j o F' hj hjl ho hF' => ?_)
          · rw [getD_set_ne false his] at hsl
            have hsl1 := hsf hsl
            rw [eval_put_ne]
            · exact hsp _ _ _ hEw hsl1
            · intro hdt
              -- whoever wrote it is listed
              cases hoj : l[js]? with
              | none => rw [hoj] at hjd; cases hjd
              | some oj =>
                rw [hoj] at hjd
                simp only [beq_iff_eq] at hjd
                have hso : l[s]? = some l[s] := List.getElem?_eq_getElem (by omega)
                rcases List.mem_cons.1 hjs with hjs | hjs
                · subst hjs
                  exact his (nodup_spec (l.take n) (by rw [hwr]; exact hnd) i js oi oj ts (htk i oi hoi' hin') (htk js oj hoj hsn) hdt hjd)
                · have h1 := List.all_eq_true.1 hDs s (List.mem_range.2 hsn)
                  have h2 := List.all_eq_true.1 h1 js hjs
                  simp only [Bool.and_eq_true, decide_eq_true_eq] at h2
                  have hjl : listed.getD js false = true := mask_listed inv.closed s _ hso (fun e he hb => inv.closed s _ (by simpa using hso) hsl e he hb) js h2.2
                  have : i = js := nodup_spec (l.take n) (by rw [hwr]; exact hnd) i js oi oj ts (htk i oi hoi' hin') (htk js oj hoj h2.1) hdt hjd
                  rw [this] at hun'
                  rw [hun'] at hjl
                  cases hjl
          · rw [eval_put_ne, hin t htt]
            intro hdt
            rw [(hdst i oi t hin' hoi' hdt).1] at htt
            cases htt
          · by_cases hji : j = i
            · subst hji
              have : oi = o := Option.some.inj (hoi'.symm.trans ho)
              subst this
              have : F = F' := Option.some.inj (hF.symm.trans hF')
              subst this
              unfold factOf
              cases hdd : oi.dst with
              | none => rw [hdd] at hFv; exact hFv
              | some d =>
                rw [hdd] at hFv
                simp only
                rw [eval_put_same (by rw [hs']; exact (hdst j oi d hin' hoi' hdd).2)]
                exact hFv
            · rw [getD_set_ne false (Ne.symm hji)] at hjl
              have h1 := hf j o F' hj hjl ho hF'
              have hst := hs F' (List.mem_of_getElem? hF') w w'
              unfold factOf at h1 ⊢
              cases hdd : o.dst with
              | none => rw [hdd] at h1; exact hst _ hEw h1
              | some d =>
                rw [hdd] at h1
                simp only at h1 ⊢
                rw [eval_put_ne]
                · exact hst _ hEw h1
                · intro hdt
                  exact hji (nodup_spec (l.take n) (by rw [hwr]; exact hnd) j i o oi d (htk j o ho hj) (htk i oi hoi' hin') hdd hdt)
        unfold wpOp
        simp only [hoi]
        split
        · rename_i hwant
          rw [if_pos hwant] at hw
          refine .inl (wp_weaken (Oper.wp_mono (fun a' w' hp => ?_) hw))
          obtain ⟨v, h1, h2, h3⟩ := hp
          exact hstep a' w' v h1 h2 h3
        · rename_i hwant
          rw [if_neg hwant] at hw
          refine hstep _ w undef rfl ?_ (hr w)
          cases hdd : oi.dst <;> exact hw
  refine wp_region_any hm ?_
  have inv0 : HeadInv .any l.toArray n (Array.replicate l.toArray.size false) :=
    ⟨by simp, fun j oj _ hl => (by rw [getD_replicate_false] at hl; cases hl), fun t _ ht => getD_in (by simpa using ht) (getD_replicate_false _ _)⟩
  have := key n (Array.replicate l.toArray.size false) a0 w0.drew (cnt_none _ _) inv0 (hGE _ _ (hr _)) (fun hl => by rw [getD_replicate_false] at hl; cases hl) (fun _ => hr _) rfl rfl (fun _ _ => rfl) (fun i o F _ hl => by rw [getD_replicate_false] at hl; cases hl)
  rw [show n + (l.length - n) = l.toArray.size by rw [hsize]; omega] at this
  exact this
end

end Go.Proofs.Ytcmfkdfegfablaa
