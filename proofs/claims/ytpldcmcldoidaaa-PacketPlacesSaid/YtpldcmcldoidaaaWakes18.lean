
/- law18's own trial. -/
import Derived.Test.YtpldcmcldoidaaaPkSame
import Derived.Test.YtpldcmcldoidaaaPkPlain
import Derived.Test.YtpldcmcldoidaaaFill
namespace Go.Proofs.Ytpldcmcldoidaaa
open Go.RowKit
set_option linter.unusedVariables false
set_option linter.unusedSimpArgs false

theorem wpList_bs1Q {P : Program} {o : Oper} {a : Act} {w : World} {Q : Exit → Act → World → Prop} {ops : Array Oper} {rest : List Oper} (hw : Region.wanted o (yielded ops a.tmps) = true) (t elem : TypeId) (x : Operand) (ho : o.op = .buildSlice t 1 #[(0, x)]) (z : Value) (n : Nat) (us : List Value) (hu : P.underlying t = some (.slice elem)) (hinfo : (P.info? elem).map (fun i => (i.zero, i.size)) = some (some z, n))
    (hz : z.cells.size = n) (hn : 0 < n) (hn2 : n ≤ 1000) (hx : (a.eval x).cells.toList = us) (hl : us.length = n)
    (h : ∀ g w', g = w.heap.size → Bk w' g us → Chg NoS w w' → wpList P ops Q rest (a.put o.dst (.slice (some ⟨g, 0, none⟩) 1 1)) w') : wpList P ops Q (o :: rest) a w :=
  wpl hw fun K hK => wp_bs1 t elem x ho z n us hu hinfo hz hn hn2 hx hl (hK _ _ (h _ _ rfl (Bk.new w us elem) ((Chg.refl w).alloc _)))
theorem own_capQ {w : World} {base n c : Nat} {e : TypeId} {size : Nat} {A : Option Addr} {xs : List Value} (h : w.ownsRow base e size (.slice A n c) n xs) : n ≤ c ∧ c ≤ 9223372036854775807 := by
  obtain ⟨A', c', he, _, h1, h2⟩ := own_rd h
  injection he with _ _ h3
  subst h3
  exact ⟨h1, h2⟩
theorem bt_cell {w : World} {ad : Addr} {l : List UInt8} (h : Rd w (some ad) (bts l)) {i : Nat} (hi : i < l.length) (h0 : 0 < i) {v : Nat} (hv : (l.getD i 0).toNat = v) : w.cell? ⟨ad.block, ad.off + i, none⟩ = some (.int .u8 (v : Int)) := by
  obtain ⟨ad', h1, h2⟩ := h.bt i hi
  injection h1 with h1
  subst h1
  subst hv
  have : ad.add i = ⟨ad.block, ad.off + i, none⟩ := by unfold Addr.add; rw [if_neg (by omega)]
  rwa [this] at h2
def wp4 : PutV := ⟨4, List.replicate 32 7⟩
theorem w18Flat : [wp4].flatMap putC = putC wp4 := by simp
theorem w18Ok : PutsOk [wp4] := by
  intro p hp
  obtain rfl := List.mem_singleton.1 hp
  exact ⟨rfl, by decide, by decide⟩
theorem okNil : PutsOk [] := fun p hp => by cases hp
def w18B : List UInt8 := encP (1 : Int).toNat 258 3 [wp4]
theorem w18Len : w18B.length = 45 := encP_len w18Ok
theorem w18Good : goodP 1 [wp4] = true := by decide +kernel
theorem w18Dec : decP w18B = ((1, 258, 3, [wp4]), 0) := dec_enc w18Good w18Ok
set_option maxRecDepth 100000 in
set_option maxHeartbeats 8000000 in
theorem wakes18_calls (w : World) : Calls Try.prog 6 #[] w fun e w' => e = .returned (.bool true) ∧ Below w.heap.size w w' := by
  go_enter Try.func6, Try.ntmps6
  go_wp2_with fail
  refine (fill_calls 7 w).mono ?_
  rintro en w1 ⟨rfl, hb⟩
  have Ew1 : Hid (Below w.heap.size w w1) := hb
  clear hb
  go_wp2_with (first
    | (refine wpList_bld rfl 48 [(0, .const (.int .i64 4)), (1, .tmp 10)] rfl (.int .i64 0 :: bts (List.replicate 32 0)) [(0, [.int .i64 4]), (1, bts (List.replicate 32 7))] (putC wp4) (by kernel_rfl) (by kernel_rfl) ⟨rfl, ⟨1, rfl, by kernel_rfl, by decide⟩, rfl, ⟨32, by rw [bts_length, List.length_replicate], by kernel_rfl, by decide⟩, trivial⟩ rfl ?_)
    | (refine wpList_bs1Q rfl 23 48 (.tmp 11) rfl zPut 33 (putC wp4) Try.underlying23 infoPut rfl (by decide) (by decide) rfl rfl ?_))
  intro gr w2 hg hbk hc
  have hb : Below w1.heap.size w1 w2 := hc.below (Nat.le_refl _) (fun _ _ => id)
  have Ew2 : Hid (Below w.heap.size w w2) := Ew1.out.trans (hb.mono Ew1.out.size)
  clear Ew1
  have Krw2 : Hid (Bk w2 gr (putC wp4)) := hbk
  clear hbk hb hc hg
  go_wp2_with (first
    | (refine wpList_bld rfl 25 [(0, .const (.int .i64 1)), (1, .const (.int .u32 258)), (2, .const (.int .u32 3)), (3, .tmp 12)] rfl zPkD [(0, [.int .i64 1]), (1, [vu32 258]), (2, [vu32 3]), (3, [.slice (some ⟨gr, 0, none⟩) 1 1])] (pktC 1 258 3 (some ⟨gr, 0, none⟩) 1 1) (by kernel_rfl) (by kernel_rfl) ⟨rfl, ⟨1, rfl, by kernel_rfl, by decide⟩, rfl, ⟨1, rfl, by kernel_rfl, by decide⟩, rfl, ⟨1, rfl, by kernel_rfl, by decide⟩, rfl, ⟨1, rfl, by kernel_rfl, by decide⟩, trivial⟩ rfl ?_)
    | (refine wpList_al rfl 25 rfl zPkD (by kernel_rfl) ?_))
  intro gp w3 hg hb hc hs
  have HQp : Hid (Below w2.heap.size w2 w3) := hc.below (Nat.le_refl _) (fun _ _ => id)
  have HGp : Hid (gp = w2.heap.size) := hg
  have KZp := Lib.hid hb
  clear hg hb hc hs
  go_wp2_with (refine wpList_st rfl 25 (.tmp 1) (.tmp 13) rfl gp 0 4 zPkD (pktC 1 258 3 (some ⟨gr, 0, none⟩) 1 1) rfl rfl KZp.out (by kernel_rfl) rfl (by decide) (one_pktD _ _ _ _ _ _) ?_)
  intro w4 hbk hc
  rw [splice_whole zPkD (pktC 1 258 3 (some ⟨gr, 0, none⟩) 1 1) rfl] at hbk
  have hb : Below w2.heap.size w2 w4 := HQp.out.trans (hc.below HQp.out.size (fun q hq he => by have := HGp.out; omega))
  have Arp : Hid (gr < gp) := by show _ < _; have := Krw2.out.lt; have := HGp.out; omega
  have Ew4 : Hid (Below w.heap.size w w4) := Ew2.out.trans (hb.mono Ew2.out.size)
  have Krw4 : Hid (Bk w4 gr (putC wp4)) := Krw2.out.below hb
  clear Ew2 Krw2
  have Kpw4 : Hid (Bk w4 gp (pktC 1 258 3 (some ⟨gr, 0, none⟩) 1 1)) := hbk
  have Kpw4 : Hid (Bk w4 gp (pktC 1 258 3 (some ⟨gr, 0, none⟩) 1 1)) := hbk
  clear hbk hb hc KZp HQp HGp
  go_wp2_with (refine wpList_ld rfl 25 (.tmp 1) rfl gp 0 4 (pktC 1 258 3 (some ⟨gr, 0, none⟩) 1 1) (pktC 1 258 3 (some ⟨gr, 0, none⟩) 1 1) rfl Kpw4.out (by kernel_rfl) (by kernel_rfl) (Nat.le_refl 4) rfl ?_)
  refine (packEncode_yes 1 258 3 [wp4] (some ⟨gr, 0, none⟩) 1 1 w4 rfl (by decide) (by have h := Krw4.out.rd; rwa [← w18Flat] at h) w18Ok w18Good).mono ?_
  rintro en w5 ⟨Ab, cb, rfl, ho, hb⟩
  have HCb : Hid ((w18B).length ≤ cb ∧ cb ≤ 9223372036854775807) := own_capQ ho
  have hr : Rd w5 Ab (bts (w18B)) := own_rdQ ho
  have Ew5 : Hid (Below w.heap.size w w5) := Ew4.out.trans (hb.mono Ew4.out.size)
  have Krw5 : Hid (Bk w5 gr (putC wp4)) := Krw4.out.below hb
  have Kpw5 : Hid (Bk w5 gp (pktC 1 258 3 (some ⟨gr, 0, none⟩) 1 1)) := Kpw4.out.below hb
  clear Ew4 Krw4 Kpw4
  have Rbw5 := Lib.hid hr
  clear hb ho hr
  rw [show (encP (1 : Int).toNat 258 3 [wp4]).length = 45 from w18Len]
  go_wp2_with fail
  refine (packDecode_calls w18B Ab 45 cb w5 w18Len (by have h := HCb.out.1; rw [w18Len] at h; exact h) HCb.out.2 (by decide) Rbw5.out).mono ?_
  intro en w6 hp
  rw [w18Dec] at hp
  obtain ⟨Aq, cq, he, hr, hnc, hcm, _, hb⟩ := hp
  have he' : en = .returned (.tuple #[.agg (pktC 1 258 3 Aq 1 cq).toArray, .int .i64 0]) := he
  subst he'
  have hr' : Rd w6 Aq ([wp4].flatMap putC) := hr
  have Ew6 : Hid (Below w.heap.size w w6) := Ew5.out.trans (hb.mono Ew5.out.size)
  have Krw6 : Hid (Bk w6 gr (putC wp4)) := Krw5.out.below hb
  have Kpw6 : Hid (Bk w6 gp (pktC 1 258 3 (some ⟨gr, 0, none⟩) 1 1)) := Kpw5.out.below hb
  have Rbw6 : Hid (Rd w6 Ab (bts (w18B))) := Rbw5.out.below hb
  clear Ew5 Krw5 Kpw5 Rbw5
  have Rqw6 := Lib.hid hr'
  clear he hb hr hr' hnc hcm
  go_wp2_with (refine wpList_al rfl 25 rfl zPkD (by kernel_rfl) ?_)
  intro gq w7 hg hb hc hs
  have HQq : Hid (Below w6.heap.size w6 w7) := hc.below (Nat.le_refl _) (fun _ _ => id)
  have HGq : Hid (gq = w6.heap.size) := hg
  have KZq := Lib.hid hb
  clear hg hb hc hs
  go_wp2_with (refine wpList_st rfl 25 (.tmp 4) (.tmp 22) rfl gq 0 4 zPkD (pktC 1 258 3 Aq 1 cq) rfl rfl KZq.out (by kernel_rfl) rfl (by decide) (one_pktD _ _ _ _ _ _) ?_)
  intro w8 hbk hc
  rw [splice_whole zPkD (pktC 1 258 3 Aq 1 cq) rfl] at hbk
  have hb : Below w6.heap.size w6 w8 := HQq.out.trans (hc.below HQq.out.size (fun q hq he => by have := HGq.out; omega))
  have Arq : Hid (gr < gq) := by show _ < _; have := Krw6.out.lt; have := HGq.out; omega
  have Apq : Hid (gp < gq) := by show _ < _; have := Kpw6.out.lt; have := HGq.out; omega
  have Ew8 : Hid (Below w.heap.size w w8) := Ew6.out.trans (hb.mono Ew6.out.size)
  have Krw8 : Hid (Bk w8 gr (putC wp4)) := Krw6.out.below hb
  have Kpw8 : Hid (Bk w8 gp (pktC 1 258 3 (some ⟨gr, 0, none⟩) 1 1)) := Kpw6.out.below hb
  have Rbw8 : Hid (Rd w8 Ab (bts (w18B))) := Rbw6.out.below hb
  have Rqw8 : Hid (Rd w8 Aq ([wp4].flatMap putC)) := Rqw6.out.below hb
  clear Ew6 Krw6 Kpw6 Rbw6 Rqw6
  have Kqw8 : Hid (Bk w8 gq (pktC 1 258 3 Aq 1 cq)) := hbk
  have Kqw8 : Hid (Bk w8 gq (pktC 1 258 3 Aq 1 cq)) := hbk
  clear hbk hb hc KZq HQq HGq
  go_wp2_with (refine wpList_bld rfl 25 [(0, .const (.int .i64 3))] rfl zPkD [(0, [.int .i64 3])] (pktC 3 0 0 none 0 0) (by kernel_rfl) (by kernel_rfl) ⟨rfl, ⟨1, rfl, by kernel_rfl, by decide⟩, trivial⟩ rfl ?_)
  refine (packEncode_yes 3 0 0 [] none 0 0 w8 rfl (by decide) (Rd.nil _ _) okNil (by decide +kernel)).mono ?_
  rintro en w9 ⟨Aa, ca, rfl, ho, hb⟩
  have HCa : Hid ((encP 3 0 0 []).length ≤ ca ∧ ca ≤ 9223372036854775807) := own_capQ ho
  have hr : Rd w9 Aa (bts (encP 3 0 0 [])) := own_rdQ ho
  have Ew9 : Hid (Below w.heap.size w w9) := Ew8.out.trans (hb.mono Ew8.out.size)
  have Krw9 : Hid (Bk w9 gr (putC wp4)) := Krw8.out.below hb
  have Kpw9 : Hid (Bk w9 gp (pktC 1 258 3 (some ⟨gr, 0, none⟩) 1 1)) := Kpw8.out.below hb
  have Kqw9 : Hid (Bk w9 gq (pktC 1 258 3 Aq 1 cq)) := Kqw8.out.below hb
  have Rbw9 : Hid (Rd w9 Ab (bts (w18B))) := Rbw8.out.below hb
  have Rqw9 : Hid (Rd w9 Aq ([wp4].flatMap putC)) := Rqw8.out.below hb
  clear Ew8 Krw8 Kpw8 Kqw8 Rbw8 Rqw8
  have Raw9 := Lib.hid hr
  clear hb ho hr
  rw [show (encP (3 : Int).toNat 0 0 []).length = 12 from by decide +kernel]
  go_wp2_with (refine wpList_bld rfl 25 [(0, .const (.int .i64 2))] rfl zPkD [(0, [.int .i64 2])] (pktC 2 0 0 none 0 0) (by kernel_rfl) (by kernel_rfl) ⟨rfl, ⟨1, rfl, by kernel_rfl, by decide⟩, trivial⟩ rfl ?_)
  refine (packEncode_no 2 0 0 [] none 0 0 w9 rfl (by decide) (Rd.nil _ _) okNil (by decide +kernel)).mono ?_
  rintro en w10 ⟨rfl, hb⟩
  have Ew10 : Hid (Below w.heap.size w w10) := Ew9.out.trans (hb.mono Ew9.out.size)
  have Krw10 : Hid (Bk w10 gr (putC wp4)) := Krw9.out.below hb
  have Kpw10 : Hid (Bk w10 gp (pktC 1 258 3 (some ⟨gr, 0, none⟩) 1 1)) := Kpw9.out.below hb
  have Kqw10 : Hid (Bk w10 gq (pktC 1 258 3 Aq 1 cq)) := Kqw9.out.below hb
  have Rbw10 : Hid (Rd w10 Ab (bts (w18B))) := Rbw9.out.below hb
  have Rqw10 : Hid (Rd w10 Aq ([wp4].flatMap putC)) := Rqw9.out.below hb
  have Raw10 : Hid (Rd w10 Aa (bts (encP 3 0 0 []))) := Raw9.out.below hb
  clear Ew9 Krw9 Kpw9 Kqw9 Rbw9 Rqw9 Raw9
  clear hb
  obtain ⟨ad, hA, _⟩ := Rbw10.out.bt 0 (by rw [w18Len]; decide)
  subst hA
  have cb1 : w10.cell? ⟨ad.block, ad.off + 1, none⟩ = some (.int .u8 2) := bt_cell Rbw10.out (by rw [w18Len]; decide) (by decide) (by decide +kernel)
  have cb2 : w10.cell? ⟨ad.block, ad.off + 2, none⟩ = some (.int .u8 1) := bt_cell Rbw10.out (by rw [w18Len]; decide) (by decide) (by decide +kernel)
  have cb5 : w10.cell? ⟨ad.block, ad.off + 5, none⟩ = some (.int .u8 3) := bt_cell Rbw10.out (by rw [w18Len]; decide) (by decide) (by decide +kernel)
  have cb9 : w10.cell? ⟨ad.block, ad.off + 9, none⟩ = some (.int .u8 1) := bt_cell Rbw10.out (by rw [w18Len]; decide) (by decide) (by decide +kernel)
  have cb10 : w10.cell? ⟨ad.block, ad.off + 10, none⟩ = some (.int .u8 4) := bt_cell Rbw10.out (by rw [w18Len]; decide) (by decide) (by decide +kernel)
  have cb11 : w10.cell? ⟨ad.block, ad.off + 11, none⟩ = some (.int .u8 7) := bt_cell Rbw10.out (by rw [w18Len]; decide) (by decide) (by decide +kernel)
  go_wp2_with (first
    | (refine wpList_ld rfl 25 (.tmp 1) rfl gp 0 4 (pktC 1 258 3 (some ⟨gr, 0, none⟩) 1 1) (pktC 1 258 3 (some ⟨gr, 0, none⟩) 1 1) rfl Kpw10.out (by kernel_rfl) (by kernel_rfl) (Nat.le_refl 4) rfl ?_)
    | (refine wpList_ld rfl 25 (.tmp 4) rfl gq 0 4 (pktC 1 258 3 Aq 1 cq) (pktC 1 258 3 Aq 1 cq) rfl Kqw10.out (by kernel_rfl) (by kernel_rfl) (Nat.le_refl 4) rfl ?_))
  clear cb1 cb2 cb5 cb9 cb10 cb11
  refine (packSame_calls ⟨1, 258, 3, [wp4]⟩ ⟨1, 258, 3, [wp4]⟩ (some ⟨gr, 0, none⟩) Aq 1 1 1 cq w10 rfl rfl (by decide) (by have h := Krw10.out.rd; rwa [← w18Flat] at h) Rqw10.out w18Ok w18Ok).mono ?_
  rintro en w11 ⟨rfl, hb⟩
  have Ew11 : Hid (Below w.heap.size w w11) := Ew10.out.trans (hb.mono Ew10.out.size)
  have Krw11 : Hid (Bk w11 gr (putC wp4)) := Krw10.out.below hb
  have Kpw11 : Hid (Bk w11 gp (pktC 1 258 3 (some ⟨gr, 0, none⟩) 1 1)) := Kpw10.out.below hb
  have Kqw11 : Hid (Bk w11 gq (pktC 1 258 3 Aq 1 cq)) := Kqw10.out.below hb
  have Rbw11 : Hid (Rd w11 (some ad) (bts w18B)) := Rbw10.out.below hb
  have Rqw11 : Hid (Rd w11 Aq ([wp4].flatMap putC)) := Rqw10.out.below hb
  have Raw11 : Hid (Rd w11 Aa (bts (encP 3 0 0 []))) := Raw10.out.below hb
  clear Ew10 Krw10 Kpw10 Kqw10 Rbw10 Rqw10 Raw10
  clear hb
  rw [pkEq_self]
  go_wp2_with (first
    | (refine wpList_ld rfl 25 (.tmp 1) rfl gp 0 4 (pktC 1 258 3 (some ⟨gr, 0, none⟩) 1 1) (pktC 1 258 3 (some ⟨gr, 0, none⟩) 1 1) rfl Kpw11.out (by kernel_rfl) (by kernel_rfl) (Nat.le_refl 4) rfl ?_)
    | (refine wpList_bld rfl 25 [] rfl zPkD [] zPkD (by kernel_rfl) (by kernel_rfl) trivial rfl ?_))
  refine (packSame_calls ⟨1, 258, 3, [wp4]⟩ PkV.no (some ⟨gr, 0, none⟩) none 1 0 1 0 w11 rfl rfl (by decide) (by have h := Krw11.out.rd; rwa [← w18Flat] at h) (Rd.nil _ _) w18Ok okNil).mono ?_
  rintro en w12 ⟨rfl, hb⟩
  have Ew12 : Hid (Below w.heap.size w w12) := Ew11.out.trans (hb.mono Ew11.out.size)
  have Krw12 : Hid (Bk w12 gr (putC wp4)) := Krw11.out.below hb
  have Kpw12 : Hid (Bk w12 gp (pktC 1 258 3 (some ⟨gr, 0, none⟩) 1 1)) := Kpw11.out.below hb
  have Kqw12 : Hid (Bk w12 gq (pktC 1 258 3 Aq 1 cq)) := Kqw11.out.below hb
  have Rbw12 : Hid (Rd w12 (some ad) (bts w18B)) := Rbw11.out.below hb
  have Rqw12 : Hid (Rd w12 Aq ([wp4].flatMap putC)) := Rqw11.out.below hb
  have Raw12 : Hid (Rd w12 Aa (bts (encP 3 0 0 []))) := Raw11.out.below hb
  clear Ew11 Krw11 Kpw11 Kqw11 Rbw11 Rqw11 Raw11
  clear hb
  rw [show pkEq ⟨1, 258, 3, [wp4]⟩ PkV.no = false from by decide +kernel]
  go_wp2_with fail
  (try simp only [Exit.inBlock, Exit.then])
  go_ret
  exact ⟨rfl, Ew12.out⟩
end Go.Proofs.Ytpldcmcldoidaaa
