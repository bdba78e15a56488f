/- The law CollectBounds: its walk. Conditions: the rows and the script lie in memory. -/
import Derived.Test.YtihhkcndcgljbaaColS
import Derived.Test.YtihhkcndcgljbaaCLawKit
import Derived.Test.YtihhkcndcgljbaaStrLK
namespace Go.Proofs.Ytihhkcndcgljbaa
set_option linter.unusedVariables false
set_option linter.unusedSimpArgs false
open Go.RowKit
namespace Col
theorem nzl_snoc (l : List Chk.Ck) (ss : List St) (s : St) : nzl l (ss ++ [s]) = nzl l ss ++ (if cnt l s ≠ 0 then [s] else []) := by
  unfold nzl; rw [List.filter_append]
  by_cases h : cnt l s = 0 <;> simp [h]
/-- the loads that count -/
def nzc (l : List Chk.Ck) (ss : List St) : List Int := (nzl l ss).map (cnt l)
theorem nzc_some {l : List Chk.Ck} {ss : List St} {s : St} {y : Int} (hy : cnt l s = y) (h : 0 < y) : nzc l (ss ++ [s]) = nzc l ss ++ [y] := by
  unfold nzc; rw [nzl_snoc, if_pos (by omega), List.map_append, List.map_singleton, hy]
theorem nzc_none {l : List Chk.Ck} {ss : List St} {s : St} {y : Int} (hy : cnt l s = y) (h : ¬ 0 < y) : nzc l (ss ++ [s]) = nzc l ss := by
  unfold nzc; rw [nzl_snoc, if_neg (by have := cnt_nonneg l s; omega), List.append_nil]
theorem sum_bd : ∀ {l : List Int}, (∀ x ∈ l, 0 ≤ x ∧ x ≤ 32) → 0 ≤ sum l ∧ sum l ≤ (l.length : Int) * 32
  | [], _ => by simp [sum]
  | x :: l, h => by
    have h1 := h x (by simp)
    have h2 := sum_bd (l := l) fun y hy => h y (by simp [hy])
    rw [sum, List.length_cons]; omega
theorem nzc_bd (l : List Chk.Ck) (ss : List St) : ∀ x ∈ nzc l ss, 0 ≤ x ∧ x ≤ 32 := fun x hx => by
  obtain ⟨s, _, rfl⟩ := List.mem_map.1 hx
  exact ⟨cnt_nonneg l s, cnt_le l s⟩
theorem nzc_pos (l : List Chk.Ck) (ss : List St) : ∀ x ∈ nzc l ss, 1 ≤ x := fun x hx => by
  obtain ⟨s, hs, rfl⟩ := List.mem_map.1 hx
  unfold nzl at hs
  have := (List.mem_filter.1 hs).2
  have h0 := cnt_nonneg l s
  have : cnt l s ≠ 0 := by simpa using this
  omega
theorem sum_pos : ∀ {l : List Int}, (∀ x ∈ l, 1 ≤ x) → (l.length : Int) ≤ sum l
  | [], _ => by simp [sum]
  | x :: l, h => by
    have h1 := h x (by simp)
    have h2 := sum_pos (l := l) fun y hy => h y (by simp [hy])
    rw [sum, List.length_cons]; omega
theorem lss_len (c : Int) (rs : List S.Str.Rw) : (lss c rs).length ≤ used rs := by
  unfold lss
  by_cases h : 0 ≤ c ∧ c < 8
  · rw [if_pos h]; exact strs_len
  · rw [if_neg h]; simp
theorem used_mem : ∀ {rs : List S.Str.Rw} {r : S.Str.Rw}, r ∈ rs → r.used.length ≤ used rs
  | x :: rs, r, h => by
    rw [used]
    rcases List.mem_cons.1 h with rfl | h
    · omega
    · have := used_mem h; omega
end Col
set_option maxRecDepth 100000 in
set_option maxHeartbeats 3200000 in
theorem lawBounds (A : Option Addr) (n c : Nat) (D : List S.RR) (hnc : n ≤ c) (A1 : Option Addr) (n1 c1 : Nat) (ops : List Chk.Op) (hl : ops.length = n1) (hnc1 : n1 ≤ c1) (hc1 : c1 ≤ 140737488355328) (hok : ∀ o ∈ ops, OpOk o)
    (code : Int) (lc : -9223372036854775808 ≤ code) (uc : code ≤ 9223372036854775807) (d : Int) (ld : -9223372036854775808 ≤ d) (ud : d ≤ 9223372036854775807) (w : World) (hrd : S.RowsIn w w.heap.size A n D (D.map S.RR.r)) (hr : Rd w w.heap.size 9 A1 n1 (ops.flatMap opL)) :
    Calls Try.prog 3 #[.slice A n c, .slice A1 n1 c1, .int .i64 code, .int .i64 d] w fun e w' => e = .returned (.bool true) ∧ Below w.heap.size w w' := by
  clear lc uc ld ud
  have HSN := Lib.hid sanity25_any
  by_cases hn : n1 ≤ 120
  · have HBU := Lib.hid (build25_any A1 n1 c1 ops w hn ⟨hr, hl, fun o ho => (hok o ho).2.2.2.2.2⟩)
    obtain ⟨q, hq⟩ : ∃ q, decide (n ≤ 64 ∧ Col.used (D.map S.RR.r) ≤ 200) = q := ⟨_, rfl⟩
    have HFW := Lib.hid (fun (W : World) (hW : Below w.heap.size w W) => few_any (hrd.below hW) hW.size hnc q hq)
    obtain ⟨l, hll⟩ : ∃ l, Chk.run [] ops = l := ⟨_, rfl⟩
    rw [hll] at HBU
    have HRD := Lib.hid hrd
    have HQ := Lib.hid hq
    clear hr hok hl hn hrd hll hq
    cases q with
    | false =>
      go_enter Try.func3, Try.ntmps3
      go_wp2_with (first
        | (go_at_call 5; refine HBU.out.mono ?_; rintro e w1 ⟨a, r, rfl, hp1⟩)
        | (go_at_call 6; refine (HFW.out _ hp1.b).mono ?_; rintro e w2 ⟨rfl, b2⟩; have hb2 := hp1.b.trans (b2.mono hp1.b.size))
        | (go_at_call 7; refine (HSN.out _).mono ?_; rintro e w3 ⟨rfl, b3⟩))
      go_ret
      exact ⟨rfl, hb2.trans (b3.mono hb2.size)⟩
    | true =>
      obtain ⟨hn64, hu⟩ := of_decide_eq_true HQ.out
      by_cases hd1 : d < 1
      · go_enter Try.func3, Try.ntmps3
        go_wp2_with (first
          | (go_at_call 5; refine HBU.out.mono ?_; rintro e w1 ⟨a, r, rfl, hp1⟩)
          | (go_at_call 6; refine (HFW.out _ hp1.b).mono ?_; rintro e w2 ⟨rfl, b2⟩; have hb2 := hp1.b.trans (b2.mono hp1.b.size))
          | (go_at_call 7; refine (HSN.out _).mono ?_; rintro e w3 ⟨rfl, b3⟩))
        go_ret
        exact ⟨rfl, hb2.trans (b3.mono hb2.size)⟩
      by_cases hd2 : 32 < d
      · go_enter Try.func3, Try.ntmps3
        go_wp2_with (first
          | (go_at_call 5; refine HBU.out.mono ?_; rintro e w1 ⟨a, r, rfl, hp1⟩)
          | (go_at_call 6; refine (HFW.out _ hp1.b).mono ?_; rintro e w2 ⟨rfl, b2⟩; have hb2 := hp1.b.trans (b2.mono hp1.b.size))
          | (go_at_call 7; refine (HSN.out _).mono ?_; rintro e w3 ⟨rfl, b3⟩))
        go_ret
        exact ⟨rfl, hb2.trans (b3.mono hb2.size)⟩
      have HRA := Lib.hid (HRD.out.at_ (by omega) (fun r hr => Nat.le_trans (Col.used_mem hr) (by omega)))
      obtain ⟨ss, hss⟩ : ∃ ss, Col.lss code (D.map S.RR.r) = ss := ⟨_, rfl⟩
      have hs2 : ss.length ≤ 200 := by rw [← hss]; exact Nat.le_trans (Col.lss_len _ _) hu
      have HSS := Lib.hid hss
      clear hss hu hn64
      go_enter Try.func3, Try.ntmps3
      go_upto_region 4 with (first
        | (go_at_call 5; refine HBU.out.mono ?_; rintro e w1 ⟨a, r, rfl, hp1⟩)
        | (go_at_call 6; refine (HFW.out _ hp1.b).mono ?_; rintro e w2 ⟨rfl, b2⟩))
      have hb1 := hp1.b
      obtain ⟨F, T, F', T', ⟨t, ht⟩, -⟩ := hp1
      have HT := Lib.hid (ht.below b2)
      have HB2 := Lib.hid (hb1.trans (b2.mono hb1.size))
      clear hb1 ht b2 HBU HFW
      have HNX := Lib.hid (next_any (HRA.out.below HB2.out) HB2.out.size hnc HT.out code ss HSS.out (by omega) d)
      obtain ⟨NV, hNV⟩ : ∃ v, Col.nextF ss l d = v := ⟨_, rfl⟩
      rw [hNV] at HNX
      cases NV with
      | some p =>
        obtain ⟨⟨p0, p1⟩, ⟨q0, q1⟩⟩ := p
        unfold nextV st25 at HNX
        dsimp only at HNX
        clear hNV
        go_wp2_with (first
          | (go_at_call 8; refine HNX.out.mono ?_; rintro e w3 ⟨rfl, b3⟩; have hb3 := HB2.out.trans (b3.mono HB2.out.size))
          | (have tk := rzA; refine wpList_allocRow rfl _ rfl _ infoS25 ?_; intro w62 rzB bB zB; clear tk; have rzA2 := rzA.below' bB)
          | (refine wpList_allocRow rfl _ rfl _ infoS25 ?_; intro w61 rzA bA zA)
          | (refine wpList_storeRow rfl _ (.tmp 12) (.tmp 51) rfl (l' := [.int .i64 p0, .int .i64 p1]) rzA2 rfl rfl sizeS25 rfl rfl ?_; intro w63 rz63 g63 z63; have rzB3 := rzB.grown g63 (fun e => by have := Option.some.inj e; omega))
          | (refine wpList_storeRow rfl _ (.tmp 13) (.tmp 52) rfl (l' := [.int .i64 q0, .int .i64 q1]) rzB3 rfl (by simp only [zA]; rfl) sizeS25 rfl rfl ?_; intro w64 rz64 g64 z64)
          | (go_at_call 7; refine (HSN.out _).mono ?_; rintro e w7 ⟨rfl, b7⟩))
        go_ret
        have hb64 : Below w3.heap.size w3 w64 := ((bA.trans (bB.mono bA.size)).grown g63 (bA.trans (bB.mono bA.size)).size (fun i hi => by have := Option.some.inj hi; omega)).grown g64 (by rw [z63]; exact (bA.trans (bB.mono bA.size)).size) (fun i hi => by have := Option.some.inj hi; omega)
        exact ⟨rfl, hb3.trans ((hb64.trans (b7.mono hb64.size)).mono hb3.size)⟩
      | none =>
        unfold nextV st25 at HNX
        dsimp only at HNX
        have HPR := Lib.hid (Col.nextF_pairs hNV (by omega) (by omega))
        clear hNV
        go_upto_region 7 with (first
          | (go_at_call 8; refine HNX.out.mono ?_; rintro e w3 ⟨rfl, b3⟩; have hb3 := HB2.out.trans (b3.mono HB2.out.size))
          | (have tk := rzA; refine wpList_allocRow rfl _ rfl _ infoS25 ?_; intro w62 rzB bB zB; clear tk; have rzA2 := rzA.below' bB)
          | (refine wpList_allocRow rfl _ rfl _ infoS25 ?_; intro w61 rzA bA zA)
          | (refine wpList_storeRow rfl _ (.tmp 12) (.tmp 51) rfl (l' := [.int .i64 0, .int .i64 0]) rzA2 rfl rfl sizeS25 rfl rfl ?_; intro w63 rz63 g63 z63; have rzB3 := rzB.grown g63 (fun e => by have := Option.some.inj e; omega))
          | (refine wpList_storeRow rfl _ (.tmp 13) (.tmp 52) rfl (l' := [.int .i64 0, .int .i64 0]) rzB3 rfl (by simp only [zA]; rfl) sizeS25 rfl rfl ?_; intro w64 rz64 g64 z64))
        have hb64 : Below w3.heap.size w3 w64 := ((bA.trans (bB.mono bA.size)).grown g63 (bA.trans (bB.mono bA.size)).size (fun i hi => by have := Option.some.inj hi; omega)).grown g64 (by rw [z63]; exact (bA.trans (bB.mono bA.size)).size) (fun i hi => by have := Option.some.inj hi; omega)
        have HB4 := Lib.hid (hb3.trans (hb64.mono hb3.size))
        have HT4 := Lib.hid ((HT.out.below b3).below hb64)
        clear rzA bA zA rzB bB zB rzA2 rz63 g63 z63 rzB3 rz64 g64 z64 hb64 hb3 b3 HNX
        try simp only [Act.put, List.setIfInBounds_toArray, List.set_cons_zero, List.set_cons_succ]
        obtain ⟨m, hm⟩ : ∃ m, ss.length = m := ⟨_, rfl⟩
        have HLD := Lib.hid (loads_any (HRA.out.below HB4.out) HB4.out.size hnc HT4.out code ss HSS.out m hm (by omega))
        have HM := Lib.hid hm
        rw [hm] at hs2
        clear hm
        go_upto_region 10 with (go_at_call 9; refine HLD.out.mono ?_; rintro e w5 ⟨A5, c5, rfl, own5, b5⟩)
        rw [ldLs_eq] at own5
        have HR5 := Lib.hid (Rd.of_own own5)
        have HB5 := Lib.hid (HB4.out.trans (b5.mono HB4.out.size))
        clear own5 b5 HLD HT HT4 HB4 HRA HRD
        go_loopw [15, 16, 61] (fun u15 u16 u61 wx => ∃ (wr : World) (j k : Nat) (A3 : Option Addr) (c3 : Nat) (s : Int), wr = wx ∧ j ≤ m ∧ k ≤ j ∧ u61 = .int .i64 (j : Int) ∧ u16 = .int .i64 s ∧ u15 = .slice A3 k c3 ∧ Hid (Col.sum (Col.nzc l (ss.take j)) = s ∧ (Col.nzc l (ss.take j)).length = k) ∧ Hid (wr.ownsRow w5.heap.size 3 1 (.slice A3 k c3) k (ivs (Col.nzc l (ss.take j)))) ∧ Hid (Below w5.heap.size w5 wr)) (fun _ _ u61 _ => m - (intOf u61).toNat)
        case atStart => exact ⟨_, 0, 0, none, 0, 0, rfl, Nat.zero_le _, Nat.le_refl _, rfl, rfl, rfl, Lib.hid ⟨rfl, rfl⟩, Lib.hid (World.ownsRow_nil _ _ _ _), Lib.hid (Below.refl _ _)⟩
        case round =>
          obtain ⟨wr, j, k, A3, c3, s, rfl, hj, hkj, rfl, rfl, rfl, HS, HO, HBR⟩ := hrel
          by_cases hlt : j < m
          · have hjl : j < ss.length := by rw [HM.out]; exact hlt
            have hjl2 : j < (lds l ss).length := by rw [lds_len]; exact hjl
            obtain ⟨b, off, rfl, hbb, hrg⟩ := HR5.out.elem (f := Ld.L) (fun _ _ => rfl) hjl2 hlt
            rw [lds_get l ss j hjl2, Col.getD_get _ hjl] at hrg
            have htk := List.take_succ_eq_append_getElem hjl
            obtain ⟨⟨s0, s1⟩, hs⟩ : ∃ s, ss[j] = s := ⟨_, rfl⟩
            rw [hs] at hrg htk
            obtain ⟨y, hy⟩ : ∃ y, Col.cnt l (s0, s1) = y := ⟨_, rfl⟩
            rw [hy] at hrg
            unfold Ld.L at hrg
            dsimp only at hrg
            have hrw : wr.rangeAt b (off + j * 3) [.int .i64 s0, .int .i64 s1, .int .i64 y] := fun q u hq => (HBR.out.cell (p := ⟨b, off + j * 3 + q, none⟩) hbb).trans (hrg q u hq)
            have HTK := Lib.hid htk
            have HY := Lib.hid hy
            have hsb := Col.sum_bd (Col.nzc_bd l (ss.take j))
            rw [HS.out.1, HS.out.2] at hsb
            have hyb : 0 ≤ y ∧ y ≤ 32 := by rw [← hy]; exact ⟨Col.cnt_nonneg _ _, Col.cnt_le _ _⟩
            have e1 : (0 : Int) ≤ (j : Int) := by omega
            have e2 : (j : Int) < (m : Int) := by omega
            have e3 : IntKind.i64.wrap (s + y) = s + y := IntWalk.i64_in _ (by omega)
            clear hjl hjl2 hbb hrg htk hs hy hsb hyb
            go_upto_region 12 with (first
              | (refine wpList_load_mid rfl _ (.tmp 63) rfl b (off + j * 3) rfl [.int .i64 s0, .int .i64 s1, .int .i64 y] _ hrw Try.underlying39 rfl sizeLd ?_)
              | (refine wpList_allocRow rfl _ rfl _ infoLd ?_; intro w3 rz3 b3 z3; clear z3)
              | (refine wpList_storeRow rfl _ (.tmp 18) (.tmp 64) rfl (l' := [.int .i64 s0, .int .i64 s1, .int .i64 y]) rz3 rfl rfl sizeLd rfl rfl ?_; intro w4 rz4 g4 z4; clear z4))
            have hb4 : Below wr.heap.size wr w4 := b3.grown g4 b3.size (fun i hi => by have := Option.some.inj hi; omega)
            obtain ⟨b9, hb9⟩ : ∃ y, wr.heap.size = y := ⟨_, rfl⟩
            have HB6 := Lib.hid (HBR.out.trans (hb4.mono HBR.out.size))
            have HO6 := Lib.hid (own_below HO.out hb4)
            rw [hb9] at rz4 ⊢
            have k2 := rz4.cell 2
            dsimp only [List.getElem?_cons_zero, List.getElem?_cons_succ] at k2
            have HR9 := Lib.hid rz4
            have HLT9 := Lib.hid (Nat.le_of_eq hb9)
            clear rz3 b3 g4 hrw hb4
            try simp only [Act.put, List.setIfInBounds_toArray, List.set_cons_zero, List.set_cons_succ]
            by_cases hy0 : 0 < y
            · have hns := Col.nzc_some (ss := ss.take j) HY.out hy0
              rw [← HTK.out] at hns
              have HNS := Lib.hid hns
              clear hns
              go_upto_region 14 with (at_builtin; refine wpList_app1 rfl (.tmp 68) (.tmp 71) 35 rfl w5.heap.size 3 _ 8 intsT A3 k c3 (ivs (Col.nzc l (ss.take j))) (.int .i64 y) rfl rfl HO6.out HB6.out rfl (by omega) (Nat.le_refl _) HB6.out.size ?_; intro g8 c8 w8 own8 b8 hg8)
              have rz8 := rz4.grown hg8.1 (fun e => by have := HO.out.lt b9 e; omega)
              have k2 := rz8.cell 2
              dsimp only [List.getElem?_cons_zero, List.getElem?_cons_succ] at k2
              have HO8 := Lib.hid own8
              have HB8 := Lib.hid b8
              clear own8 b8 hg8 rz8 rz4 hb9
              go_wp2_with fail
              go_roundw
              case rel => exact ⟨_, j + 1, k + 1, _, c8, s + y, rfl, by omega, by omega, by go_num, by go_num, rfl, Lib.hid ⟨by rw [HNS.out, Col.sum_app, HS.out.1]; simp [Col.sum], by rw [HNS.out, List.length_append, HS.out.2]; rfl⟩, Lib.hid (by rw [HNS.out]; have := HO8.out; simpa [ivs] using this), HB8⟩
              case measure => simp [intOf]; omega
            · have hns := Col.nzc_none (ss := ss.take j) HY.out hy0
              rw [← HTK.out] at hns
              have HNS := Lib.hid hns
              clear hns rz4 hb9
              go_wp2_with fail
              go_roundw
              case rel => exact ⟨_, j + 1, k, A3, c3, s, rfl, by omega, by omega, by go_num, rfl, rfl, Lib.hid (by rw [HNS.out]; exact HS.out), Lib.hid (by rw [HNS.out]; exact HO6.out), HB6⟩
              case measure => simp [intOf]; omega
          · obtain rfl : j = m := by omega
            have htk : ss.take j = ss := List.take_of_length_le (by rw [HM.out]; exact Nat.le_refl _)
            obtain ⟨L, hL⟩ : ∃ L, Col.nzc l ss = L := ⟨_, rfl⟩
            have hs := HS.out
            have ho := HO.out
            rw [htk, hL] at hs ho
            have hpr : Col.Prs d L := by rw [← hL]; exact HPR.out
            have hbd : ∀ x ∈ L, 0 ≤ x ∧ x ≤ 32 := by rw [← hL]; exact Col.nzc_bd l ss
            have hps : ∀ x ∈ L, 1 ≤ x := by rw [← hL]; exact Col.nzc_pos l ss
            have HLK := Lib.hid hs
            have HRL := Lib.hid (Rd.of_own ho)
            have HOL := Lib.hid ho
            have HPL := Lib.hid hpr
            have HBL := Lib.hid hbd
            have HPS := Lib.hid hps
            have hcap := (own_cap ho).1
            have HBW := Lib.hid (HB5.out.trans (HBR.out.mono HB5.out.size))
            clear hs ho htk hL hpr hbd hps HS HO HBR HB5 HR5
            have hk200 : k ≤ 200 := by omega
            go_upto_region 17 with fail
            go_loop [80] (fun u80 => ∃ i : Nat, i ≤ k ∧ u80 = .int .i64 (i : Int)) (fun u80 => k - (intOf u80).toNat)
            case atStart => exact ⟨0, Nat.zero_le _, rfl⟩
            case round =>
              obtain ⟨i, hi, rfl⟩ := hrel
              by_cases hlt2 : i < k
              · have hiL : i < L.length := by rw [HLK.out.2]; exact hlt2
                obtain ⟨g, cap', hv0, hgb, hgl⟩ := HOL.out.form (by omega)
                obtain ⟨rfl, rfl⟩ : A3 = some ⟨g, 0, none⟩ ∧ c3 = cap' := by injection hv0 with h1 _ h2; exact ⟨h1, h2⟩
                obtain ⟨g', o', hg', -, hcx⟩ := HRL.out.get (f := fun x : Int => Value.int .i64 x) hiL
                obtain ⟨rfl, rfl⟩ : g = g' ∧ 0 = o' := by have := Option.some.inj hg'; exact ⟨congrArg Addr.block this, congrArg Addr.off this⟩
                rw [Nat.zero_add] at hcx
                have hcut := fun W => run_cutHi (P := Try.prog) W intsT g k c3 i .i64 (by omega) (by omega)
                have hxb := HBL.out L[i] (List.getElem_mem hiL)
                obtain ⟨x, hx⟩ : ∃ x, L[i] = x := ⟨_, rfl⟩
                rw [hx] at hcx hxb
                have HX := Lib.hid hx
                have e1 : (0 : Int) ≤ (i : Int) := by omega
                have e2 : (i : Int) < (k : Int) := by omega
                clear hv0 hgb hgl hg' hx
                go_upto_region 20 with fail
                go_loop [89] (fun u89 => ∃ o : Nat, o ≤ i ∧ u89 = .int .i64 (o : Int)) (fun u89 => i - (intOf u89).toNat)
                case atStart => exact ⟨0, Nat.zero_le _, rfl⟩
                case round =>
                  obtain ⟨o, ho, rfl⟩ := hrel
                  by_cases hlt3 : o < i
                  · have hoL : o < L.length := by omega
                    obtain ⟨g', o', hg', -, hcy⟩ := HRL.out.get (f := fun x : Int => Value.int .i64 x) hoL
                    obtain ⟨rfl, rfl⟩ : g = g' ∧ 0 = o' := by have := Option.some.inj hg'; exact ⟨congrArg Addr.block this, congrArg Addr.off this⟩
                    rw [Nat.zero_add] at hcy
                    have hyb := HBL.out L[o] (List.getElem_mem hoL)
                    have hp := List.pairwise_iff_getElem.1 HPL.out o i hoL hiL hlt3
                    rw [HX.out] at hp
                    obtain ⟨y, hy⟩ : ∃ y, L[o] = y := ⟨_, rfl⟩
                    rw [hy] at hcy hyb hp
                    have e3 : (0 : Int) ≤ (o : Int) := by omega
                    have e4 : (o : Int) < (i : Int) := by omega
                    have e5 : IntKind.i64.wrap (x + y) = x + y := IntWalk.i64_in _ (by omega)
                    have e6 : d < x + y := by omega
                    clear hg' hy hp
                    go_wp2_with fail
                    go_round
                    case rel => exact ⟨o + 1, by omega, by go_num⟩
                    case measure => simp [intOf]; omega
                  · obtain rfl : o = i := by omega
                    go_wp2_with fail
                    go_round
                    case rel => exact ⟨o + 1, by omega, by go_num⟩
                    case measure => simp [intOf]; omega
              · obtain rfl : i = k := by omega
                have hsb := Col.sum_bd HBL.out
                have hsp := Col.sum_pos HPS.out
                rw [HLK.out.1, HLK.out.2] at hsb
                rw [HLK.out.1, HLK.out.2] at hsp
                by_cases hk2 : i < 2
                · have e1 : (i : Int) < 2 := by omega
                  go_wp2_with (go_at_call 7; refine (HSN.out _).mono ?_; rintro e w7 ⟨rfl, b7⟩)
                  go_ret
                  exact ⟨rfl, HBW.out.trans (b7.mono HBW.out.size)⟩
                · have e1 : ¬ (i : Int) < 2 := by omega
                  have h1 := HPL.out.sum (by rw [HLK.out.2]; omega)
                  have h2 := HPL.out.bound (by rw [HLK.out.2]; omega) (by omega) (by omega) (by rw [HLK.out.1]; omega) (by rw [HLK.out.1]; omega)
                  rw [HLK.out.1, HLK.out.2] at h1 h2
                  obtain ⟨v, hv⟩ : ∃ v, Col.bound s d = v := ⟨_, rfl⟩
                  rw [hv] at h2
                  have HBD := Lib.hid (fun W => bound_any s d v hv W)
                  have h3 : 0 ≤ (i : Int) * d := Int.mul_nonneg (by omega) (by omega)
                  obtain ⟨p, hp⟩ : ∃ p, (i : Int) * d = p := ⟨_, rfl⟩
                  rw [hp] at h1 h3
                  have e2 : IntKind.i64.wrap ((i : Int) * d) = p := by rw [hp]; exact IntWalk.i64_in _ (by omega)
                  have e3 : IntKind.i64.wrap (2 * s) = 2 * s := IntWalk.i64_in _ (by omega)
                  clear hv hp
                  go_wp2_with (first
                    | (go_at_call 7; refine (HSN.out _).mono ?_; rintro e w7 ⟨rfl, b7⟩)
                    | (go_at_call 10; refine (HBD.out _).mono ?_; rintro e w7 ⟨rfl, rfl⟩))
                  go_ret
                  exact ⟨rfl, HBW.out.trans (b7.mono HBW.out.size)⟩
  · have HBU := Lib.hid (build25_long A1 n1 c1 w (by omega))
    clear hr hok hl hn hrd
    go_enter Try.func3, Try.ntmps3
    go_wp2_with (first
      | (go_at_call 5; refine HBU.out.mono ?_; rintro e w1 ⟨rfl, b1⟩)
      | (go_at_call 7; refine (HSN.out _).mono ?_; rintro e w3 ⟨rfl, b3⟩))
    go_ret
    exact ⟨rfl, b1.trans (b3.mono b1.size)⟩
end Go.Proofs.Ytihhkcndcgljbaa
