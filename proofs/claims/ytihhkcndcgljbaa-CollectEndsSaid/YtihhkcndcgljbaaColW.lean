/- The law CollectEnds: its walk. Conditions: the rows and the script lie in memory. -/
import Derived.Test.YtihhkcndcgljbaaColV
import Derived.Test.YtihhkcndcgljbaaColU
namespace Go.Proofs.Ytihhkcndcgljbaa
set_option linter.unusedVariables false
set_option linter.unusedSimpArgs false
open Go.RowKit
theorem own_nil_new (w : World) (e : TypeId) (size : Nat) : (w.alloc (.cells #[] e)).ownsRow w.heap.size e size (.slice (some ⟨w.heap.size, 0, none⟩) 0 0) 0 [] :=
  ⟨by simp, .inr ⟨w.heap.size, 0, #[], rfl, Nat.le_refl _, heap_alloc_new w _, Nat.le_refl _, by unfold maxLen; omega, by simp, by simp⟩⟩
theorem rowsT25 : ElemT Try.prog 23 53 (.agg #[.int .i64 0, .int .i64 0, .slice none 0 0]) 3 40 := ⟨Try.underlying23, by kernel_rfl, by kernel_rfl, by decide, by decide⟩
theorem rwL_ones (D : List S.RR) : ∀ u ∈ D.flatMap S.rwL, u.oneCell' = true := fun u hu => by
  obtain ⟨x, _, hx⟩ := List.mem_flatMap.1 hu
  exact S.rwL_one x u hx
theorem Col.ends_start {cf : S.Str.Cfg} {rs : List S.Str.Rw} (hv : S.Str.validB cf rs = true) (hn : rs.length ≤ 40) (hu : Col.used rs ≤ 200) (code : Int) (l : List Chk.Ck) (m : Nat) (hm : (Col.lss code rs).length = m) : Col.EndS code m l rs 0 := by
  have hV := S.Str.validB_iff.1 hv
  refine ⟨by omega, by omega, fun hc r hr hrc => ?_, ?_, ?_⟩
  · rcases (hV.rows r hr).ok with h | ⟨_, _, _, _, _, h, _⟩
    · rw [h] at hrc
      have : (-1 : Int) = code := hrc
      omega
    · exact h
  · rw [← hm]
    have : (Col.nzl l (Col.lss code rs)).length ≤ (Col.lss code rs).length := List.length_filter_le _ _
    omega
  · rw [← hm]; exact Nat.le_trans (Col.lss_len code rs) hu
section
variable {w0 w : World} {a : Nat} {l : List Chk.Ck} {G : Nat → Prop} (h : TabG w0 w a l G)
include h
theorem TabG.next_ {B m cp : Nat} {A : Option Addr} {D : List S.RR} {rs : List S.Str.Rw} (hr : S.RowsAt w B A m D rs) (hB : B ≤ w.heap.size) (hmc : m ≤ cp) (c : Int) (hn9 : (Col.lss c rs).length ≤ 100000) (d : Int) {V : Option ((Int × Int) × (Int × Int))} (hV : Col.nextF (Col.lss c rs) l d = V) :
    Calls Try.prog 8 #[.slice A m cp, .pointer (some ⟨a, 0, none⟩), .int .i64 c, .int .i64 d] w fun e w' => e = .returned (nextV V) ∧ Below w.heap.size w w' :=
  h.read fun F S t ht => by have := next_any hr hB hmc ht c _ rfl hn9 d; rw [hV] at this; exact this
theorem TabG.loads_ {B m cp : Nat} {A : Option Addr} {D : List S.RR} {rs : List S.Str.Rw} (hr : S.RowsAt w B A m D rs) (hB : B ≤ w.heap.size) (hmc : m ≤ cp) (c : Int) (n : Nat) (hn : (Col.lss c rs).length = n) (hn9 : n ≤ 100000) :
    Calls Try.prog 9 #[.slice A m cp, .pointer (some ⟨a, 0, none⟩), .int .i64 c] w fun e w' => ∃ A' c', e = .returned (.slice A' n c') ∧ Below w.heap.size w w' :=
  h.read fun F S t ht => (loads_any hr hB hmc ht c _ rfl n hn hn9).mono fun e w' ⟨A', c', he, _, hb⟩ => ⟨A', c', he, hb⟩
theorem TabG.liveN_ (r g : Int) (n : Nat) (hn : (Chk.live l r g).length = n) :
    Calls Try.prog 13 #[.pointer (some ⟨a, 0, none⟩), .agg #[.int .i64 r, .int .i64 g]] w fun e w' => ∃ A' c', e = .returned (.slice A' n c') ∧ Below w.heap.size w w' :=
  h.read fun F S t ht => (live_any ht r g).mono fun e w' ⟨A', c', he, _, hb⟩ => ⟨A', c', by rw [he, hn], hb⟩
theorem TabG.mergeOk_ (a0 a1 b0 b1 t0 t1 d : Int) (hm : Col.mgF l (a0, a1) (b0, b1) (t0, t1) d = .ok) (xs : List Int) (hx : Col.both l (a0, a1) (b0, b1) = xs) (n : Nat) (hn : xs.length = n) :
    Calls Try.prog 14 #[.pointer (some ⟨a, 0, none⟩), .agg #[.int .i64 a0, .int .i64 a1], .agg #[.int .i64 b0, .int .i64 b1], .agg #[.int .i64 t0, .int .i64 t1], .int .i64 d] w fun e w' => ∃ A c, e = .returned (.tuple #[.slice A n c, .int .i64 0]) ∧ Rd w' w'.heap.size 7 A n ((Col.sts l xs).flatMap (stpC (t0, t1))) ∧ (∀ p, A = some p → w.heap.size ≤ p.block ∧ p.block < w'.heap.size) ∧ Below w.heap.size w w' :=
  h.read fun F S t ht => by
    have := merge_any ht a0 a1 b0 b1 t0 t1 d
    rw [hm, hx] at this
    refine this.mono fun e w' hh => ?_
    unfold MgIs at hh
    dsimp only at hh
    obtain ⟨A, c, he, ho, hb⟩ := hh
    rw [hn] at he ho
    exact ⟨A, c, he, Rd.of_own ho, own_block_lt ho, hb⟩
end
theorem sizeStp : (Try.prog.info? 61).map (·.size) = some 7 := by kernel_rfl
theorem infoStp : (Try.prog.info? 61).map (fun i => (i.zero, i.size)) = some (some (.agg zStp.toArray), zStp.length) := by kernel_rfl
set_option maxRecDepth 100000 in
set_option maxHeartbeats 6400000 in
theorem lawEnds (cf : S.Str.Cfg) (A : Option Addr) (n c : Nat) (D : List S.RR) (hnc : n ≤ c) (A1 : Option Addr) (n1 c1 : Nat) (ops : List Chk.Op) (hl : ops.length = n1) (hnc1 : n1 ≤ c1) (hc1 : c1 ≤ 140737488355328) (hok : ∀ o ∈ ops, OpOk o)
    (code : Int) (lc : -9223372036854775808 ≤ code) (uc : code ≤ 9223372036854775807) (d : Int) (ld : -9223372036854775808 ≤ d) (ud : d ≤ 9223372036854775807) (w : World) (hrd : S.RowsIn w w.heap.size A n D (D.map S.RR.r)) (hr : Rd w w.heap.size 9 A1 n1 (ops.flatMap opL)) :
    Calls Try.prog 4 #[S.cfV cf, .slice A n c, .slice A1 n1 c1, .int .i64 code, .int .i64 d] w fun e w' => e = .returned (.bool true) ∧ Below w.heap.size w w' := by
  clear lc uc ld ud
  have HSN := Lib.hid sanity25_any
  obtain ⟨v, hv⟩ : ∃ v, S.Str.validB cf (D.map S.RR.r) = v := ⟨_, rfl⟩
  have HVA := Lib.hid (fun (W : World) (hW : Below w.heap.size w W) => S.rvalid_any cf (hrd.below hW) hW.size hnc)
  rw [hv] at HVA
  have HCV : Hid (S.cfV cf = .agg (S.cfL cf).toArray) := Lib.hid rfl
  rw [HCV.out] at HVA ⊢
  obtain ⟨cl, hcl⟩ : ∃ y, S.cfL cf = y := ⟨_, rfl⟩
  have HCL : Hid (cl.length = 6) := Lib.hid (by rw [← hcl]; rfl)
  rw [hcl] at HVA ⊢
  clear hcl HCV
  by_cases hn : n1 ≤ 120
  · have HBU := Lib.hid (fun (W : World) (hW : Below w.heap.size w W) => build25_any A1 n1 c1 ops W hn ⟨(hr.below hW).more hW.size, hl, fun o ho => (hok o ho).2.2.2.2.2⟩)
    obtain ⟨q, hq⟩ : ∃ q, decide (n ≤ 64 ∧ Col.used (D.map S.RR.r) ≤ 200) = q := ⟨_, rfl⟩
    have HFW := Lib.hid (fun (W : World) (hW : Below w.heap.size w W) => few_any (hrd.below hW) hW.size hnc q hq)
    obtain ⟨l0, hll⟩ : ∃ l, Chk.run [] ops = l := ⟨_, rfl⟩
    rw [hll] at HBU
    have HRD := Lib.hid hrd
    have HQ := Lib.hid hq
    have HV := Lib.hid hv
    clear hr hok hl hn hrd hll hq hv
    cases q with
    | false =>
      go_enter Try.func4, Try.ntmps4
      go_wp2_with (first
        | (refine S.wpList_boxRow rfl _ (.tmp 0) rfl cl rfl rfl ?_; intro w1 rs1 b1 z1)
        | (go_at_call 5; refine (HBU.out _ b1).mono ?_; rintro e w2 ⟨a, r, rfl, hp2⟩; have hb2 := b1.trans (hp2.b.mono b1.size))
        | (go_at_call 6; refine (HFW.out _ hb2).mono ?_; rintro e w3 ⟨rfl, b3⟩; have hb3 := hb2.trans (b3.mono hb2.size))
        | (refine S.wpList_load_rg rfl _ (.tmp 5) rfl w.heap.size 0 rfl cl _ (fun j v hv => by rw [Nat.zero_add, ((rs1.below' hp2.b).below' b3).cell]; exact hv) Try.underlying43 rfl (by rw [HCL.out]; exact S.sizeCf) ?_)
        | (go_at_call 11; refine (HVA.out _ hb3).mono ?_; rintro e w4 ⟨rfl, b4⟩; have hb4 := hb3.trans (b4.mono hb3.size))
        | (go_at_call 7; refine (HSN.out _).mono ?_; rintro e w9 ⟨rfl, b9⟩))
      go_ret
      exact ⟨rfl, hb3.trans (b9.mono hb3.size)⟩
    | true =>
      obtain ⟨hn64, hu⟩ := of_decide_eq_true HQ.out
      cases v with
      | false =>
        go_enter Try.func4, Try.ntmps4
        go_wp2_with (first
          | (refine S.wpList_boxRow rfl _ (.tmp 0) rfl cl rfl rfl ?_; intro w1 rs1 b1 z1)
          | (go_at_call 5; refine (HBU.out _ b1).mono ?_; rintro e w2 ⟨a, r, rfl, hp2⟩; have hb2 := b1.trans (hp2.b.mono b1.size))
          | (go_at_call 6; refine (HFW.out _ hb2).mono ?_; rintro e w3 ⟨rfl, b3⟩; have hb3 := hb2.trans (b3.mono hb2.size))
          | (refine S.wpList_load_rg rfl _ (.tmp 5) rfl w.heap.size 0 rfl cl _ (fun j v hv => by rw [Nat.zero_add, ((rs1.below' hp2.b).below' b3).cell]; exact hv) Try.underlying43 rfl (by rw [HCL.out]; exact S.sizeCf) ?_)
          | (go_at_call 11; refine (HVA.out _ hb3).mono ?_; rintro e w4 ⟨rfl, b4⟩; have hb4 := hb3.trans (b4.mono hb3.size))
          | (go_at_call 7; refine (HSN.out _).mono ?_; rintro e w9 ⟨rfl, b9⟩))
        go_ret
        exact ⟨rfl, hb4.trans (b9.mono hb4.size)⟩
      | true =>
        by_cases hd1 : d < 1
        · skip
          go_enter Try.func4, Try.ntmps4
          go_wp2_with (first
            | (refine S.wpList_boxRow rfl _ (.tmp 0) rfl cl rfl rfl ?_; intro w1 rs1 b1 z1)
            | (go_at_call 5; refine (HBU.out _ b1).mono ?_; rintro e w2 ⟨a, r, rfl, hp2⟩; have hb2 := b1.trans (hp2.b.mono b1.size))
            | (go_at_call 6; refine (HFW.out _ hb2).mono ?_; rintro e w3 ⟨rfl, b3⟩; have hb3 := hb2.trans (b3.mono hb2.size))
            | (refine S.wpList_load_rg rfl _ (.tmp 5) rfl w.heap.size 0 rfl cl _ (fun j v hv => by rw [Nat.zero_add, ((rs1.below' hp2.b).below' b3).cell]; exact hv) Try.underlying43 rfl (by rw [HCL.out]; exact S.sizeCf) ?_)
            | (go_at_call 11; refine (HVA.out _ hb3).mono ?_; rintro e w4 ⟨rfl, b4⟩; have hb4 := hb3.trans (b4.mono hb3.size))
            | (go_at_call 7; refine (HSN.out _).mono ?_; rintro e w9 ⟨rfl, b9⟩))
          go_ret
          exact ⟨rfl, hb4.trans (b9.mono hb4.size)⟩
        by_cases hd2 : 32 < d
        · skip
          go_enter Try.func4, Try.ntmps4
          go_wp2_with (first
            | (refine S.wpList_boxRow rfl _ (.tmp 0) rfl cl rfl rfl ?_; intro w1 rs1 b1 z1)
            | (go_at_call 5; refine (HBU.out _ b1).mono ?_; rintro e w2 ⟨a, r, rfl, hp2⟩; have hb2 := b1.trans (hp2.b.mono b1.size))
            | (go_at_call 6; refine (HFW.out _ hb2).mono ?_; rintro e w3 ⟨rfl, b3⟩; have hb3 := hb2.trans (b3.mono hb2.size))
            | (refine S.wpList_load_rg rfl _ (.tmp 5) rfl w.heap.size 0 rfl cl _ (fun j v hv => by rw [Nat.zero_add, ((rs1.below' hp2.b).below' b3).cell]; exact hv) Try.underlying43 rfl (by rw [HCL.out]; exact S.sizeCf) ?_)
            | (go_at_call 11; refine (HVA.out _ hb3).mono ?_; rintro e w4 ⟨rfl, b4⟩; have hb4 := hb3.trans (b4.mono hb3.size))
            | (go_at_call 7; refine (HSN.out _).mono ?_; rintro e w9 ⟨rfl, b9⟩))
          go_ret
          exact ⟨rfl, hb4.trans (b9.mono hb4.size)⟩
        by_cases hn40 : 40 < n
        · have hni : (40 : Int) < (n : Int) := by omega
          go_enter Try.func4, Try.ntmps4
          go_wp2_with (first
            | (refine S.wpList_boxRow rfl _ (.tmp 0) rfl cl rfl rfl ?_; intro w1 rs1 b1 z1)
            | (go_at_call 5; refine (HBU.out _ b1).mono ?_; rintro e w2 ⟨a, r, rfl, hp2⟩; have hb2 := b1.trans (hp2.b.mono b1.size))
            | (go_at_call 6; refine (HFW.out _ hb2).mono ?_; rintro e w3 ⟨rfl, b3⟩; have hb3 := hb2.trans (b3.mono hb2.size))
            | (refine S.wpList_load_rg rfl _ (.tmp 5) rfl w.heap.size 0 rfl cl _ (fun j v hv => by rw [Nat.zero_add, ((rs1.below' hp2.b).below' b3).cell]; exact hv) Try.underlying43 rfl (by rw [HCL.out]; exact S.sizeCf) ?_)
            | (go_at_call 11; refine (HVA.out _ hb3).mono ?_; rintro e w4 ⟨rfl, b4⟩; have hb4 := hb3.trans (b4.mono hb3.size))
            | (go_at_call 7; refine (HSN.out _).mono ?_; rintro e w9 ⟨rfl, b9⟩))
          go_ret
          exact ⟨rfl, hb4.trans (b9.mono hb4.size)⟩
        have hni : ¬ (40 : Int) < (n : Int) := by omega
        have HRA := Lib.hid (HRD.out.at_ (by omega) (fun r hr => Nat.le_trans (Col.used_mem hr) (by omega)))
        obtain ⟨rs, hrs⟩ : ∃ rs, D.map S.RR.r = rs := ⟨_, rfl⟩
        rw [hrs] at hu HRA HV
        have hrl : rs.length = n := HRA.out.len.2
        obtain ⟨m, hm⟩ : ∃ m, (Col.lss code rs).length = m := ⟨_, rfl⟩
        have HE0 := Lib.hid (Col.ends_start HV.out (by omega) hu code l0 m hm)
        have HM := Lib.hid hm
        have hm2 : m ≤ 200 := by rw [← hm]; exact Nat.le_trans (Col.lss_len code rs) hu
        clear hu hn64 hrl hm HRD
        go_enter Try.func4, Try.ntmps4
        go_upto_region 4 with (first
          | (refine S.wpList_boxRow rfl _ (.tmp 0) rfl cl rfl rfl ?_; intro w1 rs1 b1 z1)
          | (go_at_call 5; refine (HBU.out _ b1).mono ?_; rintro e w2 ⟨a, r, rfl, hp2⟩; have hb2 := b1.trans (hp2.b.mono b1.size))
          | (go_at_call 6; refine (HFW.out _ hb2).mono ?_; rintro e w3 ⟨rfl, b3⟩; have hb3 := hb2.trans (b3.mono hb2.size))
          | (refine S.wpList_load_rg rfl _ (.tmp 5) rfl w.heap.size 0 rfl cl _ (fun j v hv => by rw [Nat.zero_add, ((rs1.below' hp2.b).below' b3).cell]; exact hv) Try.underlying43 rfl (by rw [HCL.out]; exact S.sizeCf) ?_)
          | (go_at_call 11; refine (HVA.out _ hb3).mono ?_; rintro e w4 ⟨rfl, b4⟩; have hb4 := hb3.trans (b4.mono hb3.size))
          | (go_at_call 7; refine (HSN.out _).mono ?_; rintro e w9 ⟨rfl, b9⟩))
        have HB4 := Lib.hid hb4
        have HTB := Lib.hid ((hp2.left.below b3).below b4)
        have HB1 := Lib.hid b1
        clear rs1 b1 z1 hb2 hb3 hb4 b3 b4 hp2 HBU HFW HVA hni
        go_upto_region 5 with (at_builtin; refine wpList_appR rfl (.tmp 58) (.tmp 59) 23 rfl w4.heap.size 53 _ 3 40 rowsT25 (some ⟨w4.heap.size, 0, none⟩) 0 0 [] A n c (D.flatMap S.rwL) rfl rfl (own_nil_new w4 _ 3) ((HRA.out.rd.below HB4.out).alloc HB4.out.size _) (rwL_ones D) (W0 := w4) (B := w4.heap.size) ((Below.refl _ _).alloc (Nat.le_refl _) _) (by omega) (Nat.le_refl _) (by simp) ?_; intro A5 c5 w5 own5 b5; rw [Nat.zero_add, List.nil_append] at own5; simp only [Nat.zero_add])
        have hob5 := own_block_lt own5
        have HB5 := Lib.hid (HB4.out.trans (b5.mono HB4.out.size))
        have HTB5 := Lib.hid (HTB.out.wider b5)
        have HA5 : Hid (AllAt w1 (fun b => False ∨ (w4.heap.size ≤ b ∧ b < w5.heap.size)) w5 A5 n c5 D rs) := Lib.hid ⟨own_base own5 HTB.out.b.size, fun x hx => (((HRA.out.us x hx).below HB5.out).more HB5.out.size), HRA.out.rs, fun p hp => .inr (hob5 p hp), fun x hx h0 p hp => .inl (Nat.lt_of_lt_of_le (ok_block (HRA.out.us x hx) h0 p hp) HB1.out.size), fun x hx h0 p hp q hq => by
          have e1 := ok_block (HRA.out.us x hx) h0 p hp
          have e2 := (hob5 q hq).1
          have e3 := HB4.out.size
          omega⟩
        have hc5 := (own_cap own5).1
        clear own5 b5 hob5 HTB HB4 HRA
        try simp only [Act.put, List.setIfInBounds_toArray, List.set_cons_zero, List.set_cons_succ]
        have HLD := Lib.hid (HTB5.out.loads_ (HA5.out.rows (by omega)) (Nat.le_refl _) hc5 code m HM.out (by omega))
        go_upto_region 6 with (go_at_call 9; refine HLD.out.mono ?_; rintro e w6 ⟨A6, c6, rfl, b6⟩)
        have HTB6 := Lib.hid (HTB5.out.below b6)
        have HA6 := Lib.hid (HA5.out.below b6)
        clear b6 HTB5 HA5 HLD HB5
        go_upto_region 8 with fail
        go_loopw [14, 16] (fun u14 u16 wx => ∃ (wr : World) (j N : Nat) (A' : Option Addr) (c' : Nat) (D' : List S.RR) (l' : List Chk.Ck) (rs' : List S.Str.Rw) (G : Nat → Prop), wr = wx ∧ j ≤ m ∧ u16 = .int .i64 (j : Int) ∧ u14 = .slice A' N c' ∧ N ≤ c' ∧ Hid (TabG w1 wr a l' G) ∧ Hid (AllAt w1 G wr A' N c' D' rs') ∧ Hid (Col.EndS code m l' rs' j)) (fun _ u16 _ => m - (intOf u16).toNat)
        case atStart => exact ⟨_, 0, n, A5, c5, D, l0, rs, _, rfl, Nat.zero_le _, rfl, rfl, hc5, HTB6, HA6, HE0⟩
        case round =>
          obtain ⟨wr, j, N, A', c', D', l', rs', G, rfl, hjm, rfl, rfl, hNc, HT, HA, HE⟩ := hrel
          have hNl := HA.out.len
          have hN40 : N ≤ 40 + j := by rw [← hNl]; exact HE.out.len
          have hus := HE.out.us
          have hls : (Col.lss code rs').length ≤ 100000 := by have := Col.lss_len code rs'; omega
          obtain ⟨V, hV⟩ : ∃ V, Col.nextF (Col.lss code rs') l' d = V := ⟨_, rfl⟩
          have HNX := Lib.hid (HT.out.next_ (HA.out.rows (by omega)) (Nat.le_refl _) hNc code hls d hV)
          have HNL := Lib.hid hNl
          cases V with
          | none =>
            unfold nextV st25 at HNX
            dsimp only at HNX
            clear hV hus hls hNl
            go_wp2_with (first
              | (go_at_call 8; refine HNX.out.mono ?_; rintro e w3 ⟨rfl, b3⟩)
              | (have tk := rzA; refine wpList_allocRow rfl _ rfl _ infoS25 ?_; intro w62 rzB bB zB; clear tk; have rzA2 := rzA.below' bB)
              | (refine wpList_allocRow rfl _ rfl _ infoS25 ?_; intro w61 rzA bA zA)
              | (refine wpList_storeRow rfl _ (.tmp 17) (.tmp 74) rfl (l' := [.int .i64 0, .int .i64 0]) rzA2 rfl rfl sizeS25 rfl rfl ?_; intro w63 rz63 g63 z63; have rzB3 := rzB.grown g63 (fun e => by have := Option.some.inj e; omega))
              | (refine wpList_storeRow rfl _ (.tmp 18) (.tmp 75) rfl (l' := [.int .i64 0, .int .i64 0]) rzB3 rfl (by simp only [zA]; rfl) sizeS25 rfl rfl ?_; intro w64 rz64 g64 z64)
              | (go_at_call 7; refine (HSN.out _).mono ?_; rintro e w7 ⟨rfl, b7⟩))
            go_ret
            have hb64 : Below w3.heap.size w3 w64 := ((bA.trans (bB.mono bA.size)).grown g63 (bA.trans (bB.mono bA.size)).size (fun i hi => by have := Option.some.inj hi; omega)).grown g64 (by rw [z63]; exact (bA.trans (bB.mono bA.size)).size) (fun i hi => by have := Option.some.inj hi; omega)
            have hbw := HB1.out.trans (HT.out.b.mono HB1.out.size)
            exact ⟨rfl, hbw.trans ((b3.trans ((hb64.trans (b7.mono hb64.size)).mono b3.size)).mono hbw.size)⟩
          | some p =>
            obtain ⟨⟨p0, p1⟩, ⟨q0, q1⟩⟩ := p
            have htw := HE.out.two hV
            have HV2 := Lib.hid hV
            have hd32 := htw.d2
            have hd01 := htw.d1
            have hjm2 := htw.jm
            have e1 : ¬ ((j : Int) ≥ (m : Int)) := by omega
            have e2 : ¬ ((N : Int) > 300) := by omega
            have HTW := Lib.hid htw
            unfold nextV st25 at HNX
            dsimp only at HNX
            clear hV hus hls hNl htw
            go_upto_region 9 with (first
              | (go_at_call 8; refine HNX.out.mono ?_; rintro e w3 ⟨rfl, b3⟩)
              | (have tk := rzA; refine wpList_allocRow rfl _ rfl _ infoS25 ?_; intro w62 rzB bB zB; clear tk; have rzA2 := rzA.below' bB)
              | (refine wpList_allocRow rfl _ rfl _ infoS25 ?_; intro w61 rzA bA zA)
              | (refine wpList_storeRow rfl _ (.tmp 17) (.tmp 74) rfl (l' := [.int .i64 p0, .int .i64 p1]) rzA2 rfl rfl sizeS25 rfl rfl ?_; intro w63 rz63 g63 z63; have rzB3 := rzB.grown g63 (fun e => by have := Option.some.inj e; omega))
              | (refine wpList_storeRow rfl _ (.tmp 18) (.tmp 75) rfl (l' := [.int .i64 q0, .int .i64 q1]) rzB3 rfl (by simp only [zA]; rfl) sizeS25 rfl rfl ?_; intro w64 rz64 g64 z64))
            have hb64 : Below w3.heap.size w3 w64 := ((bA.trans (bB.mono bA.size)).grown g63 (bA.trans (bB.mono bA.size)).size (fun i hi => by have := Option.some.inj hi; omega)).grown g64 (by rw [z63]; exact (bA.trans (bB.mono bA.size)).size) (fun i hi => by have := Option.some.inj hi; omega)
            have hbr := b3.trans (hb64.mono b3.size)
            have rzA4 := rz63.grown g64 (fun e => by have := Option.some.inj e; omega)
            obtain ⟨x17, h17⟩ : ∃ y, w3.heap.size = y := ⟨_, rfl⟩
            obtain ⟨x18, h18⟩ : ∃ y, x17 + 1 = y := ⟨_, rfl⟩
            rw [show w61.heap.size = x18 by omega] at rz64
            rw [h17] at rzA4
            rw [h17, h18]
            have HX17 := Lib.hid rzA4
            have HX18 := Lib.hid rz64
            have HBR := Lib.hid hbr
            have hx17 : wr.heap.size ≤ x17 ∧ wr.heap.size ≤ x18 := by have := b3.size; omega
            clear rzA bA zA rzB bB zB rzA2 rz63 g63 z63 rzB3 rz64 g64 z64 hb64 hbr b3 h17 h18 rzA4
            try simp only [Act.put, List.setIfInBounds_toArray, List.set_cons_zero, List.set_cons_succ]
            go_upto_region 14 with (first
              | (go_at_call 12; refine (at25_any _ _ _).mono ?_; rintro e w65 ⟨rfl, b65⟩)
              | (refine wpList_allocRow rfl _ rfl _ infoS25 ?_; intro w66 rz66 b66 z66)
              | (refine wpList_storeRow rfl _ (.tmp 20) (.tmp 90) rfl (l' := [.int .i64 (N : Int), .int .i64 0]) rz66 rfl rfl sizeS25 rfl rfl ?_; intro w67 rz67 g67 z67))
            have hb67 : Below w64.heap.size w64 w67 := b65.trans ((b66.grown g67 b66.size (fun i hi => by have := Option.some.inj hi; omega)).mono b65.size)
            obtain ⟨x20, h20⟩ : ∃ y, w65.heap.size = y := ⟨_, rfl⟩
            have HXB : Hid (wr.heap.size ≤ x17 ∧ wr.heap.size ≤ x18 ∧ wr.heap.size ≤ x20) := Lib.hid ⟨hx17.1, hx17.2, by have := HBR.out.size; have := b65.size; omega⟩
            rw [h20] at rz67 ⊢
            replace HX17 := Lib.hid (HX17.out.below' hb67)
            replace HX18 := Lib.hid (HX18.out.below' hb67)
            have HX20 := Lib.hid rz67
            replace HBR := Lib.hid (HBR.out.trans (hb67.mono HBR.out.size))
            have hr20 : w67.rangeAt x20 0 [.int .i64 (N : Int), .int .i64 0] := fun q u hq => by rw [Nat.zero_add, HX20.out.cell]; exact hq
            clear hx17 b65 rz66 b66 z66 rz67 g67 z67 hb67 h20
            try simp only [Act.put, List.setIfInBounds_toArray, List.set_cons_zero, List.set_cons_succ]
            obtain ⟨lv, hlv⟩ : ∃ x, (Chk.live l' (N : Int) 0).length = x := ⟨_, rfl⟩
            have HLV := Lib.hid ((HT.out.below HBR.out).liveN_ (N : Int) 0 lv hlv)
            by_cases hlv0 : 0 < lv
            · have e3 : (0 : Int) < (lv : Int) := by omega
              clear hlv
              go_wp2_with (first
                | (refine wpList_load_mid rfl _ (.tmp 20) rfl x20 0 rfl [.int .i64 (N : Int), .int .i64 0] _ hr20 Try.underlying32 rfl sizeS25 ?_)
                | (go_at_call 13; refine HLV.out.mono ?_; rintro e w68 ⟨A68, c68, rfl, b68⟩)
                | (go_at_call 7; refine (HSN.out _).mono ?_; rintro e w7 ⟨rfl, b7⟩))
              go_ret
              have hbw := HB1.out.trans (HT.out.b.mono HB1.out.size)
              have hbx := hbw.trans (HBR.out.mono hbw.size)
              exact ⟨rfl, hbx.trans ((b68.trans (b7.mono b68.size)).mono hbx.size)⟩
            · obtain rfl : lv = 0 := by omega
              have HL0 : Hid (Chk.live l' (N : Int) 0 = []) := Lib.hid (List.length_eq_zero_iff.1 hlv)
              clear hlv hlv0
              go_upto_region 16 with (first
                | (refine wpList_load_mid rfl _ (.tmp 20) rfl x20 0 rfl [.int .i64 (N : Int), .int .i64 0] _ hr20 Try.underlying32 rfl sizeS25 ?_)
                | (go_at_call 13; refine HLV.out.mono ?_; rintro e w68 ⟨A68, c68, rfl, b68⟩))
              replace HX17 := Lib.hid (HX17.out.below' b68)
              replace HX18 := Lib.hid (HX18.out.below' b68)
              replace HX20 := Lib.hid (HX20.out.below' b68)
              replace HBR := Lib.hid (HBR.out.trans (b68.mono HBR.out.size))
              clear b68 hr20 HLV HNX
              have ru := Rd.new w68 [.int .i64 0, .int .i64 0, .int .i64 0] 50 1 (size := 3) rfl
              obtain ⟨wu, hwu⟩ : ∃ x, w68.alloc (.cells #[.int .i64 0, .int .i64 0, .int .i64 0] 50) = x := ⟨_, rfl⟩
              rw [show w68.alloc (.cells [Value.int .i64 0, .int .i64 0, .int .i64 0].toArray 50) = wu from hwu] at ru
              have hbu : Below w68.heap.size w68 wu := by rw [← hwu]; exact (Below.refl _ _).alloc (Nat.le_refl _) _
              have hsu : w68.heap.size + 1 = wu.heap.size := by rw [← hwu]; simp
              have HAU := Lib.hid ((HA.out.below HBR.out).below hbu)
              have hbw1 := HT.out.b.trans ((HBR.out.trans (hbu.mono HBR.out.size)).mono HT.out.b.size)
              go_upto_region 17 with (at_builtin; (try rw [hwu]); (try rw [hsu]); refine wpList_appN rfl (.tmp 97) (.tmp 103) 23 rfl w1.heap.size 53 _ 3 40 rowsT25 A' N c' (D'.flatMap S.rwL) [.int .i64 code, .int .i64 d, .slice (some ⟨w68.heap.size, 0, none⟩) 1 1] _ rfl rfl rfl HAU.out.own hbw1 rfl (fun u hu => by simp only [List.mem_cons, List.not_mem_nil, or_false] at hu; rcases hu with rfl | rfl | rfl <;> rfl) (by omega) (Nat.le_refl _) hbw1.size ?_; intro g8 c8 w8 own8 hb8 hg8)
              have hkp : Keep (fun b => ∃ p, A' = some p ∧ b = p.block) wr w8 := (Keep.of_below (HBR.out.trans (hbu.mono HBR.out.size))).grown hg8.1 (fun k e => .inl (by
                cases hAA : A' with
                | none => rw [hAA] at e; cases e
                | some q => rw [hAA] at e; exact ⟨q, rfl, (Option.some.inj e).symm⟩))
              have hg1 := HT.out.keepG (T := fun b => ∃ p, A' = some p ∧ b = p.block) (fun b ⟨p, hp, e⟩ => by rw [e]; exact ⟨HA.out.ga p hp, (own_block_lt HA.out.own p hp).1⟩) hkp
              have hru : Rd w8 w8.heap.size 3 (some ⟨w68.heap.size, 0, none⟩) 1 [.int .i64 0, .int .i64 0, .int .i64 0] := ((ru.more (by rw [← hsu]; exact Nat.le_refl _)).keepA fun _ p hp => hg8.1.block p.block (by rw [← hsu, ← Option.some.inj hp]; exact Nat.lt_succ_self _) (fun e => by
                have hown := HAU.out.own.lt p.block e.symm
                have := (own_block_lt (HA.out.own)) 
                have h2 : ∀ q, A' = some q → q.block < wr.heap.size := fun q hq => (this q hq).2
                cases hAA : A' with
                | none => rw [hAA] at e; cases e
                | some q =>
                  rw [hAA] at e
                  have e1 := Option.some.inj e
                  have e2 := h2 q hAA
                  have e3 := HBR.out.size
                  rw [← Option.some.inj hp] at e1
                  dsimp only at e1
                  omega)).more hg8.1.size
              have ha1 := HA.out.push hkp (x := ⟨Col.newR code d, some ⟨w68.heap.size, 0, none⟩, 1⟩) (A' := some ⟨g8, 0, none⟩) (c' := c8) (by rw [List.flatMap_append, List.flatMap_singleton]; exact own8) ⟨hru, Nat.le_refl _, by show 1 ≤ 65536; omega⟩ (fun p hp => by
                rcases hg8.2 with e | e
                · exact .inl (e.trans hp)
                · rw [← Option.some.inj hp]
                  exact .inr (Nat.le_trans (Nat.le_trans HBR.out.size hbu.size) e)) (fun p hp => by
                have e3 := HBR.out.size
                have e4 := hg8.1.size
                rw [← Option.some.inj hp]
                refine ⟨e3, by show w68.heap.size < _; omega, fun q hq => ?_⟩
                rw [← Option.some.inj hq]
                show w68.heap.size ≠ g8
                rcases hg8.2 with e | e
                · have := (own_block_lt HA.out.own _ e).2
                  dsimp only at this; omega
                · omega)
              obtain ⟨G1, hG1⟩ : ∃ G1 : Nat → Prop, (fun b => G b ∨ (wr.heap.size ≤ b ∧ b < w8.heap.size)) = G1 := ⟨_, rfl⟩
              rw [hG1] at hg1 ha1
              have HT8 := Lib.hid hg1
              have HA8 := Lib.hid ha1
              have HY17 := Lib.hid ((HX17.out.below' hbu).grown hg8.1 (fun e => by have := (HA.out.own.lt x17 e).2; have := HXB.out.1; omega))
              have HY18 := Lib.hid ((HX18.out.below' hbu).grown hg8.1 (fun e => by have := (HA.out.own.lt x18 e).2; have := HXB.out.2.1; omega))
              have HY20 := Lib.hid ((HX20.out.below' hbu).grown hg8.1 (fun e => by have := (HA.out.own.lt x20 e).2; have := HXB.out.2.2; omega))
              have hcap8 := (own_cap own8).1
              clear hkp hg1 hru ha1 hG1 own8 hb8 hg8 ru hwu hbu hsu hbw1 HAU HX17 HX18 HX20 HT HA
              try simp only [Act.put, List.setIfInBounds_toArray, List.set_cons_zero, List.set_cons_succ]
              have hr17 : w8.rangeAt x17 0 [.int .i64 p0, .int .i64 p1] := fun q u hq => by rw [Nat.zero_add, HY17.out.cell]; exact hq
              have hr18 : w8.rangeAt x18 0 [.int .i64 q0, .int .i64 q1] := fun q u hq => by rw [Nat.zero_add, HY18.out.cell]; exact hq
              have hr20 : w8.rangeAt x20 0 [.int .i64 (N : Int), .int .i64 0] := fun q u hq => by rw [Nat.zero_add, HY20.out.cell]; exact hq
              obtain ⟨xs, hxs⟩ : ∃ xs, Col.both l' (p0, p1) (q0, q1) = xs := ⟨_, rfl⟩
              obtain ⟨K, hK⟩ : ∃ K, xs.length = K := ⟨_, rfl⟩
              have hNr : (rs'.length : Int) = (N : Int) := by rw [HNL.out]
              have hap : ((p0, p1) : Int × Int) ≠ ((N : Int), 0) := fun e => by have := HTW.out.a1; rw [e, hNr] at this; exact absurd this (by simp)
              have haq : ((q0, q1) : Int × Int) ≠ ((N : Int), 0) := fun e => by have := HTW.out.b1; rw [e, hNr] at this; exact absurd this (by simp)
              have hKd : (K : Int) ≤ d := by rw [← hK, ← hxs, Col.both_len]; exact HTW.out.sum
              have hmg : Col.mgF l' (p0, p1) (q0, q1) ((N : Int), 0) d = .ok := by
                unfold Col.mgF
                rw [Col.mgBad_abt ⟨HTW.out.d1, HTW.out.d2⟩ HTW.out.ne hap haq, if_neg (by decide), hxs, hK, if_neg (by omega)]
              have HMG := Lib.hid (HT8.out.mergeOk_ p0 p1 q0 q1 (N : Int) 0 d hmg xs hxs K hK)
              have HXS := Lib.hid (And.intro hxs hK)
              have HAP := Lib.hid (And.intro hap haq)
              have hK32 : K ≤ 32 := by omega
              clear hxs hK hNr hap haq hKd hmg
              go_upto_region 20 with (first
                | (refine wpList_load_mid rfl _ (.tmp 17) rfl x17 0 rfl [.int .i64 p0, .int .i64 p1] _ hr17 Try.underlying32 rfl sizeS25 ?_)
                | (refine wpList_load_mid rfl _ (.tmp 18) rfl x18 0 rfl [.int .i64 q0, .int .i64 q1] _ hr18 Try.underlying32 rfl sizeS25 ?_)
                | (refine wpList_load_mid rfl _ (.tmp 20) rfl x20 0 rfl [.int .i64 (N : Int), .int .i64 0] _ hr20 Try.underlying32 rfl sizeS25 ?_)
                | (go_at_call 14; refine HMG.out.mono ?_; rintro e w9 ⟨A9, c9, rfl, rd9, hA9, b9⟩))
              have hg2 := HT8.out.wider b9
              have ha2 := (HA8.out.below b9).wide (G' := fun b => G1 b ∨ (w8.heap.size ≤ b ∧ b < w9.heap.size)) (fun _ h => .inl h)
              have hA9g : ∀ p, A9 = some p → (fun b => G1 b ∨ (w8.heap.size ≤ b ∧ b < w9.heap.size)) p.block := fun p hp => .inr (hA9 p hp)
              obtain ⟨G2, hG2⟩ : ∃ G2 : Nat → Prop, (fun b => G1 b ∨ (w8.heap.size ≤ b ∧ b < w9.heap.size)) = G2 := ⟨_, rfl⟩
              rw [hG2] at hg2 ha2 hA9g
              have HT9 := Lib.hid hg2
              have HA9 := Lib.hid ha2
              have HS9 := Lib.hid (And.intro rd9 hA9g)
              clear hg2 ha2 hA9g hG2 rd9 hA9 b9 HMG HT8 HA8 hr17 hr18 hr20 HY17 HY18 HY20
              try simp only [Act.put, List.setIfInBounds_toArray, List.set_cons_zero, List.set_cons_succ]
              go_upto_region 21 with fail
              go_loopw [118] (fun u118 wx => ∃ (wi : World) (i : Nat) (li : List Chk.Ck), wi = wx ∧ i ≤ K ∧ u118 = .int .i64 (i : Int) ∧ Hid (TabG w1 wi a li G2) ∧ Hid (Col.Mvd l' ((N : Int), 0) xs i li) ∧ Hid (SameG w9 wi G2)) (fun u118 _ => K - (intOf u118).toNat)
              case atStart => exact ⟨_, 0, l', rfl, Nat.zero_le _, rfl, HT9, Lib.hid (Col.Mvd.start xs HT9.out.inv HL0.out), Lib.hid (SameG.refl _ _)⟩
              case round =>
                obtain ⟨wi, i, li, rfl, hi, rfl, HTI, HMV, HSI⟩ := hrel
                by_cases hlt : i < K
                · have hil : i < xs.length := by rw [HXS.out.2]; exact hlt
                  have hil2 : i < (Col.sts l' xs).length := by rw [Col.sts_len]; exact hil
                  have hrd := HS9.out.1.keepA (w' := wi) (fun _ p hp => HSI.out p.block (HS9.out.2 p hp))
                  obtain ⟨b, off, rfl, hbb, hrg⟩ := hrd.elem (f := stpC ((N : Int), 0)) (fun _ _ => rfl) hil2 hlt
                  rw [Col.sts_get l' xs i hil2 hil] at hrg
                  have hxs := HXS.out.1
                  obtain ⟨lj, hmv, hmd⟩ := HMV.out.step HT9.out.inv (fun n hn => (show Chk.valid ⟨(N : Int), 0, (n : Int)⟩ from ⟨⟨by show (0 : Int) ≤ (N : Int); omega, by show (N : Int) < 4096; omega⟩, ⟨by show (0 : Int) ≤ 0; omega, by show (0 : Int) < 64; omega⟩, ⟨by show (0 : Int) ≤ (n : Int); omega, by show (n : Int) < 32; omega⟩⟩)) (by rw [← hxs]; exact Col.live_apart HT9.out.inv HTW.out.ne) (by rw [← hxs]; exact Col.both_unit HAP.out.1 HAP.out.2) hil (by rw [HXS.out.2]; exact hK32)
                  obtain ⟨id, hid⟩ : ∃ x, xs[i] = x := ⟨_, rfl⟩
                  obtain ⟨⟨f0, f1, f2⟩, hfu⟩ : ∃ u, Col.atOf l' xs[i] = u := ⟨_, rfl⟩
                  rw [hfu, hid] at hrg
                  rw [hid] at hmv
                  unfold stpC at hrg
                  dsimp only at hrg hmv
                  have HMC := Lib.hid (fun (W : World) (hW : Below wi.heap.size wi W) => (HTI.out.below hW).move_ id ⟨(N : Int), 0, (i : Int)⟩ hmv)
                  unfold unV at HMC
                  dsimp only at HMC
                  have HMD := Lib.hid hmd
                  have e1 : (0 : Int) ≤ (i : Int) := by omega
                  have e2 : (i : Int) < (K : Int) := by omega
                  clear hil hil2 hrd hbb hxs hmv hmd hid hfu
                  go_upto_region 23 with (first
                    | (refine wpList_load_mid rfl _ (.tmp 120) rfl b (off + i * 7) rfl [.int .i64 id, .int .i64 f0, .int .i64 f1, .int .i64 f2, .int .i64 (N : Int), .int .i64 0, .int .i64 (i : Int)] _ hrg Try.underlying61 rfl sizeStp ?_)
                    | (refine wpList_allocRow rfl _ rfl _ infoStp ?_; intro w23 rz23 b23 z23)
                    | (refine wpList_storeRow rfl _ (.tmp 24) (.tmp 121) rfl (l' := [.int .i64 id, .int .i64 f0, .int .i64 f1, .int .i64 f2, .int .i64 (N : Int), .int .i64 0, .int .i64 (i : Int)]) rz23 rfl rfl sizeStp rfl rfl ?_; intro w24 rz24 g24 z24))
                  have hb24 : Below wi.heap.size wi w24 := b23.grown g24 b23.size (fun k e => by have := Option.some.inj e; omega)
                  obtain ⟨x24, h24⟩ : ∃ y, wi.heap.size = y := ⟨_, rfl⟩
                  rw [h24] at rz24 ⊢
                  have k0 := rz24.cell 0
                  have k4 := rz24.cell 4
                  have k5 := rz24.cell 5
                  have k6 := rz24.cell 6
                  dsimp only [List.getElem?_cons_zero, List.getElem?_cons_succ] at k0 k4 k5 k6
                  have hr4 : w24.rangeAt x24 4 [.int .i64 (N : Int), .int .i64 0, .int .i64 (i : Int)] := fun q v hq => by
                    rcases q with _ | _ | _ | q
                    · exact k4.trans hq
                    · exact k5.trans hq
                    · exact k6.trans hq
                    · simp at hq
                  have HMW := Lib.hid (HMC.out w24 hb24)
                  have HB24 := Lib.hid hb24
                  clear rz23 b23 z23 rz24 g24 z24 hb24 h24 hrg k4 k5 k6
                  try simp only [Act.put, List.setIfInBounds_toArray, List.set_cons_zero, List.set_cons_succ]
                  go_wp2_with (first
                    | (refine wpList_load_mid rfl _ (.tmp 125) rfl x24 4 rfl [.int .i64 (N : Int), .int .i64 0, .int .i64 (i : Int)] _ hr4 Try.underlying59 rfl sizeUn25 ?_)
                    | (go_at_call 15; refine HMW.out.mono ?_; rintro e w25 ⟨rfl, ht25, hs25⟩))
                  go_roundw
                  case rel => exact ⟨_, i + 1, lj, rfl, by omega, by go_num, Lib.hid ht25, HMD, Lib.hid ((HSI.out.trans (SameG.of_below HB24.out HTI.out.lt)).trans hs25)⟩
                  case measure => simp [intOf]; omega
                · obtain rfl : i = K := by omega
                  have hmv := HMV.out
                  have hES := HE.out.step HV2.out HT9.out.inv (l' := li) (by rw [HXS.out.1, HXS.out.2, HNL.out]; exact hmv)
                  go_wp2_with fail
                  go_roundw
                  case rel => exact ⟨_, j + 1, N + 1, _, c8, _, li, _, G2, rfl, by omega, by go_num, rfl, hcap8, HTI, Lib.hid (HA9.out.same HSI.out HTI.out.lt HT9.out.b HTI.out.b), Lib.hid hES⟩
                  case measure => simp [intOf]; omega
  · have HBU := Lib.hid (fun (W : World) => build25_long A1 n1 c1 W (by omega))
    clear hr hok hl hn hrd
    go_enter Try.func4, Try.ntmps4
    go_wp2_with (first
      | (refine S.wpList_boxRow rfl _ (.tmp 0) rfl cl rfl rfl ?_; intro w1 rs1 b1 z1)
      | (go_at_call 5; refine (HBU.out _).mono ?_; rintro e w2 ⟨rfl, b2⟩)
      | (go_at_call 7; refine (HSN.out _).mono ?_; rintro e w3 ⟨rfl, b3⟩))
    go_ret
    exact ⟨rfl, b1.trans ((b2.trans (b3.mono b2.size)).mono b1.size)⟩
end Go.Proofs.Ytihhkcndcgljbaa
