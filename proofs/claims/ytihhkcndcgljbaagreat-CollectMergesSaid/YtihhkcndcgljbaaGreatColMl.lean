/- The law CollectMerges: its walk. Conditions: the rows and the script lie in memory. -/
import Derived.Test.YtihhkcndcgljbaaGreatColYM
import Derived.Test.YtihhkcndcgljbaaGreatColVU
namespace Go.Proofs.YtihhkcndcgljbaaGreat
set_option linter.unusedVariables false
set_option linter.unusedSimpArgs false
open Go.RowKit
section
variable {w0 w : World} {a : Nat} {l : List Chk.Ck} {G : Nat → Prop} (h : TabG w0 w a l G)
include h
theorem TabG.next_ {B m cp : Nat} {A : Option Addr} {D : List S.RR} {rs : List S.Str.Rw} (hr : S.RowsAt w B A m D rs) (hB : B ≤ w.heap.size) (hmc : m ≤ cp) (c : Int) (hn9 : (Col.lss c rs).length ≤ 100000) (d : Int) {V : Option ((Int × Int) × (Int × Int))} (hV : Col.nextF (Col.lss c rs) l d = V) :
    Calls Tryz.prog 8 #[.slice A m cp, .pointer (some ⟨a, 0, none⟩), .int .i64 c, .int .i64 d] w fun e w' => e = .returned (nextV V) ∧ Below w.heap.size w w' :=
  h.read fun F S t ht => by have := next_any hr hB hmc ht c _ rfl hn9 d; rw [hV] at this; exact this
theorem TabG.liveN_ (r g : Int) (n : Nat) (hn : (Chk.live l r g).length = n) :
    Calls Tryz.prog 16 #[.pointer (some ⟨a, 0, none⟩), .agg #[.int .i64 r, .int .i64 g]] w fun e w' => ∃ A' c', e = .returned (.slice A' n c') ∧ Below w.heap.size w w' :=
  h.read fun F S t ht => (live_any ht r g).mono fun e w' ⟨A', c', he, _, hb⟩ => ⟨A', c', by rw [he, hn], hb⟩
theorem TabG.get25_ (id : Int) (k : Nat) (hp : Chk.pos (Chk.ids l) id = some k) (u : Chk.Un) (hu : Col.atOf l id = u) :
    Calls Tryz.prog 14 #[.pointer (some ⟨a, 0, none⟩), .int .i64 id] w fun e w' => ∃ cs : List Value, e = .returned (.tuple #[.agg cs.toArray, .bool true]) ∧ cs.length = 23 ∧ (cs.all (·.oneCell') = true) ∧ cs[18]? = some (.int .i64 u.r) ∧ cs[19]? = some (.int .i64 u.g) ∧ cs[20]? = some (.int .i64 u.u) ∧ Below w.heap.size w w' :=
  h.read fun F S t ht => get25 ht id k hp u hu
theorem TabG.mergeOk_ (a0 a1 b0 b1 t0 t1 d : Int) (hm : Col.mgF l (a0, a1) (b0, b1) (t0, t1) d = .ok) (xs : List Int) (hx : Col.both l (a0, a1) (b0, b1) = xs) (n : Nat) (hn : xs.length = n) :
    Calls Tryz.prog 13 #[.pointer (some ⟨a, 0, none⟩), .agg #[.int .i64 a0, .int .i64 a1], .agg #[.int .i64 b0, .int .i64 b1], .agg #[.int .i64 t0, .int .i64 t1], .int .i64 d] w fun e w' => ∃ A c, e = .returned (.tuple #[.slice A n c, .int .i64 0]) ∧ Rd w' w'.heap.size 7 A n ((Col.sts l xs).flatMap (stpC (t0, t1))) ∧ (∀ p, A = some p → w.heap.size ≤ p.block ∧ p.block < w'.heap.size) ∧ Below w.heap.size w w' :=
  h.read fun F S t ht => by
    have := merge_any ht a0 a1 b0 b1 t0 t1 d
    rw [hm, hx] at this
    refine this.mono fun e w' hh => ?_
    unfold MgIs at hh
    dsimp only at hh
    obtain ⟨A, c, he, ho, hb⟩ := hh
    rw [hn] at he ho
    exact ⟨A, c, he, Rd.of_own ho, own_block_lt ho, hb⟩
end
section
variable {w0 w : World} {a r : Nat} {l l' : List Chk.Ck} {G : Nat → Prop} (h : Pair w0 w a l r l' G)
include h
theorem Pair.rliveN_ (x g : Int) (n : Nat) (hn : (Chk.live l' x g).length = n) :
    Calls Tryz.prog 11 #[.pointer (some ⟨r, 0, none⟩), .agg #[.int .i64 x, .int .i64 g]] w fun e w' => ∃ A' c', e = .returned (.slice A' n c') ∧ Below w.heap.size w w' := by
  obtain ⟨F, S, t, hr⟩ := h.right
  exact (rlive_any hr x g).mono fun e w' ⟨A', c', he, _, hb⟩ => ⟨A', c', by rw [he, hn], hb⟩
theorem Pair.rloads_ {B m cp : Nat} {A : Option Addr} {D : List S.RR} {rs : List S.Str.Rw} (hr : S.RowsAt w B A m D rs) (hB : B ≤ w.heap.size) (hmc : m ≤ cp) (c : Int) (hc0 : 0 ≤ c) (hc8 : c < 8) (ss : List (Int × Int)) (hss : S.Str.strs c rs 0 = ss) (n : Nat) (hn : ss.length = n) (hn9 : n ≤ 100000) :
    Calls Tryz.prog 12 #[.slice A m cp, .pointer (some ⟨r, 0, none⟩), .int .i64 c] w fun e w' => ∃ A' c', e = .returned (.slice A' n c') ∧ w'.ownsRow w.heap.size 68 3 (.slice A' n c') n (ldLs l' ss) ∧ Below w.heap.size w w' := by
  obtain ⟨F, S, t, ht⟩ := h.right
  exact rloads25 hr hB hmc ht c hc0 hc8 ss hss n hn hn9
end
theorem sizeStp : (Tryz.prog.info? 57).map (·.size) = some 7 := by kernel_rfl
theorem infoStp : (Tryz.prog.info? 57).map (fun i => (i.zero, i.size)) = some (some (.agg zStp.toArray), zStp.length) := by kernel_rfl
theorem sizeRL : (Tryz.prog.info? 68).map (·.size) = some 3 := by kernel_rfl
theorem infoRL : (Tryz.prog.info? 68).map (fun i => (i.zero, i.size)) = some (some (.agg [Value.int .i64 0, .int .i64 0, .int .i64 0].toArray), 3) := by kernel_rfl
/-- an allocation in a law's words: nothing, or a stripe -/
def RalcR (rs : List S.Str.Rw) (code wd : Int) (n : Nat) (w : World) (e : Ending) (w' : World) : Prop :=
  ∃ (A' : Option Addr) (N' c' : Nat) (i g er : Int), e = .returned (.tuple #[.slice A' N' c', .agg #[.int .i64 i, .int .i64 g], .int .i64 er]) ∧ Below w.heap.size w w' ∧
    (er ≠ 0 ∨ er = 0 ∧ N' = n ∧ ∃ (D' : List S.RR) (rs' : List S.Str.Rw) (k : Nat), i = (k : Int) ∧ S.RowsAt w' w'.heap.size A' n D' rs' ∧ (∀ p, A' = some p → w.heap.size ≤ p.block) ∧ (∀ x ∈ D', ∀ p, x.A = some p → w.heap.size ≤ p.block) ∧ n ≤ c' ∧ RalcOk rs code wd rs' k g)
theorem RalcIs.r {rs : List S.Str.Rw} {code wd : Int} {n : Nat} {w w' : World} {e : Ending} (h : RalcIs rs code wd n w e w') : RalcR rs code wd n w e w' := by
  rcases h with ⟨k, hk, rfl, hb⟩ | ⟨A', c', D', rs', i, g, rfl, hr, f1, f2, hc, ho, hb⟩
  · exact ⟨none, 0, 0, 0, 0, k, rfl, hb, .inl hk⟩
  · exact ⟨A', n, c', i, g, 0, rfl, hb, .inr ⟨rfl, rfl, D', rs', i, rfl, hr, f1, f2, hc, ho⟩⟩
theorem S.RowsAt.but {W W' : World} {B n y : Nat} {A : Option Addr} {D : List S.RR} {rs : List S.Str.Rw} (h : S.RowsAt W B A n D rs) (hB : B ≤ W.heap.size) (hg : W.grownBy W' (some y)) (hA : ∀ p, A = some p → p.block ≠ y) (hD : ∀ x ∈ D, ∀ p, x.A = some p → p.block ≠ y) : S.RowsAt W' W'.heap.size A n D rs :=
  ⟨((h.rd.more hB).keepA fun h0 p hp => hg.block p.block (by obtain ⟨b, off, e, hb, _⟩ := h.rd.2 h0; rw [hp] at e; cases e; exact Nat.lt_of_lt_of_le hb hB) (fun e => hA p hp (Option.some.inj e))).more hg.size, h.rs, fun x hx => ⟨(((h.us x hx).rd.more hB).keepA fun h0 p hp => hg.block p.block (Nat.lt_of_lt_of_le (ok_block (h.us x hx) h0 p hp) hB) (fun e => hD x hx p hp (Option.some.inj e))).more hg.size, (h.us x hx).le, (h.us x hx).mx⟩, h.mx⟩
theorem wp_allocRowK {P : Program} {w : World} {o : Oper} {a : Act} {K : Act → World → Prop} {Q : Exit → Act → World → Prop} (ty : TypeId) (ho : o.op = .alloc ty) (zs : List Value) (hz : (P.info? ty).map (fun i => (i.zero, i.size)) = some (some (.agg zs.toArray), zs.length))
    (h : ∀ w', IsRow w' w.heap.size ty zs → Below w.heap.size w w' → w'.heap.size = w.heap.size + 1 → K (a.put o.dst (.pointer (some ⟨w.heap.size, 0, none⟩))) w') : o.wp P a w K Q :=
  wp_allocRowC ty ho zs hz (h _ (IsRow.new w ty zs) ((Below.refl _ _).alloc (Nat.le_refl _) _) (by simp))
set_option maxRecDepth 100000 in
set_option maxHeartbeats 12800000 in
theorem lawMerges (cf : S.Str.Cfg) (A : Option Addr) (n c : Nat) (D : List S.RR) (hnc : n ≤ c) (A1 : Option Addr) (n1 c1 : Nat) (ops : List Chk.Op) (hl : ops.length = n1) (hnc1 : n1 ≤ c1) (hc1 : c1 ≤ 140737488355328) (hok : ∀ o ∈ ops, OpOk o)
    (code : Int) (lc : -9223372036854775808 ≤ code) (uc : code ≤ 9223372036854775807) (d : Int) (ld : -9223372036854775808 ≤ d) (ud : d ≤ 9223372036854775807) (w : World) (hrd : S.RowsIn w w.heap.size A n D (D.map S.RR.r)) (hr : Rd w w.heap.size 9 A1 n1 (ops.flatMap opL)) :
    Calls Tryz.prog 3 #[S.cfV cf, .slice A n c, .slice A1 n1 c1, .int .i64 code, .int .i64 d] w fun e w' => e = .returned (.bool true) ∧ Below w.heap.size w w' := by
  clear lc uc ld ud
  have HSN := Lib.hid sanity25_any
  obtain ⟨v, hv⟩ : ∃ v, S.Str.validB cf (D.map S.RR.r) = v := ⟨_, rfl⟩
  have HVA := Lib.hid (fun (W : World) (hW : Below w.heap.size w W) => S.rvalid_any cf (hrd.below hW) hW.size hnc)
  rw [hv] at HVA
  have HGR := Lib.hid (fun W => S.rgroups_any cf 1 W)
  have HAL := Lib.hid (fun (W : World) (B' n' c' : Nat) (A' : Option Addr) (D' : List S.RR) (rs' : List S.Str.Rw) (h : S.RowsAt W B' A' n' D' rs') hB (hc : n' ≤ c') hn hu (code : Int) h0 h8 wd => (ralc24 cf h hB hc hn hu code h0 h8 wd).mono fun e w' h => h.r)
  have HCV : Hid (S.cfV cf = .agg (S.cfL cf).toArray) := Lib.hid rfl
  rw [HCV.out] at HVA HGR HAL ⊢
  obtain ⟨cl, hcl⟩ : ∃ y, S.cfL cf = y := ⟨_, rfl⟩
  have HCL : Hid (cl.length = 6) := Lib.hid (by rw [← hcl]; rfl)
  rw [hcl] at HVA HGR HAL ⊢
  obtain ⟨gr, hgr⟩ : ∃ y, S.Str.grp cf 1 = y := ⟨_, rfl⟩
  rw [hgr] at HGR
  clear hcl HCV hgr
  by_cases hn : n1 ≤ 120
  · have HBU := Lib.hid (fun (W : World) (hW : Below w.heap.size w W) => build25_any A1 n1 c1 ops W hn ⟨(hr.below hW).more hW.size, hl, fun o ho => (hok o ho).2.2.2.2.2⟩)
    obtain ⟨q, hq⟩ : ∃ q, decide (n ≤ 64 ∧ Col.used (D.map S.RR.r) ≤ 200) = q := ⟨_, rfl⟩
    have HFW := Lib.hid (fun (W : World) (hW : Below w.heap.size w W) => few_any (hrd.below hW) hW.size hnc q hq)
    obtain ⟨l0, hll⟩ : ∃ l, Chk.run [] ops = l := ⟨_, rfl⟩
    rw [hll] at HBU
    have HRD := Lib.hid hrd
    have HQ := Lib.hid hq
    have HV := Lib.hid hv
    clear hr hok hl hn hrd hll hq hv
    cases q with
    | false =>
      go_enter Tryz.func3, Tryz.ntmps3
      go_wp2_with (first
        | (refine S.wpList_boxRow rfl _ (.tmp 0) rfl cl rfl rfl ?_; intro w1 rs1 b1 z1)
        | (go_at_call 4; refine (HBU.out _ b1).mono ?_; rintro e w2 ⟨a, r, rfl, hp2⟩; have hb2 := b1.trans (hp2.b.mono b1.size))
        | (go_at_call 5; refine (HFW.out _ hb2).mono ?_; rintro e w3 ⟨rfl, b3⟩; have hb3 := hb2.trans (b3.mono hb2.size))
        | (refine S.wpList_load_rg rfl _ (.tmp 5) rfl w.heap.size 0 rfl cl _ (fun j v hv => by rw [Nat.zero_add, ((rs1.below' hp2.b).below' b3).cell]; exact hv) Tryz.underlying23 rfl (by rw [HCL.out]; exact S.sizeCf) ?_)
        | (go_at_call 6; refine (HVA.out _ hb3).mono ?_; rintro e w4 ⟨rfl, b4⟩; have hb4 := hb3.trans (b4.mono hb3.size))
        | (go_at_call 7; refine (HSN.out _).mono ?_; rintro e w9 ⟨rfl, b9⟩))
      go_ret
      exact ⟨rfl, hb3.trans (b9.mono hb3.size)⟩
    | true =>
      obtain ⟨hn64, hu⟩ := of_decide_eq_true HQ.out
      cases v with
      | false =>
        go_enter Tryz.func3, Tryz.ntmps3
        go_wp2_with (first
          | (refine S.wpList_boxRow rfl _ (.tmp 0) rfl cl rfl rfl ?_; intro w1 rs1 b1 z1)
          | (go_at_call 4; refine (HBU.out _ b1).mono ?_; rintro e w2 ⟨a, r, rfl, hp2⟩; have hb2 := b1.trans (hp2.b.mono b1.size))
          | (go_at_call 5; refine (HFW.out _ hb2).mono ?_; rintro e w3 ⟨rfl, b3⟩; have hb3 := hb2.trans (b3.mono hb2.size))
          | (refine S.wpList_load_rg rfl _ (.tmp 5) rfl w.heap.size 0 rfl cl _ (fun j v hv => by rw [Nat.zero_add, ((rs1.below' hp2.b).below' b3).cell]; exact hv) Tryz.underlying23 rfl (by rw [HCL.out]; exact S.sizeCf) ?_)
          | (go_at_call 6; refine (HVA.out _ hb3).mono ?_; rintro e w4 ⟨rfl, b4⟩; have hb4 := hb3.trans (b4.mono hb3.size))
          | (go_at_call 7; refine (HSN.out _).mono ?_; rintro e w9 ⟨rfl, b9⟩))
        go_ret
        exact ⟨rfl, hb4.trans (b9.mono hb4.size)⟩
      | true =>
        by_cases hd1 : d < 1
        · skip
          go_enter Tryz.func3, Tryz.ntmps3
          go_wp2_with (first
            | (refine S.wpList_boxRow rfl _ (.tmp 0) rfl cl rfl rfl ?_; intro w1 rs1 b1 z1)
            | (go_at_call 4; refine (HBU.out _ b1).mono ?_; rintro e w2 ⟨a, r, rfl, hp2⟩; have hb2 := b1.trans (hp2.b.mono b1.size))
            | (go_at_call 5; refine (HFW.out _ hb2).mono ?_; rintro e w3 ⟨rfl, b3⟩; have hb3 := hb2.trans (b3.mono hb2.size))
            | (refine S.wpList_load_rg rfl _ (.tmp 5) rfl w.heap.size 0 rfl cl _ (fun j v hv => by rw [Nat.zero_add, ((rs1.below' hp2.b).below' b3).cell]; exact hv) Tryz.underlying23 rfl (by rw [HCL.out]; exact S.sizeCf) ?_)
            | (go_at_call 6; refine (HVA.out _ hb3).mono ?_; rintro e w4 ⟨rfl, b4⟩; have hb4 := hb3.trans (b4.mono hb3.size))
            | (go_at_call 7; refine (HSN.out _).mono ?_; rintro e w9 ⟨rfl, b9⟩))
          go_ret
          exact ⟨rfl, hb4.trans (b9.mono hb4.size)⟩
        by_cases hd2 : 32 < d
        · skip
          go_enter Tryz.func3, Tryz.ntmps3
          go_wp2_with (first
            | (refine S.wpList_boxRow rfl _ (.tmp 0) rfl cl rfl rfl ?_; intro w1 rs1 b1 z1)
            | (go_at_call 4; refine (HBU.out _ b1).mono ?_; rintro e w2 ⟨a, r, rfl, hp2⟩; have hb2 := b1.trans (hp2.b.mono b1.size))
            | (go_at_call 5; refine (HFW.out _ hb2).mono ?_; rintro e w3 ⟨rfl, b3⟩; have hb3 := hb2.trans (b3.mono hb2.size))
            | (refine S.wpList_load_rg rfl _ (.tmp 5) rfl w.heap.size 0 rfl cl _ (fun j v hv => by rw [Nat.zero_add, ((rs1.below' hp2.b).below' b3).cell]; exact hv) Tryz.underlying23 rfl (by rw [HCL.out]; exact S.sizeCf) ?_)
            | (go_at_call 6; refine (HVA.out _ hb3).mono ?_; rintro e w4 ⟨rfl, b4⟩; have hb4 := hb3.trans (b4.mono hb3.size))
            | (go_at_call 7; refine (HSN.out _).mono ?_; rintro e w9 ⟨rfl, b9⟩))
          go_ret
          exact ⟨rfl, hb4.trans (b9.mono hb4.size)⟩
        have HRA := Lib.hid (HRD.out.at_ (by omega) (fun r hr => Nat.le_trans (Col.used_mem hr) (by omega)))
        obtain ⟨rs, hrs⟩ : ∃ rs, D.map S.RR.r = rs := ⟨_, rfl⟩
        rw [hrs] at hu HRA HV
        have HLN := Lib.hid HRA.out.len.2
        have HUS := Lib.hid (And.intro hu hn64)
        obtain ⟨V, hV⟩ : ∃ V, Col.nextF (Col.lss code rs) l0 d = V := ⟨_, rfl⟩
        have HV2 := Lib.hid hV
        clear hu hV HRD hrs
        go_enter Tryz.func3, Tryz.ntmps3
        go_upto_region 4 with (first
          | (refine S.wpList_boxRow rfl _ (.tmp 0) rfl cl rfl rfl ?_; intro w1 rs1 b1 z1)
          | (go_at_call 4; refine (HBU.out _ b1).mono ?_; rintro e w2 ⟨a, r, rfl, hp2⟩; have hb2 := b1.trans (hp2.b.mono b1.size))
          | (go_at_call 5; refine (HFW.out _ hb2).mono ?_; rintro e w3 ⟨rfl, b3⟩; have hb3 := hb2.trans (b3.mono hb2.size))
          | (refine S.wpList_load_rg rfl _ (.tmp 5) rfl w.heap.size 0 rfl cl _ (fun j v hv => by rw [Nat.zero_add, ((rs1.below' hp2.b).below' b3).cell]; exact hv) Tryz.underlying23 rfl (by rw [HCL.out]; exact S.sizeCf) ?_)
          | (go_at_call 6; refine (HVA.out _ hb3).mono ?_; rintro e w4 ⟨rfl, b4⟩; have hb4 := hb3.trans (b4.mono hb3.size))
          | (go_at_call 7; refine (HSN.out _).mono ?_; rintro e w9 ⟨rfl, b9⟩))
        have HB4 := Lib.hid hb4
        have HPR := Lib.hid ((hp2.below b3).below b4)
        have HR5 := Lib.hid (((rs1.below' hp2.b).below' b3).below' b4)
        have HB1 := Lib.hid b1
        obtain ⟨y5, h5⟩ : ∃ y, w.heap.size = y := ⟨_, rfl⟩
        rw [h5] at HR5 ⊢
        have HY5 := Lib.hid h5
        have HNX := Lib.hid (HPR.out.left.next_ (HRA.out.below HB4.out) HB4.out.size hnc code (by have := Col.lss_len code rs; have := HUS.out; omega) d HV2.out)
        have hn1000 : n ≤ 1000 := by omega
        clear rs1 b1 z1 hb2 hb3 hb4 b3 b4 hp2 HBU HFW HVA h5 hn64
        cases V with
        | none =>
          unfold nextV st25 at HNX
          dsimp only at HNX
          go_wp2_with (first
            | (go_at_call 8; refine HNX.out.mono ?_; rintro e w5 ⟨rfl, b5⟩)
            | (have tk := rzA; refine wpList_allocRow rfl _ rfl _ infoS25 ?_; intro w62 rzB bB zB; clear tk; have rzA2 := rzA.below' bB)
            | (refine wpList_allocRow rfl _ rfl _ infoS25 ?_; intro w61 rzA bA zA)
            | (refine wpList_storeRow rfl _ (.tmp 14) (.tmp 67) rfl (l' := [.int .i64 0, .int .i64 0]) rzA2 rfl rfl sizeS25 rfl rfl ?_; intro w63 rz63 g63 z63; have rzB3 := rzB.grown g63 (fun e => by have := Option.some.inj e; omega))
            | (refine wpList_storeRow rfl _ (.tmp 15) (.tmp 68) rfl (l' := [.int .i64 0, .int .i64 0]) rzB3 rfl (by simp only [zA]; rfl) sizeS25 rfl rfl ?_; intro w64 rz64 g64 z64)
            | (go_at_call 7; refine (HSN.out _).mono ?_; rintro e w7 ⟨rfl, b7⟩))
          go_ret
          have hb64 : Below w5.heap.size w5 w64 := ((bA.trans (bB.mono bA.size)).grown g63 (bA.trans (bB.mono bA.size)).size (fun i hi => by have := Option.some.inj hi; omega)).grown g64 (by rw [z63]; exact (bA.trans (bB.mono bA.size)).size) (fun i hi => by have := Option.some.inj hi; omega)
          exact ⟨rfl, HB4.out.trans ((b5.trans ((hb64.trans (b7.mono hb64.size)).mono b5.size)).mono HB4.out.size)⟩
        | some p =>
          obtain ⟨⟨p0, p1⟩, ⟨q0, q1⟩⟩ := p
          unfold nextV st25 at HNX
          dsimp only at HNX
          go_upto_region 5 with (first
            | (go_at_call 8; refine HNX.out.mono ?_; rintro e w5 ⟨rfl, b5⟩)
            | (have tk := rzA; refine wpList_allocRow rfl _ rfl _ infoS25 ?_; intro w62 rzB bB zB; clear tk; have rzA2 := rzA.below' bB)
            | (refine wpList_allocRow rfl _ rfl _ infoS25 ?_; intro w61 rzA bA zA)
            | (refine wpList_storeRow rfl _ (.tmp 14) (.tmp 67) rfl (l' := [.int .i64 p0, .int .i64 p1]) rzA2 rfl rfl sizeS25 rfl rfl ?_; intro w63 rz63 g63 z63; have rzB3 := rzB.grown g63 (fun e => by have := Option.some.inj e; omega))
            | (refine wpList_storeRow rfl _ (.tmp 15) (.tmp 68) rfl (l' := [.int .i64 q0, .int .i64 q1]) rzB3 rfl (by simp only [zA]; rfl) sizeS25 rfl rfl ?_; intro w64 rz64 g64 z64))
          have hb64 : Below w5.heap.size w5 w64 := ((bA.trans (bB.mono bA.size)).grown g63 (bA.trans (bB.mono bA.size)).size (fun i hi => by have := Option.some.inj hi; omega)).grown g64 (by rw [z63]; exact (bA.trans (bB.mono bA.size)).size) (fun i hi => by have := Option.some.inj hi; omega)
          have hb54 := b5.trans (hb64.mono b5.size)
          have rzA4 := rz63.grown g64 (fun e => by have := Option.some.inj e; omega)
          obtain ⟨y14, h14⟩ : ∃ y, w5.heap.size = y := ⟨_, rfl⟩
          obtain ⟨y15, h15⟩ : ∃ y, y14 + 1 = y := ⟨_, rfl⟩
          rw [show w61.heap.size = y15 by omega] at rz64
          rw [h14] at rzA4
          rw [h14, h15]
          have HR14 := Lib.hid rzA4
          have HR15 := Lib.hid rz64
          have HB54 := Lib.hid hb54
          replace HR5 := Lib.hid (HR5.out.below' hb54)
          have hr5 : w64.rangeAt y5 0 cl := fun j v hv => by rw [Nat.zero_add, HR5.out.cell]; exact hv
          have HYS : Hid (w4.heap.size ≤ y14 ∧ w4.heap.size ≤ y15) := Lib.hid ⟨by rw [← h14]; exact b5.size, by have := b5.size; omega⟩
          clear rzA bA zA rzB bB zB rzA2 rz63 g63 z63 rzB3 rz64 g64 z64 hb64 hb54 b5 h14 h15 rzA4 HNX
          try simp only [Act.put, List.setIfInBounds_toArray, List.set_cons_zero, List.set_cons_succ]
          -- what Next has found
          have hf := Col.nextF_some HV2.out
          obtain ⟨fi, fj, hij, hfa, hfb, hfd1, hfd2, hfs⟩ := hf
          have hma := Col.nzl_mem hfa
          have hmb := Col.nzl_mem hfb
          have hia := Col.lss_in hma
          have hib := Col.lss_in hmb
          have hasc := Col.valid_asc HV.out hia.1
          have hnd : (Col.lss code rs).Nodup := by unfold Col.lss; rw [if_pos ⟨hia.1, hia.2.1⟩]; exact Col.strs_nodup hasc
          have hls : Col.lss code rs = S.Str.strs code rs 0 := by unfold Col.lss; rw [if_pos ⟨hia.1, hia.2.1⟩]
          have hne := Col.nodup_ne (Col.nzl_nodup (l := l0) hnd) hij hfa hfb
          rw [hls] at hma hmb
          obtain ⟨k, rfl⟩ : ∃ k : Nat, p0 = (k : Int) := ⟨p0.toNat, by have := hia.2.2.1; dsimp only at this; omega⟩
          have hkn : k < n := by have := hia.2.2.2; have h2 := HLN.out; dsimp only at this; omega
          have HF := Lib.hid (And.intro hma (And.intro hmb (And.intro hne (And.intro hfs hasc))))
          have hc0 := hia.1
          have hc8 := hia.2.1
          clear hfa hfb hfs hma hmb hia hib hasc hnd hls hne hij HV2 HV fi fj
          by_cases hg0 : gr = 0
          · have hgi : (gr == 0) = true := by simp [hg0]
            clear hg0
            go_wp2_with (first
              | (refine S.wpList_load_rg rfl _ (.tmp 5) rfl y5 0 rfl cl _ hr5 Tryz.underlying23 rfl (by rw [HCL.out]; exact S.sizeCf) ?_)
              | (go_at_call 9; refine (HGR.out _).mono ?_; rintro e w7 ⟨rfl, b7⟩)
              | (go_at_call 7; refine (HSN.out _).mono ?_; rintro e w8 ⟨rfl, b8⟩))
            go_ret
            have hbx := HB4.out.trans (HB54.out.mono HB4.out.size)
            exact ⟨rfl, hbx.trans ((b7.trans (b8.mono b7.size)).mono hbx.size)⟩
          have hgi : (gr == 0) = false := by simp [hg0]
          go_upto_region 7 with (first
            | (refine S.wpList_load_rg rfl _ (.tmp 5) rfl y5 0 rfl cl _ hr5 Tryz.underlying23 rfl (by rw [HCL.out]; exact S.sizeCf) ?_)
            | (go_at_call 9; refine (HGR.out _).mono ?_; rintro e w7 ⟨rfl, b7⟩))
          clear hr5 hg0 hgi
          obtain ⟨b, off, x, rfl, hbb, hxD, hxl, -, -, -, hcw, -⟩ := HRA.out.at hkn
          obtain ⟨xw, hxw⟩ : ∃ y, x.r.width = y := ⟨_, rfl⟩
          rw [hxw] at hcw
          have HBW7 := Lib.hid (HB4.out.trans ((HB54.out.trans (b7.mono HB54.out.size)).mono HB4.out.size))
          have HC7 : Hid (b < w7.heap.size ∧ w7.cell? ⟨b, off + k * 3 + 1, none⟩ = some (.int .i64 xw)) := Lib.hid ⟨Nat.lt_of_lt_of_le hbb HBW7.out.size, (HBW7.out.cell (p := ⟨b, off + k * 3 + 1, none⟩) hbb).trans hcw⟩
          replace HR5 := Lib.hid (HR5.out.below' b7)
          replace HR14 := Lib.hid (HR14.out.below' b7)
          replace HR15 := Lib.hid (HR15.out.below' b7)
          have HTL := Lib.hid HPR.out.left
          replace HPR := Lib.hid ((HPR.out.below HB54.out).below b7)
          have HA7 := Lib.hid (fun (W : World) (hW : Below w7.heap.size w7 W) => HAL.out W w.heap.size n c _ D rs (HRA.out.below (HBW7.out.trans (hW.mono HBW7.out.size))) (HBW7.out.trans (hW.mono HBW7.out.size)).size hnc hn1000 (fun r hr => by have := Col.used_mem hr; have := HUS.out; omega) code hc0 hc8 xw)
          have HXW := Lib.hid (And.intro hxl hxw)
          have HX7 := Lib.hid (HB54.out.trans (b7.mono HB54.out.size))
          clear hbb hxD hxl hxw hcw b7 HAL HB54
          try simp only [Act.put, List.setIfInBounds_toArray, List.set_cons_zero, List.set_cons_succ]
          go_cut [17, 18, 19] (fun u17 u18 u19 wx => ∃ (A8 : Option Addr) (N8 c8 y18 : Nat) (i8 g8 er : Int), u17 = .slice A8 N8 c8 ∧ u18 = .pointer (some ⟨y18, 0, none⟩) ∧ u19 = .int .i64 er ∧ Hid (w7.heap.size ≤ y18) ∧ Hid (Below w7.heap.size w7 wx) ∧ Hid (IsRow wx y18 35 [.int .i64 i8, .int .i64 g8]) ∧ Hid (er ≠ 0 ∨ er = 0 ∧ N8 = n ∧ ∃ (D' : List S.RR) (rs' : List S.Str.Rw) (k : Nat), i8 = (k : Int) ∧ S.RowsAt wx wx.heap.size A8 n D' rs' ∧ n ≤ c8 ∧ RalcOk rs code xw rs' k g8))
          case first =>
            have hv0 : Below w7.heap.size w7 w7.drew := (Below.refl _ _).drew
            refine wp_region_held_drew (S := fun W => Below w7.heap.size w7 W) (by kernel_rfl) (hv0) (fun hHeld => ?_)
            refine wpAnyH_take (i := 0) (oi := { dst := some 79, op := Op.load 23 (Operand.tmp 5), type := 23, pos := "law.go:166", after := #[], guard := none }) (v := (.agg cl.toArray)) rfl (by kernel_rfl) (by kernel_rfl) (by kernel_rfl) (fun _ _ _ h => h) (yieldsIf_load_mid (by rfl) 23 (.tmp 5) rfl y5 0 rfl cl _ (fun W hW j v hv => by rw [Nat.zero_add]; exact (hW.cell (p := ⟨y5, j, none⟩) HR5.out.lt).trans ((HR5.out.cell j).trans hv)) Tryz.underlying23 rfl (by rw [HCL.out]; exact S.sizeCf)) (by assumption) ?_
            try simp only [Act.put, List.setIfInBounds_toArray, List.set_cons_zero, List.set_cons_succ]
            refine wpAnyH_take (i := 1) (oi := { dst := some 80, op := Op.move (Operand.tmp 1), type := 25, pos := "law.go:166", after := #[], guard := none }) (v := ?v1_2) rfl (by kernel_rfl) (by kernel_rfl) (by kernel_rfl) (fun _ _ _ h => h) (Or.inl ⟨by rfl, ?h1_2⟩) (by assumption) ?r1_2
            case h1_2 =>
              intro W hSW
              try dsimp only at hSW
              go_simp
              try with_reducible rfl
            try simp only [Act.put, List.setIfInBounds_toArray, List.set_cons_zero, List.set_cons_succ]
            refine wpAnyH_take (i := 2) (oi := { dst := some 81, op := Op.move (Operand.tmp 3), type := 3, pos := "law.go:166", after := #[], guard := none }) (v := ?v2_3) rfl (by kernel_rfl) (by kernel_rfl) (by kernel_rfl) (fun _ _ _ h => h) (Or.inl ⟨by rfl, ?h2_3⟩) (by assumption) ?r2_3
            case h2_3 =>
              intro W hSW
              try dsimp only at hSW
              go_simp
              try with_reducible rfl
            try simp only [Act.put, List.setIfInBounds_toArray, List.set_cons_zero, List.set_cons_succ]
            refine wpAnyH_take (i := 3) (oi := { dst := some 82, op := Op.move (Operand.tmp 1), type := 25, pos := "law.go:166", after := #[], guard := none }) (v := ?v3_4) rfl (by kernel_rfl) (by kernel_rfl) (by kernel_rfl) (fun _ _ _ h => h) (Or.inl ⟨by rfl, ?h3_4⟩) (by assumption) ?r3_4
            case h3_4 =>
              intro W hSW
              try dsimp only at hSW
              go_simp
              try with_reducible rfl
            try simp only [Act.put, List.setIfInBounds_toArray, List.set_cons_zero, List.set_cons_succ]
            refine wpAnyH_take (i := 4) (oi := { dst := some 83, op := Op.fieldAddr 35 (Operand.tmp 14) 0, type := 0, pos := "law.go:166", after := #[], guard := none }) (v := ?v4_5) rfl (by kernel_rfl) (by kernel_rfl) (by kernel_rfl) (fun _ _ _ h => h) (Or.inl ⟨by rfl, ?h4_5⟩) (by assumption) ?r4_5
            case h4_5 =>
              intro W hSW
              try dsimp only at hSW
              go_simp
              try with_reducible rfl
            try simp only [Act.put, List.setIfInBounds_toArray, List.set_cons_zero, List.set_cons_succ]
            refine wpAnyH_take (i := 5) (oi := { dst := some 84, op := Op.load 3 (Operand.tmp 83), type := 3, pos := "law.go:166", after := #[{ on := 4, ground := Ground.data }], guard := none }) (v := ?v5_6) rfl (by kernel_rfl) (by kernel_rfl) (by kernel_rfl) (fun _ _ _ h => h) (Or.inl ⟨by rfl, ?h5_6⟩) (by assumption) ?r5_6
            case h5_6 =>
              intro W hSW
              try dsimp only at hSW
              have c0 := (hSW.cell (p := ⟨y14, 0, none⟩) HR14.out.lt).trans (HR14.out.cell 0)
              dsimp only [List.getElem?_cons_zero] at c0
              go_simp
              try with_reducible rfl
            try simp only [Act.put, List.setIfInBounds_toArray, List.set_cons_zero, List.set_cons_succ]
            refine wpAnyH_take (i := 6) (oi := { dst := some 85, op := Op.move (Operand.tmp 1), type := 25, pos := "law.go:166", after := #[], guard := none }) (v := ?v6_7) rfl (by kernel_rfl) (by kernel_rfl) (by kernel_rfl) (fun _ _ _ h => h) (Or.inl ⟨by rfl, ?h6_7⟩) (by assumption) ?r6_7
            case h6_7 =>
              intro W hSW
              try dsimp only at hSW
              go_simp
              try with_reducible rfl
            try simp only [Act.put, List.setIfInBounds_toArray, List.set_cons_zero, List.set_cons_succ]
            refine wpAnyH_take (i := 7) (oi := { dst := some 86, op := Op.call { callee := Callee.builtin Builtin.len, args := #[Operand.tmp 85], argTypes := #[25] }, type := 3, pos := "law.go:166", after := #[{ on := 6, ground := Ground.data }], guard := none }) (v := ?v7_8) rfl (by kernel_rfl) (by kernel_rfl) (by kernel_rfl) (fun _ _ _ h => h) (Or.inl ⟨by rfl, ?h7_8⟩) (by assumption) ?r7_8
            case h7_8 =>
              intro W hSW
              try dsimp only at hSW
              go_simp
              try with_reducible rfl
            try simp only [Act.put, List.setIfInBounds_toArray, List.set_cons_zero, List.set_cons_succ]
            refine wpAnyH_take (i := 8) (oi := { dst := some 87, op := Op.binOp BinOp.sub 3 (Operand.tmp 86) (Operand.const (Value.int IntKind.i64 1)) 3, type := 3, pos := "law.go:166", after := #[{ on := 7, ground := Ground.data }], guard := none }) (v := ?v8_9) rfl (by kernel_rfl) (by kernel_rfl) (by kernel_rfl) (fun _ _ _ h => h) (Or.inl ⟨by rfl, ?h8_9⟩) (by assumption) ?r8_9
            case h8_9 =>
              intro W hSW
              try dsimp only at hSW
              have w1 : IntKind.i64.wrap ((n : Int) - 1) = (n : Int) - 1 := IntWalk.i64_in _ (by omega)
              go_simp
              try with_reducible rfl
            try simp only [Act.put, List.setIfInBounds_toArray, List.set_cons_zero, List.set_cons_succ]
            refine wpAnyH_take (i := 9) (oi := { dst := some 88, op := Op.call { callee := Callee.builtin Builtin.min, args := #[Operand.tmp 84, Operand.tmp 87], argTypes := #[3, 3] }, type := 3, pos := "law.go:166", after := #[{ on := 5, ground := Ground.data }, { on := 8, ground := Ground.data }], guard := none }) (v := ?v9_10) rfl (by kernel_rfl) (by kernel_rfl) (by kernel_rfl) (fun _ _ _ h => h) (Or.inl ⟨by rfl, ?h9_10⟩) (by assumption) ?r9_10
            case h9_10 =>
              intro W hSW
              try dsimp only at hSW
              have m1 : ¬ ((n : Int) - 1 < (k : Int)) := by omega
              have m2 : min (k : Int) ((n : Int) - 1) = (k : Int) := by omega
              go_simp
              try with_reducible rfl
            try simp only [Act.put, List.setIfInBounds_toArray, List.set_cons_zero, List.set_cons_succ]
            refine wpAnyH_take (i := 10) (oi := { dst := some 89, op := Op.call { callee := Callee.builtin Builtin.max, args := #[Operand.const (Value.int IntKind.i64 0), Operand.tmp 88], argTypes := #[3, 3] }, type := 3, pos := "law.go:166", after := #[{ on := 9, ground := Ground.data }], guard := none }) (v := ?v10_11) rfl (by kernel_rfl) (by kernel_rfl) (by kernel_rfl) (fun _ _ _ h => h) (Or.inl ⟨by rfl, ?h10_11⟩) (by assumption) ?r10_11
            case h10_11 =>
              intro W hSW
              try dsimp only at hSW
              have m1 : (if (k : Int) > 0 then (k : Int) else 0) = (k : Int) := by split <;> omega
              have m2 : max (0 : Int) (k : Int) = (k : Int) := by omega
              go_simp
              try with_reducible rfl
            try simp only [Act.put, List.setIfInBounds_toArray, List.set_cons_zero, List.set_cons_succ]
            refine wpAnyH_take (i := 11) (oi := { dst := some 90, op := Op.indexAddr 25 (Operand.tmp 82) (Operand.tmp 89), type := 0, pos := "law.go:166", after := #[{ on := 3, ground := Ground.data }, { on := 10, ground := Ground.data }], guard := none }) (v := ?v11_12) rfl (by kernel_rfl) (by kernel_rfl) (by kernel_rfl) (fun _ _ _ h => h) (Or.inl ⟨by rfl, ?h11_12⟩) (by assumption) ?r11_12
            case h11_12 =>
              intro W hSW
              try dsimp only at hSW
              have e1 : (0 : Int) ≤ (k : Int) := by omega
              have e2 : (k : Int) < (n : Int) := by omega
              go_simp
              try with_reducible rfl
            try simp only [Act.put, List.setIfInBounds_toArray, List.set_cons_zero, List.set_cons_succ]
            refine wpAnyH_take (i := 12) (oi := { dst := some 91, op := Op.fieldAddr 44 (Operand.tmp 90) 1, type := 0, pos := "law.go:166", after := #[{ on := 11, ground := Ground.data }], guard := none }) (v := ?v12_13) rfl (by kernel_rfl) (by kernel_rfl) (by kernel_rfl) (fun _ _ _ h => h) (Or.inl ⟨by rfl, ?h12_13⟩) (by assumption) ?r12_13
            case h12_13 =>
              intro W hSW
              try dsimp only at hSW
              go_simp
              try with_reducible rfl
            try simp only [Act.put, List.setIfInBounds_toArray, List.set_cons_zero, List.set_cons_succ]
            refine wpAnyH_take (i := 13) (oi := { dst := some 92, op := Op.load 3 (Operand.tmp 91), type := 3, pos := "law.go:166", after := #[{ on := 12, ground := Ground.data }], guard := none }) (v := ?v13_14) rfl (by kernel_rfl) (by kernel_rfl) (by kernel_rfl) (fun _ _ _ h => h) (Or.inl ⟨by rfl, ?h13_14⟩) (by assumption) ?r13_14
            case h13_14 =>
              intro W hSW
              try dsimp only at hSW
              have c1 := (hSW.cell (p := ⟨b, off + k * 3 + 1, none⟩) HC7.out.1).trans HC7.out.2
              go_simp
              try with_reducible rfl
            try simp only [Act.put, List.setIfInBounds_toArray, List.set_cons_zero, List.set_cons_succ]
            refine wpAnyH_take (i := 14) (oi := { dst := some 93, op := Op.build 46 #[], type := 46, pos := "law.go:166", after := #[], guard := none }) (v := ?v14_15) rfl (by kernel_rfl) (by kernel_rfl) (by kernel_rfl) (fun _ _ _ h => h) (Or.inl ⟨by rfl, ?h14_15⟩) (by assumption) ?r14_15
            case h14_15 =>
              intro W hSW
              try dsimp only at hSW
              go_simp
              try with_reducible rfl
            try simp only [Act.put, List.setIfInBounds_toArray, List.set_cons_zero, List.set_cons_succ]
            refine wpAnyH_ready (rs := [15, 20]) (by kernel_rfl) (by simp) ?_
            refine AllReadyH.cons (o := { dst := some 94, op := Op.call { callee := Callee.value (Operand.func 10), args := #[Operand.tmp 79, Operand.tmp 80, Operand.tmp 81, Operand.tmp 92, Operand.tmp 93], argTypes := #[23, 25, 3, 3, 46] }, type := 40, pos := "law.go:166", after := #[{ on := 0, ground := Ground.data }, { on := 1, ground := Ground.data }, { on := 2, ground := Ground.data }, { on := 13, ground := Ground.data }, { on := 14, ground := Ground.data }], guard := none }) rfl (fun K hK => ?_) ?_
            · skip
              go_simp
              refine (HA7.out _ hv0).mono ?_
              rintro e w20 ⟨A8, N8, c8, i8, g8, er8, rfl, b8, hr8⟩
              have hv20 : Below w7.heap.size w7 w20 := hv0.trans (b8.mono hv0.size)
              have HV8 := Lib.hid hv20
              have HB8 := Lib.hid b8
              have HR8 := Lib.hid hr8
              clear b8 hr8
              refine hK.out _ _ (hv20) (fun hHeld => ?_)
              clear hK K
              try simp only [Act.put, List.setIfInBounds_toArray, List.set_cons_zero, List.set_cons_succ]
              refine wpAnyH_take (i := 16) (oi := { dst := some 78, op := Op.move (Operand.tmp 94), type := 40, pos := "law.go:166", after := #[{ on := 15, ground := Ground.data }], guard := none }) (v := ?v16_16) rfl (by kernel_rfl) (by kernel_rfl) (by kernel_rfl) (fun _ _ _ h => h) (Or.inl ⟨by rfl, ?h16_16⟩) (by assumption) ?r16_16
              case h16_16 =>
                intro W hSW
                try dsimp only at hSW
                go_simp
                try with_reducible rfl
              try simp only [Act.put, List.setIfInBounds_toArray, List.set_cons_zero, List.set_cons_succ]
              refine wpAnyH_take (i := 17) (oi := { dst := some 95, op := Op.extract (Operand.tmp 78) 0, type := 25, pos := "law.go:166", after := #[{ on := 16, ground := Ground.data }], guard := none }) (v := ?v17_17) rfl (by kernel_rfl) (by kernel_rfl) (by kernel_rfl) (fun _ _ _ h => h) (Or.inl ⟨by rfl, ?h17_17⟩) (by assumption) ?r17_17
              case h17_17 =>
                intro W hSW
                try dsimp only at hSW
                go_simp
                try with_reducible rfl
              try simp only [Act.put, List.setIfInBounds_toArray, List.set_cons_zero, List.set_cons_succ]
              refine wpAnyH_take (i := 18) (oi := { dst := some 96, op := Op.extract (Operand.tmp 78) 1, type := 35, pos := "law.go:166", after := #[{ on := 16, ground := Ground.data }, { on := 21, ground := Ground.gcOnly Departure.lateStores }], guard := none }) (v := ?v18_18) rfl (by kernel_rfl) (by kernel_rfl) (by kernel_rfl) (fun _ _ _ h => h) (Or.inl ⟨by rfl, ?h18_18⟩) (by assumption) ?r18_18
              case h18_18 =>
                intro W hSW
                try dsimp only at hSW
                go_simp
                try with_reducible rfl
              try simp only [Act.put, List.setIfInBounds_toArray, List.set_cons_zero, List.set_cons_succ]
              refine wpAnyH_take (i := 19) (oi := { dst := some 97, op := Op.extract (Operand.tmp 78) 2, type := 39, pos := "law.go:166", after := #[{ on := 16, ground := Ground.data }, { on := 22, ground := Ground.gcOnly Departure.lateStores }], guard := none }) (v := ?v19_19) rfl (by kernel_rfl) (by kernel_rfl) (by kernel_rfl) (fun _ _ _ h => h) (Or.inl ⟨by rfl, ?h19_19⟩) (by assumption) ?r19_19
              case h19_19 =>
                intro W hSW
                try dsimp only at hSW
                go_simp
                try with_reducible rfl
              try simp only [Act.put, List.setIfInBounds_toArray, List.set_cons_zero, List.set_cons_succ]
              refine wpAnyH_ready (rs := [20]) (by kernel_rfl) (by simp) ?_
              refine AllReadyH.cons (o := { dst := some 18, op := Op.alloc 35, type := 0, pos := "law.go:166", after := #[], guard := none }) rfl (fun K hK => ?_) AllReadyH.nil
              rw [if_pos (by rfl)]
              refine wp_allocRowK _ rfl _ infoS25 ?_
              intro w21 rz18 b18 z18
              have hv21 : Below w7.heap.size w7 w21 := hv20.trans (b18.mono hv20.size)
              obtain ⟨y18, hy18⟩ : ∃ y, w20.heap.size = y := ⟨_, rfl⟩
              have hy7 : w7.heap.size ≤ y18 := by rw [← hy18]; exact (hv20).size
              rw [hy18] at rz18 ⊢
              have HY18 := Lib.hid (And.intro hy18 (And.intro b18 hy7))
              have HZ18 := Lib.hid rz18
              clear rz18 b18 z18 hy18 hy7
              refine hK.out _ _ (hv21) (fun hHeld => ?_)
              clear hK K
              try simp only [Act.put, List.setIfInBounds_toArray, List.set_cons_zero, List.set_cons_succ]
              refine wpAnyH_take (i := 21) (oi := { dst := some 17, op := Op.assign (Operand.tmp 95), type := 25, pos := "law.go:166", after := #[{ on := 17, ground := Ground.data }, { on := 15, ground := Ground.chain }, { on := 0, ground := Ground.phase }, { on := 1, ground := Ground.phase }, { on := 2, ground := Ground.phase }, { on := 3, ground := Ground.phase }, { on := 4, ground := Ground.phase }, { on := 5, ground := Ground.phase }, { on := 6, ground := Ground.phase }, { on := 7, ground := Ground.phase }, { on := 8, ground := Ground.phase }, { on := 9, ground := Ground.phase }, { on := 10, ground := Ground.phase }, { on := 11, ground := Ground.phase }, { on := 12, ground := Ground.phase }, { on := 13, ground := Ground.phase }, { on := 14, ground := Ground.phase }, { on := 15, ground := Ground.phase }, { on := 16, ground := Ground.phase }, { on := 17, ground := Ground.phase }, { on := 18, ground := Ground.textOnly Departure.lateStores }, { on := 19, ground := Ground.textOnly Departure.lateStores }, { on := 20, ground := Ground.phase }], guard := none }) (v := ?v21_20) rfl (by kernel_rfl) (by kernel_rfl) (by kernel_rfl) (fun _ _ _ h => h) (Or.inl ⟨by rfl, ?h21_20⟩) (by assumption) ?r21_20
              case h21_20 =>
                intro W hSW
                try dsimp only at hSW
                go_simp
                try with_reducible rfl
              try simp only [Act.put, List.setIfInBounds_toArray, List.set_cons_zero, List.set_cons_succ]
              refine wpAnyH_ready (rs := [22]) (by kernel_rfl) (by simp) ?_
              refine AllReadyH.cons (o := { dst := none, op := Op.store 35 (Operand.tmp 18) (Operand.tmp 96), type := 0, pos := "law.go:166", after := #[{ on := 20, ground := Ground.data }, { on := 18, ground := Ground.data }, { on := 21, ground := Ground.chain }, { on := 0, ground := Ground.phase }, { on := 1, ground := Ground.phase }, { on := 2, ground := Ground.phase }, { on := 3, ground := Ground.phase }, { on := 4, ground := Ground.phase }, { on := 5, ground := Ground.phase }, { on := 6, ground := Ground.phase }, { on := 7, ground := Ground.phase }, { on := 8, ground := Ground.phase }, { on := 9, ground := Ground.phase }, { on := 10, ground := Ground.phase }, { on := 11, ground := Ground.phase }, { on := 12, ground := Ground.phase }, { on := 13, ground := Ground.phase }, { on := 14, ground := Ground.phase }, { on := 15, ground := Ground.phase }, { on := 16, ground := Ground.phase }, { on := 17, ground := Ground.phase }, { on := 18, ground := Ground.phase }, { on := 19, ground := Ground.textOnly Departure.lateStores }, { on := 20, ground := Ground.phase }, { on := 21, ground := Ground.phase }], guard := none }) rfl (fun K hK => ?_) AllReadyH.nil
              rw [if_pos (by rfl)]
              have rzs : IsRow w21 y18 35 zS25 := by first | exact HZ18.out | exact HZ18.out.below' HB8.out
              refine wp_storeRow _ (.tmp 18) (.tmp 96) rfl (l' := [.int .i64 i8, .int .i64 g8]) rzs rfl rfl sizeS25 rfl rfl ?_
              intro w22 rz22 g22 z22
              have hv22 : Below w7.heap.size w7 w22 := (hv21).grown g22 (hv21).size (fun i hi => by have := HY18.out.2.2; have := Option.some.inj hi; omega)
              have HFR := Lib.hid rz22
              have HFG := Lib.hid g22
              clear rzs rz22 g22 z22
              refine hK.out _ _ (hv22) (fun hHeld => ?_)
              clear hK K
              try simp only [Act.put, List.setIfInBounds_toArray, List.set_cons_zero, List.set_cons_succ]
              refine wpAnyH_take (i := 23) (oi := { dst := some 19, op := Op.assign (Operand.tmp 97), type := 39, pos := "law.go:166", after := #[{ on := 19, ground := Ground.data }, { on := 22, ground := Ground.chain }, { on := 0, ground := Ground.phase }, { on := 1, ground := Ground.phase }, { on := 2, ground := Ground.phase }, { on := 3, ground := Ground.phase }, { on := 4, ground := Ground.phase }, { on := 5, ground := Ground.phase }, { on := 6, ground := Ground.phase }, { on := 7, ground := Ground.phase }, { on := 8, ground := Ground.phase }, { on := 9, ground := Ground.phase }, { on := 10, ground := Ground.phase }, { on := 11, ground := Ground.phase }, { on := 12, ground := Ground.phase }, { on := 13, ground := Ground.phase }, { on := 14, ground := Ground.phase }, { on := 15, ground := Ground.phase }, { on := 16, ground := Ground.phase }, { on := 17, ground := Ground.phase }, { on := 18, ground := Ground.phase }, { on := 19, ground := Ground.phase }, { on := 20, ground := Ground.phase }, { on := 21, ground := Ground.phase }, { on := 22, ground := Ground.phase }], guard := none }) (v := ?v23_21) rfl (by kernel_rfl) (by kernel_rfl) (by kernel_rfl) (fun _ _ _ h => h) (Or.inl ⟨by rfl, ?h23_21⟩) (by assumption) ?r23_21
              case h23_21 =>
                intro W hSW
                try dsimp only at hSW
                go_simp
                try with_reducible rfl
              try simp only [Act.put, List.setIfInBounds_toArray, List.set_cons_zero, List.set_cons_succ]
              refine wpAnyH_done (by kernel_rfl) ?_ _
              have HFV := Lib.hid hv22
              go_wp2_with fail
              go_meet
              refine ⟨A8, N8, c8, y18, i8, g8, er8, rfl, rfl, rfl, Lib.hid HY18.out.2.2, HFV, HFR, Lib.hid ?_⟩
              rcases HR8.out with h | ⟨h1, h2, D', rs', kk, h3, h4, h5, h6, h7, h8⟩
              · exact .inl h
              refine .inr ⟨h1, h2, D', rs', kk, h3, ?_, h7, h8⟩
              first
                | exact h4.but (Nat.le_refl _) HFG.out (fun p hp e => by have := h5 p hp; have := HY18.out.2.1.size; have := HZ18.out.lt; omega) (fun x hx p hp e => by have := h6 x hx p hp; have := HZ18.out.lt; omega)
                | (have hb := (HY18.out.2.1).grown HFG.out HY18.out.2.1.size (fun i hi => by have := Option.some.inj hi; have := HY18.out.1; omega); have h9 := h4.below hb; exact ⟨h9.rd.more hb.size, h9.rs, fun x hx => (h9.us x hx).more hb.size, h9.mx⟩)
            · skip
              refine AllReadyH.cons (o := { dst := some 18, op := Op.alloc 35, type := 0, pos := "law.go:166", after := #[], guard := none }) rfl (fun K hK => ?_) AllReadyH.nil
              rw [if_pos (by rfl)]
              refine wp_allocRowK _ rfl _ infoS25 ?_
              intro w20 rz18 b18 z18
              have hv20 : Below w7.heap.size w7 w20 := hv0.trans (b18.mono hv0.size)
              obtain ⟨y18, hy18⟩ : ∃ y, w7.drew.heap.size = y := ⟨_, rfl⟩
              have hy7 : w7.heap.size ≤ y18 := by rw [← hy18]; exact (hv0).size
              rw [hy18] at rz18 ⊢
              have HY18 := Lib.hid (And.intro hy18 (And.intro b18 hy7))
              have HZ18 := Lib.hid rz18
              clear rz18 b18 z18 hy18 hy7
              refine hK.out _ _ (hv20) (fun hHeld => ?_)
              clear hK K
              try simp only [Act.put, List.setIfInBounds_toArray, List.set_cons_zero, List.set_cons_succ]
              refine wpAnyH_ready (rs := [15]) (by kernel_rfl) (by simp) ?_
              refine AllReadyH.cons (o := { dst := some 94, op := Op.call { callee := Callee.value (Operand.func 10), args := #[Operand.tmp 79, Operand.tmp 80, Operand.tmp 81, Operand.tmp 92, Operand.tmp 93], argTypes := #[23, 25, 3, 3, 46] }, type := 40, pos := "law.go:166", after := #[{ on := 0, ground := Ground.data }, { on := 1, ground := Ground.data }, { on := 2, ground := Ground.data }, { on := 13, ground := Ground.data }, { on := 14, ground := Ground.data }], guard := none }) rfl (fun K hK => ?_) AllReadyH.nil
              go_simp
              refine (HA7.out _ hv20).mono ?_
              rintro e w21 ⟨A8, N8, c8, i8, g8, er8, rfl, b8, hr8⟩
              have hv21 : Below w7.heap.size w7 w21 := hv20.trans (b8.mono hv20.size)
              have HV8 := Lib.hid hv21
              have HB8 := Lib.hid b8
              have HR8 := Lib.hid hr8
              clear b8 hr8
              refine hK.out _ _ (hv21) (fun hHeld => ?_)
              clear hK K
              try simp only [Act.put, List.setIfInBounds_toArray, List.set_cons_zero, List.set_cons_succ]
              refine wpAnyH_take (i := 16) (oi := { dst := some 78, op := Op.move (Operand.tmp 94), type := 40, pos := "law.go:166", after := #[{ on := 15, ground := Ground.data }], guard := none }) (v := ?v16_22) rfl (by kernel_rfl) (by kernel_rfl) (by kernel_rfl) (fun _ _ _ h => h) (Or.inl ⟨by rfl, ?h16_22⟩) (by assumption) ?r16_22
              case h16_22 =>
                intro W hSW
                try dsimp only at hSW
                go_simp
                try with_reducible rfl
              try simp only [Act.put, List.setIfInBounds_toArray, List.set_cons_zero, List.set_cons_succ]
              refine wpAnyH_take (i := 17) (oi := { dst := some 95, op := Op.extract (Operand.tmp 78) 0, type := 25, pos := "law.go:166", after := #[{ on := 16, ground := Ground.data }], guard := none }) (v := ?v17_23) rfl (by kernel_rfl) (by kernel_rfl) (by kernel_rfl) (fun _ _ _ h => h) (Or.inl ⟨by rfl, ?h17_23⟩) (by assumption) ?r17_23
              case h17_23 =>
                intro W hSW
                try dsimp only at hSW
                go_simp
                try with_reducible rfl
              try simp only [Act.put, List.setIfInBounds_toArray, List.set_cons_zero, List.set_cons_succ]
              refine wpAnyH_take (i := 18) (oi := { dst := some 96, op := Op.extract (Operand.tmp 78) 1, type := 35, pos := "law.go:166", after := #[{ on := 16, ground := Ground.data }, { on := 21, ground := Ground.gcOnly Departure.lateStores }], guard := none }) (v := ?v18_24) rfl (by kernel_rfl) (by kernel_rfl) (by kernel_rfl) (fun _ _ _ h => h) (Or.inl ⟨by rfl, ?h18_24⟩) (by assumption) ?r18_24
              case h18_24 =>
                intro W hSW
                try dsimp only at hSW
                go_simp
                try with_reducible rfl
              try simp only [Act.put, List.setIfInBounds_toArray, List.set_cons_zero, List.set_cons_succ]
              refine wpAnyH_take (i := 19) (oi := { dst := some 97, op := Op.extract (Operand.tmp 78) 2, type := 39, pos := "law.go:166", after := #[{ on := 16, ground := Ground.data }, { on := 22, ground := Ground.gcOnly Departure.lateStores }], guard := none }) (v := ?v19_25) rfl (by kernel_rfl) (by kernel_rfl) (by kernel_rfl) (fun _ _ _ h => h) (Or.inl ⟨by rfl, ?h19_25⟩) (by assumption) ?r19_25
              case h19_25 =>
                intro W hSW
                try dsimp only at hSW
                go_simp
                try with_reducible rfl
              try simp only [Act.put, List.setIfInBounds_toArray, List.set_cons_zero, List.set_cons_succ]
              refine wpAnyH_take (i := 21) (oi := { dst := some 17, op := Op.assign (Operand.tmp 95), type := 25, pos := "law.go:166", after := #[{ on := 17, ground := Ground.data }, { on := 15, ground := Ground.chain }, { on := 0, ground := Ground.phase }, { on := 1, ground := Ground.phase }, { on := 2, ground := Ground.phase }, { on := 3, ground := Ground.phase }, { on := 4, ground := Ground.phase }, { on := 5, ground := Ground.phase }, { on := 6, ground := Ground.phase }, { on := 7, ground := Ground.phase }, { on := 8, ground := Ground.phase }, { on := 9, ground := Ground.phase }, { on := 10, ground := Ground.phase }, { on := 11, ground := Ground.phase }, { on := 12, ground := Ground.phase }, { on := 13, ground := Ground.phase }, { on := 14, ground := Ground.phase }, { on := 15, ground := Ground.phase }, { on := 16, ground := Ground.phase }, { on := 17, ground := Ground.phase }, { on := 18, ground := Ground.textOnly Departure.lateStores }, { on := 19, ground := Ground.textOnly Departure.lateStores }, { on := 20, ground := Ground.phase }], guard := none }) (v := ?v21_26) rfl (by kernel_rfl) (by kernel_rfl) (by kernel_rfl) (fun _ _ _ h => h) (Or.inl ⟨by rfl, ?h21_26⟩) (by assumption) ?r21_26
              case h21_26 =>
                intro W hSW
                try dsimp only at hSW
                go_simp
                try with_reducible rfl
              try simp only [Act.put, List.setIfInBounds_toArray, List.set_cons_zero, List.set_cons_succ]
              refine wpAnyH_ready (rs := [22]) (by kernel_rfl) (by simp) ?_
              refine AllReadyH.cons (o := { dst := none, op := Op.store 35 (Operand.tmp 18) (Operand.tmp 96), type := 0, pos := "law.go:166", after := #[{ on := 20, ground := Ground.data }, { on := 18, ground := Ground.data }, { on := 21, ground := Ground.chain }, { on := 0, ground := Ground.phase }, { on := 1, ground := Ground.phase }, { on := 2, ground := Ground.phase }, { on := 3, ground := Ground.phase }, { on := 4, ground := Ground.phase }, { on := 5, ground := Ground.phase }, { on := 6, ground := Ground.phase }, { on := 7, ground := Ground.phase }, { on := 8, ground := Ground.phase }, { on := 9, ground := Ground.phase }, { on := 10, ground := Ground.phase }, { on := 11, ground := Ground.phase }, { on := 12, ground := Ground.phase }, { on := 13, ground := Ground.phase }, { on := 14, ground := Ground.phase }, { on := 15, ground := Ground.phase }, { on := 16, ground := Ground.phase }, { on := 17, ground := Ground.phase }, { on := 18, ground := Ground.phase }, { on := 19, ground := Ground.textOnly Departure.lateStores }, { on := 20, ground := Ground.phase }, { on := 21, ground := Ground.phase }], guard := none }) rfl (fun K hK => ?_) AllReadyH.nil
              rw [if_pos (by rfl)]
              have rzs : IsRow w21 y18 35 zS25 := by first | exact HZ18.out | exact HZ18.out.below' HB8.out
              refine wp_storeRow _ (.tmp 18) (.tmp 96) rfl (l' := [.int .i64 i8, .int .i64 g8]) rzs rfl rfl sizeS25 rfl rfl ?_
              intro w22 rz22 g22 z22
              have hv22 : Below w7.heap.size w7 w22 := (hv21).grown g22 (hv21).size (fun i hi => by have := HY18.out.2.2; have := Option.some.inj hi; omega)
              have HFR := Lib.hid rz22
              have HFG := Lib.hid g22
              clear rzs rz22 g22 z22
              refine hK.out _ _ (hv22) (fun hHeld => ?_)
              clear hK K
              try simp only [Act.put, List.setIfInBounds_toArray, List.set_cons_zero, List.set_cons_succ]
              refine wpAnyH_take (i := 23) (oi := { dst := some 19, op := Op.assign (Operand.tmp 97), type := 39, pos := "law.go:166", after := #[{ on := 19, ground := Ground.data }, { on := 22, ground := Ground.chain }, { on := 0, ground := Ground.phase }, { on := 1, ground := Ground.phase }, { on := 2, ground := Ground.phase }, { on := 3, ground := Ground.phase }, { on := 4, ground := Ground.phase }, { on := 5, ground := Ground.phase }, { on := 6, ground := Ground.phase }, { on := 7, ground := Ground.phase }, { on := 8, ground := Ground.phase }, { on := 9, ground := Ground.phase }, { on := 10, ground := Ground.phase }, { on := 11, ground := Ground.phase }, { on := 12, ground := Ground.phase }, { on := 13, ground := Ground.phase }, { on := 14, ground := Ground.phase }, { on := 15, ground := Ground.phase }, { on := 16, ground := Ground.phase }, { on := 17, ground := Ground.phase }, { on := 18, ground := Ground.phase }, { on := 19, ground := Ground.phase }, { on := 20, ground := Ground.phase }, { on := 21, ground := Ground.phase }, { on := 22, ground := Ground.phase }], guard := none }) (v := ?v23_27) rfl (by kernel_rfl) (by kernel_rfl) (by kernel_rfl) (fun _ _ _ h => h) (Or.inl ⟨by rfl, ?h23_27⟩) (by assumption) ?r23_27
              case h23_27 =>
                intro W hSW
                try dsimp only at hSW
                go_simp
                try with_reducible rfl
              try simp only [Act.put, List.setIfInBounds_toArray, List.set_cons_zero, List.set_cons_succ]
              refine wpAnyH_done (by kernel_rfl) ?_ _
              have HFV := Lib.hid hv22
              go_wp2_with fail
              go_meet
              refine ⟨A8, N8, c8, y18, i8, g8, er8, rfl, rfl, rfl, Lib.hid HY18.out.2.2, HFV, HFR, Lib.hid ?_⟩
              rcases HR8.out with h | ⟨h1, h2, D', rs', kk, h3, h4, h5, h6, h7, h8⟩
              · exact .inl h
              refine .inr ⟨h1, h2, D', rs', kk, h3, ?_, h7, h8⟩
              first
                | exact h4.but (Nat.le_refl _) HFG.out (fun p hp e => by have := h5 p hp; have := HY18.out.2.1.size; have := HZ18.out.lt; omega) (fun x hx p hp e => by have := h6 x hx p hp; have := HZ18.out.lt; omega)
                | (have hb := (HY18.out.2.1).grown HFG.out HY18.out.2.1.size (fun i hi => by have := Option.some.inj hi; have := HY18.out.1; omega); have h9 := h4.below hb; exact ⟨h9.rd.more hb.size, h9.rs, fun x hx => (h9.us x hx).more hb.size, h9.mx⟩)
          case rest =>
            obtain ⟨A8, N8, c8, y18, i8, g8, er, rfl, rfl, rfl, HYB, HB8, HR18, HAC⟩ := hcut
            have HY18 : Hid (w4.heap.size ≤ y18) := Lib.hid (Nat.le_trans HX7.out.size HYB.out)
            have HX4 := Lib.hid (HX7.out.trans (HB8.out.mono HX7.out.size))
            replace HR5 := Lib.hid (HR5.out.below' HB8.out)
            replace HR14 := Lib.hid (HR14.out.below' HB8.out)
            replace HR15 := Lib.hid (HR15.out.below' HB8.out)
            replace HPR := Lib.hid (HPR.out.below HB8.out)
            have HBW := Lib.hid (HBW7.out.trans (HB8.out.mono HBW7.out.size))
            clear HB8 HBW7 HC7 HX7 HYB
            by_cases her : er = 0
            · subst her
              have hr18 : wc.rangeAt y18 0 [.int .i64 i8, .int .i64 g8] := fun j v hv => by rw [Nat.zero_add, HR18.out.cell]; exact hv
              obtain ⟨nv, hnv⟩ : ∃ x, (Chk.live l0 i8 g8).length = x := ⟨_, rfl⟩
              have HLV := Lib.hid (HPR.out.rliveN_ i8 g8 nv hnv)
              by_cases hv0 : 0 < nv
              · have e3 : (0 : Int) < (nv : Int) := by omega
                clear hnv
                go_wp2_with (first
                  | (refine S.wpList_load_rg rfl _ (.tmp 18) rfl y18 0 rfl [.int .i64 i8, .int .i64 g8] _ hr18 Tryz.underlying35 rfl sizeS25 ?_)
                  | (go_at_call 11; refine HLV.out.mono ?_; rintro e w8 ⟨A9, c9, rfl, b8⟩)
                  | (go_at_call 7; refine (HSN.out _).mono ?_; rintro e w9 ⟨rfl, b9⟩))
                go_ret
                exact ⟨rfl, HBW.out.trans ((b8.trans (b9.mono b8.size)).mono HBW.out.size)⟩
              obtain rfl : nv = 0 := by omega
              have HL0 : Hid (Chk.live l0 i8 g8 = []) := Lib.hid (List.length_eq_zero_iff.1 hnv)
              clear hnv hv0
              obtain ⟨_, rfl, D', rs', kk, rfl, hra, hnc8, hro⟩ := HAC.out.resolve_left (fun h => h rfl)
              have HGT := Lib.hid (Col.got_of hc0 hro HF.out.2.2.2.2)
              have HRA8 := Lib.hid hra
              have hkk : kk < 64 := by have := HGT.out.il; have := HLN.out; have := HUS.out; omega
              have hg08 := HGT.out.g0
              have hg68 := HGT.out.g6
              clear hra hro HAC
              go_upto_region 10 with (first
                | (refine S.wpList_load_rg rfl _ (.tmp 18) rfl y18 0 rfl [.int .i64 (kk : Int), .int .i64 g8] _ hr18 Tryz.underlying35 rfl sizeS25 ?_)
                | (go_at_call 11; refine HLV.out.mono ?_; rintro e w8 ⟨A9, c9, rfl, b8⟩))
              obtain ⟨ss, hss⟩ : ∃ x, S.Str.strs code rs' 0 = x := ⟨_, rfl⟩
              obtain ⟨m, hm⟩ : ∃ m, ss.length = m := ⟨_, rfl⟩
              have hm9 : m ≤ 201 := by rw [← hm, ← hss]; have h1 := Col.strs_len (c := code) (rs := rs') (j := 0); have := HGT.out.us; have := HUS.out; omega
              have HLD := Lib.hid ((HPR.out.below b8).rloads_ (HRA8.out.below b8) b8.size hnc8 code hc0 hc8 ss hss m hm (by omega))
              have HSS := Lib.hid (And.intro hss hm)
              clear hss hm hr18
              go_upto_region 11 with (go_at_call 12; refine HLD.out.mono ?_; rintro e w10 ⟨A10, c10, rfl, own10, b10⟩)
              have hb10 := b8.trans (b10.mono b8.size)
              have HB10 := Lib.hid hb10
              have hx8 := HX4.out.trans (b8.mono HX4.out.size)
              have HO10 := Lib.hid (And.intro (Rd.of_own own10) (fun (p : Addr) (hp : A10 = some p) => And.intro (Nat.le_trans hx8.size (own_block_lt own10 p hp).1) (own_block_lt own10 p hp).2))
              replace HX4 := Lib.hid (hx8.trans (b10.mono hx8.size))
              have HX10 : Hid (w4.heap.size ≤ w10.heap.size) := Lib.hid HX4.out.size
              have HTB := Lib.hid (HPR.out.left.below b8)
              replace HR14 := Lib.hid (HR14.out.below' hb10)
              replace HR15 := Lib.hid (HR15.out.below' hb10)
              replace HR18 := Lib.hid (HR18.out.below' hb10)
              have HTB10 := Lib.hid (HTB.out.wider b10)
              clear own10 b8 hb10 hx8 HLD HLV HRA8 HPR HRA HTB
              have hr14 : w10.rangeAt y14 0 [.int .i64 (k : Int), .int .i64 p1] := fun j v hv => by rw [Nat.zero_add, HR14.out.cell]; exact hv
              have hr15 : w10.rangeAt y15 0 [.int .i64 q0, .int .i64 q1] := fun j v hv => by rw [Nat.zero_add, HR15.out.cell]; exact hv
              have hr18 : w10.rangeAt y18 0 [.int .i64 (kk : Int), .int .i64 g8] := fun j v hv => by rw [Nat.zero_add, HR18.out.cell]; exact hv
              have hat : (((k : Int), p1) : Int × Int) ≠ ((kk : Int), g8) := fun e => HGT.out.no (e ▸ HF.out.1)
              have hbt : ((q0, q1) : Int × Int) ≠ ((kk : Int), g8) := fun e => HGT.out.no (e ▸ HF.out.2.1)
              obtain ⟨xs, hxs⟩ : ∃ xs, Col.both l0 ((k : Int), p1) (q0, q1) = xs := ⟨_, rfl⟩
              obtain ⟨K, hK⟩ : ∃ K, xs.length = K := ⟨_, rfl⟩
              have hKs : (K : Int) = Col.cnt l0 ((k : Int), p1) + Col.cnt l0 (q0, q1) := by rw [← hK, ← hxs, Col.both_len]
              have hKd : (K : Int) ≤ d := by rw [hKs]; exact HF.out.2.2.2.1
              have hmg : Col.mgF l0 ((k : Int), p1) (q0, q1) ((kk : Int), g8) d = .ok := by
                unfold Col.mgF
                rw [Col.mgBad_abt ⟨hfd1, hfd2⟩ HF.out.2.2.1 hat hbt, if_neg (by decide), hxs, hK, if_neg (by omega)]
              have HMG := Lib.hid (HTB10.out.mergeOk_ (k : Int) p1 q0 q1 (kk : Int) g8 d hmg xs hxs K hK)
              have HXS := Lib.hid (And.intro hxs (And.intro hK hKs))
              have HAP := Lib.hid (And.intro hat hbt)
              have hK32 : K ≤ 32 := by omega
              clear hxs hK hat hbt hmg hKs
              go_upto_region 14 with (first
                | (refine wpList_load_mid rfl _ (.tmp 14) rfl y14 0 rfl [.int .i64 (k : Int), .int .i64 p1] _ hr14 Tryz.underlying35 rfl sizeS25 ?_)
                | (refine wpList_load_mid rfl _ (.tmp 15) rfl y15 0 rfl [.int .i64 q0, .int .i64 q1] _ hr15 Tryz.underlying35 rfl sizeS25 ?_)
                | (refine wpList_load_mid rfl _ (.tmp 18) rfl y18 0 rfl [.int .i64 (kk : Int), .int .i64 g8] _ hr18 Tryz.underlying35 rfl sizeS25 ?_)
                | (go_at_call 13; refine HMG.out.mono ?_; rintro e w9 ⟨A9, c9, rfl, rd9, hA9, b9⟩))
              replace HX4 := Lib.hid (HX4.out.trans (b9.mono HX4.out.size))
              have hg2 := HTL.out.wider HX4.out
              obtain ⟨G2, hG2⟩ : ∃ G2 : Nat → Prop, (fun b => False ∨ (w4.heap.size ≤ b ∧ b < w9.heap.size)) = G2 := ⟨_, rfl⟩
              have hgi : ∀ b, w4.heap.size ≤ b → b < w9.heap.size → G2 b := fun b e1 e2 => by rw [← hG2]; exact .inr ⟨e1, e2⟩
              rw [hG2] at hg2
              have HT9 := Lib.hid hg2
              replace HR14 := Lib.hid (HR14.out.below' b9)
              replace HR15 := Lib.hid (HR15.out.below' b9)
              replace HR18 := Lib.hid (HR18.out.below' b9)
              have HL9 := Lib.hid ((HO10.out.1.below b9).more b9.size)
              have HGY : Hid (G2 y14 ∧ G2 y15 ∧ G2 y18 ∧ (∀ p, A10 = some p → G2 p.block) ∧ (∀ p, A9 = some p → G2 p.block)) := Lib.hid ⟨hgi _ HYS.out.1 HR14.out.lt, hgi _ HYS.out.2 HR15.out.lt, hgi _ HY18.out HR18.out.lt, fun p hp => hgi _ (HO10.out.2 p hp).1 (Nat.lt_of_lt_of_le (HO10.out.2 p hp).2 b9.size), fun p hp => hgi _ (Nat.le_trans HX10.out (hA9 p hp).1) (hA9 p hp).2⟩
              have HS9 := Lib.hid rd9
              clear hg2 hgi hG2 rd9 hA9 b9 HMG HTB10 hr14 hr15 hr18 HO10 HX4 HTL
              try simp only [Act.put, List.setIfInBounds_toArray, List.set_cons_zero, List.set_cons_succ]
              go_upto_region 15 with fail
              go_loopw [125] (fun u125 wx => ∃ (wi : World) (i : Nat) (li : List Chk.Ck), wi = wx ∧ i ≤ K ∧ u125 = .int .i64 (i : Int) ∧ Hid (TabG w1 wi a li G2) ∧ Hid (Col.Mvd l0 ((kk : Int), g8) xs i li) ∧ Hid (SameG w9 wi G2)) (fun u125 _ => K - (intOf u125).toNat)
              case atStart => exact ⟨_, 0, l0, rfl, Nat.zero_le _, rfl, HT9, Lib.hid (Col.Mvd.start xs HT9.out.inv HL0.out), Lib.hid (SameG.refl _ _)⟩
              case round =>
                obtain ⟨wi, i, li, rfl, hi, rfl, HTI, HMV, HSI⟩ := hrel
                by_cases hlt : i < K
                · have hil : i < xs.length := by rw [HXS.out.2.1]; exact hlt
                  have hil2 : i < (Col.sts l0 xs).length := by rw [Col.sts_len]; exact hil
                  have hrd := HS9.out.keepA (w' := wi) (fun _ p hp => HSI.out p.block (HGY.out.2.2.2.2 p hp))
                  obtain ⟨bs, off2, rfl, hbs, hrg⟩ := hrd.elem (f := stpC ((kk : Int), g8)) (fun _ _ => rfl) hil2 hlt
                  rw [Col.sts_get l0 xs i hil2 hil] at hrg
                  have hxs := HXS.out.1
                  have hub : ∀ id ∈ xs, ∃ v : Chk.Un, (v.r, v.g) ≠ ((kk : Int), g8) ∧ Chk.unitAt l0 v = some id := by rw [← hxs]; exact Col.both_unit HAP.out.1 HAP.out.2
                  have hnd : xs.Nodup := by rw [← hxs]; exact Col.live_apart HT9.out.inv HF.out.2.2.1
                  obtain ⟨pk, hpk, hau⟩ := Col.Mvd.at_ HT9.out.inv HMV.out hnd hub hil
                  obtain ⟨lj, hmv, hmd⟩ := HMV.out.step HT9.out.inv (fun n hn => (show Chk.valid ⟨(kk : Int), g8, (n : Int)⟩ from ⟨⟨by show (0 : Int) ≤ (kk : Int); omega, by show (kk : Int) < 4096; omega⟩, ⟨by show (0 : Int) ≤ g8; omega, by show g8 < 64; omega⟩, ⟨by show (0 : Int) ≤ (n : Int); omega, by show (n : Int) < 32; omega⟩⟩)) hnd hub hil (by rw [HXS.out.2.1]; exact hK32)
                  obtain ⟨⟨f0, f1, f2⟩, hfu⟩ : ∃ u, Col.atOf l0 xs[i] = u := ⟨_, rfl⟩
                  rw [hfu] at hau hrg
                  obtain ⟨id, hid⟩ : ∃ x, xs[i] = x := ⟨_, rfl⟩
                  rw [hid] at hmv hpk hau hrg
                  unfold stpC at hrg
                  dsimp only at hrg hmv
                  have HMC := Lib.hid (fun (W : World) (hW : Below wi.heap.size wi W) => (HTI.out.below hW).move_ id ⟨(kk : Int), g8, (i : Int)⟩ hmv)
                  unfold unV at HMC
                  dsimp only at HMC
                  have HGC := Lib.hid (fun (W : World) (hW : Below wi.heap.size wi W) => (HTI.out.below hW).get25_ id pk hpk ⟨f0, f1, f2⟩ hau)
                  dsimp only at HGC
                  have HMD := Lib.hid hmd
                  have e1 : (0 : Int) ≤ (i : Int) := by omega
                  have e2 : (i : Int) < (K : Int) := by omega
                  have e4 : ¬ ((i : Int) ≥ d) := by omega
                  clear hil hil2 hrd hbs hxs hmv hmd hid hfu hub hnd hpk hau
                  go_upto_region 17 with (first
                    | (refine wpList_load_mid rfl _ (.tmp 127) rfl bs (off2 + i * 7) rfl [.int .i64 id, .int .i64 f0, .int .i64 f1, .int .i64 f2, .int .i64 (kk : Int), .int .i64 g8, .int .i64 (i : Int)] _ hrg Tryz.underlying57 rfl sizeStp ?_)
                    | (refine wpList_allocRow rfl _ rfl _ infoStp ?_; intro w23 rz23 b23 z23)
                    | (refine wpList_storeRow rfl _ (.tmp 24) (.tmp 128) rfl (l' := [.int .i64 id, .int .i64 f0, .int .i64 f1, .int .i64 f2, .int .i64 (kk : Int), .int .i64 g8, .int .i64 (i : Int)]) rz23 rfl rfl sizeStp rfl rfl ?_; intro w24 rz24 g24 z24))
                  have hb24 : Below wi.heap.size wi w24 := b23.grown g24 b23.size (fun k e => by have := Option.some.inj e; omega)
                  obtain ⟨x24, h24⟩ : ∃ y, wi.heap.size = y := ⟨_, rfl⟩
                  rw [h24] at rz24 ⊢
                  have k0 := rz24.cell 0
                  dsimp only [List.getElem?_cons_zero, List.getElem?_cons_succ] at k0
                  have HGW := Lib.hid (HGC.out w24 hb24)
                  have HR24 := Lib.hid rz24
                  have HB24 := Lib.hid hb24
                  clear rz23 b23 z23 rz24 g24 z24 hb24 h24 hrg HGC
                  try simp only [Act.put, List.setIfInBounds_toArray, List.set_cons_zero, List.set_cons_succ]
                  go_upto_region 18 with (first
                    | (go_at_call 14; refine HGW.out.mono ?_; rintro e w25 ⟨cs, rfl, hcs⟩; have HCS := Lib.hid hcs; have b25 := hcs.2.2.2.2.2; clear hcs)
                    | (refine wpList_allocRow rfl _ rfl _ infoCk' ?_; intro w26 rz26 b26 z26)
                    | (refine wpList_storeRow rfl _ (.tmp 25) (.tmp 134) rfl (l' := cs) rz26 rfl rfl (by rw [HCS.out.1]; exact sizeCk) (by rw [HCS.out.1]; rfl) HCS.out.2.1 ?_; intro w27 rz27 g27 z27))
                  have hb27 : Below w24.heap.size w24 w27 := b25.trans ((b26.grown g27 b26.size (fun k e => by have := Option.some.inj e; omega)).mono b25.size)
                  obtain ⟨x25, h25⟩ : ∃ y, w25.heap.size = y := ⟨_, rfl⟩
                  rw [h25] at rz27 ⊢
                  have rz28 := HR24.out.below' hb27
                  have k0 := rz28.cell 0
                  have k1 := rz28.cell 1
                  have k2 := rz28.cell 2
                  have k3 := rz28.cell 3
                  have k4 := rz28.cell 4
                  have k5 := rz28.cell 5
                  have k6 := rz28.cell 6
                  dsimp only [List.getElem?_cons_zero, List.getElem?_cons_succ] at k0 k1 k2 k3 k4 k5 k6
                  have hr1 : w27.rangeAt x24 1 [.int .i64 f0, .int .i64 f1, .int .i64 f2] := fun q v hq => by
                    rcases q with _ | _ | _ | q
                    · exact k1.trans hq
                    · exact k2.trans hq
                    · exact k3.trans hq
                    · simp at hq
                  have hr4 : w27.rangeAt x24 4 [.int .i64 (kk : Int), .int .i64 g8, .int .i64 (i : Int)] := fun q v hq => by
                    rcases q with _ | _ | _ | q
                    · exact k4.trans hq
                    · exact k5.trans hq
                    · exact k6.trans hq
                    · simp at hq
                  have hr25 : w27.rangeAt x25 18 [.int .i64 f0, .int .i64 f1, .int .i64 f2] := fun q v hq => by
                    rcases q with _ | _ | _ | q
                    · exact ((rz27.cell 18).trans HCS.out.2.2.1).trans hq
                    · exact ((rz27.cell 19).trans HCS.out.2.2.2.1).trans hq
                    · exact ((rz27.cell 20).trans HCS.out.2.2.2.2.1).trans hq
                    · simp at hq
                  have HB27 := Lib.hid (HB24.out.trans (hb27.mono HB24.out.size))
                  have HMW := Lib.hid (HMC.out w27 HB27.out)
                  clear rz26 b26 z26 rz27 g27 z27 hb27 h25 b25 rz28 k1 k2 k3 HGW HMC
                  try simp only [Act.put, List.setIfInBounds_toArray, List.set_cons_zero, List.set_cons_succ]
                  go_wp2_with (first
                    | (refine S.wpList_load_rg rfl _ (.tmp 139) rfl x25 18 rfl [.int .i64 f0, .int .i64 f1, .int .i64 f2] _ hr25 Tryz.underlying55 rfl sizeUn25 ?_)
                    | (refine S.wpList_load_rg rfl _ (.tmp 141) rfl x24 1 rfl [.int .i64 f0, .int .i64 f1, .int .i64 f2] _ hr1 Tryz.underlying55 rfl sizeUn25 ?_)
                    | (go_at_call 15; refine HMW.out.mono ?_; rintro e w28 ⟨rfl, ht28, hs28⟩))
                  go_roundw
                  case rel => exact ⟨_, i + 1, lj, rfl, by omega, by go_num, Lib.hid ht28, HMD, Lib.hid ((HSI.out.trans (SameG.of_below HB27.out HTI.out.lt)).trans hs28)⟩
                  case measure => simp [intOf]; omega
                · obtain rfl : K = i := by omega
                  have HI14 : Hid (IsRow wi y14 35 [.int .i64 (k : Int), .int .i64 p1]) := Lib.hid ((HSI.out y14 HGY.out.1).trans HR14.out)
                  have HI15 : Hid (IsRow wi y15 35 [.int .i64 q0, .int .i64 q1]) := Lib.hid ((HSI.out y15 HGY.out.2.1).trans HR15.out)
                  have HI18 : Hid (IsRow wi y18 35 [.int .i64 (kk : Int), .int .i64 g8]) := Lib.hid ((HSI.out y18 HGY.out.2.2.1).trans HR18.out)
                  have HLI := Lib.hid (HL9.out.keepB (w' := wi) (B' := wi.heap.size) (fun _ p hp => HSI.out p.block (HGY.out.2.2.2.1 p hp)) (fun _ p hp => HTI.out.lt _ (HGY.out.2.2.2.1 p hp)))
                  have HWT : Hid (∀ s, Col.cnt li s = Col.wantF l0 ((k : Int), p1) (q0, q1) ((kk : Int), g8) s (K : Int)) := Lib.hid (fun s => by rw [HXS.out.2.2]; exact Col.want_is HT9.out.inv HAP.out.1 HAP.out.2 (K := K) (by rw [HXS.out.1]; exact HXS.out.2.1) hK32 (by rw [HXS.out.1]; exact HMV.out) s)
                  have HSUM : Hid (Col.sumF l0 ((k : Int), p1) (q0, q1) ss = (K : Int)) := Lib.hid (by rw [HXS.out.2.2, ← HSS.out.1]; exact Col.sumF_all l0 HF.out.2.2.1 HGT.out.nd (HGT.out.old _ HF.out.1) (HGT.out.old _ HF.out.2.1))
                  have HSB := Lib.hid (fun i => Col.sumF_bd l0 ((k : Int), p1) (q0, q1) (ss.take i))
                  clear HL9 HS9 HMV HSI HGY HR14 HR15 HR18 hlt
                  go_upto_region 23 with fail
                  go_loopw [27, 164] (fun u27 u164 wx => ∃ (wr : World) (i : Nat), wr = wx ∧ i ≤ m ∧ u164 = .int .i64 (i : Int) ∧ u27 = .int .i64 (Col.sumF l0 ((k : Int), p1) (q0, q1) (ss.take i)) ∧ Hid (Below wi.heap.size wi wr)) (fun _ u164 _ => m - (intOf u164).toNat)
                  case atStart => exact ⟨_, 0, rfl, Nat.zero_le _, rfl, rfl, Lib.hid (Below.refl _ _)⟩
                  case round =>
                    obtain ⟨wr, i, rfl, hi2, rfl, rfl, HBR⟩ := hrel
                    by_cases hlt : i < m
                    · have hil : i < ss.length := by rw [HSS.out.2]; exact hlt
                      obtain ⟨bo, off3, hAo, hbo, hrg⟩ := HLI.out.elem (f := fun s => ldL s (Chk.live l0 s.1 s.2).length) (fun _ _ => rfl) hil hlt
                      subst hAo
                      obtain ⟨⟨s0, s1⟩, hs⟩ : ∃ s, ss[i] = s := ⟨_, rfl⟩
                      rw [hs] at hrg
                      unfold ldL at hrg
                      dsimp only at hrg
                      obtain ⟨nq, hnq⟩ : ∃ x, (Chk.live l0 s0 s1).length = x := ⟨_, rfl⟩
                      rw [hnq] at hrg
                      have HNQ : Hid (Col.cnt l0 (s0, s1) = (nq : Int)) := Lib.hid (by rw [← hnq]; rfl)
                      have hnq2 : (nq : Int) ≤ 32 := by rw [← HNQ.out]; exact Col.cnt_le _ _
                      replace hrg : wr.rangeAt bo (off3 + i * 3) [.int .i64 s0, .int .i64 s1, .int .i64 (nq : Int)] := fun q v hq => (HBR.out.cell (p := ⟨bo, off3 + i * 3 + q, none⟩) hbo).trans (hrg q v hq)
                      have e1 : (0 : Int) ≤ (i : Int) := by omega
                      have e2 : (i : Int) < (m : Int) := by omega
                      clear hnq hbo
                      have hstk := List.take_succ_eq_append_getElem hil
                      rw [hs] at hstk
                      have hsn := Col.sumF_snoc l0 ((k : Int), p1) (q0, q1) (s0, s1) (ss.take i)
                      rw [← hstk] at hsn
                      obtain ⟨S0, hS0⟩ : ∃ x, Col.sumF l0 ((k : Int), p1) (q0, q1) (ss.take i) = x := ⟨_, rfl⟩
                      have hbd := HSB.out i
                      rw [List.length_take, hS0] at hbd
                      rw [hS0] at hsn ⊢
                      have hS1 : (0 : Int) ≤ S0 := hbd.1
                      have hS2 : S0 ≤ 6432 := by have := hbd.2; omega
                      have HSN2 := Lib.hid hsn
                      clear hil hs hstk hsn hS0 hbd
                      go_upto_region 25 with (first
                        | (refine wpList_load_mid rfl _ (.tmp 166) rfl bo (off3 + i * 3) rfl [.int .i64 s0, .int .i64 s1, .int .i64 (nq : Int)] _ hrg Tryz.underlying68 rfl sizeRL ?_)
                        | (refine wpList_allocRow rfl _ rfl _ infoRL ?_; intro w23 rz23 b23 z23)
                        | (refine wpList_storeRow rfl _ (.tmp 29) (.tmp 167) rfl (l' := [.int .i64 s0, .int .i64 s1, .int .i64 (nq : Int)]) rz23 rfl rfl sizeRL rfl rfl ?_; intro w24 rz24 g24 z24))
                      have hb24 : Below wr.heap.size wr w24 := b23.grown g24 b23.size (fun k e => by have := Option.some.inj e; omega)
                      obtain ⟨x24, h24⟩ : ∃ y, wr.heap.size = y := ⟨_, rfl⟩
                      rw [h24] at rz24 ⊢
                      have k0 := rz24.cell 0
                      have k1 := rz24.cell 1
                      have k2 := rz24.cell 2
                      dsimp only [List.getElem?_cons_zero, List.getElem?_cons_succ] at k0 k1 k2
                      have hra : w24.rangeAt x24 0 [.int .i64 s0, .int .i64 s1] := fun q v hq => by
                        rcases q with _ | _ | q
                        · exact k0.trans hq
                        · exact k1.trans hq
                        · simp at hq
                      have HB24 := Lib.hid (HBR.out.trans (hb24.mono HBR.out.size))
                      have hr14 : w24.rangeAt y14 0 [.int .i64 (k : Int), .int .i64 p1] := fun j v hv => by rw [Nat.zero_add, (HI14.out.below' HB24.out).cell]; exact hv
                      have hr15 : w24.rangeAt y15 0 [.int .i64 q0, .int .i64 q1] := fun j v hv => by rw [Nat.zero_add, (HI15.out.below' HB24.out).cell]; exact hv
                      obtain ⟨qa, hqa⟩ : ∃ q, decide (s0 = (k : Int) ∧ s1 = p1) = q := ⟨_, rfl⟩
                      obtain ⟨qb, hqb⟩ : ∃ q, decide (s0 = q0 ∧ s1 = q1) = q := ⟨_, rfl⟩
                      have ha := fun W => S.eql_st W s0 s1 (k : Int) p1
                      have hb := fun W => S.eql_st W s0 s1 q0 q1
                      unfold S.stV at ha hb
                      rw [hqa] at ha
                      rw [hqb] at hb
                      have HQA := Lib.hid hqa
                      have HQB := Lib.hid hqb
                      clear rz23 b23 z23 rz24 g24 z24 hb24 h24 hrg hqa hqb
                      try simp only [Act.put, List.setIfInBounds_toArray, List.set_cons_zero, List.set_cons_succ]
                      cases qa with
                      | true =>
                        go_wp2_with (first
                          | (refine wpList_load_mid rfl _ (.tmp 168) rfl x24 0 rfl [.int .i64 s0, .int .i64 s1] _ hra Tryz.underlying35 rfl sizeS25 ?_)
                          | (refine wpList_load_mid rfl _ (.tmp 14) rfl y14 0 rfl [.int .i64 (k : Int), .int .i64 p1] _ hr14 Tryz.underlying35 rfl sizeS25 ?_))
                        go_roundw
                        case rel => exact ⟨_, i + 1, rfl, by omega, by go_num, by rw [HSN2.out, if_pos (.inl (by rw [(of_decide_eq_true HQA.out).1, (of_decide_eq_true HQA.out).2]))]; show Value.int .i64 (S0 + (nq : Int)) = _; rw [← HNQ.out], HB24⟩
                        case measure => simp [intOf]; omega
                      | false =>
                        cases qb with
                        | true =>
                          go_wp2_with (first
                            | (refine wpList_load_mid rfl _ (.tmp 168) rfl x24 0 rfl [.int .i64 s0, .int .i64 s1] _ hra Tryz.underlying35 rfl sizeS25 ?_)
                            | (refine wpList_load_mid rfl _ (.tmp 14) rfl y14 0 rfl [.int .i64 (k : Int), .int .i64 p1] _ hr14 Tryz.underlying35 rfl sizeS25 ?_)
                            | (refine S.wpList_load_rg rfl _ (.tmp 173) rfl x24 0 rfl [.int .i64 s0, .int .i64 s1] _ hra Tryz.underlying35 rfl sizeS25 ?_)
                            | (refine S.wpList_load_rg rfl _ (.tmp 15) rfl y15 0 rfl [.int .i64 q0, .int .i64 q1] _ hr15 Tryz.underlying35 rfl sizeS25 ?_))
                          go_roundw
                          case rel => exact ⟨_, i + 1, rfl, by omega, by go_num, by rw [HSN2.out, if_pos (.inr (by rw [(of_decide_eq_true HQB.out).1, (of_decide_eq_true HQB.out).2]))]; show Value.int .i64 (S0 + (nq : Int)) = _; rw [← HNQ.out], HB24⟩
                          case measure => simp [intOf]; omega
                        | false =>
                          go_wp2_with (first
                            | (refine wpList_load_mid rfl _ (.tmp 168) rfl x24 0 rfl [.int .i64 s0, .int .i64 s1] _ hra Tryz.underlying35 rfl sizeS25 ?_)
                            | (refine wpList_load_mid rfl _ (.tmp 14) rfl y14 0 rfl [.int .i64 (k : Int), .int .i64 p1] _ hr14 Tryz.underlying35 rfl sizeS25 ?_)
                            | (refine S.wpList_load_rg rfl _ (.tmp 173) rfl x24 0 rfl [.int .i64 s0, .int .i64 s1] _ hra Tryz.underlying35 rfl sizeS25 ?_)
                            | (refine S.wpList_load_rg rfl _ (.tmp 15) rfl y15 0 rfl [.int .i64 q0, .int .i64 q1] _ hr15 Tryz.underlying35 rfl sizeS25 ?_))
                          go_roundw
                          case rel => exact ⟨_, i + 1, rfl, by omega, by go_num, by rw [HSN2.out, if_neg (by rintro (e | e); exact of_decide_eq_false HQA.out ⟨congrArg Prod.fst e, congrArg Prod.snd e⟩; exact of_decide_eq_false HQB.out ⟨congrArg Prod.fst e, congrArg Prod.snd e⟩), Int.add_zero], HB24⟩
                          case measure => simp [intOf]; omega
                    · obtain rfl : m = i := by omega
                      rw [List.take_of_length_le (by rw [HSS.out.2]; exact Nat.le_refl _), HSUM.out]
                      clear HSB hlt
                      go_upto_region 29 with fail
                      go_loopw [185] (fun u185 wx => ∃ (wt : World) (i : Nat), wt = wx ∧ i ≤ m ∧ u185 = .int .i64 (i : Int) ∧ Hid (Below wi.heap.size wi wt)) (fun u185 _ => m - (intOf u185).toNat)
                      case atStart => exact ⟨_, 0, rfl, Nat.zero_le _, rfl, HBR⟩
                      case round =>
                        clear HBR
                        obtain ⟨wt, i, rfl, hi3, rfl, HBR⟩ := hrel
                        by_cases hlt : i < m
                        · have hil : i < ss.length := by rw [HSS.out.2]; exact hlt
                          obtain ⟨bo, off3, hAo, hbo, hrg⟩ := HLI.out.elem (f := fun s => ldL s (Chk.live l0 s.1 s.2).length) (fun _ _ => rfl) hil hlt
                          subst hAo
                          obtain ⟨⟨s0, s1⟩, hs⟩ : ∃ s, ss[i] = s := ⟨_, rfl⟩
                          rw [hs] at hrg
                          unfold ldL at hrg
                          dsimp only at hrg
                          obtain ⟨nq, hnq⟩ : ∃ x, (Chk.live l0 s0 s1).length = x := ⟨_, rfl⟩
                          rw [hnq] at hrg
                          have HNQ : Hid (Col.cnt l0 (s0, s1) = (nq : Int)) := Lib.hid (by rw [← hnq]; rfl)
                          have hnq2 : (nq : Int) ≤ 32 := by rw [← HNQ.out]; exact Col.cnt_le _ _
                          replace hrg : wt.rangeAt bo (off3 + i * 3) [.int .i64 s0, .int .i64 s1, .int .i64 (nq : Int)] := fun q v hq => (HBR.out.cell (p := ⟨bo, off3 + i * 3 + q, none⟩) hbo).trans (hrg q v hq)
                          have e1 : (0 : Int) ≤ (i : Int) := by omega
                          have e2 : (i : Int) < (m : Int) := by omega
                          clear hnq hbo
                          obtain ⟨nl, hnl⟩ : ∃ x, (Chk.live li s0 s1).length = x := ⟨_, rfl⟩
                          have hwt := HWT.out (s0, s1)
                          have hwt : (nl : Int) = Col.wantF l0 ((k : Int), p1) (q0, q1) ((kk : Int), g8) (s0, s1) (K : Int) := by rw [← hwt, ← hnl]; rfl
                          clear hil hs
                          go_upto_region 31 with (first
                            | (refine wpList_load_mid rfl _ (.tmp 187) rfl bo (off3 + i * 3) rfl [.int .i64 s0, .int .i64 s1, .int .i64 (nq : Int)] _ hrg Tryz.underlying68 rfl sizeRL ?_)
                            | (refine wpList_allocRow rfl _ rfl _ infoRL ?_; intro w23 rz23 b23 z23)
                            | (refine wpList_storeRow rfl _ (.tmp 31) (.tmp 188) rfl (l' := [.int .i64 s0, .int .i64 s1, .int .i64 (nq : Int)]) rz23 rfl rfl sizeRL rfl rfl ?_; intro w24 rz24 g24 z24))
                          have hb24 : Below wt.heap.size wt w24 := b23.grown g24 b23.size (fun k e => by have := Option.some.inj e; omega)
                          obtain ⟨x24, h24⟩ : ∃ y, wt.heap.size = y := ⟨_, rfl⟩
                          rw [h24] at rz24 ⊢
                          have k0 := rz24.cell 0
                          have k1 := rz24.cell 1
                          have k2 := rz24.cell 2
                          dsimp only [List.getElem?_cons_zero, List.getElem?_cons_succ] at k0 k1 k2
                          have hra : w24.rangeAt x24 0 [.int .i64 s0, .int .i64 s1] := fun q v hq => by
                            rcases q with _ | _ | q
                            · exact k0.trans hq
                            · exact k1.trans hq
                            · simp at hq
                          have HB24 := Lib.hid (HBR.out.trans (hb24.mono HBR.out.size))
                          have hr14 : w24.rangeAt y14 0 [.int .i64 (k : Int), .int .i64 p1] := fun j v hv => by rw [Nat.zero_add, (HI14.out.below' HB24.out).cell]; exact hv
                          have hr15 : w24.rangeAt y15 0 [.int .i64 q0, .int .i64 q1] := fun j v hv => by rw [Nat.zero_add, (HI15.out.below' HB24.out).cell]; exact hv
                          obtain ⟨qa, hqa⟩ : ∃ q, decide (s0 = (k : Int) ∧ s1 = p1) = q := ⟨_, rfl⟩
                          obtain ⟨qb, hqb⟩ : ∃ q, decide (s0 = q0 ∧ s1 = q1) = q := ⟨_, rfl⟩
                          have ha := fun W => S.eql_st W s0 s1 (k : Int) p1
                          have hb := fun W => S.eql_st W s0 s1 q0 q1
                          unfold S.stV at ha hb
                          rw [hqa] at ha
                          rw [hqb] at hb
                          have HQA := Lib.hid hqa
                          have HQB := Lib.hid hqb
                          clear rz23 b23 z23 rz24 g24 z24 hb24 h24 hrg hqa hqb
                          try simp only [Act.put, List.setIfInBounds_toArray, List.set_cons_zero, List.set_cons_succ]
                          have hr18 : w24.rangeAt y18 0 [.int .i64 (kk : Int), .int .i64 g8] := fun j v hv => by rw [Nat.zero_add, (HI18.out.below' HB24.out).cell]; exact hv
                          obtain ⟨qt, hqt⟩ : ∃ q, decide (s0 = (kk : Int) ∧ s1 = g8) = q := ⟨_, rfl⟩
                          have ht := fun W => S.eql_st W s0 s1 (kk : Int) g8
                          unfold S.stV at ht
                          rw [hqt] at ht
                          have HQT := Lib.hid hqt
                          clear hqt
                          have HLV := Lib.hid ((HTI.out.below HB24.out).liveN_ s0 s1 nl hnl)
                          have HWN := Lib.hid hwt
                          clear hnl hwt
                          cases qa with
                          | true =>
                            obtain rfl : nl = 0 := by have h1 := HWN.out; unfold Col.wantF at h1; rw [if_pos (.inl (by rw [(of_decide_eq_true HQA.out).1, (of_decide_eq_true HQA.out).2]))] at h1; omega
                            go_wp2_with (first
                              | (refine wpList_load_mid rfl _ (.tmp 191) rfl x24 0 rfl [.int .i64 s0, .int .i64 s1] _ hra Tryz.underlying35 rfl sizeS25 ?_)
                              | (refine wpList_load_mid rfl _ (.tmp 14) rfl y14 0 rfl [.int .i64 (k : Int), .int .i64 p1] _ hr14 Tryz.underlying35 rfl sizeS25 ?_)
                              | (refine wpList_load_mid rfl _ (.tmp 15) rfl y15 0 rfl [.int .i64 q0, .int .i64 q1] _ hr15 Tryz.underlying35 rfl sizeS25 ?_)
                              | (refine wpList_load_mid rfl _ (.tmp 18) rfl y18 0 rfl [.int .i64 (kk : Int), .int .i64 g8] _ hr18 Tryz.underlying35 rfl sizeS25 ?_)
                              | (refine wpList_load_mid rfl _ (.tmp 203) rfl x24 0 rfl [.int .i64 s0, .int .i64 s1] _ hra Tryz.underlying35 rfl sizeS25 ?_)
                              | (go_at_call 16; refine HLV.out.mono ?_; rintro e w25 ⟨A25, c25, rfl, b25⟩))
                            go_roundw
                            case rel => exact ⟨_, i + 1, rfl, by omega, by go_num, Lib.hid (HB24.out.trans (b25.mono HB24.out.size))⟩
                            case measure => simp [intOf]; omega
                          | false =>
                            cases qb with
                            | true =>
                              obtain rfl : nl = 0 := by have h1 := HWN.out; unfold Col.wantF at h1; rw [if_pos (.inr (by rw [(of_decide_eq_true HQB.out).1, (of_decide_eq_true HQB.out).2]))] at h1; omega
                              go_wp2_with (first
                                | (refine wpList_load_mid rfl _ (.tmp 191) rfl x24 0 rfl [.int .i64 s0, .int .i64 s1] _ hra Tryz.underlying35 rfl sizeS25 ?_)
                                | (refine wpList_load_mid rfl _ (.tmp 14) rfl y14 0 rfl [.int .i64 (k : Int), .int .i64 p1] _ hr14 Tryz.underlying35 rfl sizeS25 ?_)
                                | (refine wpList_load_mid rfl _ (.tmp 15) rfl y15 0 rfl [.int .i64 q0, .int .i64 q1] _ hr15 Tryz.underlying35 rfl sizeS25 ?_)
                                | (refine wpList_load_mid rfl _ (.tmp 18) rfl y18 0 rfl [.int .i64 (kk : Int), .int .i64 g8] _ hr18 Tryz.underlying35 rfl sizeS25 ?_)
                                | (refine wpList_load_mid rfl _ (.tmp 203) rfl x24 0 rfl [.int .i64 s0, .int .i64 s1] _ hra Tryz.underlying35 rfl sizeS25 ?_)
                                | (go_at_call 16; refine HLV.out.mono ?_; rintro e w25 ⟨A25, c25, rfl, b25⟩))
                              go_roundw
                              case rel => exact ⟨_, i + 1, rfl, by omega, by go_num, Lib.hid (HB24.out.trans (b25.mono HB24.out.size))⟩
                              case measure => simp [intOf]; omega
                            | false =>
                              have hnab : ¬ (((s0, s1) : Int × Int) = ((k : Int), p1) ∨ ((s0, s1) : Int × Int) = (q0, q1)) := by
                                rintro (e | e)
                                · exact of_decide_eq_false HQA.out ⟨congrArg Prod.fst e, congrArg Prod.snd e⟩
                                · exact of_decide_eq_false HQB.out ⟨congrArg Prod.fst e, congrArg Prod.snd e⟩
                              cases qt with
                              | true =>
                                obtain rfl : nl = K := by have h1 := HWN.out; unfold Col.wantF at h1; rw [if_neg hnab, if_pos (by rw [(of_decide_eq_true HQT.out).1, (of_decide_eq_true HQT.out).2])] at h1; omega
                                clear hnab
                                go_wp2_with (first
                                  | (refine wpList_load_mid rfl _ (.tmp 191) rfl x24 0 rfl [.int .i64 s0, .int .i64 s1] _ hra Tryz.underlying35 rfl sizeS25 ?_)
                                  | (refine wpList_load_mid rfl _ (.tmp 14) rfl y14 0 rfl [.int .i64 (k : Int), .int .i64 p1] _ hr14 Tryz.underlying35 rfl sizeS25 ?_)
                                  | (refine wpList_load_mid rfl _ (.tmp 15) rfl y15 0 rfl [.int .i64 q0, .int .i64 q1] _ hr15 Tryz.underlying35 rfl sizeS25 ?_)
                                  | (refine wpList_load_mid rfl _ (.tmp 18) rfl y18 0 rfl [.int .i64 (kk : Int), .int .i64 g8] _ hr18 Tryz.underlying35 rfl sizeS25 ?_)
                                  | (refine wpList_load_mid rfl _ (.tmp 203) rfl x24 0 rfl [.int .i64 s0, .int .i64 s1] _ hra Tryz.underlying35 rfl sizeS25 ?_)
                                  | (go_at_call 16; refine HLV.out.mono ?_; rintro e w25 ⟨A25, c25, rfl, b25⟩))
                                go_roundw
                                case rel => exact ⟨_, i + 1, rfl, by omega, by go_num, Lib.hid (HB24.out.trans (b25.mono HB24.out.size))⟩
                                case measure => simp [intOf]; omega
                              | false =>
                                obtain rfl : nl = nq := by
                                  have h1 := HWN.out
                                  unfold Col.wantF at h1
                                  rw [if_neg hnab, if_neg (fun e => of_decide_eq_false HQT.out ⟨congrArg Prod.fst e, congrArg Prod.snd e⟩), HNQ.out] at h1
                                  omega
                                clear hnab
                                go_wp2_with (first
                                  | (refine wpList_load_mid rfl _ (.tmp 191) rfl x24 0 rfl [.int .i64 s0, .int .i64 s1] _ hra Tryz.underlying35 rfl sizeS25 ?_)
                                  | (refine wpList_load_mid rfl _ (.tmp 14) rfl y14 0 rfl [.int .i64 (k : Int), .int .i64 p1] _ hr14 Tryz.underlying35 rfl sizeS25 ?_)
                                  | (refine wpList_load_mid rfl _ (.tmp 15) rfl y15 0 rfl [.int .i64 q0, .int .i64 q1] _ hr15 Tryz.underlying35 rfl sizeS25 ?_)
                                  | (refine wpList_load_mid rfl _ (.tmp 18) rfl y18 0 rfl [.int .i64 (kk : Int), .int .i64 g8] _ hr18 Tryz.underlying35 rfl sizeS25 ?_)
                                  | (refine wpList_load_mid rfl _ (.tmp 203) rfl x24 0 rfl [.int .i64 s0, .int .i64 s1] _ hra Tryz.underlying35 rfl sizeS25 ?_)
                                  | (go_at_call 16; refine HLV.out.mono ?_; rintro e w25 ⟨A25, c25, rfl, b25⟩))
                                go_roundw
                                case rel => exact ⟨_, i + 1, rfl, by omega, by go_num, Lib.hid (HB24.out.trans (b25.mono HB24.out.size))⟩
                                case measure => simp [intOf]; omega
                        · obtain rfl : m = i := by omega
                          go_wp2_with (go_at_call 7; refine (HSN.out _).mono ?_; rintro e w7 ⟨rfl, b7⟩)
                          go_ret
                          have hbw := HB1.out.trans (HTI.out.b.mono HB1.out.size)
                          have hbx := hbw.trans (HBR.out.mono hbw.size)
                          exact ⟨rfl, hbx.trans (b7.mono hbx.size)⟩
            · have hei : (er != 0) = true := by simp [her]
              clear her
              go_wp2_with (go_at_call 7; refine (HSN.out _).mono ?_; rintro e w9 ⟨rfl, b9⟩)
              go_ret
              exact ⟨rfl, HBW.out.trans (b9.mono HBW.out.size)⟩
  · have HBU := Lib.hid (fun (W : World) => build25_long A1 n1 c1 W (by omega))
    clear hr hok hl hn hrd
    go_enter Tryz.func3, Tryz.ntmps3
    go_wp2_with (first
      | (refine S.wpList_boxRow rfl _ (.tmp 0) rfl cl rfl rfl ?_; intro w1 rs1 b1 z1)
      | (go_at_call 4; refine (HBU.out _).mono ?_; rintro e w2 ⟨rfl, b2⟩)
      | (go_at_call 7; refine (HSN.out _).mono ?_; rintro e w3 ⟨rfl, b3⟩))
    go_ret
    exact ⟨rfl, b1.trans ((b2.trans (b3.mono b2.size)).mono b1.size)⟩
end Go.Proofs.YtihhkcndcgljbaaGreat
