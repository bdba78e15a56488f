/- Layer 37's choice of a task, which changes the credits in place. Conditions: valid credits in a row of their own; the indices are of tasks. -/
import Derived.Test.YtfihdenapjmaeaaSch7
import Derived.Test.YtfihdenapjmaeaaSch8
import Derived.Test.YtfihdenapjmaeaaSch9
import Derived.Test.YtfihdenapjmaeaaSch10
import Derived.Test.YtfihdenapjmaeaaHeld2
namespace Go.Proofs.Ytfihdenapjmaeaa
set_option linter.unusedVariables false
set_option linter.unusedSimpArgs false
open Go.RowKit
/-- block g holds the five credits cr -/
structure Cr5 (w : World) (g : Nat) (cr : List Int) : Prop where
  len : cr.length = 5
  lt : g < w.heap.size
  cell : ∀ t, t < 5 → w.cell? ⟨g, t, none⟩ = some (.int .i64 (cr.getD t 0))
  free : ∀ t, t < 5 → w.frozen? ⟨g, t, none⟩ = false
section
variable {w w' : World} {g : Nat} {cr : List Int}
theorem Cr5.keep (h : Cr5 w g cr) (hk : w'.heap[g]? = w.heap[g]?) : Cr5 w' g cr := by
  refine ⟨h.len, ?_, fun t ht => (World.cell?_of_block (a := ⟨g, t, none⟩) hk).trans (h.cell t ht), fun t ht => (World.frozen?_of_block (a := ⟨g, t, none⟩) hk).trans (h.free t ht)⟩
  have h1 : w.heap[g]? = some (w.heap[g]'h.lt) := Array.getElem?_eq_getElem h.lt
  rw [h1] at hk
  exact (Array.getElem?_eq_some_iff.1 hk).1
theorem Cr5.below (h : Cr5 w g cr) (hb : Below w.heap.size w w') : Cr5 w' g cr := h.keep (hb.block g h.lt)
theorem Cr5.alloc (h : Cr5 w g cr) (o : Obj) : Cr5 (w.alloc o) g cr := h.keep (RowKit.Below.heap_alloc w o g h.lt)
theorem Cr5.drew (h : Cr5 w g cr) : Cr5 w.drew g cr := h.keep rfl
theorem Cr5.drewN (h : Cr5 w g cr) (k : Nat) : Cr5 (w.drewN k) g cr := h.keep rfl
theorem grown_drewN {a w : World} {row : Option Nat} (h : a.grownBy w row) (k : Nat) : a.grownBy (w.drewN k) row := ⟨h.os, h.tape, h.output, h.size, h.block⟩
theorem Cr5.set (h : Cr5 w g cr) {k : Nat} (hk : k < 5) (v : Int) : Cr5 (w.setCell ⟨g, k, none⟩ (.int .i64 v)) g (cr.set k v) := by
  refine ⟨by simp [h.len], by have := h.lt; simpa using this, fun t ht => ?_, fun t ht => by have := h.free t ht; simpa using this⟩
  by_cases e : k = t
  · subst e
    rw [cell_set_eq _ _ (h.cell k hk), Sc.getD_set_eq (by rw [h.len]; exact hk)]
  · rw [cell_set_ne _ _ e, Sc.getD_set_ne e]; exact h.cell t ht
end
theorem far_grown {w w' : World} {g : Nat} {p : Addr} {v : Value} (hg : w.grownBy w' (some g)) (h : w.cell? p = some v) (hp : p.block < w.heap.size) (hne : p.block ≠ g) : w'.cell? p = some v :=
  (World.cell?_of_block (hg.block p.block hp (fun e => hne (Option.some.inj e)))).trans h
set_option maxHeartbeats 800000 in
theorem bestC (k : Nat) (A : Option Addr) (n c : Nat) (L : List Sc.Tk) (hL : L.length = n) (hn : n ≤ 1000) (A2 : Option Addr) (m c2 : Nat) (ks : List Nat) (hkl : ks.length = m) (hm : m ≤ 1000) (hks : ∀ k ∈ ks, k < n) (B B2 : Nat) (w : World) (hr : Rd w B 5 A n (L.flatMap tcs)) (hr2 : Rd w B2 1 A2 m (nvs ks)) (hB : B ≤ w.heap.size) (hB2 : B2 ≤ w.heap.size) :
    Calls Try.prog 30 #[.slice A n c, .slice A2 m c2, .int .i64 ((k : Int) + 1), (.func (.func 35) #[] #[])] w fun e w' => e = .returned (.int .i64 (Sc.best L ks ((k : Int) + 1) Sc.can)) ∧ Below w.heap.size w w' := by
  by_cases h : k = 0
  · subst h; exact best_can1 A n c L hL hn A2 m c2 ks hkl hm hks B B2 w hr hr2 hB hB2
  · exact best_cann _ (by omega) A n c L hL hn A2 m c2 ks hkl hm hks B B2 w hr hr2 hB hB2
theorem clamp_at {c1 : List Int} {j : Nat} (h : j < c1.length) : ((c1.take j).map Sc.clamp ++ c1.drop j).getD j 0 = c1.getD j 0 := by
  have h1 : ((c1.take j).map Sc.clamp).length = j := by simp; omega
  simp only [List.getD]
  rw [List.getElem?_append_right (by omega), h1, List.getElem?_drop]
  simp
theorem clamp_set {c1 : List Int} {j : Nat} (h : j < c1.length) : ((c1.take j).map Sc.clamp ++ c1.drop j).set j (Sc.clamp (c1.getD j 0)) = (c1.take (j + 1)).map Sc.clamp ++ c1.drop (j + 1) := by
  have h1 : ((c1.take j).map Sc.clamp).length = j := by simp; omega
  have h2 : c1.getD j 0 = c1[j] := by simp [List.getD, h]
  rw [h2, List.set_append_right _ _ (by omega), h1, Nat.sub_self, List.drop_eq_getElem_cons h, List.set_cons_zero, List.take_succ_eq_append_getElem h, List.map_append, List.append_assoc]
  rfl
theorem av_eq (L : List Sc.Tk) (ks : List Nat) (k : Nat) : Sc.av L ks (k + 1) = decide (0 ≤ Sc.best L ks ((k : Int) + 1) Sc.can) := by
  unfold Sc.av; rw [Int.natCast_add]; rfl
/-- the choice's call: its answer, the credits behind it -/
def NextRes (cr : List Int) (L : List Sc.Tk) (ks : List Nat) (g : Nat) (w : World) (e : Ending) (w' : World) : Prop := e = .returned (.int .i64 (Sc.next cr L ks).2) ∧ Cr5 w' g (Sc.next cr L ks).1 ∧ w.grownBy w' (some g)
set_option maxRecDepth 100000 in
set_option maxHeartbeats 4000000 in
theorem next_urgent (g cc : Nat) (cr : List Int) (hv : Sc.Vld cr) (A : Option Addr) (n c : Nat) (L : List Sc.Tk) (hL : L.length = n) (hn : n ≤ 1000) (A2 : Option Addr) (m c2 : Nat) (ks : List Nat) (hkl : ks.length = m) (hm : m ≤ 1000) (hks : ∀ k ∈ ks, k < n) (B B2 : Nat) (w : World) (hr : Rd w B 5 A n (L.flatMap tcs)) (hr2 : Rd w B2 1 A2 m (nvs ks)) (hB : B ≤ w.heap.size) (hB2 : B2 ≤ w.heap.size) (hA : ∀ W, w.grownBy W (some g) → Rd W B 5 A n (L.flatMap tcs)) (hA2 : ∀ W, w.grownBy W (some g) → Rd W B2 1 A2 m (nvs ks)) (hc : Cr5 w g cr) (hu : 0 ≤ Sc.best L ks 1 Sc.urg) : Calls Try.prog 25 #[.agg #[.slice (some ⟨g, 0, none⟩) 5 cc], .slice A n c, .slice A2 m c2] w (NextRes cr L ks g w) := by
  have HB := Lib.hid (best_urg A n c L hL hn A2 m c2 ks hkl hm hks B B2 (w.alloc (.cells #[.slice (some ⟨g, 0, none⟩) 5 cc] 26)) (hr.alloc hB _) (hr2.alloc hB2 _) (by simp; omega) (by simp; omega))
  have HN := Lib.hid (show Sc.next cr L ks = (cr, Sc.best L ks 1 Sc.urg) by unfold Sc.next; rw [if_pos hu])
  generalize Sc.best L ks 1 Sc.urg = u at *
  clear hr hr2
  go_enter Try.func25, Try.ntmps25
  go_wp2_with (go_at_call 30; refine HB.out.mono ?_; rintro e w1 ⟨rfl, b1⟩)
  go_ret
  refine ⟨ret_int (by rw [HN.out]), ?_, ?_⟩
  · rw [HN.out]; exact (hc.alloc _).below b1
  · exact (World.grownBy_alloc w _ _).trans (grownBy_of_below b1).any
set_option maxRecDepth 100000 in
set_option maxHeartbeats 8000000 in
theorem next_turn (g cc : Nat) (cr : List Int) (hv : Sc.Vld cr) (A : Option Addr) (n c : Nat) (L : List Sc.Tk) (hL : L.length = n) (hn : n ≤ 1000) (A2 : Option Addr) (m c2 : Nat) (ks : List Nat) (hkl : ks.length = m) (hm : m ≤ 1000) (hks : ∀ k ∈ ks, k < n) (B B2 : Nat) (w : World) (hr : Rd w B 5 A n (L.flatMap tcs)) (hr2 : Rd w B2 1 A2 m (nvs ks)) (hB : B ≤ w.heap.size) (hB2 : B2 ≤ w.heap.size) (hA : ∀ W, w.grownBy W (some g) → Rd W B 5 A n (L.flatMap tcs)) (hA2 : ∀ W, w.grownBy W (some g) → Rd W B2 1 A2 m (nvs ks)) (hc : Cr5 w g cr) (hu : ¬ 0 ≤ Sc.best L ks 1 Sc.urg) : Calls Try.prog 25 #[.agg #[.slice (some ⟨g, 0, none⟩) 5 cc], .slice A n c, .slice A2 m c2] w (NextRes cr L ks g w) := by
  have HB := Lib.hid (best_urg A n c L hL hn A2 m c2 ks hkl hm hks B B2 (w.alloc (.cells #[.slice (some ⟨g, 0, none⟩) 5 cc] 26)) (hr.alloc hB _) (hr2.alloc hB2 _) (by simp; omega) (by simp; omega))
  have HN := Lib.hid (show Sc.next cr L ks = ((Sc.turn (Sc.av L ks) cr).1, if (Sc.turn (Sc.av L ks) cr).2 = 0 then -1 else Sc.best L ks (Sc.turn (Sc.av L ks) cr).2 Sc.can) by unfold Sc.next; rw [if_neg hu])
  have HBC := Lib.hid (fun (W : World) (hW : w.grownBy W (some g)) (k : Nat) => bestC k A n c L hL hn A2 m c2 ks hkl hm hks B B2 W (hA W hW) (hA2 W hW) (Nat.le_trans hB hW.size) (Nat.le_trans hB2 hW.size))
  generalize Sc.best L ks 1 Sc.urg = u at *
  have hgw := hc.lt
  have G0 : w.grownBy (w.alloc (.cells #[.slice (some ⟨g, 0, none⟩) 5 cc] 26)) (some g) := World.grownBy_alloc w _ _
  have C0 := hc.alloc (.cells #[.slice (some ⟨g, 0, none⟩) 5 cc] 26)
  have X0 : (w.alloc (.cells #[.slice (some ⟨g, 0, none⟩) 5 cc] 26)).cell? ⟨w.heap.size, 0, none⟩ = some (.slice (some ⟨g, 0, none⟩) 5 cc) := by rw [cell_of_row _ _ _ _ _ _ (heap_alloc_new w _)]; rfl
  have Z0 : w.heap.size < (w.alloc (.cells #[.slice (some ⟨g, 0, none⟩) 5 cc] 26)).heap.size := by simp
  have HX0 := Lib.hid X0
  have HV := Lib.hid hv
  clear hr hr2 hA hA2 hc X0
  go_enter Try.func25, Try.ntmps25
  go_wp2_with (go_at_call 30; refine HB.out.mono ?_; rintro e w0 ⟨rfl, b0⟩)
  have G1 : w.grownBy w0 (some g) := G0.trans (grownBy_of_below b0).any
  have C1 := C0.below b0
  have HX1 := Lib.hid ((b0.cell (p := ⟨w.heap.size, 0, none⟩) Z0).trans HX0.out)
  have Z1 : w.heap.size < w0.heap.size := Nat.lt_of_lt_of_le Z0 b0.size
  have HG1 := Lib.hid G1
  clear G0 C0 Z0 b0 HX0 G1
  go_loopw [8, 9, 10] (fun u8 u9 u10 wr => ∃ k : Nat, k ≤ 5 ∧ u8 = .int .i64 (Sc.kinds (Sc.av L ks) cr k).2.1 ∧ u9 = .int .i64 ((Sc.kinds (Sc.av L ks) cr k).2.2 : Int) ∧ u10 = .int .i64 ((k : Int) + 1) ∧ Cr5 wr g (Sc.kinds (Sc.av L ks) cr k).1 ∧ w0.grownBy wr (some g)) (fun _ _ u10 _ => (6 - intOf u10).toNat)
  case atStart => exact ⟨0, by omega, rfl, rfl, rfl, C1, World.grownBy.refl w0 _⟩
  case round =>
    clear C1
    obtain ⟨k, hk, rfl, rfl, rfl, C2, G2⟩ := hrel
    have HX2 := Lib.hid (far_grown G2 HX1.out Z1 (by show w.heap.size ≠ g; omega))
    have HG2 := Lib.hid G2
    by_cases hlt : k < 5
    · have hsq := Sc.kinds_sq (Sc.av L ks) cr HV.out.1 k hk
      have HSU := Lib.hid (Sc.kinds_succ (Sc.av L ks) cr k)
      have hav := av_eq L ks k
      have HBK := Lib.hid (HBC.out wr (HG1.out.trans G2) k)
      obtain ⟨st, hst⟩ : ∃ st, Sc.kinds (Sc.av L ks) cr k = st := ⟨_, rfl⟩
      rw [hst] at C2 hsq HSU ⊢
      obtain ⟨cR, S, top⟩ := st
      simp only [] at C2 hsq ⊢
      obtain ⟨bv, hbv⟩ : ∃ bv, Sc.best L ks ((k : Int) + 1) Sc.can = bv := ⟨_, rfl⟩
      rw [hbv] at hav HBK
      by_cases hb0 : 0 ≤ bv
      · obtain ⟨wv, hwv⟩ : ∃ x, Sc.wt ((k : Int) + 1) = x := ⟨_, rfl⟩
        obtain ⟨cv, hcv⟩ : ∃ x, cR.getD k 0 = x := ⟨_, rfl⟩
        have HWT := Lib.hid (fun W => weight_any ((k : Int) + 1) W)
        rw [hwv] at HWT
        have hwr := Sc.wt_range (k + 1)
        rw [Int.natCast_add] at hwr
        rw [show Sc.wt ((k : Int) + ((1 : Nat) : Int)) = wv from hwv] at hwr
        have HE : Hid (Sc.kinds (Sc.av L ks) cr (k + 1) = (cR.set k (cv + wv), S + wv, if top = 0 ∨ (cR.set k (cv + wv)).getD (top - 1) 0 < cv + wv then k + 1 else top)) := Lib.hid (by
          rw [HSU.out]; unfold Sc.one; rw [hav, decide_eq_true hb0, if_pos rfl]
          simp only [Nat.add_sub_cancel]
          rw [hcv, Int.natCast_add, show Sc.wt ((k : Int) + ((1 : Nat) : Int)) = wv from hwv])
        have hcvr : -1000 ≤ cv ∧ cv ≤ 1004 := by
          have h1 := hsq.2.2.2.2.1 k
          have h2 : -1000 ≤ cr.getD k 0 ∧ cr.getD k 0 ≤ 1000 := by
            have h5 := HV.out.1
            have : cr.getD k 0 = cr[k]'(by omega) := by simp [List.getD, show k < cr.length by omega]
            rw [this]; exact HV.out.2 _ (List.getElem_mem _)
          omega
        have hS : 0 ≤ S ∧ S ≤ 10 := ⟨hsq.2.1, Int.le_trans hsq.2.2.1 (by unfold Sc.wmax; repeat' split <;> omega)⟩
        have HT5 : Hid (top ≤ k ∧ k < 5) := Lib.hid ⟨hsq.2.2.2.2.2.2.1, hlt⟩
        have HC2 := Lib.hid C2
        have HLT := Lib.hid hlt
        have HLN : Hid (k < cR.length) := Lib.hid (by rw [C2.len]; exact hlt)
        have HCV0 := Lib.hid hcv
        have e1 : IntKind.i64.wrap (k : Int) = (k : Int) := IntWalk.i64_in _ (by omega)
        have e2 : IntKind.i64.wrap (cv + wv) = cv + wv := IntWalk.i64_in _ (by omega)
        have ik0 : (0 : Int) ≤ (k : Int) := by omega
        have ik1 : (k : Int) < 5 := by omega
        obtain ⟨hc1, hc2⟩ := hcvr
        obtain ⟨hS1, hS2⟩ := hS
        obtain ⟨hw1, hw2⟩ := hwr
        clear hsq hav hst hbv C2 hwv hcv
        have HGW : Hid (wr.heap.size = wr.heap.size) := Lib.hid rfl
        go_wp2_with (go_at_call 30; refine HBK.out.mono ?_; rintro e w2 ⟨rfl, b2⟩)
        have C2 := HC2.out.below b2
        have HCV : Hid (w2.cell? ⟨g, k, none⟩ = some (.int .i64 cv)) := Lib.hid (by rw [C2.cell k hlt, HCV0.out])
        have HBX2 : Hid (w.heap.size < w2.heap.size) := Lib.hid (by have := b2.size; have := G2.size; omega)
        have HBX := Lib.hid ((b2.cell (p := ⟨w.heap.size, 0, none⟩) (by show w.heap.size < wr.heap.size; have := G2.size; omega)).trans HX2.out)
        have hv0 : Below w2.heap.size w2 w2.drew := (Below.refl _ _).drew
        refine wp_region_late (fun W => Below w2.heap.size w2 W) [10] (by kernel_rfl) (hv0) (fun hHeld => ?_)
        refine wpAnyL_take (i := 0) (oi := { dst := some 28, op := Op.fieldAddr 26 (Operand.tmp 3) 0, type := 0, pos := "schedule.go:118", after := #[], guard := none }) (v := ?v0_1001) rfl (by kernel_rfl) (by kernel_rfl) (by kernel_rfl) (by kernel_rfl) (fun _ _ _ h => h) (Or.inl ⟨by rfl, ?h0_1001⟩) (by assumption) ?r0_1001
        case h0_1001 =>
          intro W hSW
          try dsimp only at hSW
          go_simp
          try with_reducible rfl
        try simp only [Act.put, List.setIfInBounds_toArray, List.set_cons_zero, List.set_cons_succ]
        refine wpAnyL_take (i := 1) (oi := { dst := some 29, op := Op.load 22 (Operand.tmp 28), type := 22, pos := "schedule.go:118", after := #[{ on := 0, ground := Ground.data }], guard := none }) (v := ?v1_1002) rfl (by kernel_rfl) (by kernel_rfl) (by kernel_rfl) (by kernel_rfl) (fun _ _ _ h => h) (Or.inl ⟨by rfl, ?h1_1002⟩) (by assumption) ?r1_1002
        case h1_1002 =>
          intro W hSW
          try dsimp only at hSW
          have hcc := (hSW.cell (p := ⟨w.heap.size, 0, none⟩) HBX2.out).trans HBX.out
          go_simp
          try with_reducible rfl
        try simp only [Act.put, List.setIfInBounds_toArray, List.set_cons_zero, List.set_cons_succ]
        refine wpAnyL_take (i := 2) (oi := { dst := some 30, op := Op.move (Operand.tmp 10), type := 3, pos := "schedule.go:118", after := #[], guard := none }) (v := ?v2_1003) rfl (by kernel_rfl) (by kernel_rfl) (by kernel_rfl) (by kernel_rfl) (fun _ _ _ h => h) (Or.inl ⟨by rfl, ?h2_1003⟩) (by assumption) ?r2_1003
        case h2_1003 =>
          intro W hSW
          try dsimp only at hSW
          go_simp
          try with_reducible rfl
        try simp only [Act.put, List.setIfInBounds_toArray, List.set_cons_zero, List.set_cons_succ]
        refine wpAnyL_take (i := 3) (oi := { dst := some 31, op := Op.binOp BinOp.sub 3 (Operand.tmp 30) (Operand.const (Value.int IntKind.i64 1)) 3, type := 3, pos := "schedule.go:118", after := #[{ on := 2, ground := Ground.data }], guard := none }) (v := ?v3_1004) rfl (by kernel_rfl) (by kernel_rfl) (by kernel_rfl) (by kernel_rfl) (fun _ _ _ h => h) (Or.inl ⟨by rfl, ?h3_1004⟩) (by assumption) ?r3_1004
        case h3_1004 =>
          intro W hSW
          try dsimp only at hSW
          go_simp
          try with_reducible rfl
        try simp only [Act.put, List.setIfInBounds_toArray, List.set_cons_zero, List.set_cons_succ]
        refine wpAnyL_take (i := 4) (oi := { dst := some 32, op := Op.indexAddr 22 (Operand.tmp 29) (Operand.tmp 31), type := 0, pos := "schedule.go:118", after := #[{ on := 1, ground := Ground.data }, { on := 3, ground := Ground.data }], guard := none }) (v := ?v4_1005) rfl (by kernel_rfl) (by kernel_rfl) (by kernel_rfl) (by kernel_rfl) (fun _ _ _ h => h) (Or.inl ⟨by rfl, ?h4_1005⟩) (by assumption) ?r4_1005
        case h4_1005 =>
          intro W hSW
          try dsimp only at hSW
          go_simp
          try with_reducible rfl
        try simp only [Act.put, List.setIfInBounds_toArray, List.set_cons_zero, List.set_cons_succ]
        refine wpAnyL_take (i := 5) (oi := { dst := some 33, op := Op.load 3 (Operand.tmp 32), type := 3, pos := "schedule.go:118", after := #[{ on := 4, ground := Ground.data }], guard := none }) (v := ?v5_1006) rfl (by kernel_rfl) (by kernel_rfl) (by kernel_rfl) (by kernel_rfl) (fun _ _ _ h => h) (Or.inl ⟨by rfl, ?h5_1006⟩) (by assumption) ?r5_1006
        case h5_1006 =>
          intro W hSW
          try dsimp only at hSW
          have hcc := (hSW.cell (p := ⟨g, k, none⟩) C2.lt).trans HCV.out
          go_simp
          try with_reducible rfl
        try simp only [Act.put, List.setIfInBounds_toArray, List.set_cons_zero, List.set_cons_succ]
        refine wpAnyL_take (i := 6) (oi := { dst := some 34, op := Op.move (Operand.tmp 10), type := 3, pos := "schedule.go:118", after := #[], guard := none }) (v := ?v6_1007) rfl (by kernel_rfl) (by kernel_rfl) (by kernel_rfl) (by kernel_rfl) (fun _ _ _ h => h) (Or.inl ⟨by rfl, ?h6_1007⟩) (by assumption) ?r6_1007
        case h6_1007 =>
          intro W hSW
          try dsimp only at hSW
          go_simp
          try with_reducible rfl
        try simp only [Act.put, List.setIfInBounds_toArray, List.set_cons_zero, List.set_cons_succ]
        refine wpAnyL_ready (rs := [7]) (by kernel_rfl) (by simp) ?_
        refine AllReadyL.cons (o := { dst := some 35, op := Op.call { callee := Callee.value (Operand.func 16), args := #[Operand.tmp 34], argTypes := #[3] }, type := 3, pos := "schedule.go:118", after := #[{ on := 6, ground := Ground.data }], guard := none }) rfl (fun K hK => ?_) AllReadyL.nil
        go_simp
        refine (HWT.out _).mono ?_
        rintro e w1 ⟨rfl, b1⟩
        have hv1 : Below w2.heap.size w2 w1 := hv0.trans (b1.mono hv0.size)
        go_wp2_with fail
        have C4 := C2.below hv1
        have k4 := C4.cell k HLT.out
        have f4 := C4.free k HLT.out
        refine hK.out _ _ (hv1) (fun hHeld => ?_)
        clear hK K
        try simp only [Act.put, List.setIfInBounds_toArray, List.set_cons_zero, List.set_cons_succ]
        refine wpAnyL_take (i := 8) (oi := { dst := some 36, op := Op.binOp BinOp.add 3 (Operand.tmp 33) (Operand.tmp 35) 3, type := 3, pos := "schedule.go:118", after := #[{ on := 5, ground := Ground.data }, { on := 7, ground := Ground.data }], guard := none }) (v := ?v8_1008) rfl (by kernel_rfl) (by kernel_rfl) (by kernel_rfl) (by kernel_rfl) (fun _ _ _ h => h) (Or.inl ⟨by rfl, ?h8_1008⟩) (by assumption) ?r8_1008
        case h8_1008 =>
          intro W hSW
          try dsimp only at hSW
          go_simp
          try with_reducible rfl
        try simp only [Act.put, List.setIfInBounds_toArray, List.set_cons_zero, List.set_cons_succ]
        refine wpAnyL_take (i := 9) (oi := { dst := some 37, op := Op.indexAddr 22 (Operand.tmp 29) (Operand.tmp 31), type := 0, pos := "schedule.go:118", after := #[{ on := 1, ground := Ground.data }, { on := 3, ground := Ground.data }, { on := 0, ground := Ground.phase }, { on := 1, ground := Ground.phase }, { on := 2, ground := Ground.phase }, { on := 3, ground := Ground.phase }, { on := 4, ground := Ground.phase }, { on := 5, ground := Ground.phase }, { on := 6, ground := Ground.phase }, { on := 7, ground := Ground.phase }, { on := 8, ground := Ground.phase }], guard := none }) (v := ?v9_1009) rfl (by kernel_rfl) (by kernel_rfl) (by kernel_rfl) (by kernel_rfl) (fun _ _ _ h => h) (Or.inl ⟨by rfl, ?h9_1009⟩) (by assumption) ?r9_1009
        case h9_1009 =>
          intro W hSW
          try dsimp only at hSW
          go_simp
          try with_reducible rfl
        try simp only [Act.put, List.setIfInBounds_toArray, List.set_cons_zero, List.set_cons_succ]
        refine wpAnyL_ready (rs := [10]) (by kernel_rfl) (by simp) ?_
        refine AllReadyL.late (o := { dst := none, op := Op.store 3 (Operand.tmp 37) (Operand.tmp 36), type := 0, pos := "schedule.go:118", after := #[{ on := 9, ground := Ground.data }, { on := 8, ground := Ground.data }, { on := 7, ground := Ground.chain }, { on := 0, ground := Ground.phase }, { on := 1, ground := Ground.phase }, { on := 2, ground := Ground.phase }, { on := 3, ground := Ground.phase }, { on := 4, ground := Ground.phase }, { on := 5, ground := Ground.phase }, { on := 6, ground := Ground.phase }, { on := 7, ground := Ground.phase }, { on := 8, ground := Ground.phase }], guard := none }) rfl (by rfl) (fun K hK => ?_) AllReadyL.nil
        go_simp
        obtain ⟨w5, hw5⟩ : ∃ w', w1.setCell ⟨g, k, none⟩ (.int .i64 (cv + wv)) = w' := ⟨_, rfl⟩
        rw [hw5]
        have C5 : Cr5 w5 g (cR.set k (cv + wv)) := by rw [← hw5]; exact C4.set HLT.out _
        have G5 : w2.grownBy w5 (some g) := by rw [← hw5]; exact (grownBy_of_below hv1).any.trans (grown_setCell _ _ _ _)
        have w2 := w5
        have hv2 := hv1
        clear hw5 k4 f4 C4
        refine hK.out _ _ ?_
        clear hK K
        try simp only [Act.put, List.setIfInBounds_toArray, List.set_cons_zero, List.set_cons_succ]
        refine wpAnyL_done (by kernel_rfl) ?_ _
        go_wp2_with (go_at_call 16; refine (HWT.out _).mono ?_; rintro e w6 ⟨rfl, b6⟩)
        have C6 := C5.below b6
        have HBX6 := (b6.cell (p := ⟨w.heap.size, 0, none⟩) (Nat.lt_of_lt_of_le HBX2.out G5.size)).trans (far_grown G5 HBX.out HBX2.out (by show w.heap.size ≠ g; omega))
        have k6 := C6.cell k HLT.out
        rw [Sc.getD_set_eq HLN.out] at k6
        obtain ⟨top0, htop0⟩ : ∃ x, top = x := ⟨_, rfl⟩
        rw [htop0] at HE
        cases top with
        | zero =>
          have HTP : Hid ((if top0 = 0 ∨ (cR.set k (cv + wv)).getD (top0 - 1) 0 < cv + wv then k + 1 else top0) = k + 1) := Lib.hid (by rw [if_pos (Or.inl htop0.symm)])
          clear htop0 HT5
          go_quiet (fail)
          go_wp2
          go_roundw
          case rel => exact ⟨k + 1, by omega, by rw [HE.out], by rw [HE.out]; show _ = Value.int .i64 ((if top0 = 0 ∨ (cR.set k (cv + wv)).getD (top0 - 1) 0 < cv + wv then k + 1 else top0 : Nat) : Int); rw [HTP.out]; rfl, by go_num, by rw [HE.out]; first | exact C6 | exact C6.drewN _, HG2.out.trans ((grownBy_of_below b2).any.trans (G5.trans (by first | exact (grownBy_of_below b6).any | exact grown_drewN (grownBy_of_below b6).any _)))⟩
          case measure => simp [intOf]; omega
        | succ t =>
          have ht5 : t < 5 := by have := HT5.out; omega
          have t6 := C6.cell t ht5
          obtain ⟨tv, htv⟩ : ∃ x, (cR.set k (cv + wv)).getD t 0 = x := ⟨_, rfl⟩
          rw [htv] at t6
          have et : ((t + 1 : Nat) : Int) = (t : Int) + 1 := by push_cast; rfl
          have et0 : ((t : Int) + 1 == 0) = false := by rw [beq_eq_false_iff_ne]; omega
          have et1 : IntKind.i64.wrap (t : Int) = (t : Int) := IntWalk.i64_in _ (by omega)
          have et2 : (0 : Int) ≤ (t : Int) := by omega
          have et3 : (t : Int) < 5 := by omega
          rw [et]
          clear et
          by_cases hcmp : tv < cv + wv
          · have dc : decide (tv < cv + wv) = true := by simpa using hcmp
            have HTP : Hid ((if top0 = 0 ∨ (cR.set k (cv + wv)).getD (top0 - 1) 0 < cv + wv then k + 1 else top0) = k + 1) := Lib.hid (by rw [if_pos (Or.inr (by rw [← htop0]; show (cR.set k (cv + wv)).getD t 0 < _; rw [htv]; exact hcmp))])
            clear htop0 HT5 htv hcmp
            go_quiet (fail)
            go_wp2
            go_roundw
            case rel => exact ⟨k + 1, by omega, by rw [HE.out], by rw [HE.out]; show _ = Value.int .i64 ((if top0 = 0 ∨ (cR.set k (cv + wv)).getD (top0 - 1) 0 < cv + wv then k + 1 else top0 : Nat) : Int); rw [HTP.out]; rfl, by go_num, by rw [HE.out]; first | exact C6 | exact C6.drewN _, HG2.out.trans ((grownBy_of_below b2).any.trans (G5.trans (by first | exact (grownBy_of_below b6).any | exact grown_drewN (grownBy_of_below b6).any _)))⟩
            case measure => simp [intOf]; omega
          · have dc : decide (tv < cv + wv) = false := by simpa using hcmp
            have HTP : Hid ((if top0 = 0 ∨ (cR.set k (cv + wv)).getD (top0 - 1) 0 < cv + wv then k + 1 else top0) = t + 1) := Lib.hid (by rw [if_neg (by rw [← htop0]; exact fun h => h.elim (fun h => by omega) (fun h => hcmp (by rw [← htv]; exact h))), ← htop0])
            clear htop0 HT5 htv hcmp
            go_quiet (fail)
            go_wp2
            go_roundw
            case rel => exact ⟨k + 1, by omega, by rw [HE.out], by rw [HE.out]; show _ = Value.int .i64 ((if top0 = 0 ∨ (cR.set k (cv + wv)).getD (top0 - 1) 0 < cv + wv then k + 1 else top0 : Nat) : Int); rw [HTP.out]; rfl, by go_num, by rw [HE.out]; first | exact C6 | exact C6.drewN _, HG2.out.trans ((grownBy_of_below b2).any.trans (G5.trans (by first | exact (grownBy_of_below b6).any | exact grown_drewN (grownBy_of_below b6).any _)))⟩
            case measure => simp [intOf]; omega
      · have HE : Hid (Sc.kinds (Sc.av L ks) cr (k + 1) = (cR, S, top)) := Lib.hid (by rw [HSU.out]; unfold Sc.one; rw [hav, decide_eq_false hb0]; rfl)
        have HC2 := Lib.hid C2
        clear hsq hav hst hbv C2 G2
        go_wp2_with (go_at_call 30; refine HBK.out.mono ?_; rintro e w2 ⟨rfl, b2⟩)
        go_roundw
        case rel => exact ⟨k + 1, by omega, by rw [HE.out], by rw [HE.out], by go_num, by rw [HE.out]; exact HC2.out.below b2, HG2.out.trans (grownBy_of_below b2).any⟩
        case measure => simp [intOf]; omega
    · obtain rfl : k = 5 := by omega
      have hsq := Sc.kinds_sq (Sc.av L ks) cr HV.out.1 5 (Nat.le_refl _)
      have HTU := Lib.hid (show Sc.turn (Sc.av L ks) cr = if (Sc.kinds (Sc.av L ks) cr 5).2.2 = 0 then ((Sc.kinds (Sc.av L ks) cr 5).1, 0) else (((Sc.kinds (Sc.av L ks) cr 5).1.set ((Sc.kinds (Sc.av L ks) cr 5).2.2 - 1) ((Sc.kinds (Sc.av L ks) cr 5).1.getD ((Sc.kinds (Sc.av L ks) cr 5).2.2 - 1) 0 - (Sc.kinds (Sc.av L ks) cr 5).2.1)).map Sc.clamp, (Sc.kinds (Sc.av L ks) cr 5).2.2) from rfl)
      have hrg : ∀ j, j < 5 → -1000 ≤ (Sc.kinds (Sc.av L ks) cr 5).1.getD j 0 ∧ (Sc.kinds (Sc.av L ks) cr 5).1.getD j 0 ≤ 1004 := fun j hj => by
        have h1 := hsq.2.2.2.2.1 j
        have h2 : -1000 ≤ cr.getD j 0 ∧ cr.getD j 0 ≤ 1000 := by
          have h5 := HV.out.1
          have : cr.getD j 0 = cr[j]'(by omega) := by simp [List.getD, show j < cr.length by omega]
          rw [this]; exact HV.out.2 _ (List.getElem_mem _)
        omega
      obtain ⟨st, hst⟩ : ∃ st, Sc.kinds (Sc.av L ks) cr 5 = st := ⟨_, rfl⟩
      rw [hst] at C2 hsq HTU hrg ⊢
      obtain ⟨cR, S, top⟩ := st
      simp only [] at C2 hsq hrg ⊢
      have HRG := Lib.hid hrg
      have hS1 := hsq.2.1
      have hS2 : S ≤ 10 := hsq.2.2.1
      have htop := hsq.2.2.2.2.2.2.1
      clear hsq hst hrg
      cases top with
      | zero =>
        have HC2 := Lib.hid C2
        have HRT : Hid (Sc.next cr L ks = (cR, -1)) := Lib.hid (by rw [HN.out, HTU.out]; rfl)
        clear C2 G2
        go_wp2
        go_ret
        exact ⟨ret_int (by rw [HRT.out]), by rw [HRT.out]; exact HC2.out, HG1.out.trans HG2.out⟩
      | succ t =>
        have ht5 : t < 5 := by omega
        have et : ((t + 1 : Nat) : Int) = (t : Int) + 1 := by push_cast; rfl
        have et0 : ((t : Int) + 1 == 0) = false := by rw [beq_eq_false_iff_ne]; omega
        have et1 : IntKind.i64.wrap (t : Int) = (t : Int) := IntWalk.i64_in _ (by omega)
        have et2 : (0 : Int) ≤ (t : Int) := by omega
        have et3 : (t : Int) < 5 := by omega
        have HRT : Hid (Sc.next cr L ks = ((cR.set t (cR.getD t 0 - S)).map Sc.clamp, Sc.best L ks ((t : Int) + 1) Sc.can)) := Lib.hid (by
          rw [HN.out, HTU.out]
          simp only [Nat.add_eq_zero_iff, if_neg (show ¬ (t = 0 ∧ 1 = 0) by omega), Nat.add_sub_cancel, et])
        obtain ⟨tv, htv⟩ : ∃ x, cR.getD t 0 = x := ⟨_, rfl⟩
        have htr := HRG.out t ht5
        have t2 := C2.cell t ht5
        have t3 := C2.free t ht5
        rw [htv] at htr t2 HRT
        obtain ⟨tr1, tr2⟩ := htr
        have HC2 := Lib.hid C2
        have HL5 := Lib.hid ht5
        have HLN : Hid (t < cR.length) := Lib.hid (by rw [C2.len]; exact ht5)
        have HX3 := HX2.out
        have HBXW : Hid (w.heap.size < wr.heap.size) := Lib.hid (by have := G2.size; omega)
        rw [et]
        clear et htv C2 G2 htop
        go_upto_region 15 with fail
        go_cut [] (fun wx => Cr5 wx g (cR.set t (tv - S)) ∧ wr.grownBy wx (some g))
        case first =>
          go_wp2
          go_meet
          exact ⟨HC2.out.set HL5.out _, grown_setCell _ _ _ _⟩
        case rest =>
          obtain ⟨C3, G3⟩ := hcut
          clear t2 t3 HX3
          have HX4 := far_grown G3 HX2.out HBXW.out (by show w.heap.size ≠ g; omega)
          have HXX := Lib.hid HX4
          have HG3 := Lib.hid G3
          have HRD : Hid (∀ j, j < 5 → -1010 ≤ (cR.set t (tv - S)).getD j 0 ∧ (cR.set t (tv - S)).getD j 0 ≤ 1010) := Lib.hid (fun j hj => by
            by_cases e : t = j
            · subst e; rw [Sc.getD_set_eq HLN.out]; omega
            · rw [Sc.getD_set_ne e]; have := HRG.out j hj; omega)
          obtain ⟨c1, hc1⟩ : ∃ c1, cR.set t (tv - S) = c1 := ⟨_, rfl⟩
          rw [hc1] at C3 HRT HRD
          have HC3 := Lib.hid C3
          have HBX5 : Hid (∀ W : World, wr.grownBy W (some g) → w.heap.size < W.heap.size) := Lib.hid (fun W hW => Nat.lt_of_lt_of_le HBXW.out hW.size)
          clear hc1 C3 G3 tr1 tr2 hS1 hS2
          go_wp2_with fail
          go_loopw [74] (fun u74 wx => ∃ (wv : World) (j : Nat), wv = wx ∧ j ≤ 5 ∧ u74 = .int .i64 j ∧ Cr5 wv g ((c1.take j).map Sc.clamp ++ c1.drop j) ∧ wr.grownBy wv (some g)) (fun u74 _ => (5 - intOf u74).toNat)
          case atStart => exact ⟨_, 0, rfl, by omega, rfl, by simpa using HC3.out, HG3.out⟩
          case round =>
            clear HX4
            obtain ⟨wv, j, rfl, hj, rfl, C5, G5⟩ := hrel
            have HX5 := far_grown G5 HX2.out HBXW.out (by show w.heap.size ≠ g; omega)
            have HC5 := Lib.hid C5
            have HG5 := Lib.hid G5
            by_cases hjt : j < 5
            · have j0 : (0 : Int) ≤ (j : Int) := by omega
              have j1 : (j : Int) < 5 := by omega
              have l5 : c1.length = 5 := HC3.out.len
              have hgj : ((c1.take j).map Sc.clamp ++ c1.drop j).getD j 0 = c1.getD j 0 := clamp_at (by omega)
              have hset : ((c1.take j).map Sc.clamp ++ c1.drop j).set j (Sc.clamp (c1.getD j 0)) = (c1.take (j + 1)).map Sc.clamp ++ c1.drop (j + 1) := clamp_set (by omega)
              have q1 := C5.cell j hjt
              have q2 := C5.free j hjt
              have hr1 := HRD.out j hjt
              rw [hgj] at q1
              obtain ⟨nv, hnv⟩ : ∃ x, c1.getD j 0 = x := ⟨_, rfl⟩
              rw [hnv] at q1 hset hr1
              obtain ⟨r1, r2⟩ := hr1
              obtain ⟨cl, hcl⟩ : ∃ x, Sc.clamp nv = x := ⟨_, rfl⟩
              have hclv : cl = if nv < -1000 then -1000 else if 1000 < nv then 1000 else nv := by rw [← hcl]; unfold Sc.clamp; repeat' split <;> omega
              rw [hcl] at hset
              have HSET := Lib.hid hset
              have HCL := Lib.hid hclv
              have HJ := Lib.hid hjt
              clear hset hclv hcl hnv hgj C5 G5 l5
              by_cases hh : nv < -1000
              · go_wp2
                go_roundw
                case rel => exact ⟨_, j + 1, rfl, by omega, by go_num, by rw [← HSET.out, HCL.out]; rw [if_pos (by omega)]; exact HC5.out.set HJ.out _, HG5.out.trans (grown_setCell _ _ _ _)⟩
                case measure => simp [intOf]; omega
              by_cases hh : nv = -1000
              · subst hh; go_wp2
                go_roundw
                case rel => exact ⟨_, j + 1, rfl, by omega, by go_num, by rw [← HSET.out, HCL.out]; rw [if_neg (by omega), if_neg (by omega)]; exact HC5.out.set HJ.out _, HG5.out.trans (grown_setCell _ _ _ _)⟩
                case measure => simp [intOf]; omega
              by_cases hh : -1000 < nv ∧ nv < 1000
              · obtain ⟨hh1, hh2⟩ := hh; go_wp2
                go_roundw
                case rel => exact ⟨_, j + 1, rfl, by omega, by go_num, by rw [← HSET.out, HCL.out]; rw [if_neg (by omega), if_neg (by omega)]; exact HC5.out.set HJ.out _, HG5.out.trans (grown_setCell _ _ _ _)⟩
                case measure => simp [intOf]; omega
              by_cases hh : nv = 1000
              · subst hh; go_wp2
                go_roundw
                case rel => exact ⟨_, j + 1, rfl, by omega, by go_num, by rw [← HSET.out, HCL.out]; rw [if_neg (by omega), if_neg (by omega)]; exact HC5.out.set HJ.out _, HG5.out.trans (grown_setCell _ _ _ _)⟩
                case measure => simp [intOf]; omega
              by_cases hh : 1000 < nv
              · go_wp2
                go_roundw
                case rel => exact ⟨_, j + 1, rfl, by omega, by go_num, by rw [← HSET.out, HCL.out]; rw [if_neg (by omega), if_pos (by omega)]; exact HC5.out.set HJ.out _, HG5.out.trans (grown_setCell _ _ _ _)⟩
                case measure => simp [intOf]; omega
              · omega
            · obtain rfl : j = 5 := by omega
              have HE : Hid ((c1.take 5).map Sc.clamp ++ c1.drop 5 = c1.map Sc.clamp) := Lib.hid (by rw [List.take_of_length_le (by rw [HC3.out.len]; omega), List.drop_of_length_le (by rw [HC3.out.len]; omega), List.append_nil])
              have HBK := Lib.hid (HBC.out wv (HG1.out.trans (HG2.out.trans G5)) t)
              clear C5 G5
              go_wp2_with (go_at_call 30; refine HBK.out.mono ?_; rintro e w2 ⟨rfl, b2⟩)
              go_ret
              exact ⟨ret_int (by rw [HRT.out]), by rw [HRT.out]; have := HC5.out.below b2; rwa [HE.out] at this, (HG1.out.trans (HG2.out.trans HG5.out)).trans (grownBy_of_below b2).any⟩
theorem next_any (g cc : Nat) (cr : List Int) (hv : Sc.Vld cr) (A : Option Addr) (n c : Nat) (L : List Sc.Tk) (hL : L.length = n) (hn : n ≤ 1000) (A2 : Option Addr) (m c2 : Nat) (ks : List Nat) (hkl : ks.length = m) (hm : m ≤ 1000) (hks : ∀ k ∈ ks, k < n) (B B2 : Nat) (w : World) (hr : Rd w B 5 A n (L.flatMap tcs)) (hr2 : Rd w B2 1 A2 m (nvs ks)) (hB : B ≤ w.heap.size) (hB2 : B2 ≤ w.heap.size) (hA : ∀ W, w.grownBy W (some g) → Rd W B 5 A n (L.flatMap tcs)) (hA2 : ∀ W, w.grownBy W (some g) → Rd W B2 1 A2 m (nvs ks)) (hc : Cr5 w g cr) : Calls Try.prog 25 #[.agg #[.slice (some ⟨g, 0, none⟩) 5 cc], .slice A n c, .slice A2 m c2] w (NextRes cr L ks g w) := by
  by_cases hu : 0 ≤ Sc.best L ks 1 Sc.urg
  · exact next_urgent g cc cr hv A n c L hL hn A2 m c2 ks hkl hm hks B B2 w hr hr2 hB hB2 hA hA2 hc hu
  · exact next_turn g cc cr hv A n c L hL hn A2 m c2 ks hkl hm hks B B2 w hr hr2 hB hB2 hA hA2 hc hu
end Go.Proofs.Ytfihdenapjmaeaa
