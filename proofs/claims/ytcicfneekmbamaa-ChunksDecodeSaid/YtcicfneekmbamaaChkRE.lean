/- The reference's table: other references (RAt.refd), Refer. Conditions: the table is kept. -/
import Derived.Test.YtcicfneekmbamaaChkRD
namespace Go.Proofs.Ytcicfneekmbamaa
set_option linter.unusedVariables false
set_option linter.unusedSimpArgs false
open Go.RowKit
theorem RAt.refd {w W5 : World} {F S : Nat → Prop} {a : Nat} {t : RM} {l : List Chk.Ck} (h : RAt w F S a t l) (hb : ∀ b, F b ∨ S b → b < w.heap.size) {g k c' : Nat} {x : CR} {rs : List Chk.Rf} {A' : Option Addr} (hA : t.A = some ⟨g, 0, none⟩) (hx : t.D[k]? = some x) (hk : k < l.length)
    (hB5 : Below w.heap.size w W5) (ho : W5.ownsRow w.heap.size 83 2 (.slice A' rs.length c') rs.length (rfs rs)) (hr : Chk.RefsOk rs) (hne : rs ≠ []) :
    ∃ F' : Nat → Prop, (∃ t', RAt (W5.setCell ⟨g, k * 23 + 22, none⟩ (.slice A' rs.length c')) F' S a t' (Chk.setRefs l k rs)) ∧ Keep S w (W5.setCell ⟨g, k * 23 + 22, none⟩ (.slice A' rs.length c')) ∧ (∀ b, F' b ∨ S b → b < (W5.setCell ⟨g, k * 23 + 22, none⟩ (.slice A' rs.length c')).heap.size) ∧ (∀ b, F' b → F b ∨ w.heap.size ≤ b) := by
  have hgS := h.sg _ hA
  have hag := h.ag _ hA
  have h5 := h.below hB5
  have hs5 := hB5.size
  have hgw : g < w.heap.size := hb _ (.inr hgS)
  have hlx : l[k]? = some x.c := by rw [← h.d, List.getElem?_map, hx]; rfl
  have hnx : Chk.nth l k = x.c := by have := Chk.nth_get hk; rw [hlx] at this; exact (Option.some.inj this).symm
  have hok := h.inv.ok x.c (List.mem_of_getElem? hlx)
  obtain ⟨gr, cap, hv, hgr, hgrl⟩ := ho.form (by cases rs with | nil => exact absurd rfl hne | cons _ _ => simp)
  obtain rfl : A' = some ⟨gr, 0, none⟩ := by injection hv
  have hK : Keep S w (W5.setCell ⟨g, k * 23 + 22, none⟩ (.slice (some ⟨gr, 0, none⟩) rs.length c')) := (Keep.of_below hB5).setCell (a := ⟨g, k * 23 + 22, none⟩) (.inl hgS) _
  have hi := h.inv.setRefs hk hr hne
  have hsz : (W5.setCell ⟨g, k * 23 + 22, none⟩ (.slice (some ⟨gr, 0, none⟩) rs.length c')).heap.size = W5.heap.size := by simp [World.setCell]
  refine ⟨fun b => F b ∨ b = gr, ⟨{ t with D := t.D.set k ⟨{ x.c with refs := rs }, some ⟨gr, 0, none⟩, rs.length, c'⟩ }, ?_, ?_, ?_, fun z hz => ?_, h.sa, h.sg, h.ag, fun b hF hS => ?_, hi⟩, hK, fun b e => ?_, fun b e => ?_⟩
  · exact (h5.row.setOther (p := ⟨g, k * 23 + 22, none⟩) hag _)
  · have ho5 := h5.own
    rw [hA] at ho5
    obtain ⟨o1, _, _⟩ := own_step (y := ⟨{ x.c with refs := rs }, some ⟨gr, 0, none⟩, rs.length, c'⟩) (v := .slice (some ⟨gr, 0, none⟩) rs.length c') ho5 h.dl hx (j := 22) (by decide) (by
      show ckCells { x.c with refs := rs } _ = _
      rw [ckCells_refs]
      exact (ckCells_set x.c _ _ hok.dg).symm)
    show World.ownsRow _ 0 _ 23 (.slice t.A t.n t.c) t.n (crs (t.D.set k ⟨{ x.c with refs := rs }, some ⟨gr, 0, none⟩, rs.length, c'⟩))
    rw [hA]
    exact o1
  · show (t.D.set k ⟨{ x.c with refs := rs }, some ⟨gr, 0, none⟩, rs.length, c'⟩).map CR.c = _
    rw [List.map_set, h.d]
    unfold Chk.setRefs
    rw [hnx]
  · rcases List.mem_or_eq_of_mem_set hz with hz | rfl
    · exact ((h.ok z hz).keep hK h.fs).mono fun b e => .inl e
    · refine ⟨?_, rfl, (own_cap ho).1, (own_cap ho).2, fun p hp => .inr (by rw [← Option.some.inj hp])⟩
      have hrd := Rd.of_own ho
      rw [hsz]
      exact hrd.setCell_far (fun p hp => by rw [← Option.some.inj hp]; show gr ≠ g; omega) _
  · rcases hF with hF | rfl
    · exact h.fs b hF hS
    · have := hb _ (.inr hS); omega
  · rw [hsz]
    rcases e with (e | e) | e
    · have := hb b (.inl e); omega
    · omega
    · have := hb b (.inr e); omega
  · rcases e with e | rfl
    · exact .inl e
    · exact .inr hgr
/-- a table of the reference behind a call, and what the call has kept -/
def ROp (w : World) (F S : Nat → Prop) (a : Nat) (l : List Chk.Ck) (w' : World) : Prop :=
  ∃ F' S' : Nat → Prop, (∃ t', RAt w' F' S' a t' l) ∧ Keep S w w' ∧ (∀ b, F' b ∨ S' b → b < w'.heap.size) ∧ (∀ b, S' b → S b ∨ w.heap.size ≤ b) ∧ (∀ b, F' b → F b ∨ w.heap.size ≤ b)
theorem ROp.same {w w' : World} {F S : Nat → Prop} {a : Nat} {t : RM} {l : List Chk.Ck} (h : RAt w F S a t l) (hb : ∀ b, F b ∨ S b → b < w.heap.size) (hw : Below w.heap.size w w') : ROp w F S a l w' :=
  ⟨F, S, ⟨t, h.below hw⟩, Keep.of_below hw, fun b hb' => Nat.lt_of_lt_of_le (hb b hb') hw.size, fun _ h => .inl h, fun _ h => .inl h⟩
theorem ROp.of_keep {w w' : World} {F S : Nat → Prop} {a : Nat} {l : List Chk.Ck} (h : ∃ t', RAt w' F S a t' l) (hk : Keep S w w') (hb : ∀ b, F b ∨ S b → b < w.heap.size) : ROp w F S a l w' :=
  ⟨F, S, h, hk, fun b e => Nat.lt_of_lt_of_le (hb b e) hk.size, fun _ h => .inl h, fun _ h => .inl h⟩
def RErr (w : World) (F S : Nat → Prop) (a : Nat) (l : List Chk.Ck) (c : Int) (e : Ending) (w' : World) : Prop := e = .returned (.int .i64 c) ∧ ROp w F S a l w'
/-- what the arguments of Refer and Unrefer are -/
theorem args_cases (tn n : Int) : (decide (Chk.tenant tn) = false) ∨ (decide (Chk.tenant tn) = true ∧ n < 1) ∨ (decide (Chk.tenant tn) = true ∧ 1 ≤ n ∧ 2147483647 < n) ∨ (Chk.tenant tn ∧ decide (Chk.tenant tn) = true ∧ 1 ≤ n ∧ n ≤ 2147483647) := by
  by_cases h : Chk.tenant tn
  · have hd := decide_eq_true h
    by_cases h1 : n < 1
    · exact .inr (.inl ⟨hd, h1⟩)
    · by_cases h2 : 2147483647 < n
      · exact .inr (.inr (.inl ⟨hd, by omega, h2⟩))
      · exact .inr (.inr (.inr ⟨h, hd, by omega, by omega⟩))
  · exact .inl (decide_eq_false h)
set_option maxRecDepth 100000 in
set_option maxHeartbeats 3200000 in
theorem rrefer_any {w : World} {F S : Nat → Prop} {a : Nat} {t : RM} {l : List Chk.Ck} (h : RAt w F S a t l) (hb : ∀ b, F b ∨ S b → b < w.heap.size) (id tn n : Int) :
    Calls Try.prog 44 #[.pointer (some ⟨a, 0, none⟩), .int .i64 id, .int .i64 tn, .int .i64 n] w (RErr w F S a (Chk.refer l id tn n).1 (Chk.refer l id tn n).2.2) := by
  have HF := Lib.hid (rfind_any h id _ rfl)
  have HTN := Lib.hid (fun W s hs => rtenant_any tn W s hs)
  cases hp : Chk.pos (Chk.ids l) id with
  | none =>
    have e : Chk.refer l id tn n = (l, 0, 12) := by unfold Chk.refer; rw [hp]
    rw [Chk.posI_none hp] at HF
    rw [e]
    have HE := Lib.hid (ROp.same h hb (Below.refl _ _))
    clear h hp e hb HTN
    go_enter Try.func44, Try.ntmps44
    go_wp2_with (go_at_call 50; refine HF.out.mono ?_; rintro e w1 ⟨rfl, hw1⟩; obtain rfl := hw1.symm)
    go_ret
    exact ⟨rfl, HE.out⟩
  | some k =>
    rw [Chk.posI_some hp] at HF
    have e3 : ¬ (k : Int) < 0 := by omega
    have hbad : ¬ (Chk.tenant tn ∧ 1 ≤ n ∧ n ≤ Chk.most) → Chk.refer l id tn n = (l, 0, 1) := fun hh => by unfold Chk.refer; rw [hp]; show ite _ _ _ = _; rw [if_pos hh]
    have HE := Lib.hid (ROp.same h hb (Below.refl _ _))
    have hmost : Chk.most = 2147483647 := rfl
    rcases args_cases tn n with hs | ⟨hs, h1⟩ | ⟨hs, h1, h2⟩ | ⟨hten, hs, h1, h2⟩
    · have e := hbad (fun hh => by rw [decide_eq_true hh.1] at hs; cases hs)
      have HT2 := Lib.hid (fun W => HTN.out W _ hs)
      rw [e]
      clear h hp e hb HTN hbad hs hmost
      go_enter Try.func44, Try.ntmps44
      go_wp2_with (first
        | (go_at_call 77; refine (HT2.out _).mono ?_; rintro e w2 ⟨rfl, hw2⟩; obtain rfl := hw2.symm)
        | (go_at_call 50; refine HF.out.mono ?_; rintro e w1 ⟨rfl, hw1⟩; obtain rfl := hw1.symm))
      go_ret
      exact ⟨rfl, HE.out⟩
    · have e := hbad (fun hh => by omega)
      have HT2 := Lib.hid (fun W => HTN.out W _ hs)
      rw [e]
      clear h hp e hb HTN hbad hs hmost
      go_enter Try.func44, Try.ntmps44
      go_wp2_with (first
        | (go_at_call 77; refine (HT2.out _).mono ?_; rintro e w2 ⟨rfl, hw2⟩; obtain rfl := hw2.symm)
        | (go_at_call 50; refine HF.out.mono ?_; rintro e w1 ⟨rfl, hw1⟩; obtain rfl := hw1.symm))
      go_ret
      exact ⟨rfl, HE.out⟩
    · have e := hbad (fun hh => by omega)
      have HT2 := Lib.hid (fun W => HTN.out W _ hs)
      have n1 : ¬ n < 1 := by omega
      rw [e]
      clear h hp e hb HTN hbad hs hmost
      go_enter Try.func44, Try.ntmps44
      go_wp2_with (first
        | (go_at_call 77; refine (HT2.out _).mono ?_; rintro e w2 ⟨rfl, hw2⟩; obtain rfl := hw2.symm)
        | (go_at_call 50; refine HF.out.mono ?_; rintro e w1 ⟨rfl, hw1⟩; obtain rfl := hw1.symm))
      go_ret
      exact ⟨rfl, HE.out⟩
    · clear hbad
      have HT2 := Lib.hid (fun W => HTN.out W _ hs)
      have hk := (Chk.pos_lt hp).1
      have hkn : k < t.n := by rw [← h.len.1]; exact hk
      obtain ⟨g, x, hA, hg, hx, hn, hok, hck, hrg⟩ := h.at hkn
      have hmx := h.max
      have htot := hck.refs.tot
      have htn0 := Chk.total_nonneg hck.refs.pos
      have hheld := Chk.held_le hck.refs.pos hck.refs.up tn
      have hheld0 := Chk.held_nonneg hck.refs.pos tn
      have hlen16 := refs_len hck.refs
      have e1 : (0 : Int) ≤ (k : Int) := by omega
      have e2 : (k : Int) < (t.n : Int) := by omega
      have n1 : ¬ n < 1 := by omega
      have n2 : ¬ 2147483647 < n := by omega
      have hd := h.dl x (List.mem_of_getElem? hx)
      have HRW := Lib.hid (fun (W : World) (hW : Below w.heap.size w W) (q : Nat) (v : Value) (hv : x.cells[q]? = some v) => (hW.cell (p := ⟨g, k * 23 + q, none⟩) hg).trans (hrg q v hv))
      have hcc : ∀ W, Below w.heap.size w W → W.cell? ⟨a, 0, none⟩ = some (.slice (some ⟨g, 0, none⟩) t.n t.c) ∧ W.cell? ⟨g, k * 23 + 22, none⟩ = some (.slice x.A x.n x.k) ∧ W.frozen? ⟨g, k * 23 + 22, none⟩ = false := fun W hW => by
        have c0 := h.rd hW
        rw [hA] at c0
        exact ⟨c0, (hW.cell (p := ⟨g, k * 23 + 22, none⟩) hg).trans (ck_cells hck.dg hrg).2.2.2.2.2.2, (h.below hW).frz hA _⟩
      have HCC := Lib.hid hcc
      have HTO := Lib.hid (fun (W : World) (hW : Below w.heap.size w W) T hT => rtotal_any x.A x.n x.k x.c.refs hok.n (by have := hok.n; omega) hck.refs.pos htot w.heap.size W (hok.rd.below hW) T hT)
      have HHE := Lib.hid (fun (W : World) (hW : Below w.heap.size w W) cs hcs v hv => rheld_any x.c hck.dg x.A x.n x.k hok.n (by have := hok.n; omega) w.heap.size W (hok.rd.below hW) hW.size tn cs hcs v hv)
      have HWI := Lib.hid (fun (W : World) (hW : Below w.heap.size w W) (m : Int) => rwith_any x.A x.n x.k x.c.refs hok.n (by have := hok.n; omega) W ((hok.rd.below hW).more hW.size) tn m)
      obtain ⟨T0, hT0⟩ : ∃ T0, Chk.total x.c.refs = T0 := ⟨_, rfl⟩
      obtain ⟨H0, hH0⟩ : ∃ H0, Chk.held x.c.refs tn = H0 := ⟨_, rfl⟩
      rw [hT0] at htot htn0 hheld
      rw [hH0] at hheld hheld0
      have ew : IntKind.i64.wrap (T0 + n) = T0 + n := IntWalk.i64_in _ (by omega)
      have ew2 : IntKind.i64.wrap (H0 + n) = H0 + n := IntWalk.i64_in _ (by omega)
      have HTT := Lib.hid (fun W hW => HTO.out W hW T0 hT0)
      by_cases hover : 2147483647 < T0 + n
      · have e : Chk.refer l id tn n = (l, 0, 2) := by
          unfold Chk.refer; rw [hp]; show ite _ _ _ = _
          rw [if_neg (fun hh => hh ⟨hten, h1, by omega⟩), hn, hT0, if_pos (by omega)]
        rw [e]
        obtain ⟨c0, k22, _⟩ := hcc w (Below.refl _ _)
        clear h hp e hb HTN hs hmost hten hk hkn hA hg hx hn hok hck hrg htot htn0 hheld hheld0 hlen16 hcc hT0 hH0 hd ew2
        go_enter Try.func44, Try.ntmps44
        go_wp2_with (first
          | (go_at_call 77; refine (HT2.out _).mono ?_; rintro e w2 ⟨rfl, hw2⟩; obtain rfl := hw2.symm)
          | (go_at_call 66; refine (HTT.out _ (Below.refl _ _)).mono ?_; rintro e w3 ⟨rfl, hw3⟩; obtain rfl := hw3.symm)
          | (go_at_call 50; refine HF.out.mono ?_; rintro e w1 ⟨rfl, hw1⟩; obtain rfl := hw1.symm))
        go_ret
        exact ⟨rfl, HE.out⟩
      · have e : Chk.refer l id tn n = (Chk.setRefs l k (Chk.withR x.c.refs tn (H0 + n)), 0, 0) := by
          unfold Chk.refer; rw [hp]; show ite _ _ _ = _
          rw [if_neg (fun hh => hh ⟨hten, h1, by omega⟩), hn, hT0, if_neg (by omega), hH0]
        rw [e]
        have hrok : Chk.RefsOk (Chk.withR x.c.refs tn (H0 + n)) := Chk.refsOk_with hck.refs hten (by omega) (by rw [hT0, hH0, hmost]; omega)
        have hrne : Chk.withR x.c.refs tn (H0 + n) ≠ [] := by
          unfold Chk.withR; rw [if_pos (by omega)]; simp
        obtain ⟨cs, hcs⟩ : ∃ cs, x.cells = cs := ⟨_, rfl⟩
        have HCL : Hid (cs.length = 23) := Lib.hid (by rw [← hcs]; exact hd)
        have HRG := Lib.hid (fun (W : World) (hW : Below w.heap.size w W) => show W.rangeAt g (k * 23) cs from fun q v hv => HRW.out W hW q v (by rw [hcs]; exact hv))
        have HHH := Lib.hid (fun W hW => HHE.out W hW cs hcs H0 hH0)
        obtain ⟨rs, hrs⟩ : ∃ rs, Chk.withR x.c.refs tn (H0 + n) = rs := ⟨_, rfl⟩
        have HWW := Lib.hid (fun W hW => HWI.out W hW (H0 + n))
        rw [hrs] at hrok hrne HWW ⊢
        have HRE := Lib.hid (fun (W : World) (A' : Option Addr) (c' : Nat) (hW : Below w.heap.size w W) (ho : W.ownsRow w.heap.size 83 2 (.slice A' rs.length c') rs.length (rfs rs)) => h.refd hb hA hx hk hW ho hrok hrne)
        obtain ⟨c0, k22, _⟩ := hcc w (Below.refl _ _)
        clear h hp e hb HTN hs hmost hten hk hkn hA hg hx hn hok hck hrg htot htn0 hheld hheld0 hlen16 hcc hT0 hH0 hd hcs hrs hrok hrne HTO HHE HWI HE
        go_enter Try.func44, Try.ntmps44
        go_upto_region 8 with (first
          | (go_at_call 77; refine (HT2.out _).mono ?_; rintro e w2 ⟨rfl, hw2⟩; obtain rfl := hw2.symm)
          | (go_at_call 66; refine (HTT.out _ (Below.refl _ _)).mono ?_; rintro e w3 ⟨rfl, hw3⟩; obtain rfl := hw3.symm)
          | (go_at_call 50; refine HF.out.mono ?_; rintro e w1 ⟨rfl, hw1⟩; obtain rfl := hw1.symm))
        clear c0 k22 ew
        have hv0 : Below w.heap.size w w.drew := (Below.refl _ _).drew
        refine wp_region_late (fun W => Below w.heap.size w W) [28] (by kernel_rfl) (hv0) (fun hHeld => ?_)
        refine wpAnyL_take (i := 0) (oi := { dst := some 38, op := Op.move (Operand.tmp 0), type := 31, pos := "ref.go:174", after := #[], guard := none }) (v := ?v0_1) rfl (by kernel_rfl) (by kernel_rfl) (by kernel_rfl) (by kernel_rfl) (fun _ _ _ h => h) (Or.inl ⟨by rfl, ?h0_1⟩) (by assumption) ?r0_1
        case h0_1 =>
          intro W hSW
          try dsimp only at hSW
          go_simp
          try with_reducible rfl
        try simp only [Act.put, List.setIfInBounds_toArray, List.set_cons_zero, List.set_cons_succ]
        refine wpAnyL_take (i := 1) (oi := { dst := some 39, op := Op.nilCheck (Operand.tmp 38), type := 0, pos := "ref.go:174", after := #[{ on := 0, ground := Ground.data }], guard := none }) (v := ?v1_2) rfl (by kernel_rfl) (by kernel_rfl) (by kernel_rfl) (by kernel_rfl) (fun _ _ _ h => h) (Or.inl ⟨by rfl, ?h1_2⟩) (by assumption) ?r1_2
        case h1_2 =>
          intro W hSW
          try dsimp only at hSW
          go_simp
          try with_reducible rfl
        try simp only [Act.put, List.setIfInBounds_toArray, List.set_cons_zero, List.set_cons_succ]
        refine wpAnyL_take (i := 2) (oi := { dst := some 40, op := Op.fieldAddr 34 (Operand.tmp 39) 0, type := 0, pos := "ref.go:174", after := #[{ on := 1, ground := Ground.data }], guard := none }) (v := ?v2_3) rfl (by kernel_rfl) (by kernel_rfl) (by kernel_rfl) (by kernel_rfl) (fun _ _ _ h => h) (Or.inl ⟨by rfl, ?h2_3⟩) (by assumption) ?r2_3
        case h2_3 =>
          intro W hSW
          try dsimp only at hSW
          go_simp
          try with_reducible rfl
        try simp only [Act.put, List.setIfInBounds_toArray, List.set_cons_zero, List.set_cons_succ]
        refine wpAnyL_take (i := 3) (oi := { dst := some 41, op := Op.load 32 (Operand.tmp 40), type := 32, pos := "ref.go:174", after := #[{ on := 2, ground := Ground.data }], guard := none }) (v := ?v3_4) rfl (by kernel_rfl) (by kernel_rfl) (by kernel_rfl) (by kernel_rfl) (fun _ _ _ h => h) (Or.inl ⟨by rfl, ?h3_4⟩) (by assumption) ?r3_4
        case h3_4 =>
          intro W hSW
          try dsimp only at hSW
          have c0 := (HCC.out W hSW).1
          go_simp
          try with_reducible rfl
        try simp only [Act.put, List.setIfInBounds_toArray, List.set_cons_zero, List.set_cons_succ]
        refine wpAnyL_take (i := 4) (oi := { dst := some 42, op := Op.move (Operand.tmp 9), type := 3, pos := "ref.go:174", after := #[], guard := none }) (v := ?v4_5) rfl (by kernel_rfl) (by kernel_rfl) (by kernel_rfl) (by kernel_rfl) (fun _ _ _ h => h) (Or.inl ⟨by rfl, ?h4_5⟩) (by assumption) ?r4_5
        case h4_5 =>
          intro W hSW
          try dsimp only at hSW
          go_simp
          try with_reducible rfl
        try simp only [Act.put, List.setIfInBounds_toArray, List.set_cons_zero, List.set_cons_succ]
        refine wpAnyL_take (i := 5) (oi := { dst := some 43, op := Op.move (Operand.tmp 0), type := 31, pos := "ref.go:174", after := #[], guard := none }) (v := ?v5_6) rfl (by kernel_rfl) (by kernel_rfl) (by kernel_rfl) (by kernel_rfl) (fun _ _ _ h => h) (Or.inl ⟨by rfl, ?h5_6⟩) (by assumption) ?r5_6
        case h5_6 =>
          intro W hSW
          try dsimp only at hSW
          go_simp
          try with_reducible rfl
        try simp only [Act.put, List.setIfInBounds_toArray, List.set_cons_zero, List.set_cons_succ]
        refine wpAnyL_take (i := 6) (oi := { dst := some 44, op := Op.nilCheck (Operand.tmp 43), type := 0, pos := "ref.go:174", after := #[{ on := 5, ground := Ground.data }], guard := none }) (v := ?v6_7) rfl (by kernel_rfl) (by kernel_rfl) (by kernel_rfl) (by kernel_rfl) (fun _ _ _ h => h) (Or.inl ⟨by rfl, ?h6_7⟩) (by assumption) ?r6_7
        case h6_7 =>
          intro W hSW
          try dsimp only at hSW
          go_simp
          try with_reducible rfl
        try simp only [Act.put, List.setIfInBounds_toArray, List.set_cons_zero, List.set_cons_succ]
        refine wpAnyL_take (i := 7) (oi := { dst := some 45, op := Op.fieldAddr 34 (Operand.tmp 44) 0, type := 0, pos := "ref.go:174", after := #[{ on := 6, ground := Ground.data }], guard := none }) (v := ?v7_8) rfl (by kernel_rfl) (by kernel_rfl) (by kernel_rfl) (by kernel_rfl) (fun _ _ _ h => h) (Or.inl ⟨by rfl, ?h7_8⟩) (by assumption) ?r7_8
        case h7_8 =>
          intro W hSW
          try dsimp only at hSW
          go_simp
          try with_reducible rfl
        try simp only [Act.put, List.setIfInBounds_toArray, List.set_cons_zero, List.set_cons_succ]
        refine wpAnyL_take (i := 8) (oi := { dst := some 46, op := Op.load 32 (Operand.tmp 45), type := 32, pos := "ref.go:174", after := #[{ on := 7, ground := Ground.data }], guard := none }) (v := ?v8_9) rfl (by kernel_rfl) (by kernel_rfl) (by kernel_rfl) (by kernel_rfl) (fun _ _ _ h => h) (Or.inl ⟨by rfl, ?h8_9⟩) (by assumption) ?r8_9
        case h8_9 =>
          intro W hSW
          try dsimp only at hSW
          have c0 := (HCC.out W hSW).1
          go_simp
          try with_reducible rfl
        try simp only [Act.put, List.setIfInBounds_toArray, List.set_cons_zero, List.set_cons_succ]
        refine wpAnyL_take (i := 9) (oi := { dst := some 47, op := Op.move (Operand.tmp 9), type := 3, pos := "ref.go:174", after := #[], guard := none }) (v := ?v9_10) rfl (by kernel_rfl) (by kernel_rfl) (by kernel_rfl) (by kernel_rfl) (fun _ _ _ h => h) (Or.inl ⟨by rfl, ?h9_10⟩) (by assumption) ?r9_10
        case h9_10 =>
          intro W hSW
          try dsimp only at hSW
          go_simp
          try with_reducible rfl
        try simp only [Act.put, List.setIfInBounds_toArray, List.set_cons_zero, List.set_cons_succ]
        refine wpAnyL_take (i := 10) (oi := { dst := some 48, op := Op.indexAddr 32 (Operand.tmp 46) (Operand.tmp 47), type := 0, pos := "ref.go:174", after := #[{ on := 8, ground := Ground.data }, { on := 9, ground := Ground.data }], guard := none }) (v := ?v10_11) rfl (by kernel_rfl) (by kernel_rfl) (by kernel_rfl) (by kernel_rfl) (fun _ _ _ h => h) (Or.inl ⟨by rfl, ?h10_11⟩) (by assumption) ?r10_11
        case h10_11 =>
          intro W hSW
          try dsimp only at hSW
          go_simp
          try with_reducible rfl
        try simp only [Act.put, List.setIfInBounds_toArray, List.set_cons_zero, List.set_cons_succ]
        refine wpAnyL_take (i := 11) (oi := { dst := some 49, op := Op.fieldAddr 45 (Operand.tmp 48) 5, type := 0, pos := "ref.go:174", after := #[{ on := 10, ground := Ground.data }], guard := none }) (v := ?v11_12) rfl (by kernel_rfl) (by kernel_rfl) (by kernel_rfl) (by kernel_rfl) (fun _ _ _ h => h) (Or.inl ⟨by rfl, ?h11_12⟩) (by assumption) ?r11_12
        case h11_12 =>
          intro W hSW
          try dsimp only at hSW
          go_simp
          try with_reducible rfl
        try simp only [Act.put, List.setIfInBounds_toArray, List.set_cons_zero, List.set_cons_succ]
        refine wpAnyL_take (i := 12) (oi := { dst := some 50, op := Op.load 43 (Operand.tmp 49), type := 43, pos := "ref.go:174", after := #[{ on := 11, ground := Ground.data }], guard := none }) (v := ?v12_13) rfl (by kernel_rfl) (by kernel_rfl) (by kernel_rfl) (by kernel_rfl) (fun _ _ _ h => h) (Or.inl ⟨by rfl, ?h12_13⟩) (by assumption) ?r12_13
        case h12_13 =>
          intro W hSW
          try dsimp only at hSW
          have k22 := (HCC.out W hSW).2.1
          go_simp
          try with_reducible rfl
        try simp only [Act.put, List.setIfInBounds_toArray, List.set_cons_zero, List.set_cons_succ]
        refine wpAnyL_take (i := 13) (oi := { dst := some 51, op := Op.move (Operand.tmp 2), type := 3, pos := "ref.go:174", after := #[], guard := none }) (v := ?v13_14) rfl (by kernel_rfl) (by kernel_rfl) (by kernel_rfl) (by kernel_rfl) (fun _ _ _ h => h) (Or.inl ⟨by rfl, ?h13_14⟩) (by assumption) ?r13_14
        case h13_14 =>
          intro W hSW
          try dsimp only at hSW
          go_simp
          try with_reducible rfl
        try simp only [Act.put, List.setIfInBounds_toArray, List.set_cons_zero, List.set_cons_succ]
        refine wpAnyL_take (i := 14) (oi := { dst := some 52, op := Op.move (Operand.tmp 0), type := 31, pos := "ref.go:174", after := #[], guard := none }) (v := ?v14_15) rfl (by kernel_rfl) (by kernel_rfl) (by kernel_rfl) (by kernel_rfl) (fun _ _ _ h => h) (Or.inl ⟨by rfl, ?h14_15⟩) (by assumption) ?r14_15
        case h14_15 =>
          intro W hSW
          try dsimp only at hSW
          go_simp
          try with_reducible rfl
        try simp only [Act.put, List.setIfInBounds_toArray, List.set_cons_zero, List.set_cons_succ]
        refine wpAnyL_take (i := 15) (oi := { dst := some 53, op := Op.nilCheck (Operand.tmp 52), type := 0, pos := "ref.go:174", after := #[{ on := 14, ground := Ground.data }], guard := none }) (v := ?v15_16) rfl (by kernel_rfl) (by kernel_rfl) (by kernel_rfl) (by kernel_rfl) (fun _ _ _ h => h) (Or.inl ⟨by rfl, ?h15_16⟩) (by assumption) ?r15_16
        case h15_16 =>
          intro W hSW
          try dsimp only at hSW
          go_simp
          try with_reducible rfl
        try simp only [Act.put, List.setIfInBounds_toArray, List.set_cons_zero, List.set_cons_succ]
        refine wpAnyL_take (i := 16) (oi := { dst := some 54, op := Op.fieldAddr 34 (Operand.tmp 53) 0, type := 0, pos := "ref.go:174", after := #[{ on := 15, ground := Ground.data }], guard := none }) (v := ?v16_17) rfl (by kernel_rfl) (by kernel_rfl) (by kernel_rfl) (by kernel_rfl) (fun _ _ _ h => h) (Or.inl ⟨by rfl, ?h16_17⟩) (by assumption) ?r16_17
        case h16_17 =>
          intro W hSW
          try dsimp only at hSW
          go_simp
          try with_reducible rfl
        try simp only [Act.put, List.setIfInBounds_toArray, List.set_cons_zero, List.set_cons_succ]
        refine wpAnyL_take (i := 17) (oi := { dst := some 55, op := Op.load 32 (Operand.tmp 54), type := 32, pos := "ref.go:174", after := #[{ on := 16, ground := Ground.data }], guard := none }) (v := ?v17_18) rfl (by kernel_rfl) (by kernel_rfl) (by kernel_rfl) (by kernel_rfl) (fun _ _ _ h => h) (Or.inl ⟨by rfl, ?h17_18⟩) (by assumption) ?r17_18
        case h17_18 =>
          intro W hSW
          try dsimp only at hSW
          have c0 := (HCC.out W hSW).1
          go_simp
          try with_reducible rfl
        try simp only [Act.put, List.setIfInBounds_toArray, List.set_cons_zero, List.set_cons_succ]
        refine wpAnyL_take (i := 18) (oi := { dst := some 56, op := Op.move (Operand.tmp 9), type := 3, pos := "ref.go:174", after := #[], guard := none }) (v := ?v18_19) rfl (by kernel_rfl) (by kernel_rfl) (by kernel_rfl) (by kernel_rfl) (fun _ _ _ h => h) (Or.inl ⟨by rfl, ?h18_19⟩) (by assumption) ?r18_19
        case h18_19 =>
          intro W hSW
          try dsimp only at hSW
          go_simp
          try with_reducible rfl
        try simp only [Act.put, List.setIfInBounds_toArray, List.set_cons_zero, List.set_cons_succ]
        refine wpAnyL_take (i := 19) (oi := { dst := some 57, op := Op.indexAddr 32 (Operand.tmp 55) (Operand.tmp 56), type := 0, pos := "ref.go:174", after := #[{ on := 17, ground := Ground.data }, { on := 18, ground := Ground.data }], guard := none }) (v := ?v19_20) rfl (by kernel_rfl) (by kernel_rfl) (by kernel_rfl) (by kernel_rfl) (fun _ _ _ h => h) (Or.inl ⟨by rfl, ?h19_20⟩) (by assumption) ?r19_20
        case h19_20 =>
          intro W hSW
          try dsimp only at hSW
          go_simp
          try with_reducible rfl
        try simp only [Act.put, List.setIfInBounds_toArray, List.set_cons_zero, List.set_cons_succ]
        refine wpAnyL_take (i := 20) (oi := { dst := some 58, op := Op.load 45 (Operand.tmp 57), type := 45, pos := "ref.go:174", after := #[{ on := 19, ground := Ground.data }], guard := none }) (v := (.agg cs.toArray)) rfl (by kernel_rfl) (by kernel_rfl) (by kernel_rfl) (by kernel_rfl) (fun _ _ _ h => h) (yieldsIf_load_mid rfl 45 (.tmp 57) rfl g (k * 23) rfl cs _ (fun W hW => HRG.out W hW) Try.underlying45 rfl (by rw [HCL.out]; exact sizeCk)) (by assumption) ?_
        try simp only [Act.put, List.setIfInBounds_toArray, List.set_cons_zero, List.set_cons_succ]
        refine wpAnyL_take (i := 21) (oi := { dst := some 59, op := Op.move (Operand.tmp 2), type := 3, pos := "ref.go:174", after := #[], guard := none }) (v := ?v21_22) rfl (by kernel_rfl) (by kernel_rfl) (by kernel_rfl) (by kernel_rfl) (fun _ _ _ h => h) (Or.inl ⟨by rfl, ?h21_22⟩) (by assumption) ?r21_22
        case h21_22 =>
          intro W hSW
          try dsimp only at hSW
          go_simp
          try with_reducible rfl
        try simp only [Act.put, List.setIfInBounds_toArray, List.set_cons_zero, List.set_cons_succ]
        refine wpAnyL_take (i := 23) (oi := { dst := some 61, op := Op.move (Operand.tmp 3), type := 3, pos := "ref.go:174", after := #[], guard := none }) (v := ?v23_23) rfl (by kernel_rfl) (by kernel_rfl) (by kernel_rfl) (by kernel_rfl) (fun _ _ _ h => h) (Or.inl ⟨by rfl, ?h23_23⟩) (by assumption) ?r23_23
        case h23_23 =>
          intro W hSW
          try dsimp only at hSW
          go_simp
          try with_reducible rfl
        try simp only [Act.put, List.setIfInBounds_toArray, List.set_cons_zero, List.set_cons_succ]
        refine wpAnyL_ready (rs := [22]) (by kernel_rfl) (by simp) ?_
        refine AllReadyL.cons (o := { dst := some 60, op := Op.call { callee := Callee.value (Operand.func 53), args := #[Operand.tmp 58, Operand.tmp 59], argTypes := #[45, 3] }, type := 3, pos := "ref.go:174", after := #[{ on := 20, ground := Ground.data }, { on := 21, ground := Ground.data }], guard := none }) rfl (fun K hK => ?_) AllReadyL.nil
        go_simp
        refine (HHH.out _ hv0).mono ?_
        rintro e w90 ⟨rfl, b90⟩
        have hv90 : Below w.heap.size w w90 := (hv0).trans (b90.mono (hv0).size)
        clear b90
        refine hK.out _ _ (hv90) (fun hHeld => ?_)
        clear hK K
        try simp only [Act.put, List.setIfInBounds_toArray, List.set_cons_zero, List.set_cons_succ]
        refine wpAnyL_take (i := 24) (oi := { dst := some 62, op := Op.binOp BinOp.add 3 (Operand.tmp 60) (Operand.tmp 61) 3, type := 3, pos := "ref.go:174", after := #[{ on := 22, ground := Ground.data }, { on := 23, ground := Ground.data }], guard := none }) (v := ?v24_24) rfl (by kernel_rfl) (by kernel_rfl) (by kernel_rfl) (by kernel_rfl) (fun _ _ _ h => h) (Or.inl ⟨by rfl, ?h24_24⟩) (by assumption) ?r24_24
        case h24_24 =>
          intro W hSW
          try dsimp only at hSW
          go_simp
          try with_reducible rfl
        try simp only [Act.put, List.setIfInBounds_toArray, List.set_cons_zero, List.set_cons_succ]
        refine wpAnyL_ready (rs := [25]) (by kernel_rfl) (by simp) ?_
        refine AllReadyL.cons (o := { dst := some 63, op := Op.call { callee := Callee.value (Operand.func 78), args := #[Operand.tmp 50, Operand.tmp 51, Operand.tmp 62], argTypes := #[43, 3, 3] }, type := 43, pos := "ref.go:174", after := #[{ on := 12, ground := Ground.data }, { on := 13, ground := Ground.data }, { on := 24, ground := Ground.data }, { on := 22, ground := Ground.chain }], guard := none }) rfl (fun K hK => ?_) AllReadyL.nil
        go_simp
        refine (HWW.out _ hv90).mono ?_
        rintro e w91 ⟨A', c', rfl, own', b91⟩
        have hv91 : Below w.heap.size w w91 := (hv90).trans (b91.mono (hv90).size)
        have HO := Lib.hid (own_base own' (hv90).size)
        have k22 := (HCC.out w91 hv91).2.1
        have f22 := (HCC.out w91 hv91).2.2
        have HBW := Lib.hid hv91
        clear b91 own'
        refine hK.out _ _ (hv91) (fun hHeld => ?_)
        clear hK K
        try simp only [Act.put, List.setIfInBounds_toArray, List.set_cons_zero, List.set_cons_succ]
        refine wpAnyL_take (i := 26) (oi := { dst := some 64, op := Op.indexAddr 32 (Operand.tmp 41) (Operand.tmp 42), type := 0, pos := "ref.go:174", after := #[{ on := 3, ground := Ground.data }, { on := 4, ground := Ground.data }, { on := 0, ground := Ground.phase }, { on := 1, ground := Ground.phase }, { on := 2, ground := Ground.phase }, { on := 3, ground := Ground.phase }, { on := 4, ground := Ground.phase }, { on := 5, ground := Ground.phase }, { on := 6, ground := Ground.phase }, { on := 7, ground := Ground.phase }, { on := 8, ground := Ground.phase }, { on := 9, ground := Ground.phase }, { on := 10, ground := Ground.phase }, { on := 11, ground := Ground.phase }, { on := 12, ground := Ground.phase }, { on := 13, ground := Ground.phase }, { on := 14, ground := Ground.phase }, { on := 15, ground := Ground.phase }, { on := 16, ground := Ground.phase }, { on := 17, ground := Ground.phase }, { on := 18, ground := Ground.phase }, { on := 19, ground := Ground.phase }, { on := 20, ground := Ground.phase }, { on := 21, ground := Ground.phase }, { on := 22, ground := Ground.phase }, { on := 23, ground := Ground.phase }, { on := 24, ground := Ground.phase }, { on := 25, ground := Ground.phase }], guard := none }) (v := ?v26_25) rfl (by kernel_rfl) (by kernel_rfl) (by kernel_rfl) (by kernel_rfl) (fun _ _ _ h => h) (Or.inl ⟨by rfl, ?h26_25⟩) (by assumption) ?r26_25
        case h26_25 =>
          intro W hSW
          try dsimp only at hSW
          go_simp
          try with_reducible rfl
        try simp only [Act.put, List.setIfInBounds_toArray, List.set_cons_zero, List.set_cons_succ]
        refine wpAnyL_take (i := 27) (oi := { dst := some 65, op := Op.fieldAddr 45 (Operand.tmp 64) 5, type := 0, pos := "ref.go:174", after := #[{ on := 26, ground := Ground.data }, { on := 0, ground := Ground.phase }, { on := 1, ground := Ground.phase }, { on := 2, ground := Ground.phase }, { on := 3, ground := Ground.phase }, { on := 4, ground := Ground.phase }, { on := 5, ground := Ground.phase }, { on := 6, ground := Ground.phase }, { on := 7, ground := Ground.phase }, { on := 8, ground := Ground.phase }, { on := 9, ground := Ground.phase }, { on := 10, ground := Ground.phase }, { on := 11, ground := Ground.phase }, { on := 12, ground := Ground.phase }, { on := 13, ground := Ground.phase }, { on := 14, ground := Ground.phase }, { on := 15, ground := Ground.phase }, { on := 16, ground := Ground.phase }, { on := 17, ground := Ground.phase }, { on := 18, ground := Ground.phase }, { on := 19, ground := Ground.phase }, { on := 20, ground := Ground.phase }, { on := 21, ground := Ground.phase }, { on := 22, ground := Ground.phase }, { on := 23, ground := Ground.phase }, { on := 24, ground := Ground.phase }, { on := 25, ground := Ground.phase }], guard := none }) (v := ?v27_26) rfl (by kernel_rfl) (by kernel_rfl) (by kernel_rfl) (by kernel_rfl) (fun _ _ _ h => h) (Or.inl ⟨by rfl, ?h27_26⟩) (by assumption) ?r27_26
        case h27_26 =>
          intro W hSW
          try dsimp only at hSW
          go_simp
          try with_reducible rfl
        try simp only [Act.put, List.setIfInBounds_toArray, List.set_cons_zero, List.set_cons_succ]
        refine wpAnyL_ready (rs := [28]) (by kernel_rfl) (by simp) ?_
        refine AllReadyL.late (o := { dst := none, op := Op.store 43 (Operand.tmp 65) (Operand.tmp 63), type := 0, pos := "ref.go:174", after := #[{ on := 27, ground := Ground.data }, { on := 25, ground := Ground.data }, { on := 25, ground := Ground.chain }, { on := 0, ground := Ground.phase }, { on := 1, ground := Ground.phase }, { on := 2, ground := Ground.phase }, { on := 3, ground := Ground.phase }, { on := 4, ground := Ground.phase }, { on := 5, ground := Ground.phase }, { on := 6, ground := Ground.phase }, { on := 7, ground := Ground.phase }, { on := 8, ground := Ground.phase }, { on := 9, ground := Ground.phase }, { on := 10, ground := Ground.phase }, { on := 11, ground := Ground.phase }, { on := 12, ground := Ground.phase }, { on := 13, ground := Ground.phase }, { on := 14, ground := Ground.phase }, { on := 15, ground := Ground.phase }, { on := 16, ground := Ground.phase }, { on := 17, ground := Ground.phase }, { on := 18, ground := Ground.phase }, { on := 19, ground := Ground.phase }, { on := 20, ground := Ground.phase }, { on := 21, ground := Ground.phase }, { on := 22, ground := Ground.phase }, { on := 23, ground := Ground.phase }, { on := 24, ground := Ground.phase }, { on := 25, ground := Ground.phase }], guard := none }) rfl (by rfl) (fun K hK => ?_) AllReadyL.nil
        go_simp
        have HEX := Lib.hid (HRE.out w91 A' c' HBW.out HO.out)
        try clear k22 f22 e3
        refine hK.out _ _ ?_
        clear hK K
        try simp only [Act.put, List.setIfInBounds_toArray, List.set_cons_zero, List.set_cons_succ]
        refine wpAnyL_done (by kernel_rfl) ?_ _
        go_wp2
        go_ret
        obtain ⟨F', h1, h2, h3, h4⟩ := HEX.out
        exact ⟨rfl, F', S, h1, h2, h3, fun _ h => .inl h, h4⟩
end Go.Proofs.Ytcicfneekmbamaa
