/- collect.Next: the two stripes with the fewest live chunks, if they fit together. Conditions: at most 65536 rows, at most 100000 stripes. -/
import Derived.Test.YtihhkcndcgljbaaColH
namespace Go.Proofs.Ytihhkcndcgljbaa
set_option linter.unusedVariables false
set_option linter.unusedSimpArgs false
open Go.RowKit
theorem resultRRT {P : Program} {fn : Func} {p q u : Tmp} {t1 t2 : TypeId} (h : fn.results = #[.cell p t1, .cell q t2, .tmp u]) (tmps : Array Value) (w : World) {b1 b2 u1 u2 : Nat} {f1 f2 : Array Field} {l1 l2 : List Value}
    (hp : tmps.getD p undef = .pointer (some ⟨b1, 0, none⟩)) (hq : tmps.getD q undef = .pointer (some ⟨b2, 0, none⟩)) (c1 : IsRow w b1 u1 l1) (c2 : IsRow w b2 u2 l2)
    (hu1 : P.underlying t1 = some (.struct f1)) (hi1 : (P.info? t1).map (·.size) = some l1.length) (hu2 : P.underlying t2 = some (.struct f2)) (hi2 : (P.info? t2).map (·.size) = some l2.length) :
    (results fn tmps).run P w = .ok (.tuple #[.agg l1.toArray, .agg l2.toArray, tmps.getD u undef]) w := by
  have hp' : tmps[p]?.getD undef = .pointer (some ⟨b1, 0, none⟩) := by simpa using hp
  have hq' : tmps[q]?.getD undef = .pointer (some ⟨b2, 0, none⟩) := by simpa using hq
  simp [results, h, hp', hq', asAddr, run_loadVar_row w b1 u1 t1 l1.toArray (0, 0) _ c1 hu1 rfl (by simpa using hi1), run_loadVar_row w b2 u2 t2 l2.toArray (0, 0) _ c2 hu2 rfl (by simpa using hi2)]
abbrev st25 (s : Int × Int) : Value := .agg #[.int .i64 s.1, .int .i64 s.2]
def nextV : Option ((Int × Int) × (Int × Int)) → Value
  | none => .tuple #[st25 (0, 0), st25 (0, 0), .bool false]
  | some (a, b) => .tuple #[st25 a, st25 b, .bool true]
namespace Col
theorem nextF_0 {ss : List St} {l : List Chk.Ck} {d : Int} {v : Nat → Int} (hv : (fun k => cnt l ((nzl l ss).getD k (0, 0))) = v) {n : Nat} (hn : (nzl l ss).length = n) (h : sm v none n = none) : nextF ss l d = none := by
  unfold nextF two; rw [hv, hn, h]
theorem nextF_1 {ss : List St} {l : List Chk.Ck} {d : Int} {v : Nat → Int} (hv : (fun k => cnt l ((nzl l ss).getD k (0, 0))) = v) {n a : Nat} (hn : (nzl l ss).length = n) (h : sm v none n = some a) (h2 : sm v (some a) n = none) : nextF ss l d = none := by
  unfold nextF two; rw [hv, hn, h]; dsimp only; rw [h2]
theorem nextF_2 {ss : List St} {l : List Chk.Ck} {d : Int} {v : Nat → Int} (hv : (fun k => cnt l ((nzl l ss).getD k (0, 0))) = v) {n a b : Nat} (hn : (nzl l ss).length = n) (h : sm v none n = some a) (h2 : sm v (some a) n = some b) : nextF ss l d = if 1 ≤ d ∧ d ≤ 32 ∧ v a + v b ≤ d then some ((nzl l ss).getD a (0, 0), (nzl l ss).getD b (0, 0)) else none := by
  unfold nextF two; rw [hv, hn, h]; dsimp only; rw [h2]; subst hv; rfl
end Col
/-- DeleteFunc on what Loads gives -/
theorem delLds (base n : Nat) (l : List Chk.Ck) (ss : List (Int × Int)) (hss : ss.length = n) (hn9 : n ≤ 100000) (N : Nat) (hN : (Col.nzl l ss).length = N) (A : Option Addr) (c : Nat) (w : World) (hbase : base ≤ w.heap.size) (ho : w.ownsRow base 39 3 (.slice A n c) n (ldLs l ss)) :
    Calls Try.prog 27 #[.slice A n c, del25] w fun e w' => ∃ A2, e = .returned (.slice A2 N c) ∧ w'.ownsRow base 39 3 (.slice A2 N c) N ((lds l (Col.nzl l ss)).flatMap Ld.L) ∧ Below base w w' := by
  rw [ldLs_eq] at ho
  have := deleteLd base A n c (lds l ss) (by rw [lds_len, hss]) hn9 w hbase ho
  unfold DelLdIs at this
  rw [lds_nz, lds_len, hN] at this
  exact this
theorem lds_get (l : List Chk.Ck) (ss : List (Int × Int)) (k : Nat) (hk : k < (lds l ss).length) : (lds l ss)[k] = ⟨(ss.getD k (0, 0)).1, (ss.getD k (0, 0)).2, Col.cnt l (ss.getD k (0, 0))⟩ := by
  have h2 : k < ss.length := by rw [← lds_len l ss]; exact hk
  simp only [lds, List.getElem_map, Col.getD_get _ h2]
theorem ld_cells {w : World} {B N : Nat} {A : Option Addr} {l : List Chk.Ck} {ss : List (Int × Int)} (h : Rd w B 3 A N ((lds l ss).flatMap Ld.L)) {k : Nat} (hk : k < ss.length) (hn : k < N) {s : Int × Int} (hs : ss.getD k (0, 0) = s) : ∃ b off, A = some ⟨b, off, none⟩ ∧ b < B ∧ w.cell? ⟨b, off + k * 3, none⟩ = some (.int .i64 s.1) ∧ w.cell? ⟨b, off + k * 3 + 1, none⟩ = some (.int .i64 s.2) ∧ w.cell? ⟨b, off + k * 3 + 2, none⟩ = some (.int .i64 (Col.cnt l s)) := by
  have hk2 : k < (lds l ss).length := by rw [lds_len]; exact hk
  obtain ⟨b, off, hA, hb, hr⟩ := h.elem (f := Ld.L) (fun _ _ => rfl) hk2 hn
  rw [lds_get l ss k hk2, hs] at hr
  exact ⟨b, off, hA, hb, hr 0 _ rfl, hr 1 _ rfl, hr 2 _ rfl⟩
set_option maxRecDepth 100000 in
set_option maxHeartbeats 3200000 in
theorem next_any {w : World} {B m cp : Nat} {A : Option Addr} {D : List S.RR} {rs : List S.Str.Rw} (h : S.RowsAt w B A m D rs) (hB : B ≤ w.heap.size) (hmc : m ≤ cp) {F T : Nat → Prop} {a : Nat} {t : TM} {l : List Chk.Ck} (ht : TAt w F T a t l)
    (c : Int) (ss : List (Int × Int)) (hss : Col.lss c rs = ss) (hn9 : ss.length ≤ 100000) (d : Int) :
    Calls Try.prog 8 #[.slice A m cp, .pointer (some ⟨a, 0, none⟩), .int .i64 c, .int .i64 d] w fun e w' => e = .returned (nextV (Col.nextF ss l d)) ∧ Below w.heap.size w w' := by
  obtain ⟨n, hn⟩ : ∃ n, ss.length = n := ⟨_, rfl⟩
  rw [hn] at hn9
  have HLD := Lib.hid (fun (W : World) (hW : Below w.heap.size w W) => loads_any (h.below (hW.mono hB)) (Nat.le_trans hB hW.size) hmc (ht.below hW) c ss hss n hn hn9)
  obtain ⟨N, hN⟩ : ∃ N, (Col.nzl l ss).length = N := ⟨_, rfl⟩
  have hN9 : N ≤ 100000 := by rw [← hN]; have : (Col.nzl l ss).length ≤ ss.length := List.length_filter_le _ _; omega
  have HDL := Lib.hid (fun (base : Nat) (A : Option Addr) (c : Nat) (W : World) => delLds base n l ss hn hn9 N hN A c W)
  obtain ⟨v, hv⟩ : ∃ v, (fun k => Col.cnt l ((Col.nzl l ss).getD k (0, 0))) = v := ⟨_, rfl⟩
  have HVE := Lib.hid hv
  have HNN := Lib.hid hN
  have hDv : ∀ k (hk : k < (lds l (Col.nzl l ss)).length), (lds l (Col.nzl l ss))[k].n = v k := fun k hk => by
    rw [lds_get _ _ k hk, ← hv]
  have HSM := Lib.hid (fun (W : World) (A : Option Addr) (c : Nat) (hr : Rd W W.heap.size 3 A N ((lds l (Col.nzl l ss)).flatMap Ld.L)) (bo : Option Nat) (bi : Int) (hbi : Col.ix bo = bi) => smallestLd A N c (lds l (Col.nzl l ss)) (by rw [lds_len, hN]) hN9 v hDv bo W hr bi hbi)
  have HID := Lib.hid (fun W => isData_any d _ rfl W)
  have HVL : Hid (∀ k, v k ≤ 32 ∧ 0 ≤ v k) := Lib.hid fun k => by rw [← hv]; exact ⟨Col.cnt_le _ _, Col.cnt_nonneg _ _⟩
  obtain ⟨sa, hsa⟩ : ∃ x, Col.sm v none N = x := ⟨_, rfl⟩
  obtain ⟨sb, hsb⟩ : ∃ x, Col.sm v sa N = x := ⟨_, rfl⟩
  have HSA := Lib.hid hsa
  have HSB := Lib.hid hsb
  obtain ⟨NV, hNV⟩ : ∃ x, Col.nextF ss l d = x := ⟨_, rfl⟩
  rw [hNV]
  have HNV := Lib.hid hNV
  clear h hB ht hss hn hN hv hDv hsa hsb hNV
  go_enter Try.func8, Try.ntmps8
  go_upto_region 1 with (first
    | (have tk := rzA; refine wpList_allocRow rfl _ rfl _ infoS25 ?_; intro w2 rzB bB zB)
    | (refine wpList_allocRow rfl _ rfl _ infoS25 ?_; intro w1 rzA bA zA))
  have hb2 : Below w.heap.size w w2 := bA.trans (bB.mono bA.size)
  have rzA2 := rzA.below' bB
  obtain ⟨ba, hba⟩ : ∃ x, w.heap.size = x := ⟨_, rfl⟩
  have hab : ba < w1.heap.size := by rw [zA, hba]; omega
  obtain ⟨bb, hb1⟩ : ∃ x, ba + 1 = x := ⟨_, rfl⟩
  have hbb : w1.heap.size = bb := by rw [zA, hba, hb1]
  rw [hba] at rzA2
  rw [hbb] at rzB
  have hsz2 : bb < w2.heap.size := by rw [zB, hbb]; omega
  have HBX : Hid (w.heap.size = ba ∧ ba < bb ∧ bb < w2.heap.size ∧ Below w.heap.size w w2) := Lib.hid ⟨hba, by omega, hsz2, hb2⟩
  have HRA := Lib.hid rzA2
  have HRB := Lib.hid rzB
  rw [hba, hb1]
  clear rzA bA zA rzB bB zB hb2 rzA2 hba hab hbb hsz2 hb1
  go_upto_region 2 with (first
    | (go_at_call 9; refine (HLD.out _ HBX.out.2.2.2).mono ?_; rintro e w3 ⟨A3, c3, rfl, own3, b3⟩; clear HLD)
    | (go_at_call 27; refine (HDL.out _ _ _ _ b3.size own3).mono ?_; rintro e w4 ⟨A4, rfl, own4, b4⟩))
  have HR4 := Lib.hid (Rd.of_own own4)
  have HB4 := Lib.hid (b3.trans b4)
  have HLO := Lib.hid (own_block_lt own4)
  clear own3 b3 own4 b4 HDL
  go_upto_region 4 with (go_at_call 30; refine (HSM.out _ _ _ HR4.out none (-1) rfl).mono ?_; rintro e w5 ⟨rfl, b5⟩; rw [HSA.out])
  have HB5 := Lib.hid b5
  clear b5
  go_upto_region 5 with (go_at_call 30; refine (HSM.out _ _ _ ((HR4.out.below HB5.out).more HB5.out.size) sa _ rfl).mono ?_; rintro e w6 ⟨rfl, b6⟩; rw [HSB.out])
  have HB6 := Lib.hid (HB4.out.trans ((HB5.out.trans (b6.mono HB5.out.size)).mono HB4.out.size))
  have HR6 := Lib.hid ((((HR4.out.below HB5.out).more HB5.out.size).below b6).more b6.size)
  replace HRA := Lib.hid (HRA.out.below' HB6.out)
  replace HRB := Lib.hid (HRB.out.below' HB6.out)
  have HLT6 : Hid (ba < w6.heap.size ∧ bb < w6.heap.size ∧ Below w.heap.size w w6) := Lib.hid ⟨HRA.out.lt, HRB.out.lt, HBX.out.2.2.2.trans (HB6.out.mono HBX.out.2.2.2.size)⟩
  clear b6 HB4 HB5 HR4 HSM
  cases sa with
  | none =>
    obtain rfl : sb = none := by rw [← HSB.out]; exact HSA.out
    obtain rfl : NV = none := by rw [← HNV.out]; exact Col.nextF_0 HVE.out HNN.out HSA.out
    unfold Col.ix
    dsimp only
    have hv0 : Below w6.heap.size w6 w6.drew := (Below.refl _ _).drew
    refine wp_region_held_drew (S := fun W => Below w6.heap.size w6 W) (by kernel_rfl) (hv0) (fun hHeld => ?_)
    obtain ⟨wd, hwd⟩ : ∃ x, w6.drew = x := ⟨_, rfl⟩
    rw [hwd] at hv0 hHeld  ⊢
    clear hwd
    refine wpAnyH_take (i := 0) (oi := { dst := some 27, op := Op.move (Operand.tmp 13), type := 3, pos := "collect.go:83", after := #[], guard := none }) (v := ?v0_1) rfl (by kernel_rfl) (by kernel_rfl) (by kernel_rfl) (fun _ _ _ h => h) (Or.inl ⟨by rfl, ?h0_1⟩) (by assumption) ?r0_1
    case h0_1 =>
      intro W hSW
      try dsimp only at hSW
      go_simp
      try with_reducible rfl
    try simp only [Act.put, List.setIfInBounds_toArray, List.set_cons_zero, List.set_cons_succ]
    refine wpAnyH_take (i := 1) (oi := { dst := some 28, op := Op.binOp BinOp.lss 3 (Operand.tmp 27) (Operand.const (Value.int IntKind.i64 0)) 3, type := 4, pos := "collect.go:83", after := #[{ on := 0, ground := Ground.data }], guard := none }) (v := ?v1_2) rfl (by kernel_rfl) (by kernel_rfl) (by kernel_rfl) (fun _ _ _ h => h) (Or.inl ⟨by rfl, ?h1_2⟩) (by assumption) ?r1_2
    case h1_2 =>
      intro W hSW
      try dsimp only at hSW
      go_simp
      try with_reducible rfl
    try simp only [Act.put, List.setIfInBounds_toArray, List.set_cons_zero, List.set_cons_succ]
    refine wpAnyH_take (i := 2) (oi := { dst := some 29, op := Op.move (Operand.tmp 28), type := 4, pos := "collect.go:83", after := #[{ on := 1, ground := Ground.data }], guard := none }) (v := ?v2_3) rfl (by kernel_rfl) (by kernel_rfl) (by kernel_rfl) (fun _ _ _ h => h) (Or.inl ⟨by rfl, ?h2_3⟩) (by assumption) ?r2_3
    case h2_3 =>
      intro W hSW
      try dsimp only at hSW
      go_simp
      try with_reducible rfl
    try simp only [Act.put, List.setIfInBounds_toArray, List.set_cons_zero, List.set_cons_succ]
    refine wpAnyH_take (i := 3) (oi := { dst := some 30, op := Op.move (Operand.tmp 14), type := 3, pos := "collect.go:83", after := #[{ on := 2, ground := Ground.guard }], guard := some (2, false) }) (v := undef) rfl (by kernel_rfl) (by kernel_rfl) (by kernel_rfl) (fun _ _ _ h => h) (Or.inr ⟨by rfl, rfl⟩) (by assumption) ?_
    try simp only [Act.put, List.setIfInBounds_toArray, List.set_cons_zero, List.set_cons_succ]
    refine wpAnyH_take (i := 4) (oi := { dst := some 31, op := Op.binOp BinOp.lss 3 (Operand.tmp 30) (Operand.const (Value.int IntKind.i64 0)) 3, type := 4, pos := "collect.go:83", after := #[{ on := 3, ground := Ground.data }, { on := 2, ground := Ground.guard }], guard := some (2, false) }) (v := undef) rfl (by kernel_rfl) (by kernel_rfl) (by kernel_rfl) (fun _ _ _ h => h) (Or.inr ⟨by rfl, rfl⟩) (by assumption) ?_
    try simp only [Act.put, List.setIfInBounds_toArray, List.set_cons_zero, List.set_cons_succ]
    refine wpAnyH_take (i := 5) (oi := { dst := some 32, op := Op.pick (Operand.tmp 29) (Operand.const (Value.bool true)) (Operand.tmp 31), type := 4, pos := "collect.go:83", after := #[{ on := 2, ground := Ground.data }, { on := 4, ground := Ground.data }], guard := none }) (v := ?v5_6) rfl (by kernel_rfl) (by kernel_rfl) (by kernel_rfl) (fun _ _ _ h => h) (Or.inl ⟨by rfl, ?h5_6⟩) (by assumption) ?r5_6
    case h5_6 =>
      intro W hSW
      try dsimp only at hSW
      go_simp
      try with_reducible rfl
    try simp only [Act.put, List.setIfInBounds_toArray, List.set_cons_zero, List.set_cons_succ]
    refine wpAnyH_take (i := 6) (oi := { dst := some 33, op := Op.move (Operand.tmp 32), type := 4, pos := "collect.go:83", after := #[{ on := 5, ground := Ground.data }, { on := 2, ground := Ground.chain }], guard := none }) (v := ?v6_7) rfl (by kernel_rfl) (by kernel_rfl) (by kernel_rfl) (fun _ _ _ h => h) (Or.inl ⟨by rfl, ?h6_7⟩) (by assumption) ?r6_7
    case h6_7 =>
      intro W hSW
      try dsimp only at hSW
      go_simp
      try with_reducible rfl
    try simp only [Act.put, List.setIfInBounds_toArray, List.set_cons_zero, List.set_cons_succ]
    refine wpAnyH_take (i := 7) (oi := { dst := some 34, op := Op.move (Operand.tmp 3), type := 3, pos := "collect.go:83", after := #[{ on := 6, ground := Ground.guard }], guard := some (6, false) }) (v := undef) rfl (by kernel_rfl) (by kernel_rfl) (by kernel_rfl) (fun _ _ _ h => h) (Or.inr ⟨by rfl, rfl⟩) (by assumption) ?_
    try simp only [Act.put, List.setIfInBounds_toArray, List.set_cons_zero, List.set_cons_succ]
    refine wpAnyH_take (i := 8) (oi := { dst := some 35, op := Op.call { callee := Callee.value (Operand.func 31), args := #[Operand.tmp 34], argTypes := #[3] }, type := 4, pos := "collect.go:83", after := #[{ on := 7, ground := Ground.data }, { on := 6, ground := Ground.chain }, { on := 6, ground := Ground.guard }], guard := some (6, false) }) (v := undef) rfl (by kernel_rfl) (by kernel_rfl) (by kernel_rfl) (fun _ _ _ h => h) (Or.inr ⟨by rfl, rfl⟩) (by assumption) ?_
    try simp only [Act.put, List.setIfInBounds_toArray, List.set_cons_zero, List.set_cons_succ]
    refine wpAnyH_take (i := 9) (oi := { dst := some 36, op := Op.unOp UnOp.not 4 (Operand.tmp 35), type := 4, pos := "collect.go:83", after := #[{ on := 8, ground := Ground.data }, { on := 6, ground := Ground.guard }], guard := some (6, false) }) (v := undef) rfl (by kernel_rfl) (by kernel_rfl) (by kernel_rfl) (fun _ _ _ h => h) (Or.inr ⟨by rfl, rfl⟩) (by assumption) ?_
    try simp only [Act.put, List.setIfInBounds_toArray, List.set_cons_zero, List.set_cons_succ]
    refine wpAnyH_take (i := 10) (oi := { dst := some 37, op := Op.pick (Operand.tmp 33) (Operand.const (Value.bool true)) (Operand.tmp 36), type := 4, pos := "collect.go:83", after := #[{ on := 6, ground := Ground.data }, { on := 9, ground := Ground.data }], guard := none }) (v := ?v10_11) rfl (by kernel_rfl) (by kernel_rfl) (by kernel_rfl) (fun _ _ _ h => h) (Or.inl ⟨by rfl, ?h10_11⟩) (by assumption) ?r10_11
    case h10_11 =>
      intro W hSW
      try dsimp only at hSW
      go_simp
      try with_reducible rfl
    try simp only [Act.put, List.setIfInBounds_toArray, List.set_cons_zero, List.set_cons_succ]
    refine wpAnyH_take (i := 11) (oi := { dst := some 38, op := Op.move (Operand.tmp 37), type := 4, pos := "collect.go:83", after := #[{ on := 10, ground := Ground.data }, { on := 8, ground := Ground.chain }], guard := none }) (v := ?v11_12) rfl (by kernel_rfl) (by kernel_rfl) (by kernel_rfl) (fun _ _ _ h => h) (Or.inl ⟨by rfl, ?h11_12⟩) (by assumption) ?r11_12
    case h11_12 =>
      intro W hSW
      try dsimp only at hSW
      go_simp
      try with_reducible rfl
    try simp only [Act.put, List.setIfInBounds_toArray, List.set_cons_zero, List.set_cons_succ]
    refine wpAnyH_take (i := 12) (oi := { dst := some 39, op := Op.move (Operand.tmp 11), type := 36, pos := "collect.go:83", after := #[{ on := 11, ground := Ground.guard }], guard := some (11, false) }) (v := undef) rfl (by kernel_rfl) (by kernel_rfl) (by kernel_rfl) (fun _ _ _ h => h) (Or.inr ⟨by rfl, rfl⟩) (by assumption) ?_
    try simp only [Act.put, List.setIfInBounds_toArray, List.set_cons_zero, List.set_cons_succ]
    refine wpAnyH_take (i := 13) (oi := { dst := some 40, op := Op.move (Operand.tmp 13), type := 3, pos := "collect.go:83", after := #[{ on := 11, ground := Ground.guard }], guard := some (11, false) }) (v := undef) rfl (by kernel_rfl) (by kernel_rfl) (by kernel_rfl) (fun _ _ _ h => h) (Or.inr ⟨by rfl, rfl⟩) (by assumption) ?_
    try simp only [Act.put, List.setIfInBounds_toArray, List.set_cons_zero, List.set_cons_succ]
    refine wpAnyH_take (i := 14) (oi := { dst := some 41, op := Op.indexAddr 36 (Operand.tmp 39) (Operand.tmp 40), type := 0, pos := "collect.go:83", after := #[{ on := 12, ground := Ground.data }, { on := 13, ground := Ground.data }, { on := 11, ground := Ground.guard }], guard := some (11, false) }) (v := undef) rfl (by kernel_rfl) (by kernel_rfl) (by kernel_rfl) (fun _ _ _ h => h) (Or.inr ⟨by rfl, rfl⟩) (by assumption) ?_
    try simp only [Act.put, List.setIfInBounds_toArray, List.set_cons_zero, List.set_cons_succ]
    refine wpAnyH_take (i := 15) (oi := { dst := some 42, op := Op.fieldAddr 39 (Operand.tmp 41) 1, type := 0, pos := "collect.go:83", after := #[{ on := 14, ground := Ground.data }, { on := 11, ground := Ground.guard }], guard := some (11, false) }) (v := undef) rfl (by kernel_rfl) (by kernel_rfl) (by kernel_rfl) (fun _ _ _ h => h) (Or.inr ⟨by rfl, rfl⟩) (by assumption) ?_
    try simp only [Act.put, List.setIfInBounds_toArray, List.set_cons_zero, List.set_cons_succ]
    refine wpAnyH_take (i := 16) (oi := { dst := some 43, op := Op.load 3 (Operand.tmp 42), type := 3, pos := "collect.go:83", after := #[{ on := 15, ground := Ground.data }, { on := 11, ground := Ground.guard }], guard := some (11, false) }) (v := undef) rfl (by kernel_rfl) (by kernel_rfl) (by kernel_rfl) (fun _ _ _ h => h) (Or.inr ⟨by rfl, rfl⟩) (by assumption) ?_
    try simp only [Act.put, List.setIfInBounds_toArray, List.set_cons_zero, List.set_cons_succ]
    refine wpAnyH_take (i := 17) (oi := { dst := some 44, op := Op.move (Operand.tmp 11), type := 36, pos := "collect.go:83", after := #[{ on := 11, ground := Ground.guard }], guard := some (11, false) }) (v := undef) rfl (by kernel_rfl) (by kernel_rfl) (by kernel_rfl) (fun _ _ _ h => h) (Or.inr ⟨by rfl, rfl⟩) (by assumption) ?_
    try simp only [Act.put, List.setIfInBounds_toArray, List.set_cons_zero, List.set_cons_succ]
    refine wpAnyH_take (i := 18) (oi := { dst := some 45, op := Op.move (Operand.tmp 14), type := 3, pos := "collect.go:83", after := #[{ on := 11, ground := Ground.guard }], guard := some (11, false) }) (v := undef) rfl (by kernel_rfl) (by kernel_rfl) (by kernel_rfl) (fun _ _ _ h => h) (Or.inr ⟨by rfl, rfl⟩) (by assumption) ?_
    try simp only [Act.put, List.setIfInBounds_toArray, List.set_cons_zero, List.set_cons_succ]
    refine wpAnyH_take (i := 19) (oi := { dst := some 46, op := Op.indexAddr 36 (Operand.tmp 44) (Operand.tmp 45), type := 0, pos := "collect.go:83", after := #[{ on := 17, ground := Ground.data }, { on := 18, ground := Ground.data }, { on := 11, ground := Ground.guard }], guard := some (11, false) }) (v := undef) rfl (by kernel_rfl) (by kernel_rfl) (by kernel_rfl) (fun _ _ _ h => h) (Or.inr ⟨by rfl, rfl⟩) (by assumption) ?_
    try simp only [Act.put, List.setIfInBounds_toArray, List.set_cons_zero, List.set_cons_succ]
    refine wpAnyH_take (i := 20) (oi := { dst := some 47, op := Op.fieldAddr 39 (Operand.tmp 46) 1, type := 0, pos := "collect.go:83", after := #[{ on := 19, ground := Ground.data }, { on := 11, ground := Ground.guard }], guard := some (11, false) }) (v := undef) rfl (by kernel_rfl) (by kernel_rfl) (by kernel_rfl) (fun _ _ _ h => h) (Or.inr ⟨by rfl, rfl⟩) (by assumption) ?_
    try simp only [Act.put, List.setIfInBounds_toArray, List.set_cons_zero, List.set_cons_succ]
    refine wpAnyH_take (i := 21) (oi := { dst := some 48, op := Op.load 3 (Operand.tmp 47), type := 3, pos := "collect.go:83", after := #[{ on := 20, ground := Ground.data }, { on := 11, ground := Ground.guard }], guard := some (11, false) }) (v := undef) rfl (by kernel_rfl) (by kernel_rfl) (by kernel_rfl) (fun _ _ _ h => h) (Or.inr ⟨by rfl, rfl⟩) (by assumption) ?_
    try simp only [Act.put, List.setIfInBounds_toArray, List.set_cons_zero, List.set_cons_succ]
    refine wpAnyH_take (i := 22) (oi := { dst := some 49, op := Op.binOp BinOp.add 3 (Operand.tmp 43) (Operand.tmp 48) 3, type := 3, pos := "collect.go:83", after := #[{ on := 16, ground := Ground.data }, { on := 21, ground := Ground.data }, { on := 11, ground := Ground.guard }], guard := some (11, false) }) (v := undef) rfl (by kernel_rfl) (by kernel_rfl) (by kernel_rfl) (fun _ _ _ h => h) (Or.inr ⟨by rfl, rfl⟩) (by assumption) ?_
    try simp only [Act.put, List.setIfInBounds_toArray, List.set_cons_zero, List.set_cons_succ]
    refine wpAnyH_take (i := 23) (oi := { dst := some 50, op := Op.move (Operand.tmp 3), type := 3, pos := "collect.go:83", after := #[{ on := 11, ground := Ground.guard }], guard := some (11, false) }) (v := undef) rfl (by kernel_rfl) (by kernel_rfl) (by kernel_rfl) (fun _ _ _ h => h) (Or.inr ⟨by rfl, rfl⟩) (by assumption) ?_
    try simp only [Act.put, List.setIfInBounds_toArray, List.set_cons_zero, List.set_cons_succ]
    refine wpAnyH_take (i := 24) (oi := { dst := some 51, op := Op.binOp BinOp.gtr 3 (Operand.tmp 49) (Operand.tmp 50) 3, type := 4, pos := "collect.go:83", after := #[{ on := 22, ground := Ground.data }, { on := 23, ground := Ground.data }, { on := 11, ground := Ground.guard }], guard := some (11, false) }) (v := undef) rfl (by kernel_rfl) (by kernel_rfl) (by kernel_rfl) (fun _ _ _ h => h) (Or.inr ⟨by rfl, rfl⟩) (by assumption) ?_
    try simp only [Act.put, List.setIfInBounds_toArray, List.set_cons_zero, List.set_cons_succ]
    refine wpAnyH_take (i := 25) (oi := { dst := some 52, op := Op.pick (Operand.tmp 38) (Operand.const (Value.bool true)) (Operand.tmp 51), type := 4, pos := "collect.go:83", after := #[{ on := 11, ground := Ground.data }, { on := 24, ground := Ground.data }], guard := none }) (v := ?v25_26) rfl (by kernel_rfl) (by kernel_rfl) (by kernel_rfl) (fun _ _ _ h => h) (Or.inl ⟨by rfl, ?h25_26⟩) (by assumption) ?r25_26
    case h25_26 =>
      intro W hSW
      try dsimp only at hSW
      go_simp
      try with_reducible rfl
    try simp only [Act.put, List.setIfInBounds_toArray, List.set_cons_zero, List.set_cons_succ]
    refine wpAnyH_done (by kernel_rfl) ?_ _
    have HB7 := Lib.hid (hv0)
    replace HRA := Lib.hid (HRA.out.below' HB7.out)
    replace HRB := Lib.hid (HRB.out.below' HB7.out)
    replace HLT6 : Hid (ba < wd.heap.size ∧ bb < wd.heap.size ∧ Below w.heap.size w wd) := Lib.hid ⟨HRA.out.lt, HRB.out.lt, HLT6.out.2.2.trans (HB7.out.mono HLT6.out.2.2.size)⟩
    go_wp2_with (first
      | (refine wpList_storeRow rfl _ (.tmp 8) (.tmp 53) rfl (l' := [.int .i64 0, .int .i64 0]) HRA.out rfl rfl sizeS25 rfl rfl ?_; intro w8 rz8 g8 z8; have rB8 := HRB.out.grown g8 (fun e => by have := HBX.out.2.1; have := Option.some.inj e; omega))
      | (refine wpList_storeRow rfl _ (.tmp 9) (.tmp 54) rfl (l' := [.int .i64 0, .int .i64 0]) rB8 rfl rfl sizeS25 rfl rfl ?_; intro w9 rz9 g9 z9; have rA9 := rz8.grown g9 (fun e => by have := HBX.out.2.1; have := Option.some.inj e; omega)))
    refine bodyPost_ret (resultRRT rfl _ _ rfl rfl rA9 rz9 Try.underlying32 sizeS25 Try.underlying32 sizeS25) rfl ?_
    exact ⟨rfl, (HLT6.out.2.2.grown g8 HLT6.out.2.2.size (fun i hi => by have := Option.some.inj hi; have := HBX.out.1; omega)).grown g9 (by rw [z8]; exact HLT6.out.2.2.size) (fun i hi => by have := Option.some.inj hi; have := HBX.out.1; have := HBX.out.2.1; omega)⟩
  | some a =>
    cases sb with
    | none =>
      obtain rfl : NV = none := by rw [← HNV.out]; exact Col.nextF_1 HVE.out HNN.out HSA.out HSB.out
      have e5 : decide ((a : Int) < 0) = false := by rw [decide_eq_false_iff_not]; omega
      unfold Col.ix
      dsimp only
      have hv0 : Below w6.heap.size w6 w6.drew := (Below.refl _ _).drew
      refine wp_region_held_drew (S := fun W => Below w6.heap.size w6 W) (by kernel_rfl) (hv0) (fun hHeld => ?_)
      obtain ⟨wd, hwd⟩ : ∃ x, w6.drew = x := ⟨_, rfl⟩
      rw [hwd] at hv0 hHeld  ⊢
      clear hwd
      refine wpAnyH_take (i := 0) (oi := { dst := some 27, op := Op.move (Operand.tmp 13), type := 3, pos := "collect.go:83", after := #[], guard := none }) (v := ?v0_101) rfl (by kernel_rfl) (by kernel_rfl) (by kernel_rfl) (fun _ _ _ h => h) (Or.inl ⟨by rfl, ?h0_101⟩) (by assumption) ?r0_101
      case h0_101 =>
        intro W hSW
        try dsimp only at hSW
        go_simp
        try with_reducible rfl
      try simp only [Act.put, List.setIfInBounds_toArray, List.set_cons_zero, List.set_cons_succ]
      refine wpAnyH_take (i := 1) (oi := { dst := some 28, op := Op.binOp BinOp.lss 3 (Operand.tmp 27) (Operand.const (Value.int IntKind.i64 0)) 3, type := 4, pos := "collect.go:83", after := #[{ on := 0, ground := Ground.data }], guard := none }) (v := ?v1_102) rfl (by kernel_rfl) (by kernel_rfl) (by kernel_rfl) (fun _ _ _ h => h) (Or.inl ⟨by rfl, ?h1_102⟩) (by assumption) ?r1_102
      case h1_102 =>
        intro W hSW
        try dsimp only at hSW
        go_simp
        try with_reducible rfl
      try simp only [Act.put, List.setIfInBounds_toArray, List.set_cons_zero, List.set_cons_succ]
      refine wpAnyH_take (i := 2) (oi := { dst := some 29, op := Op.move (Operand.tmp 28), type := 4, pos := "collect.go:83", after := #[{ on := 1, ground := Ground.data }], guard := none }) (v := ?v2_103) rfl (by kernel_rfl) (by kernel_rfl) (by kernel_rfl) (fun _ _ _ h => h) (Or.inl ⟨by rfl, ?h2_103⟩) (by assumption) ?r2_103
      case h2_103 =>
        intro W hSW
        try dsimp only at hSW
        go_simp
        try with_reducible rfl
      try simp only [Act.put, List.setIfInBounds_toArray, List.set_cons_zero, List.set_cons_succ]
      refine wpAnyH_take (i := 3) (oi := { dst := some 30, op := Op.move (Operand.tmp 14), type := 3, pos := "collect.go:83", after := #[{ on := 2, ground := Ground.guard }], guard := some (2, false) }) (v := ?v3_104) rfl (by kernel_rfl) (by kernel_rfl) (by kernel_rfl) (fun _ _ _ h => h) (Or.inl ⟨by rfl, ?h3_104⟩) (by assumption) ?r3_104
      case h3_104 =>
        intro W hSW
        try dsimp only at hSW
        go_simp
        try with_reducible rfl
      try simp only [Act.put, List.setIfInBounds_toArray, List.set_cons_zero, List.set_cons_succ]
      refine wpAnyH_take (i := 4) (oi := { dst := some 31, op := Op.binOp BinOp.lss 3 (Operand.tmp 30) (Operand.const (Value.int IntKind.i64 0)) 3, type := 4, pos := "collect.go:83", after := #[{ on := 3, ground := Ground.data }, { on := 2, ground := Ground.guard }], guard := some (2, false) }) (v := ?v4_105) rfl (by kernel_rfl) (by kernel_rfl) (by kernel_rfl) (fun _ _ _ h => h) (Or.inl ⟨by rfl, ?h4_105⟩) (by assumption) ?r4_105
      case h4_105 =>
        intro W hSW
        try dsimp only at hSW
        go_simp
        try with_reducible rfl
      try simp only [Act.put, List.setIfInBounds_toArray, List.set_cons_zero, List.set_cons_succ]
      refine wpAnyH_take (i := 5) (oi := { dst := some 32, op := Op.pick (Operand.tmp 29) (Operand.const (Value.bool true)) (Operand.tmp 31), type := 4, pos := "collect.go:83", after := #[{ on := 2, ground := Ground.data }, { on := 4, ground := Ground.data }], guard := none }) (v := ?v5_106) rfl (by kernel_rfl) (by kernel_rfl) (by kernel_rfl) (fun _ _ _ h => h) (Or.inl ⟨by rfl, ?h5_106⟩) (by assumption) ?r5_106
      case h5_106 =>
        intro W hSW
        try dsimp only at hSW
        go_simp
        try with_reducible rfl
      try simp only [Act.put, List.setIfInBounds_toArray, List.set_cons_zero, List.set_cons_succ]
      refine wpAnyH_take (i := 6) (oi := { dst := some 33, op := Op.move (Operand.tmp 32), type := 4, pos := "collect.go:83", after := #[{ on := 5, ground := Ground.data }, { on := 2, ground := Ground.chain }], guard := none }) (v := ?v6_107) rfl (by kernel_rfl) (by kernel_rfl) (by kernel_rfl) (fun _ _ _ h => h) (Or.inl ⟨by rfl, ?h6_107⟩) (by assumption) ?r6_107
      case h6_107 =>
        intro W hSW
        try dsimp only at hSW
        go_simp
        try with_reducible rfl
      try simp only [Act.put, List.setIfInBounds_toArray, List.set_cons_zero, List.set_cons_succ]
      refine wpAnyH_take (i := 7) (oi := { dst := some 34, op := Op.move (Operand.tmp 3), type := 3, pos := "collect.go:83", after := #[{ on := 6, ground := Ground.guard }], guard := some (6, false) }) (v := undef) rfl (by kernel_rfl) (by kernel_rfl) (by kernel_rfl) (fun _ _ _ h => h) (Or.inr ⟨by rfl, rfl⟩) (by assumption) ?_
      try simp only [Act.put, List.setIfInBounds_toArray, List.set_cons_zero, List.set_cons_succ]
      refine wpAnyH_take (i := 8) (oi := { dst := some 35, op := Op.call { callee := Callee.value (Operand.func 31), args := #[Operand.tmp 34], argTypes := #[3] }, type := 4, pos := "collect.go:83", after := #[{ on := 7, ground := Ground.data }, { on := 6, ground := Ground.chain }, { on := 6, ground := Ground.guard }], guard := some (6, false) }) (v := undef) rfl (by kernel_rfl) (by kernel_rfl) (by kernel_rfl) (fun _ _ _ h => h) (Or.inr ⟨by rfl, rfl⟩) (by assumption) ?_
      try simp only [Act.put, List.setIfInBounds_toArray, List.set_cons_zero, List.set_cons_succ]
      refine wpAnyH_take (i := 9) (oi := { dst := some 36, op := Op.unOp UnOp.not 4 (Operand.tmp 35), type := 4, pos := "collect.go:83", after := #[{ on := 8, ground := Ground.data }, { on := 6, ground := Ground.guard }], guard := some (6, false) }) (v := undef) rfl (by kernel_rfl) (by kernel_rfl) (by kernel_rfl) (fun _ _ _ h => h) (Or.inr ⟨by rfl, rfl⟩) (by assumption) ?_
      try simp only [Act.put, List.setIfInBounds_toArray, List.set_cons_zero, List.set_cons_succ]
      refine wpAnyH_take (i := 10) (oi := { dst := some 37, op := Op.pick (Operand.tmp 33) (Operand.const (Value.bool true)) (Operand.tmp 36), type := 4, pos := "collect.go:83", after := #[{ on := 6, ground := Ground.data }, { on := 9, ground := Ground.data }], guard := none }) (v := ?v10_111) rfl (by kernel_rfl) (by kernel_rfl) (by kernel_rfl) (fun _ _ _ h => h) (Or.inl ⟨by rfl, ?h10_111⟩) (by assumption) ?r10_111
      case h10_111 =>
        intro W hSW
        try dsimp only at hSW
        go_simp
        try with_reducible rfl
      try simp only [Act.put, List.setIfInBounds_toArray, List.set_cons_zero, List.set_cons_succ]
      refine wpAnyH_take (i := 11) (oi := { dst := some 38, op := Op.move (Operand.tmp 37), type := 4, pos := "collect.go:83", after := #[{ on := 10, ground := Ground.data }, { on := 8, ground := Ground.chain }], guard := none }) (v := ?v11_112) rfl (by kernel_rfl) (by kernel_rfl) (by kernel_rfl) (fun _ _ _ h => h) (Or.inl ⟨by rfl, ?h11_112⟩) (by assumption) ?r11_112
      case h11_112 =>
        intro W hSW
        try dsimp only at hSW
        go_simp
        try with_reducible rfl
      try simp only [Act.put, List.setIfInBounds_toArray, List.set_cons_zero, List.set_cons_succ]
      refine wpAnyH_take (i := 12) (oi := { dst := some 39, op := Op.move (Operand.tmp 11), type := 36, pos := "collect.go:83", after := #[{ on := 11, ground := Ground.guard }], guard := some (11, false) }) (v := undef) rfl (by kernel_rfl) (by kernel_rfl) (by kernel_rfl) (fun _ _ _ h => h) (Or.inr ⟨by rfl, rfl⟩) (by assumption) ?_
      try simp only [Act.put, List.setIfInBounds_toArray, List.set_cons_zero, List.set_cons_succ]
      refine wpAnyH_take (i := 13) (oi := { dst := some 40, op := Op.move (Operand.tmp 13), type := 3, pos := "collect.go:83", after := #[{ on := 11, ground := Ground.guard }], guard := some (11, false) }) (v := undef) rfl (by kernel_rfl) (by kernel_rfl) (by kernel_rfl) (fun _ _ _ h => h) (Or.inr ⟨by rfl, rfl⟩) (by assumption) ?_
      try simp only [Act.put, List.setIfInBounds_toArray, List.set_cons_zero, List.set_cons_succ]
      refine wpAnyH_take (i := 14) (oi := { dst := some 41, op := Op.indexAddr 36 (Operand.tmp 39) (Operand.tmp 40), type := 0, pos := "collect.go:83", after := #[{ on := 12, ground := Ground.data }, { on := 13, ground := Ground.data }, { on := 11, ground := Ground.guard }], guard := some (11, false) }) (v := undef) rfl (by kernel_rfl) (by kernel_rfl) (by kernel_rfl) (fun _ _ _ h => h) (Or.inr ⟨by rfl, rfl⟩) (by assumption) ?_
      try simp only [Act.put, List.setIfInBounds_toArray, List.set_cons_zero, List.set_cons_succ]
      refine wpAnyH_take (i := 15) (oi := { dst := some 42, op := Op.fieldAddr 39 (Operand.tmp 41) 1, type := 0, pos := "collect.go:83", after := #[{ on := 14, ground := Ground.data }, { on := 11, ground := Ground.guard }], guard := some (11, false) }) (v := undef) rfl (by kernel_rfl) (by kernel_rfl) (by kernel_rfl) (fun _ _ _ h => h) (Or.inr ⟨by rfl, rfl⟩) (by assumption) ?_
      try simp only [Act.put, List.setIfInBounds_toArray, List.set_cons_zero, List.set_cons_succ]
      refine wpAnyH_take (i := 16) (oi := { dst := some 43, op := Op.load 3 (Operand.tmp 42), type := 3, pos := "collect.go:83", after := #[{ on := 15, ground := Ground.data }, { on := 11, ground := Ground.guard }], guard := some (11, false) }) (v := undef) rfl (by kernel_rfl) (by kernel_rfl) (by kernel_rfl) (fun _ _ _ h => h) (Or.inr ⟨by rfl, rfl⟩) (by assumption) ?_
      try simp only [Act.put, List.setIfInBounds_toArray, List.set_cons_zero, List.set_cons_succ]
      refine wpAnyH_take (i := 17) (oi := { dst := some 44, op := Op.move (Operand.tmp 11), type := 36, pos := "collect.go:83", after := #[{ on := 11, ground := Ground.guard }], guard := some (11, false) }) (v := undef) rfl (by kernel_rfl) (by kernel_rfl) (by kernel_rfl) (fun _ _ _ h => h) (Or.inr ⟨by rfl, rfl⟩) (by assumption) ?_
      try simp only [Act.put, List.setIfInBounds_toArray, List.set_cons_zero, List.set_cons_succ]
      refine wpAnyH_take (i := 18) (oi := { dst := some 45, op := Op.move (Operand.tmp 14), type := 3, pos := "collect.go:83", after := #[{ on := 11, ground := Ground.guard }], guard := some (11, false) }) (v := undef) rfl (by kernel_rfl) (by kernel_rfl) (by kernel_rfl) (fun _ _ _ h => h) (Or.inr ⟨by rfl, rfl⟩) (by assumption) ?_
      try simp only [Act.put, List.setIfInBounds_toArray, List.set_cons_zero, List.set_cons_succ]
      refine wpAnyH_take (i := 19) (oi := { dst := some 46, op := Op.indexAddr 36 (Operand.tmp 44) (Operand.tmp 45), type := 0, pos := "collect.go:83", after := #[{ on := 17, ground := Ground.data }, { on := 18, ground := Ground.data }, { on := 11, ground := Ground.guard }], guard := some (11, false) }) (v := undef) rfl (by kernel_rfl) (by kernel_rfl) (by kernel_rfl) (fun _ _ _ h => h) (Or.inr ⟨by rfl, rfl⟩) (by assumption) ?_
      try simp only [Act.put, List.setIfInBounds_toArray, List.set_cons_zero, List.set_cons_succ]
      refine wpAnyH_take (i := 20) (oi := { dst := some 47, op := Op.fieldAddr 39 (Operand.tmp 46) 1, type := 0, pos := "collect.go:83", after := #[{ on := 19, ground := Ground.data }, { on := 11, ground := Ground.guard }], guard := some (11, false) }) (v := undef) rfl (by kernel_rfl) (by kernel_rfl) (by kernel_rfl) (fun _ _ _ h => h) (Or.inr ⟨by rfl, rfl⟩) (by assumption) ?_
      try simp only [Act.put, List.setIfInBounds_toArray, List.set_cons_zero, List.set_cons_succ]
      refine wpAnyH_take (i := 21) (oi := { dst := some 48, op := Op.load 3 (Operand.tmp 47), type := 3, pos := "collect.go:83", after := #[{ on := 20, ground := Ground.data }, { on := 11, ground := Ground.guard }], guard := some (11, false) }) (v := undef) rfl (by kernel_rfl) (by kernel_rfl) (by kernel_rfl) (fun _ _ _ h => h) (Or.inr ⟨by rfl, rfl⟩) (by assumption) ?_
      try simp only [Act.put, List.setIfInBounds_toArray, List.set_cons_zero, List.set_cons_succ]
      refine wpAnyH_take (i := 22) (oi := { dst := some 49, op := Op.binOp BinOp.add 3 (Operand.tmp 43) (Operand.tmp 48) 3, type := 3, pos := "collect.go:83", after := #[{ on := 16, ground := Ground.data }, { on := 21, ground := Ground.data }, { on := 11, ground := Ground.guard }], guard := some (11, false) }) (v := undef) rfl (by kernel_rfl) (by kernel_rfl) (by kernel_rfl) (fun _ _ _ h => h) (Or.inr ⟨by rfl, rfl⟩) (by assumption) ?_
      try simp only [Act.put, List.setIfInBounds_toArray, List.set_cons_zero, List.set_cons_succ]
      refine wpAnyH_take (i := 23) (oi := { dst := some 50, op := Op.move (Operand.tmp 3), type := 3, pos := "collect.go:83", after := #[{ on := 11, ground := Ground.guard }], guard := some (11, false) }) (v := undef) rfl (by kernel_rfl) (by kernel_rfl) (by kernel_rfl) (fun _ _ _ h => h) (Or.inr ⟨by rfl, rfl⟩) (by assumption) ?_
      try simp only [Act.put, List.setIfInBounds_toArray, List.set_cons_zero, List.set_cons_succ]
      refine wpAnyH_take (i := 24) (oi := { dst := some 51, op := Op.binOp BinOp.gtr 3 (Operand.tmp 49) (Operand.tmp 50) 3, type := 4, pos := "collect.go:83", after := #[{ on := 22, ground := Ground.data }, { on := 23, ground := Ground.data }, { on := 11, ground := Ground.guard }], guard := some (11, false) }) (v := undef) rfl (by kernel_rfl) (by kernel_rfl) (by kernel_rfl) (fun _ _ _ h => h) (Or.inr ⟨by rfl, rfl⟩) (by assumption) ?_
      try simp only [Act.put, List.setIfInBounds_toArray, List.set_cons_zero, List.set_cons_succ]
      refine wpAnyH_take (i := 25) (oi := { dst := some 52, op := Op.pick (Operand.tmp 38) (Operand.const (Value.bool true)) (Operand.tmp 51), type := 4, pos := "collect.go:83", after := #[{ on := 11, ground := Ground.data }, { on := 24, ground := Ground.data }], guard := none }) (v := ?v25_126) rfl (by kernel_rfl) (by kernel_rfl) (by kernel_rfl) (fun _ _ _ h => h) (Or.inl ⟨by rfl, ?h25_126⟩) (by assumption) ?r25_126
      case h25_126 =>
        intro W hSW
        try dsimp only at hSW
        go_simp
        try with_reducible rfl
      try simp only [Act.put, List.setIfInBounds_toArray, List.set_cons_zero, List.set_cons_succ]
      refine wpAnyH_done (by kernel_rfl) ?_ _
      have HB7 := Lib.hid (hv0)
      replace HRA := Lib.hid (HRA.out.below' HB7.out)
      replace HRB := Lib.hid (HRB.out.below' HB7.out)
      replace HLT6 : Hid (ba < wd.heap.size ∧ bb < wd.heap.size ∧ Below w.heap.size w wd) := Lib.hid ⟨HRA.out.lt, HRB.out.lt, HLT6.out.2.2.trans (HB7.out.mono HLT6.out.2.2.size)⟩
      go_wp2_with (first
        | (refine wpList_storeRow rfl _ (.tmp 8) (.tmp 53) rfl (l' := [.int .i64 0, .int .i64 0]) HRA.out rfl rfl sizeS25 rfl rfl ?_; intro w8 rz8 g8 z8; have rB8 := HRB.out.grown g8 (fun e => by have := HBX.out.2.1; have := Option.some.inj e; omega))
        | (refine wpList_storeRow rfl _ (.tmp 9) (.tmp 54) rfl (l' := [.int .i64 0, .int .i64 0]) rB8 rfl rfl sizeS25 rfl rfl ?_; intro w9 rz9 g9 z9; have rA9 := rz8.grown g9 (fun e => by have := HBX.out.2.1; have := Option.some.inj e; omega)))
      refine bodyPost_ret (resultRRT rfl _ _ rfl rfl rA9 rz9 Try.underlying32 sizeS25 Try.underlying32 sizeS25) rfl ?_
      exact ⟨rfl, (HLT6.out.2.2.grown g8 HLT6.out.2.2.size (fun i hi => by have := Option.some.inj hi; have := HBX.out.1; omega)).grown g9 (by rw [z8]; exact HLT6.out.2.2.size) (fun i hi => by have := Option.some.inj hi; have := HBX.out.1; have := HBX.out.2.1; omega)⟩
    | some b =>
      have HNX := Lib.hid (HNV.out.symm.trans (Col.nextF_2 (d := d) HVE.out HNN.out HSA.out HSB.out))
      have haN := (Col.sm_some HSA.out).1
      have hbN := (Col.sm_some HSB.out).1
      obtain ⟨g, off, hA, hgl, ca0, ca1, ca2⟩ := ld_cells HR6.out (k := a) (by rw [HNN.out]; exact haN) haN rfl
      obtain ⟨g', off', hA', -, cb0, cb1, cb2⟩ := ld_cells HR6.out (k := b) (by rw [HNN.out]; exact hbN) hbN rfl
      subst hA
      obtain ⟨rfl, rfl⟩ : g = g' ∧ off = off' := by have := Option.some.inj hA'; exact ⟨congrArg Addr.block this, congrArg Addr.off this⟩
      have hva := congrFun HVE.out a
      have hvb := congrFun HVE.out b
      rw [hva] at ca2
      rw [hvb] at cb2
      have hla := HVL.out a
      have hlb := HVL.out b
      obtain ⟨s1, hs1⟩ : ∃ x, (Col.nzl l ss).getD a (0, 0) = x := ⟨_, rfl⟩
      obtain ⟨s2, hs2⟩ : ∃ x, (Col.nzl l ss).getD b (0, 0) = x := ⟨_, rfl⟩
      rw [hs1] at ca0 ca1
      rw [hs2] at cb0 cb1
      rw [hs1, hs2] at HNX
      obtain ⟨x, hx⟩ : ∃ x, v a = x := ⟨_, rfl⟩
      obtain ⟨y, hy⟩ : ∃ y, v b = y := ⟨_, rfl⟩
      rw [hx] at ca2 hla
      rw [hy] at cb2 hlb
      rw [hx, hy] at HNX
      have HCA := Lib.hid (And.intro hgl (And.intro ca0 (And.intro ca1 ca2)))
      have HCB := Lib.hid (And.intro cb0 (And.intro cb1 cb2))
      have hxy : IntKind.i64.wrap (x + y) = x + y := IntWalk.i64_in _ (by omega)
      have e3 : (0 : Int) ≤ (a : Int) := by omega
      have e4 : (a : Int) < (N : Int) := by omega
      have e5 : decide ((a : Int) < 0) = false := by rw [decide_eq_false_iff_not]; omega
      have e6 : (0 : Int) ≤ (b : Int) := by omega
      have e7 : (b : Int) < (N : Int) := by omega
      have e8 : decide ((b : Int) < 0) = false := by rw [decide_eq_false_iff_not]; omega
      have HGN : Hid (g ≠ ba ∧ g ≠ bb) := Lib.hid (by
        have h1 := (HLO.out _ rfl).1
        have h2 := HBX.out
        dsimp only at h1
        omega)
      unfold Col.ix
      dsimp only
      clear hA' ca0 ca1 ca2 cb0 cb1 cb2 hva hvb hs1 hs2 hx hy hgl haN hbN
      by_cases hd : 1 ≤ d ∧ d ≤ 32
      · have hdd : decide (1 ≤ d ∧ d ≤ 32) = true := by simp [hd]
        rw [hdd] at HID
        clear hdd
        by_cases hgt : d < x + y
        · obtain rfl : NV = none := by rw [HNX.out, if_neg (by omega)]
          have e9 : decide (d < x + y) = true := by simp [hgt]
          clear hd
          have hv0 : Below w6.heap.size w6 w6.drew := (Below.refl _ _).drew
          refine wp_region_held_drew (S := fun W => Below w6.heap.size w6 W) (by kernel_rfl) (hv0) (fun hHeld => ?_)
          obtain ⟨wd, hwd⟩ : ∃ x, w6.drew = x := ⟨_, rfl⟩
          rw [hwd] at hv0 hHeld  ⊢
          clear hwd
          refine wpAnyH_take (i := 0) (oi := { dst := some 27, op := Op.move (Operand.tmp 13), type := 3, pos := "collect.go:83", after := #[], guard := none }) (v := ?v0_301) rfl (by kernel_rfl) (by kernel_rfl) (by kernel_rfl) (fun _ _ _ h => h) (Or.inl ⟨by rfl, ?h0_301⟩) (by assumption) ?r0_301
          case h0_301 =>
            intro W hSW
            try dsimp only at hSW
            go_simp
            try with_reducible rfl
          try simp only [Act.put, List.setIfInBounds_toArray, List.set_cons_zero, List.set_cons_succ]
          refine wpAnyH_take (i := 1) (oi := { dst := some 28, op := Op.binOp BinOp.lss 3 (Operand.tmp 27) (Operand.const (Value.int IntKind.i64 0)) 3, type := 4, pos := "collect.go:83", after := #[{ on := 0, ground := Ground.data }], guard := none }) (v := ?v1_302) rfl (by kernel_rfl) (by kernel_rfl) (by kernel_rfl) (fun _ _ _ h => h) (Or.inl ⟨by rfl, ?h1_302⟩) (by assumption) ?r1_302
          case h1_302 =>
            intro W hSW
            try dsimp only at hSW
            go_simp
            try with_reducible rfl
          try simp only [Act.put, List.setIfInBounds_toArray, List.set_cons_zero, List.set_cons_succ]
          refine wpAnyH_take (i := 2) (oi := { dst := some 29, op := Op.move (Operand.tmp 28), type := 4, pos := "collect.go:83", after := #[{ on := 1, ground := Ground.data }], guard := none }) (v := ?v2_303) rfl (by kernel_rfl) (by kernel_rfl) (by kernel_rfl) (fun _ _ _ h => h) (Or.inl ⟨by rfl, ?h2_303⟩) (by assumption) ?r2_303
          case h2_303 =>
            intro W hSW
            try dsimp only at hSW
            go_simp
            try with_reducible rfl
          try simp only [Act.put, List.setIfInBounds_toArray, List.set_cons_zero, List.set_cons_succ]
          refine wpAnyH_take (i := 3) (oi := { dst := some 30, op := Op.move (Operand.tmp 14), type := 3, pos := "collect.go:83", after := #[{ on := 2, ground := Ground.guard }], guard := some (2, false) }) (v := ?v3_304) rfl (by kernel_rfl) (by kernel_rfl) (by kernel_rfl) (fun _ _ _ h => h) (Or.inl ⟨by rfl, ?h3_304⟩) (by assumption) ?r3_304
          case h3_304 =>
            intro W hSW
            try dsimp only at hSW
            go_simp
            try with_reducible rfl
          try simp only [Act.put, List.setIfInBounds_toArray, List.set_cons_zero, List.set_cons_succ]
          refine wpAnyH_take (i := 4) (oi := { dst := some 31, op := Op.binOp BinOp.lss 3 (Operand.tmp 30) (Operand.const (Value.int IntKind.i64 0)) 3, type := 4, pos := "collect.go:83", after := #[{ on := 3, ground := Ground.data }, { on := 2, ground := Ground.guard }], guard := some (2, false) }) (v := ?v4_305) rfl (by kernel_rfl) (by kernel_rfl) (by kernel_rfl) (fun _ _ _ h => h) (Or.inl ⟨by rfl, ?h4_305⟩) (by assumption) ?r4_305
          case h4_305 =>
            intro W hSW
            try dsimp only at hSW
            go_simp
            try with_reducible rfl
          try simp only [Act.put, List.setIfInBounds_toArray, List.set_cons_zero, List.set_cons_succ]
          refine wpAnyH_take (i := 5) (oi := { dst := some 32, op := Op.pick (Operand.tmp 29) (Operand.const (Value.bool true)) (Operand.tmp 31), type := 4, pos := "collect.go:83", after := #[{ on := 2, ground := Ground.data }, { on := 4, ground := Ground.data }], guard := none }) (v := ?v5_306) rfl (by kernel_rfl) (by kernel_rfl) (by kernel_rfl) (fun _ _ _ h => h) (Or.inl ⟨by rfl, ?h5_306⟩) (by assumption) ?r5_306
          case h5_306 =>
            intro W hSW
            try dsimp only at hSW
            go_simp
            try with_reducible rfl
          try simp only [Act.put, List.setIfInBounds_toArray, List.set_cons_zero, List.set_cons_succ]
          refine wpAnyH_take (i := 6) (oi := { dst := some 33, op := Op.move (Operand.tmp 32), type := 4, pos := "collect.go:83", after := #[{ on := 5, ground := Ground.data }, { on := 2, ground := Ground.chain }], guard := none }) (v := ?v6_307) rfl (by kernel_rfl) (by kernel_rfl) (by kernel_rfl) (fun _ _ _ h => h) (Or.inl ⟨by rfl, ?h6_307⟩) (by assumption) ?r6_307
          case h6_307 =>
            intro W hSW
            try dsimp only at hSW
            go_simp
            try with_reducible rfl
          try simp only [Act.put, List.setIfInBounds_toArray, List.set_cons_zero, List.set_cons_succ]
          refine wpAnyH_take (i := 7) (oi := { dst := some 34, op := Op.move (Operand.tmp 3), type := 3, pos := "collect.go:83", after := #[{ on := 6, ground := Ground.guard }], guard := some (6, false) }) (v := ?v7_308) rfl (by kernel_rfl) (by kernel_rfl) (by kernel_rfl) (fun _ _ _ h => h) (Or.inl ⟨by rfl, ?h7_308⟩) (by assumption) ?r7_308
          case h7_308 =>
            intro W hSW
            try dsimp only at hSW
            go_simp
            try with_reducible rfl
          try simp only [Act.put, List.setIfInBounds_toArray, List.set_cons_zero, List.set_cons_succ]
          refine wpAnyH_ready (rs := [8]) (by kernel_rfl) (by simp) ?_
          refine AllReadyH.cons (o := { dst := some 35, op := Op.call { callee := Callee.value (Operand.func 31), args := #[Operand.tmp 34], argTypes := #[3] }, type := 4, pos := "collect.go:83", after := #[{ on := 7, ground := Ground.data }, { on := 6, ground := Ground.chain }, { on := 6, ground := Ground.guard }], guard := some (6, false) }) rfl (fun K hK => ?_) AllReadyH.nil
          go_simp
          refine (HID.out _).mono ?_
          rintro e w1 ⟨rfl, hw1⟩
          have hv1 : Below w6.heap.size w6 w1 := by rw [hw1]; exact hv0
          clear hw1
          refine hK.out _ _ (hv1) (fun hHeld => ?_)
          clear hK K
          try simp only [Act.put, List.setIfInBounds_toArray, List.set_cons_zero, List.set_cons_succ]
          refine wpAnyH_take (i := 9) (oi := { dst := some 36, op := Op.unOp UnOp.not 4 (Operand.tmp 35), type := 4, pos := "collect.go:83", after := #[{ on := 8, ground := Ground.data }, { on := 6, ground := Ground.guard }], guard := some (6, false) }) (v := ?v9_309) rfl (by kernel_rfl) (by kernel_rfl) (by kernel_rfl) (fun _ _ _ h => h) (Or.inl ⟨by rfl, ?h9_309⟩) (by assumption) ?r9_309
          case h9_309 =>
            intro W hSW
            try dsimp only at hSW
            go_simp
            try with_reducible rfl
          try simp only [Act.put, List.setIfInBounds_toArray, List.set_cons_zero, List.set_cons_succ]
          refine wpAnyH_take (i := 10) (oi := { dst := some 37, op := Op.pick (Operand.tmp 33) (Operand.const (Value.bool true)) (Operand.tmp 36), type := 4, pos := "collect.go:83", after := #[{ on := 6, ground := Ground.data }, { on := 9, ground := Ground.data }], guard := none }) (v := ?v10_310) rfl (by kernel_rfl) (by kernel_rfl) (by kernel_rfl) (fun _ _ _ h => h) (Or.inl ⟨by rfl, ?h10_310⟩) (by assumption) ?r10_310
          case h10_310 =>
            intro W hSW
            try dsimp only at hSW
            go_simp
            try with_reducible rfl
          try simp only [Act.put, List.setIfInBounds_toArray, List.set_cons_zero, List.set_cons_succ]
          refine wpAnyH_take (i := 11) (oi := { dst := some 38, op := Op.move (Operand.tmp 37), type := 4, pos := "collect.go:83", after := #[{ on := 10, ground := Ground.data }, { on := 8, ground := Ground.chain }], guard := none }) (v := ?v11_311) rfl (by kernel_rfl) (by kernel_rfl) (by kernel_rfl) (fun _ _ _ h => h) (Or.inl ⟨by rfl, ?h11_311⟩) (by assumption) ?r11_311
          case h11_311 =>
            intro W hSW
            try dsimp only at hSW
            go_simp
            try with_reducible rfl
          try simp only [Act.put, List.setIfInBounds_toArray, List.set_cons_zero, List.set_cons_succ]
          refine wpAnyH_take (i := 12) (oi := { dst := some 39, op := Op.move (Operand.tmp 11), type := 36, pos := "collect.go:83", after := #[{ on := 11, ground := Ground.guard }], guard := some (11, false) }) (v := ?v12_312) rfl (by kernel_rfl) (by kernel_rfl) (by kernel_rfl) (fun _ _ _ h => h) (Or.inl ⟨by rfl, ?h12_312⟩) (by assumption) ?r12_312
          case h12_312 =>
            intro W hSW
            try dsimp only at hSW
            go_simp
            try with_reducible rfl
          try simp only [Act.put, List.setIfInBounds_toArray, List.set_cons_zero, List.set_cons_succ]
          refine wpAnyH_take (i := 13) (oi := { dst := some 40, op := Op.move (Operand.tmp 13), type := 3, pos := "collect.go:83", after := #[{ on := 11, ground := Ground.guard }], guard := some (11, false) }) (v := ?v13_313) rfl (by kernel_rfl) (by kernel_rfl) (by kernel_rfl) (fun _ _ _ h => h) (Or.inl ⟨by rfl, ?h13_313⟩) (by assumption) ?r13_313
          case h13_313 =>
            intro W hSW
            try dsimp only at hSW
            go_simp
            try with_reducible rfl
          try simp only [Act.put, List.setIfInBounds_toArray, List.set_cons_zero, List.set_cons_succ]
          refine wpAnyH_take (i := 14) (oi := { dst := some 41, op := Op.indexAddr 36 (Operand.tmp 39) (Operand.tmp 40), type := 0, pos := "collect.go:83", after := #[{ on := 12, ground := Ground.data }, { on := 13, ground := Ground.data }, { on := 11, ground := Ground.guard }], guard := some (11, false) }) (v := ?v14_314) rfl (by kernel_rfl) (by kernel_rfl) (by kernel_rfl) (fun _ _ _ h => h) (Or.inl ⟨by rfl, ?h14_314⟩) (by assumption) ?r14_314
          case h14_314 =>
            intro W hSW
            try dsimp only at hSW
            go_simp
            try with_reducible rfl
          try simp only [Act.put, List.setIfInBounds_toArray, List.set_cons_zero, List.set_cons_succ]
          refine wpAnyH_take (i := 15) (oi := { dst := some 42, op := Op.fieldAddr 39 (Operand.tmp 41) 1, type := 0, pos := "collect.go:83", after := #[{ on := 14, ground := Ground.data }, { on := 11, ground := Ground.guard }], guard := some (11, false) }) (v := ?v15_315) rfl (by kernel_rfl) (by kernel_rfl) (by kernel_rfl) (fun _ _ _ h => h) (Or.inl ⟨by rfl, ?h15_315⟩) (by assumption) ?r15_315
          case h15_315 =>
            intro W hSW
            try dsimp only at hSW
            go_simp
            try with_reducible rfl
          try simp only [Act.put, List.setIfInBounds_toArray, List.set_cons_zero, List.set_cons_succ]
          refine wpAnyH_take (i := 16) (oi := { dst := some 43, op := Op.load 3 (Operand.tmp 42), type := 3, pos := "collect.go:83", after := #[{ on := 15, ground := Ground.data }, { on := 11, ground := Ground.guard }], guard := some (11, false) }) (v := ?v16_316) rfl (by kernel_rfl) (by kernel_rfl) (by kernel_rfl) (fun _ _ _ h => h) (Or.inl ⟨by rfl, ?h16_316⟩) (by assumption) ?r16_316
          case h16_316 =>
            intro W hSW
            try dsimp only at hSW
            have c2 := (hSW.cell (p := ⟨g, off + a * 3 + 2, none⟩) HCA.out.1).trans HCA.out.2.2.2
            go_simp
            try with_reducible rfl
          try simp only [Act.put, List.setIfInBounds_toArray, List.set_cons_zero, List.set_cons_succ]
          refine wpAnyH_take (i := 17) (oi := { dst := some 44, op := Op.move (Operand.tmp 11), type := 36, pos := "collect.go:83", after := #[{ on := 11, ground := Ground.guard }], guard := some (11, false) }) (v := ?v17_317) rfl (by kernel_rfl) (by kernel_rfl) (by kernel_rfl) (fun _ _ _ h => h) (Or.inl ⟨by rfl, ?h17_317⟩) (by assumption) ?r17_317
          case h17_317 =>
            intro W hSW
            try dsimp only at hSW
            go_simp
            try with_reducible rfl
          try simp only [Act.put, List.setIfInBounds_toArray, List.set_cons_zero, List.set_cons_succ]
          refine wpAnyH_take (i := 18) (oi := { dst := some 45, op := Op.move (Operand.tmp 14), type := 3, pos := "collect.go:83", after := #[{ on := 11, ground := Ground.guard }], guard := some (11, false) }) (v := ?v18_318) rfl (by kernel_rfl) (by kernel_rfl) (by kernel_rfl) (fun _ _ _ h => h) (Or.inl ⟨by rfl, ?h18_318⟩) (by assumption) ?r18_318
          case h18_318 =>
            intro W hSW
            try dsimp only at hSW
            go_simp
            try with_reducible rfl
          try simp only [Act.put, List.setIfInBounds_toArray, List.set_cons_zero, List.set_cons_succ]
          refine wpAnyH_take (i := 19) (oi := { dst := some 46, op := Op.indexAddr 36 (Operand.tmp 44) (Operand.tmp 45), type := 0, pos := "collect.go:83", after := #[{ on := 17, ground := Ground.data }, { on := 18, ground := Ground.data }, { on := 11, ground := Ground.guard }], guard := some (11, false) }) (v := ?v19_319) rfl (by kernel_rfl) (by kernel_rfl) (by kernel_rfl) (fun _ _ _ h => h) (Or.inl ⟨by rfl, ?h19_319⟩) (by assumption) ?r19_319
          case h19_319 =>
            intro W hSW
            try dsimp only at hSW
            go_simp
            try with_reducible rfl
          try simp only [Act.put, List.setIfInBounds_toArray, List.set_cons_zero, List.set_cons_succ]
          refine wpAnyH_take (i := 20) (oi := { dst := some 47, op := Op.fieldAddr 39 (Operand.tmp 46) 1, type := 0, pos := "collect.go:83", after := #[{ on := 19, ground := Ground.data }, { on := 11, ground := Ground.guard }], guard := some (11, false) }) (v := ?v20_320) rfl (by kernel_rfl) (by kernel_rfl) (by kernel_rfl) (fun _ _ _ h => h) (Or.inl ⟨by rfl, ?h20_320⟩) (by assumption) ?r20_320
          case h20_320 =>
            intro W hSW
            try dsimp only at hSW
            go_simp
            try with_reducible rfl
          try simp only [Act.put, List.setIfInBounds_toArray, List.set_cons_zero, List.set_cons_succ]
          refine wpAnyH_take (i := 21) (oi := { dst := some 48, op := Op.load 3 (Operand.tmp 47), type := 3, pos := "collect.go:83", after := #[{ on := 20, ground := Ground.data }, { on := 11, ground := Ground.guard }], guard := some (11, false) }) (v := ?v21_321) rfl (by kernel_rfl) (by kernel_rfl) (by kernel_rfl) (fun _ _ _ h => h) (Or.inl ⟨by rfl, ?h21_321⟩) (by assumption) ?r21_321
          case h21_321 =>
            intro W hSW
            try dsimp only at hSW
            have c2 := (hSW.cell (p := ⟨g, off + b * 3 + 2, none⟩) HCA.out.1).trans HCB.out.2.2
            go_simp
            try with_reducible rfl
          try simp only [Act.put, List.setIfInBounds_toArray, List.set_cons_zero, List.set_cons_succ]
          refine wpAnyH_take (i := 22) (oi := { dst := some 49, op := Op.binOp BinOp.add 3 (Operand.tmp 43) (Operand.tmp 48) 3, type := 3, pos := "collect.go:83", after := #[{ on := 16, ground := Ground.data }, { on := 21, ground := Ground.data }, { on := 11, ground := Ground.guard }], guard := some (11, false) }) (v := ?v22_322) rfl (by kernel_rfl) (by kernel_rfl) (by kernel_rfl) (fun _ _ _ h => h) (Or.inl ⟨by rfl, ?h22_322⟩) (by assumption) ?r22_322
          case h22_322 =>
            intro W hSW
            try dsimp only at hSW
            go_simp
            try with_reducible rfl
          try simp only [Act.put, List.setIfInBounds_toArray, List.set_cons_zero, List.set_cons_succ]
          refine wpAnyH_take (i := 23) (oi := { dst := some 50, op := Op.move (Operand.tmp 3), type := 3, pos := "collect.go:83", after := #[{ on := 11, ground := Ground.guard }], guard := some (11, false) }) (v := ?v23_323) rfl (by kernel_rfl) (by kernel_rfl) (by kernel_rfl) (fun _ _ _ h => h) (Or.inl ⟨by rfl, ?h23_323⟩) (by assumption) ?r23_323
          case h23_323 =>
            intro W hSW
            try dsimp only at hSW
            go_simp
            try with_reducible rfl
          try simp only [Act.put, List.setIfInBounds_toArray, List.set_cons_zero, List.set_cons_succ]
          refine wpAnyH_take (i := 24) (oi := { dst := some 51, op := Op.binOp BinOp.gtr 3 (Operand.tmp 49) (Operand.tmp 50) 3, type := 4, pos := "collect.go:83", after := #[{ on := 22, ground := Ground.data }, { on := 23, ground := Ground.data }, { on := 11, ground := Ground.guard }], guard := some (11, false) }) (v := ?v24_324) rfl (by kernel_rfl) (by kernel_rfl) (by kernel_rfl) (fun _ _ _ h => h) (Or.inl ⟨by rfl, ?h24_324⟩) (by assumption) ?r24_324
          case h24_324 =>
            intro W hSW
            try dsimp only at hSW
            go_simp
            try with_reducible rfl
          try simp only [Act.put, List.setIfInBounds_toArray, List.set_cons_zero, List.set_cons_succ]
          refine wpAnyH_take (i := 25) (oi := { dst := some 52, op := Op.pick (Operand.tmp 38) (Operand.const (Value.bool true)) (Operand.tmp 51), type := 4, pos := "collect.go:83", after := #[{ on := 11, ground := Ground.data }, { on := 24, ground := Ground.data }], guard := none }) (v := ?v25_325) rfl (by kernel_rfl) (by kernel_rfl) (by kernel_rfl) (fun _ _ _ h => h) (Or.inl ⟨by rfl, ?h25_325⟩) (by assumption) ?r25_325
          case h25_325 =>
            intro W hSW
            try dsimp only at hSW
            go_simp
            try with_reducible rfl
          try simp only [Act.put, List.setIfInBounds_toArray, List.set_cons_zero, List.set_cons_succ]
          refine wpAnyH_done (by kernel_rfl) ?_ _
          have HB7 := Lib.hid (hv1)
          replace HRA := Lib.hid (HRA.out.below' HB7.out)
          replace HRB := Lib.hid (HRB.out.below' HB7.out)
          replace HLT6 : Hid (ba < w1.heap.size ∧ bb < w1.heap.size ∧ Below w.heap.size w w1) := Lib.hid ⟨HRA.out.lt, HRB.out.lt, HLT6.out.2.2.trans (HB7.out.mono HLT6.out.2.2.size)⟩
          go_wp2_with (first
            | (refine wpList_storeRow rfl _ (.tmp 8) (.tmp 53) rfl (l' := [.int .i64 0, .int .i64 0]) HRA.out rfl rfl sizeS25 rfl rfl ?_; intro w8 rz8 g8 z8; have rB8 := HRB.out.grown g8 (fun e => by have := HBX.out.2.1; have := Option.some.inj e; omega))
            | (refine wpList_storeRow rfl _ (.tmp 9) (.tmp 54) rfl (l' := [.int .i64 0, .int .i64 0]) rB8 rfl rfl sizeS25 rfl rfl ?_; intro w9 rz9 g9 z9; have rA9 := rz8.grown g9 (fun e => by have := HBX.out.2.1; have := Option.some.inj e; omega)))
          refine bodyPost_ret (resultRRT rfl _ _ rfl rfl rA9 rz9 Try.underlying32 sizeS25 Try.underlying32 sizeS25) rfl ?_
          exact ⟨rfl, (HLT6.out.2.2.grown g8 HLT6.out.2.2.size (fun i hi => by have := Option.some.inj hi; have := HBX.out.1; omega)).grown g9 (by rw [z8]; exact HLT6.out.2.2.size) (fun i hi => by have := Option.some.inj hi; have := HBX.out.1; have := HBX.out.2.1; omega)⟩
        · obtain rfl : NV = some (s1, s2) := by rw [HNX.out, if_pos (by omega)]
          have e9 : decide (d < x + y) = false := by simp [hgt]
          clear hd
          have hv0 : Below w6.heap.size w6 w6.drew := (Below.refl _ _).drew
          refine wp_region_held_drew (S := fun W => Below w6.heap.size w6 W) (by kernel_rfl) (hv0) (fun hHeld => ?_)
          obtain ⟨wd, hwd⟩ : ∃ x, w6.drew = x := ⟨_, rfl⟩
          rw [hwd] at hv0 hHeld  ⊢
          clear hwd
          refine wpAnyH_take (i := 0) (oi := { dst := some 27, op := Op.move (Operand.tmp 13), type := 3, pos := "collect.go:83", after := #[], guard := none }) (v := ?v0_401) rfl (by kernel_rfl) (by kernel_rfl) (by kernel_rfl) (fun _ _ _ h => h) (Or.inl ⟨by rfl, ?h0_401⟩) (by assumption) ?r0_401
          case h0_401 =>
            intro W hSW
            try dsimp only at hSW
            go_simp
            try with_reducible rfl
          try simp only [Act.put, List.setIfInBounds_toArray, List.set_cons_zero, List.set_cons_succ]
          refine wpAnyH_take (i := 1) (oi := { dst := some 28, op := Op.binOp BinOp.lss 3 (Operand.tmp 27) (Operand.const (Value.int IntKind.i64 0)) 3, type := 4, pos := "collect.go:83", after := #[{ on := 0, ground := Ground.data }], guard := none }) (v := ?v1_402) rfl (by kernel_rfl) (by kernel_rfl) (by kernel_rfl) (fun _ _ _ h => h) (Or.inl ⟨by rfl, ?h1_402⟩) (by assumption) ?r1_402
          case h1_402 =>
            intro W hSW
            try dsimp only at hSW
            go_simp
            try with_reducible rfl
          try simp only [Act.put, List.setIfInBounds_toArray, List.set_cons_zero, List.set_cons_succ]
          refine wpAnyH_take (i := 2) (oi := { dst := some 29, op := Op.move (Operand.tmp 28), type := 4, pos := "collect.go:83", after := #[{ on := 1, ground := Ground.data }], guard := none }) (v := ?v2_403) rfl (by kernel_rfl) (by kernel_rfl) (by kernel_rfl) (fun _ _ _ h => h) (Or.inl ⟨by rfl, ?h2_403⟩) (by assumption) ?r2_403
          case h2_403 =>
            intro W hSW
            try dsimp only at hSW
            go_simp
            try with_reducible rfl
          try simp only [Act.put, List.setIfInBounds_toArray, List.set_cons_zero, List.set_cons_succ]
          refine wpAnyH_take (i := 3) (oi := { dst := some 30, op := Op.move (Operand.tmp 14), type := 3, pos := "collect.go:83", after := #[{ on := 2, ground := Ground.guard }], guard := some (2, false) }) (v := ?v3_404) rfl (by kernel_rfl) (by kernel_rfl) (by kernel_rfl) (fun _ _ _ h => h) (Or.inl ⟨by rfl, ?h3_404⟩) (by assumption) ?r3_404
          case h3_404 =>
            intro W hSW
            try dsimp only at hSW
            go_simp
            try with_reducible rfl
          try simp only [Act.put, List.setIfInBounds_toArray, List.set_cons_zero, List.set_cons_succ]
          refine wpAnyH_take (i := 4) (oi := { dst := some 31, op := Op.binOp BinOp.lss 3 (Operand.tmp 30) (Operand.const (Value.int IntKind.i64 0)) 3, type := 4, pos := "collect.go:83", after := #[{ on := 3, ground := Ground.data }, { on := 2, ground := Ground.guard }], guard := some (2, false) }) (v := ?v4_405) rfl (by kernel_rfl) (by kernel_rfl) (by kernel_rfl) (fun _ _ _ h => h) (Or.inl ⟨by rfl, ?h4_405⟩) (by assumption) ?r4_405
          case h4_405 =>
            intro W hSW
            try dsimp only at hSW
            go_simp
            try with_reducible rfl
          try simp only [Act.put, List.setIfInBounds_toArray, List.set_cons_zero, List.set_cons_succ]
          refine wpAnyH_take (i := 5) (oi := { dst := some 32, op := Op.pick (Operand.tmp 29) (Operand.const (Value.bool true)) (Operand.tmp 31), type := 4, pos := "collect.go:83", after := #[{ on := 2, ground := Ground.data }, { on := 4, ground := Ground.data }], guard := none }) (v := ?v5_406) rfl (by kernel_rfl) (by kernel_rfl) (by kernel_rfl) (fun _ _ _ h => h) (Or.inl ⟨by rfl, ?h5_406⟩) (by assumption) ?r5_406
          case h5_406 =>
            intro W hSW
            try dsimp only at hSW
            go_simp
            try with_reducible rfl
          try simp only [Act.put, List.setIfInBounds_toArray, List.set_cons_zero, List.set_cons_succ]
          refine wpAnyH_take (i := 6) (oi := { dst := some 33, op := Op.move (Operand.tmp 32), type := 4, pos := "collect.go:83", after := #[{ on := 5, ground := Ground.data }, { on := 2, ground := Ground.chain }], guard := none }) (v := ?v6_407) rfl (by kernel_rfl) (by kernel_rfl) (by kernel_rfl) (fun _ _ _ h => h) (Or.inl ⟨by rfl, ?h6_407⟩) (by assumption) ?r6_407
          case h6_407 =>
            intro W hSW
            try dsimp only at hSW
            go_simp
            try with_reducible rfl
          try simp only [Act.put, List.setIfInBounds_toArray, List.set_cons_zero, List.set_cons_succ]
          refine wpAnyH_take (i := 7) (oi := { dst := some 34, op := Op.move (Operand.tmp 3), type := 3, pos := "collect.go:83", after := #[{ on := 6, ground := Ground.guard }], guard := some (6, false) }) (v := ?v7_408) rfl (by kernel_rfl) (by kernel_rfl) (by kernel_rfl) (fun _ _ _ h => h) (Or.inl ⟨by rfl, ?h7_408⟩) (by assumption) ?r7_408
          case h7_408 =>
            intro W hSW
            try dsimp only at hSW
            go_simp
            try with_reducible rfl
          try simp only [Act.put, List.setIfInBounds_toArray, List.set_cons_zero, List.set_cons_succ]
          refine wpAnyH_ready (rs := [8]) (by kernel_rfl) (by simp) ?_
          refine AllReadyH.cons (o := { dst := some 35, op := Op.call { callee := Callee.value (Operand.func 31), args := #[Operand.tmp 34], argTypes := #[3] }, type := 4, pos := "collect.go:83", after := #[{ on := 7, ground := Ground.data }, { on := 6, ground := Ground.chain }, { on := 6, ground := Ground.guard }], guard := some (6, false) }) rfl (fun K hK => ?_) AllReadyH.nil
          go_simp
          refine (HID.out _).mono ?_
          rintro e w1 ⟨rfl, hw1⟩
          have hv1 : Below w6.heap.size w6 w1 := by rw [hw1]; exact hv0
          clear hw1
          refine hK.out _ _ (hv1) (fun hHeld => ?_)
          clear hK K
          try simp only [Act.put, List.setIfInBounds_toArray, List.set_cons_zero, List.set_cons_succ]
          refine wpAnyH_take (i := 9) (oi := { dst := some 36, op := Op.unOp UnOp.not 4 (Operand.tmp 35), type := 4, pos := "collect.go:83", after := #[{ on := 8, ground := Ground.data }, { on := 6, ground := Ground.guard }], guard := some (6, false) }) (v := ?v9_409) rfl (by kernel_rfl) (by kernel_rfl) (by kernel_rfl) (fun _ _ _ h => h) (Or.inl ⟨by rfl, ?h9_409⟩) (by assumption) ?r9_409
          case h9_409 =>
            intro W hSW
            try dsimp only at hSW
            go_simp
            try with_reducible rfl
          try simp only [Act.put, List.setIfInBounds_toArray, List.set_cons_zero, List.set_cons_succ]
          refine wpAnyH_take (i := 10) (oi := { dst := some 37, op := Op.pick (Operand.tmp 33) (Operand.const (Value.bool true)) (Operand.tmp 36), type := 4, pos := "collect.go:83", after := #[{ on := 6, ground := Ground.data }, { on := 9, ground := Ground.data }], guard := none }) (v := ?v10_410) rfl (by kernel_rfl) (by kernel_rfl) (by kernel_rfl) (fun _ _ _ h => h) (Or.inl ⟨by rfl, ?h10_410⟩) (by assumption) ?r10_410
          case h10_410 =>
            intro W hSW
            try dsimp only at hSW
            go_simp
            try with_reducible rfl
          try simp only [Act.put, List.setIfInBounds_toArray, List.set_cons_zero, List.set_cons_succ]
          refine wpAnyH_take (i := 11) (oi := { dst := some 38, op := Op.move (Operand.tmp 37), type := 4, pos := "collect.go:83", after := #[{ on := 10, ground := Ground.data }, { on := 8, ground := Ground.chain }], guard := none }) (v := ?v11_411) rfl (by kernel_rfl) (by kernel_rfl) (by kernel_rfl) (fun _ _ _ h => h) (Or.inl ⟨by rfl, ?h11_411⟩) (by assumption) ?r11_411
          case h11_411 =>
            intro W hSW
            try dsimp only at hSW
            go_simp
            try with_reducible rfl
          try simp only [Act.put, List.setIfInBounds_toArray, List.set_cons_zero, List.set_cons_succ]
          refine wpAnyH_take (i := 12) (oi := { dst := some 39, op := Op.move (Operand.tmp 11), type := 36, pos := "collect.go:83", after := #[{ on := 11, ground := Ground.guard }], guard := some (11, false) }) (v := ?v12_412) rfl (by kernel_rfl) (by kernel_rfl) (by kernel_rfl) (fun _ _ _ h => h) (Or.inl ⟨by rfl, ?h12_412⟩) (by assumption) ?r12_412
          case h12_412 =>
            intro W hSW
            try dsimp only at hSW
            go_simp
            try with_reducible rfl
          try simp only [Act.put, List.setIfInBounds_toArray, List.set_cons_zero, List.set_cons_succ]
          refine wpAnyH_take (i := 13) (oi := { dst := some 40, op := Op.move (Operand.tmp 13), type := 3, pos := "collect.go:83", after := #[{ on := 11, ground := Ground.guard }], guard := some (11, false) }) (v := ?v13_413) rfl (by kernel_rfl) (by kernel_rfl) (by kernel_rfl) (fun _ _ _ h => h) (Or.inl ⟨by rfl, ?h13_413⟩) (by assumption) ?r13_413
          case h13_413 =>
            intro W hSW
            try dsimp only at hSW
            go_simp
            try with_reducible rfl
          try simp only [Act.put, List.setIfInBounds_toArray, List.set_cons_zero, List.set_cons_succ]
          refine wpAnyH_take (i := 14) (oi := { dst := some 41, op := Op.indexAddr 36 (Operand.tmp 39) (Operand.tmp 40), type := 0, pos := "collect.go:83", after := #[{ on := 12, ground := Ground.data }, { on := 13, ground := Ground.data }, { on := 11, ground := Ground.guard }], guard := some (11, false) }) (v := ?v14_414) rfl (by kernel_rfl) (by kernel_rfl) (by kernel_rfl) (fun _ _ _ h => h) (Or.inl ⟨by rfl, ?h14_414⟩) (by assumption) ?r14_414
          case h14_414 =>
            intro W hSW
            try dsimp only at hSW
            go_simp
            try with_reducible rfl
          try simp only [Act.put, List.setIfInBounds_toArray, List.set_cons_zero, List.set_cons_succ]
          refine wpAnyH_take (i := 15) (oi := { dst := some 42, op := Op.fieldAddr 39 (Operand.tmp 41) 1, type := 0, pos := "collect.go:83", after := #[{ on := 14, ground := Ground.data }, { on := 11, ground := Ground.guard }], guard := some (11, false) }) (v := ?v15_415) rfl (by kernel_rfl) (by kernel_rfl) (by kernel_rfl) (fun _ _ _ h => h) (Or.inl ⟨by rfl, ?h15_415⟩) (by assumption) ?r15_415
          case h15_415 =>
            intro W hSW
            try dsimp only at hSW
            go_simp
            try with_reducible rfl
          try simp only [Act.put, List.setIfInBounds_toArray, List.set_cons_zero, List.set_cons_succ]
          refine wpAnyH_take (i := 16) (oi := { dst := some 43, op := Op.load 3 (Operand.tmp 42), type := 3, pos := "collect.go:83", after := #[{ on := 15, ground := Ground.data }, { on := 11, ground := Ground.guard }], guard := some (11, false) }) (v := ?v16_416) rfl (by kernel_rfl) (by kernel_rfl) (by kernel_rfl) (fun _ _ _ h => h) (Or.inl ⟨by rfl, ?h16_416⟩) (by assumption) ?r16_416
          case h16_416 =>
            intro W hSW
            try dsimp only at hSW
            have c2 := (hSW.cell (p := ⟨g, off + a * 3 + 2, none⟩) HCA.out.1).trans HCA.out.2.2.2
            go_simp
            try with_reducible rfl
          try simp only [Act.put, List.setIfInBounds_toArray, List.set_cons_zero, List.set_cons_succ]
          refine wpAnyH_take (i := 17) (oi := { dst := some 44, op := Op.move (Operand.tmp 11), type := 36, pos := "collect.go:83", after := #[{ on := 11, ground := Ground.guard }], guard := some (11, false) }) (v := ?v17_417) rfl (by kernel_rfl) (by kernel_rfl) (by kernel_rfl) (fun _ _ _ h => h) (Or.inl ⟨by rfl, ?h17_417⟩) (by assumption) ?r17_417
          case h17_417 =>
            intro W hSW
            try dsimp only at hSW
            go_simp
            try with_reducible rfl
          try simp only [Act.put, List.setIfInBounds_toArray, List.set_cons_zero, List.set_cons_succ]
          refine wpAnyH_take (i := 18) (oi := { dst := some 45, op := Op.move (Operand.tmp 14), type := 3, pos := "collect.go:83", after := #[{ on := 11, ground := Ground.guard }], guard := some (11, false) }) (v := ?v18_418) rfl (by kernel_rfl) (by kernel_rfl) (by kernel_rfl) (fun _ _ _ h => h) (Or.inl ⟨by rfl, ?h18_418⟩) (by assumption) ?r18_418
          case h18_418 =>
            intro W hSW
            try dsimp only at hSW
            go_simp
            try with_reducible rfl
          try simp only [Act.put, List.setIfInBounds_toArray, List.set_cons_zero, List.set_cons_succ]
          refine wpAnyH_take (i := 19) (oi := { dst := some 46, op := Op.indexAddr 36 (Operand.tmp 44) (Operand.tmp 45), type := 0, pos := "collect.go:83", after := #[{ on := 17, ground := Ground.data }, { on := 18, ground := Ground.data }, { on := 11, ground := Ground.guard }], guard := some (11, false) }) (v := ?v19_419) rfl (by kernel_rfl) (by kernel_rfl) (by kernel_rfl) (fun _ _ _ h => h) (Or.inl ⟨by rfl, ?h19_419⟩) (by assumption) ?r19_419
          case h19_419 =>
            intro W hSW
            try dsimp only at hSW
            go_simp
            try with_reducible rfl
          try simp only [Act.put, List.setIfInBounds_toArray, List.set_cons_zero, List.set_cons_succ]
          refine wpAnyH_take (i := 20) (oi := { dst := some 47, op := Op.fieldAddr 39 (Operand.tmp 46) 1, type := 0, pos := "collect.go:83", after := #[{ on := 19, ground := Ground.data }, { on := 11, ground := Ground.guard }], guard := some (11, false) }) (v := ?v20_420) rfl (by kernel_rfl) (by kernel_rfl) (by kernel_rfl) (fun _ _ _ h => h) (Or.inl ⟨by rfl, ?h20_420⟩) (by assumption) ?r20_420
          case h20_420 =>
            intro W hSW
            try dsimp only at hSW
            go_simp
            try with_reducible rfl
          try simp only [Act.put, List.setIfInBounds_toArray, List.set_cons_zero, List.set_cons_succ]
          refine wpAnyH_take (i := 21) (oi := { dst := some 48, op := Op.load 3 (Operand.tmp 47), type := 3, pos := "collect.go:83", after := #[{ on := 20, ground := Ground.data }, { on := 11, ground := Ground.guard }], guard := some (11, false) }) (v := ?v21_421) rfl (by kernel_rfl) (by kernel_rfl) (by kernel_rfl) (fun _ _ _ h => h) (Or.inl ⟨by rfl, ?h21_421⟩) (by assumption) ?r21_421
          case h21_421 =>
            intro W hSW
            try dsimp only at hSW
            have c2 := (hSW.cell (p := ⟨g, off + b * 3 + 2, none⟩) HCA.out.1).trans HCB.out.2.2
            go_simp
            try with_reducible rfl
          try simp only [Act.put, List.setIfInBounds_toArray, List.set_cons_zero, List.set_cons_succ]
          refine wpAnyH_take (i := 22) (oi := { dst := some 49, op := Op.binOp BinOp.add 3 (Operand.tmp 43) (Operand.tmp 48) 3, type := 3, pos := "collect.go:83", after := #[{ on := 16, ground := Ground.data }, { on := 21, ground := Ground.data }, { on := 11, ground := Ground.guard }], guard := some (11, false) }) (v := ?v22_422) rfl (by kernel_rfl) (by kernel_rfl) (by kernel_rfl) (fun _ _ _ h => h) (Or.inl ⟨by rfl, ?h22_422⟩) (by assumption) ?r22_422
          case h22_422 =>
            intro W hSW
            try dsimp only at hSW
            go_simp
            try with_reducible rfl
          try simp only [Act.put, List.setIfInBounds_toArray, List.set_cons_zero, List.set_cons_succ]
          refine wpAnyH_take (i := 23) (oi := { dst := some 50, op := Op.move (Operand.tmp 3), type := 3, pos := "collect.go:83", after := #[{ on := 11, ground := Ground.guard }], guard := some (11, false) }) (v := ?v23_423) rfl (by kernel_rfl) (by kernel_rfl) (by kernel_rfl) (fun _ _ _ h => h) (Or.inl ⟨by rfl, ?h23_423⟩) (by assumption) ?r23_423
          case h23_423 =>
            intro W hSW
            try dsimp only at hSW
            go_simp
            try with_reducible rfl
          try simp only [Act.put, List.setIfInBounds_toArray, List.set_cons_zero, List.set_cons_succ]
          refine wpAnyH_take (i := 24) (oi := { dst := some 51, op := Op.binOp BinOp.gtr 3 (Operand.tmp 49) (Operand.tmp 50) 3, type := 4, pos := "collect.go:83", after := #[{ on := 22, ground := Ground.data }, { on := 23, ground := Ground.data }, { on := 11, ground := Ground.guard }], guard := some (11, false) }) (v := ?v24_424) rfl (by kernel_rfl) (by kernel_rfl) (by kernel_rfl) (fun _ _ _ h => h) (Or.inl ⟨by rfl, ?h24_424⟩) (by assumption) ?r24_424
          case h24_424 =>
            intro W hSW
            try dsimp only at hSW
            go_simp
            try with_reducible rfl
          try simp only [Act.put, List.setIfInBounds_toArray, List.set_cons_zero, List.set_cons_succ]
          refine wpAnyH_take (i := 25) (oi := { dst := some 52, op := Op.pick (Operand.tmp 38) (Operand.const (Value.bool true)) (Operand.tmp 51), type := 4, pos := "collect.go:83", after := #[{ on := 11, ground := Ground.data }, { on := 24, ground := Ground.data }], guard := none }) (v := ?v25_425) rfl (by kernel_rfl) (by kernel_rfl) (by kernel_rfl) (fun _ _ _ h => h) (Or.inl ⟨by rfl, ?h25_425⟩) (by assumption) ?r25_425
          case h25_425 =>
            intro W hSW
            try dsimp only at hSW
            go_simp
            try with_reducible rfl
          try simp only [Act.put, List.setIfInBounds_toArray, List.set_cons_zero, List.set_cons_succ]
          refine wpAnyH_done (by kernel_rfl) ?_ _
          have HB7 := Lib.hid (hv1)
          replace HRA := Lib.hid (HRA.out.below' HB7.out)
          replace HRB := Lib.hid (HRB.out.below' HB7.out)
          replace HLT6 : Hid (ba < w1.heap.size ∧ bb < w1.heap.size ∧ Below w.heap.size w w1) := Lib.hid ⟨HRA.out.lt, HRB.out.lt, HLT6.out.2.2.trans (HB7.out.mono HLT6.out.2.2.size)⟩
          have HG7 : Hid (g < w1.heap.size ∧ ¬ (g = ba ∨ g = bb)) := Lib.hid ⟨Nat.lt_of_lt_of_le HCA.out.1 HB7.out.size, fun e => e.elim HGN.out.1 HGN.out.2⟩
          have HC7 : Hid (∀ o u, w6.cell? ⟨g, o, none⟩ = some u → w1.cell? ⟨g, o, none⟩ = some u) := Lib.hid fun o u h => (HB7.out.cell (p := ⟨g, _, none⟩) HCA.out.1).trans h
          go_upto_region 7 with fail
          have hv0 : Keep (fun q => q = ba ∨ q = bb) w1 w1.drew := Keep.of_below (Below.refl _ _).drew
          refine wp_region_held_drew (S := fun W => Keep (fun q => q = ba ∨ q = bb) w1 W) (by kernel_rfl) (hv0) (fun hHeld => ?_)
          refine wpAnyH_take (i := 0) (oi := { dst := some 55, op := Op.move (Operand.tmp 11), type := 36, pos := "collect.go:86", after := #[], guard := none }) (v := ?v0_601) rfl (by kernel_rfl) (by kernel_rfl) (by kernel_rfl) (fun _ _ _ h => h) (Or.inl ⟨by rfl, ?h0_601⟩) (by assumption) ?r0_601
          case h0_601 =>
            intro W hSW
            try dsimp only at hSW
            go_simp
            try with_reducible rfl
          try simp only [Act.put, List.setIfInBounds_toArray, List.set_cons_zero, List.set_cons_succ]
          refine wpAnyH_take (i := 1) (oi := { dst := some 56, op := Op.move (Operand.tmp 13), type := 3, pos := "collect.go:86", after := #[], guard := none }) (v := ?v1_602) rfl (by kernel_rfl) (by kernel_rfl) (by kernel_rfl) (fun _ _ _ h => h) (Or.inl ⟨by rfl, ?h1_602⟩) (by assumption) ?r1_602
          case h1_602 =>
            intro W hSW
            try dsimp only at hSW
            go_simp
            try with_reducible rfl
          try simp only [Act.put, List.setIfInBounds_toArray, List.set_cons_zero, List.set_cons_succ]
          refine wpAnyH_take (i := 2) (oi := { dst := some 57, op := Op.indexAddr 36 (Operand.tmp 55) (Operand.tmp 56), type := 0, pos := "collect.go:86", after := #[{ on := 0, ground := Ground.data }, { on := 1, ground := Ground.data }], guard := none }) (v := ?v2_603) rfl (by kernel_rfl) (by kernel_rfl) (by kernel_rfl) (fun _ _ _ h => h) (Or.inl ⟨by rfl, ?h2_603⟩) (by assumption) ?r2_603
          case h2_603 =>
            intro W hSW
            try dsimp only at hSW
            go_simp
            try with_reducible rfl
          try simp only [Act.put, List.setIfInBounds_toArray, List.set_cons_zero, List.set_cons_succ]
          refine wpAnyH_take (i := 3) (oi := { dst := some 58, op := Op.fieldAddr 39 (Operand.tmp 57) 0, type := 0, pos := "collect.go:86", after := #[{ on := 2, ground := Ground.data }], guard := none }) (v := ?v3_604) rfl (by kernel_rfl) (by kernel_rfl) (by kernel_rfl) (fun _ _ _ h => h) (Or.inl ⟨by rfl, ?h3_604⟩) (by assumption) ?r3_604
          case h3_604 =>
            intro W hSW
            try dsimp only at hSW
            go_simp
            try with_reducible rfl
          try simp only [Act.put, List.setIfInBounds_toArray, List.set_cons_zero, List.set_cons_succ]
          refine wpAnyH_take (i := 4) (oi := { dst := some 59, op := Op.load 32 (Operand.tmp 58), type := 32, pos := "collect.go:86", after := #[{ on := 3, ground := Ground.data }], guard := none }) (v := ?v4_605) rfl (by kernel_rfl) (by kernel_rfl) (by kernel_rfl) (fun _ _ _ h => h) (Or.inl ⟨by rfl, ?h4_605⟩) (by assumption) ?r4_605
          case h4_605 =>
            intro W hSW
            try dsimp only at hSW
            have c0 := (hSW.cell (p := ⟨g, off + a * 3, none⟩) HG7.out.1 HG7.out.2).trans (HC7.out _ _ HCA.out.2.1)
            have c1 := (hSW.cell (p := ⟨g, off + a * 3 + 1, none⟩) HG7.out.1 HG7.out.2).trans (HC7.out _ _ HCA.out.2.2.1)
            go_simp
            try with_reducible rfl
          try simp only [Act.put, List.setIfInBounds_toArray, List.set_cons_zero, List.set_cons_succ]
          refine wpAnyH_take (i := 5) (oi := { dst := some 60, op := Op.move (Operand.tmp 11), type := 36, pos := "collect.go:86", after := #[{ on := 10, ground := Ground.gcOnly Departure.lateStores }], guard := none }) (v := ?v5_606) rfl (by kernel_rfl) (by kernel_rfl) (by kernel_rfl) (fun _ _ _ h => h) (Or.inl ⟨by rfl, ?h5_606⟩) (by assumption) ?r5_606
          case h5_606 =>
            intro W hSW
            try dsimp only at hSW
            go_simp
            try with_reducible rfl
          try simp only [Act.put, List.setIfInBounds_toArray, List.set_cons_zero, List.set_cons_succ]
          refine wpAnyH_take (i := 6) (oi := { dst := some 61, op := Op.move (Operand.tmp 14), type := 3, pos := "collect.go:86", after := #[{ on := 10, ground := Ground.gcOnly Departure.lateStores }], guard := none }) (v := ?v6_607) rfl (by kernel_rfl) (by kernel_rfl) (by kernel_rfl) (fun _ _ _ h => h) (Or.inl ⟨by rfl, ?h6_607⟩) (by assumption) ?r6_607
          case h6_607 =>
            intro W hSW
            try dsimp only at hSW
            go_simp
            try with_reducible rfl
          try simp only [Act.put, List.setIfInBounds_toArray, List.set_cons_zero, List.set_cons_succ]
          refine wpAnyH_take (i := 7) (oi := { dst := some 62, op := Op.indexAddr 36 (Operand.tmp 60) (Operand.tmp 61), type := 0, pos := "collect.go:86", after := #[{ on := 5, ground := Ground.data }, { on := 6, ground := Ground.data }, { on := 10, ground := Ground.gcOnly Departure.lateStores }], guard := none }) (v := ?v7_608) rfl (by kernel_rfl) (by kernel_rfl) (by kernel_rfl) (fun _ _ _ h => h) (Or.inl ⟨by rfl, ?h7_608⟩) (by assumption) ?r7_608
          case h7_608 =>
            intro W hSW
            try dsimp only at hSW
            go_simp
            try with_reducible rfl
          try simp only [Act.put, List.setIfInBounds_toArray, List.set_cons_zero, List.set_cons_succ]
          refine wpAnyH_take (i := 8) (oi := { dst := some 63, op := Op.fieldAddr 39 (Operand.tmp 62) 0, type := 0, pos := "collect.go:86", after := #[{ on := 7, ground := Ground.data }, { on := 10, ground := Ground.gcOnly Departure.lateStores }], guard := none }) (v := ?v8_609) rfl (by kernel_rfl) (by kernel_rfl) (by kernel_rfl) (fun _ _ _ h => h) (Or.inl ⟨by rfl, ?h8_609⟩) (by assumption) ?r8_609
          case h8_609 =>
            intro W hSW
            try dsimp only at hSW
            go_simp
            try with_reducible rfl
          try simp only [Act.put, List.setIfInBounds_toArray, List.set_cons_zero, List.set_cons_succ]
          refine wpAnyH_take (i := 9) (oi := { dst := some 64, op := Op.load 32 (Operand.tmp 63), type := 32, pos := "collect.go:86", after := #[{ on := 8, ground := Ground.data }, { on := 10, ground := Ground.gcOnly Departure.lateStores }], guard := none }) (v := ?v9_610) rfl (by kernel_rfl) (by kernel_rfl) (by kernel_rfl) (fun _ _ _ h => h) (Or.inl ⟨by rfl, ?h9_610⟩) (by assumption) ?r9_610
          case h9_610 =>
            intro W hSW
            try dsimp only at hSW
            have c0 := (hSW.cell (p := ⟨g, off + b * 3, none⟩) HG7.out.1 HG7.out.2).trans (HC7.out _ _ HCB.out.1)
            have c1 := (hSW.cell (p := ⟨g, off + b * 3 + 1, none⟩) HG7.out.1 HG7.out.2).trans (HC7.out _ _ HCB.out.2.1)
            go_simp
            try with_reducible rfl
          try simp only [Act.put, List.setIfInBounds_toArray, List.set_cons_zero, List.set_cons_succ]
          refine wpAnyH_ready (rs := [10]) (by kernel_rfl) (by simp) ?_
          refine AllReadyH.cons (o := { dst := none, op := Op.store 32 (Operand.tmp 8) (Operand.tmp 59), type := 0, pos := "collect.go:86", after := #[{ on := 4, ground := Ground.data }, { on := 0, ground := Ground.phase }, { on := 1, ground := Ground.phase }, { on := 2, ground := Ground.phase }, { on := 3, ground := Ground.phase }, { on := 4, ground := Ground.phase }, { on := 5, ground := Ground.textOnly Departure.lateStores }, { on := 6, ground := Ground.textOnly Departure.lateStores }, { on := 7, ground := Ground.textOnly Departure.lateStores }, { on := 8, ground := Ground.textOnly Departure.lateStores }, { on := 9, ground := Ground.textOnly Departure.lateStores }], guard := none }) rfl (fun K hK => ?_) AllReadyH.nil
          rw [if_pos (by rfl)]
          have rA0 := HRA.out.below' (Below.refl _ w1).drew
          have rB0 := HRB.out.below' (Below.refl _ w1).drew
          have hb0 := (HLT6.out.2.2.drew)
          refine wp_storeRow _ (.tmp 8) (.tmp 59) rfl (l' := [.int .i64 s1.1, .int .i64 s1.2]) rA0 rfl rfl sizeS25 rfl rfl ?_
          intro w20 rz20 g20 z20
          have hv20 : Keep (fun q => q = ba ∨ q = bb) w1 w20 := (hv0).grown g20 (fun i hi => .inl (.inl (Option.some.inj hi).symm))
          have rB8 := rB0.grown g20 (fun e => by have := HBX.out.2.1; have := Option.some.inj e; omega)
          have hb8 := hb0.grown g20 hb0.size (fun i hi => by have := Option.some.inj hi; have := HBX.out.1; omega)
          have rA8 := rz20
          have z8 := z20
          clear rz20 g20 z20 rA0 rB0 hb0
          refine hK.out _ _ (hv20) (fun hHeld => ?_)
          clear hK K
          try simp only [Act.put, List.setIfInBounds_toArray, List.set_cons_zero, List.set_cons_succ]
          refine wpAnyH_ready (rs := [11]) (by kernel_rfl) (by simp) ?_
          refine AllReadyH.cons (o := { dst := none, op := Op.store 32 (Operand.tmp 9) (Operand.tmp 64), type := 0, pos := "collect.go:86", after := #[{ on := 9, ground := Ground.data }, { on := 10, ground := Ground.chain }, { on := 0, ground := Ground.phase }, { on := 1, ground := Ground.phase }, { on := 2, ground := Ground.phase }, { on := 3, ground := Ground.phase }, { on := 4, ground := Ground.phase }, { on := 5, ground := Ground.phase }, { on := 6, ground := Ground.phase }, { on := 7, ground := Ground.phase }, { on := 8, ground := Ground.phase }, { on := 9, ground := Ground.phase }, { on := 10, ground := Ground.phase }], guard := none }) rfl (fun K hK => ?_) AllReadyH.nil
          rw [if_pos (by rfl)]
          refine wp_storeRow _ (.tmp 9) (.tmp 64) rfl (l' := [.int .i64 s2.1, .int .i64 s2.2]) rB8 rfl rfl sizeS25 rfl rfl ?_
          intro w21 rz21 g21 z21
          have hv21 : Keep (fun q => q = ba ∨ q = bb) w1 w21 := (hv20).grown g21 (fun i hi => .inl (.inr (Option.some.inj hi).symm))
          have HFA := Lib.hid (rA8.grown g21 (fun e => by have := HBX.out.2.1; have := Option.some.inj e; omega))
          have HFB := Lib.hid rz21
          have HFW := Lib.hid (hb8.grown g21 hb8.size (fun i hi => by have := Option.some.inj hi; have := HBX.out.1; have := HBX.out.2.1; omega))
          clear rz21 g21 z21 rA8 rB8 hb8 z8
          refine hK.out _ _ (hv21) (fun hHeld => ?_)
          clear hK K
          try simp only [Act.put, List.setIfInBounds_toArray, List.set_cons_zero, List.set_cons_succ]
          refine wpAnyH_take (i := 12) (oi := { dst := some 10, op := Op.assign (Operand.const (Value.bool true)), type := 4, pos := "collect.go:86", after := #[{ on := 11, ground := Ground.chain }, { on := 0, ground := Ground.phase }, { on := 1, ground := Ground.phase }, { on := 2, ground := Ground.phase }, { on := 3, ground := Ground.phase }, { on := 4, ground := Ground.phase }, { on := 5, ground := Ground.phase }, { on := 6, ground := Ground.phase }, { on := 7, ground := Ground.phase }, { on := 8, ground := Ground.phase }, { on := 9, ground := Ground.phase }, { on := 10, ground := Ground.phase }, { on := 11, ground := Ground.phase }], guard := none }) (v := ?v12_611) rfl (by kernel_rfl) (by kernel_rfl) (by kernel_rfl) (fun _ _ _ h => h) (Or.inl ⟨by rfl, ?h12_611⟩) (by assumption) ?r12_611
          case h12_611 =>
            intro W hSW
            try dsimp only at hSW
            go_simp
            try with_reducible rfl
          try simp only [Act.put, List.setIfInBounds_toArray, List.set_cons_zero, List.set_cons_succ]
          refine wpAnyH_done (by kernel_rfl) ?_ _
          go_wp2_with fail
          refine bodyPost_ret (resultRRT rfl _ _ rfl rfl HFA.out HFB.out Try.underlying32 sizeS25 Try.underlying32 sizeS25) rfl ?_
          exact ⟨rfl, HFW.out⟩
      · have hdd : decide (1 ≤ d ∧ d ≤ 32) = false := by simp [hd]
        rw [hdd] at HID
        obtain rfl : NV = none := by rw [HNX.out, if_neg (by omega)]
        clear hdd hd
        have hv0 : Below w6.heap.size w6 w6.drew := (Below.refl _ _).drew
        refine wp_region_held_drew (S := fun W => Below w6.heap.size w6 W) (by kernel_rfl) (hv0) (fun hHeld => ?_)
        obtain ⟨wd, hwd⟩ : ∃ x, w6.drew = x := ⟨_, rfl⟩
        rw [hwd] at hv0 hHeld  ⊢
        clear hwd
        refine wpAnyH_take (i := 0) (oi := { dst := some 27, op := Op.move (Operand.tmp 13), type := 3, pos := "collect.go:83", after := #[], guard := none }) (v := ?v0_201) rfl (by kernel_rfl) (by kernel_rfl) (by kernel_rfl) (fun _ _ _ h => h) (Or.inl ⟨by rfl, ?h0_201⟩) (by assumption) ?r0_201
        case h0_201 =>
          intro W hSW
          try dsimp only at hSW
          go_simp
          try with_reducible rfl
        try simp only [Act.put, List.setIfInBounds_toArray, List.set_cons_zero, List.set_cons_succ]
        refine wpAnyH_take (i := 1) (oi := { dst := some 28, op := Op.binOp BinOp.lss 3 (Operand.tmp 27) (Operand.const (Value.int IntKind.i64 0)) 3, type := 4, pos := "collect.go:83", after := #[{ on := 0, ground := Ground.data }], guard := none }) (v := ?v1_202) rfl (by kernel_rfl) (by kernel_rfl) (by kernel_rfl) (fun _ _ _ h => h) (Or.inl ⟨by rfl, ?h1_202⟩) (by assumption) ?r1_202
        case h1_202 =>
          intro W hSW
          try dsimp only at hSW
          go_simp
          try with_reducible rfl
        try simp only [Act.put, List.setIfInBounds_toArray, List.set_cons_zero, List.set_cons_succ]
        refine wpAnyH_take (i := 2) (oi := { dst := some 29, op := Op.move (Operand.tmp 28), type := 4, pos := "collect.go:83", after := #[{ on := 1, ground := Ground.data }], guard := none }) (v := ?v2_203) rfl (by kernel_rfl) (by kernel_rfl) (by kernel_rfl) (fun _ _ _ h => h) (Or.inl ⟨by rfl, ?h2_203⟩) (by assumption) ?r2_203
        case h2_203 =>
          intro W hSW
          try dsimp only at hSW
          go_simp
          try with_reducible rfl
        try simp only [Act.put, List.setIfInBounds_toArray, List.set_cons_zero, List.set_cons_succ]
        refine wpAnyH_take (i := 3) (oi := { dst := some 30, op := Op.move (Operand.tmp 14), type := 3, pos := "collect.go:83", after := #[{ on := 2, ground := Ground.guard }], guard := some (2, false) }) (v := ?v3_204) rfl (by kernel_rfl) (by kernel_rfl) (by kernel_rfl) (fun _ _ _ h => h) (Or.inl ⟨by rfl, ?h3_204⟩) (by assumption) ?r3_204
        case h3_204 =>
          intro W hSW
          try dsimp only at hSW
          go_simp
          try with_reducible rfl
        try simp only [Act.put, List.setIfInBounds_toArray, List.set_cons_zero, List.set_cons_succ]
        refine wpAnyH_take (i := 4) (oi := { dst := some 31, op := Op.binOp BinOp.lss 3 (Operand.tmp 30) (Operand.const (Value.int IntKind.i64 0)) 3, type := 4, pos := "collect.go:83", after := #[{ on := 3, ground := Ground.data }, { on := 2, ground := Ground.guard }], guard := some (2, false) }) (v := ?v4_205) rfl (by kernel_rfl) (by kernel_rfl) (by kernel_rfl) (fun _ _ _ h => h) (Or.inl ⟨by rfl, ?h4_205⟩) (by assumption) ?r4_205
        case h4_205 =>
          intro W hSW
          try dsimp only at hSW
          go_simp
          try with_reducible rfl
        try simp only [Act.put, List.setIfInBounds_toArray, List.set_cons_zero, List.set_cons_succ]
        refine wpAnyH_take (i := 5) (oi := { dst := some 32, op := Op.pick (Operand.tmp 29) (Operand.const (Value.bool true)) (Operand.tmp 31), type := 4, pos := "collect.go:83", after := #[{ on := 2, ground := Ground.data }, { on := 4, ground := Ground.data }], guard := none }) (v := ?v5_206) rfl (by kernel_rfl) (by kernel_rfl) (by kernel_rfl) (fun _ _ _ h => h) (Or.inl ⟨by rfl, ?h5_206⟩) (by assumption) ?r5_206
        case h5_206 =>
          intro W hSW
          try dsimp only at hSW
          go_simp
          try with_reducible rfl
        try simp only [Act.put, List.setIfInBounds_toArray, List.set_cons_zero, List.set_cons_succ]
        refine wpAnyH_take (i := 6) (oi := { dst := some 33, op := Op.move (Operand.tmp 32), type := 4, pos := "collect.go:83", after := #[{ on := 5, ground := Ground.data }, { on := 2, ground := Ground.chain }], guard := none }) (v := ?v6_207) rfl (by kernel_rfl) (by kernel_rfl) (by kernel_rfl) (fun _ _ _ h => h) (Or.inl ⟨by rfl, ?h6_207⟩) (by assumption) ?r6_207
        case h6_207 =>
          intro W hSW
          try dsimp only at hSW
          go_simp
          try with_reducible rfl
        try simp only [Act.put, List.setIfInBounds_toArray, List.set_cons_zero, List.set_cons_succ]
        refine wpAnyH_take (i := 7) (oi := { dst := some 34, op := Op.move (Operand.tmp 3), type := 3, pos := "collect.go:83", after := #[{ on := 6, ground := Ground.guard }], guard := some (6, false) }) (v := ?v7_208) rfl (by kernel_rfl) (by kernel_rfl) (by kernel_rfl) (fun _ _ _ h => h) (Or.inl ⟨by rfl, ?h7_208⟩) (by assumption) ?r7_208
        case h7_208 =>
          intro W hSW
          try dsimp only at hSW
          go_simp
          try with_reducible rfl
        try simp only [Act.put, List.setIfInBounds_toArray, List.set_cons_zero, List.set_cons_succ]
        refine wpAnyH_ready (rs := [8]) (by kernel_rfl) (by simp) ?_
        refine AllReadyH.cons (o := { dst := some 35, op := Op.call { callee := Callee.value (Operand.func 31), args := #[Operand.tmp 34], argTypes := #[3] }, type := 4, pos := "collect.go:83", after := #[{ on := 7, ground := Ground.data }, { on := 6, ground := Ground.chain }, { on := 6, ground := Ground.guard }], guard := some (6, false) }) rfl (fun K hK => ?_) AllReadyH.nil
        go_simp
        refine (HID.out _).mono ?_
        rintro e w1 ⟨rfl, hw1⟩
        have hv1 : Below w6.heap.size w6 w1 := by rw [hw1]; exact hv0
        clear hw1
        refine hK.out _ _ (hv1) (fun hHeld => ?_)
        clear hK K
        try simp only [Act.put, List.setIfInBounds_toArray, List.set_cons_zero, List.set_cons_succ]
        refine wpAnyH_take (i := 9) (oi := { dst := some 36, op := Op.unOp UnOp.not 4 (Operand.tmp 35), type := 4, pos := "collect.go:83", after := #[{ on := 8, ground := Ground.data }, { on := 6, ground := Ground.guard }], guard := some (6, false) }) (v := ?v9_209) rfl (by kernel_rfl) (by kernel_rfl) (by kernel_rfl) (fun _ _ _ h => h) (Or.inl ⟨by rfl, ?h9_209⟩) (by assumption) ?r9_209
        case h9_209 =>
          intro W hSW
          try dsimp only at hSW
          go_simp
          try with_reducible rfl
        try simp only [Act.put, List.setIfInBounds_toArray, List.set_cons_zero, List.set_cons_succ]
        refine wpAnyH_take (i := 10) (oi := { dst := some 37, op := Op.pick (Operand.tmp 33) (Operand.const (Value.bool true)) (Operand.tmp 36), type := 4, pos := "collect.go:83", after := #[{ on := 6, ground := Ground.data }, { on := 9, ground := Ground.data }], guard := none }) (v := ?v10_210) rfl (by kernel_rfl) (by kernel_rfl) (by kernel_rfl) (fun _ _ _ h => h) (Or.inl ⟨by rfl, ?h10_210⟩) (by assumption) ?r10_210
        case h10_210 =>
          intro W hSW
          try dsimp only at hSW
          go_simp
          try with_reducible rfl
        try simp only [Act.put, List.setIfInBounds_toArray, List.set_cons_zero, List.set_cons_succ]
        refine wpAnyH_take (i := 11) (oi := { dst := some 38, op := Op.move (Operand.tmp 37), type := 4, pos := "collect.go:83", after := #[{ on := 10, ground := Ground.data }, { on := 8, ground := Ground.chain }], guard := none }) (v := ?v11_211) rfl (by kernel_rfl) (by kernel_rfl) (by kernel_rfl) (fun _ _ _ h => h) (Or.inl ⟨by rfl, ?h11_211⟩) (by assumption) ?r11_211
        case h11_211 =>
          intro W hSW
          try dsimp only at hSW
          go_simp
          try with_reducible rfl
        try simp only [Act.put, List.setIfInBounds_toArray, List.set_cons_zero, List.set_cons_succ]
        refine wpAnyH_take (i := 12) (oi := { dst := some 39, op := Op.move (Operand.tmp 11), type := 36, pos := "collect.go:83", after := #[{ on := 11, ground := Ground.guard }], guard := some (11, false) }) (v := undef) rfl (by kernel_rfl) (by kernel_rfl) (by kernel_rfl) (fun _ _ _ h => h) (Or.inr ⟨by rfl, rfl⟩) (by assumption) ?_
        try simp only [Act.put, List.setIfInBounds_toArray, List.set_cons_zero, List.set_cons_succ]
        refine wpAnyH_take (i := 13) (oi := { dst := some 40, op := Op.move (Operand.tmp 13), type := 3, pos := "collect.go:83", after := #[{ on := 11, ground := Ground.guard }], guard := some (11, false) }) (v := undef) rfl (by kernel_rfl) (by kernel_rfl) (by kernel_rfl) (fun _ _ _ h => h) (Or.inr ⟨by rfl, rfl⟩) (by assumption) ?_
        try simp only [Act.put, List.setIfInBounds_toArray, List.set_cons_zero, List.set_cons_succ]
        refine wpAnyH_take (i := 14) (oi := { dst := some 41, op := Op.indexAddr 36 (Operand.tmp 39) (Operand.tmp 40), type := 0, pos := "collect.go:83", after := #[{ on := 12, ground := Ground.data }, { on := 13, ground := Ground.data }, { on := 11, ground := Ground.guard }], guard := some (11, false) }) (v := undef) rfl (by kernel_rfl) (by kernel_rfl) (by kernel_rfl) (fun _ _ _ h => h) (Or.inr ⟨by rfl, rfl⟩) (by assumption) ?_
        try simp only [Act.put, List.setIfInBounds_toArray, List.set_cons_zero, List.set_cons_succ]
        refine wpAnyH_take (i := 15) (oi := { dst := some 42, op := Op.fieldAddr 39 (Operand.tmp 41) 1, type := 0, pos := "collect.go:83", after := #[{ on := 14, ground := Ground.data }, { on := 11, ground := Ground.guard }], guard := some (11, false) }) (v := undef) rfl (by kernel_rfl) (by kernel_rfl) (by kernel_rfl) (fun _ _ _ h => h) (Or.inr ⟨by rfl, rfl⟩) (by assumption) ?_
        try simp only [Act.put, List.setIfInBounds_toArray, List.set_cons_zero, List.set_cons_succ]
        refine wpAnyH_take (i := 16) (oi := { dst := some 43, op := Op.load 3 (Operand.tmp 42), type := 3, pos := "collect.go:83", after := #[{ on := 15, ground := Ground.data }, { on := 11, ground := Ground.guard }], guard := some (11, false) }) (v := undef) rfl (by kernel_rfl) (by kernel_rfl) (by kernel_rfl) (fun _ _ _ h => h) (Or.inr ⟨by rfl, rfl⟩) (by assumption) ?_
        try simp only [Act.put, List.setIfInBounds_toArray, List.set_cons_zero, List.set_cons_succ]
        refine wpAnyH_take (i := 17) (oi := { dst := some 44, op := Op.move (Operand.tmp 11), type := 36, pos := "collect.go:83", after := #[{ on := 11, ground := Ground.guard }], guard := some (11, false) }) (v := undef) rfl (by kernel_rfl) (by kernel_rfl) (by kernel_rfl) (fun _ _ _ h => h) (Or.inr ⟨by rfl, rfl⟩) (by assumption) ?_
        try simp only [Act.put, List.setIfInBounds_toArray, List.set_cons_zero, List.set_cons_succ]
        refine wpAnyH_take (i := 18) (oi := { dst := some 45, op := Op.move (Operand.tmp 14), type := 3, pos := "collect.go:83", after := #[{ on := 11, ground := Ground.guard }], guard := some (11, false) }) (v := undef) rfl (by kernel_rfl) (by kernel_rfl) (by kernel_rfl) (fun _ _ _ h => h) (Or.inr ⟨by rfl, rfl⟩) (by assumption) ?_
        try simp only [Act.put, List.setIfInBounds_toArray, List.set_cons_zero, List.set_cons_succ]
        refine wpAnyH_take (i := 19) (oi := { dst := some 46, op := Op.indexAddr 36 (Operand.tmp 44) (Operand.tmp 45), type := 0, pos := "collect.go:83", after := #[{ on := 17, ground := Ground.data }, { on := 18, ground := Ground.data }, { on := 11, ground := Ground.guard }], guard := some (11, false) }) (v := undef) rfl (by kernel_rfl) (by kernel_rfl) (by kernel_rfl) (fun _ _ _ h => h) (Or.inr ⟨by rfl, rfl⟩) (by assumption) ?_
        try simp only [Act.put, List.setIfInBounds_toArray, List.set_cons_zero, List.set_cons_succ]
        refine wpAnyH_take (i := 20) (oi := { dst := some 47, op := Op.fieldAddr 39 (Operand.tmp 46) 1, type := 0, pos := "collect.go:83", after := #[{ on := 19, ground := Ground.data }, { on := 11, ground := Ground.guard }], guard := some (11, false) }) (v := undef) rfl (by kernel_rfl) (by kernel_rfl) (by kernel_rfl) (fun _ _ _ h => h) (Or.inr ⟨by rfl, rfl⟩) (by assumption) ?_
        try simp only [Act.put, List.setIfInBounds_toArray, List.set_cons_zero, List.set_cons_succ]
        refine wpAnyH_take (i := 21) (oi := { dst := some 48, op := Op.load 3 (Operand.tmp 47), type := 3, pos := "collect.go:83", after := #[{ on := 20, ground := Ground.data }, { on := 11, ground := Ground.guard }], guard := some (11, false) }) (v := undef) rfl (by kernel_rfl) (by kernel_rfl) (by kernel_rfl) (fun _ _ _ h => h) (Or.inr ⟨by rfl, rfl⟩) (by assumption) ?_
        try simp only [Act.put, List.setIfInBounds_toArray, List.set_cons_zero, List.set_cons_succ]
        refine wpAnyH_take (i := 22) (oi := { dst := some 49, op := Op.binOp BinOp.add 3 (Operand.tmp 43) (Operand.tmp 48) 3, type := 3, pos := "collect.go:83", after := #[{ on := 16, ground := Ground.data }, { on := 21, ground := Ground.data }, { on := 11, ground := Ground.guard }], guard := some (11, false) }) (v := undef) rfl (by kernel_rfl) (by kernel_rfl) (by kernel_rfl) (fun _ _ _ h => h) (Or.inr ⟨by rfl, rfl⟩) (by assumption) ?_
        try simp only [Act.put, List.setIfInBounds_toArray, List.set_cons_zero, List.set_cons_succ]
        refine wpAnyH_take (i := 23) (oi := { dst := some 50, op := Op.move (Operand.tmp 3), type := 3, pos := "collect.go:83", after := #[{ on := 11, ground := Ground.guard }], guard := some (11, false) }) (v := undef) rfl (by kernel_rfl) (by kernel_rfl) (by kernel_rfl) (fun _ _ _ h => h) (Or.inr ⟨by rfl, rfl⟩) (by assumption) ?_
        try simp only [Act.put, List.setIfInBounds_toArray, List.set_cons_zero, List.set_cons_succ]
        refine wpAnyH_take (i := 24) (oi := { dst := some 51, op := Op.binOp BinOp.gtr 3 (Operand.tmp 49) (Operand.tmp 50) 3, type := 4, pos := "collect.go:83", after := #[{ on := 22, ground := Ground.data }, { on := 23, ground := Ground.data }, { on := 11, ground := Ground.guard }], guard := some (11, false) }) (v := undef) rfl (by kernel_rfl) (by kernel_rfl) (by kernel_rfl) (fun _ _ _ h => h) (Or.inr ⟨by rfl, rfl⟩) (by assumption) ?_
        try simp only [Act.put, List.setIfInBounds_toArray, List.set_cons_zero, List.set_cons_succ]
        refine wpAnyH_take (i := 25) (oi := { dst := some 52, op := Op.pick (Operand.tmp 38) (Operand.const (Value.bool true)) (Operand.tmp 51), type := 4, pos := "collect.go:83", after := #[{ on := 11, ground := Ground.data }, { on := 24, ground := Ground.data }], guard := none }) (v := ?v25_225) rfl (by kernel_rfl) (by kernel_rfl) (by kernel_rfl) (fun _ _ _ h => h) (Or.inl ⟨by rfl, ?h25_225⟩) (by assumption) ?r25_225
        case h25_225 =>
          intro W hSW
          try dsimp only at hSW
          go_simp
          try with_reducible rfl
        try simp only [Act.put, List.setIfInBounds_toArray, List.set_cons_zero, List.set_cons_succ]
        refine wpAnyH_done (by kernel_rfl) ?_ _
        have HB7 := Lib.hid (hv1)
        replace HRA := Lib.hid (HRA.out.below' HB7.out)
        replace HRB := Lib.hid (HRB.out.below' HB7.out)
        replace HLT6 : Hid (ba < w1.heap.size ∧ bb < w1.heap.size ∧ Below w.heap.size w w1) := Lib.hid ⟨HRA.out.lt, HRB.out.lt, HLT6.out.2.2.trans (HB7.out.mono HLT6.out.2.2.size)⟩
        go_wp2_with (first
          | (refine wpList_storeRow rfl _ (.tmp 8) (.tmp 53) rfl (l' := [.int .i64 0, .int .i64 0]) HRA.out rfl rfl sizeS25 rfl rfl ?_; intro w8 rz8 g8 z8; have rB8 := HRB.out.grown g8 (fun e => by have := HBX.out.2.1; have := Option.some.inj e; omega))
          | (refine wpList_storeRow rfl _ (.tmp 9) (.tmp 54) rfl (l' := [.int .i64 0, .int .i64 0]) rB8 rfl rfl sizeS25 rfl rfl ?_; intro w9 rz9 g9 z9; have rA9 := rz8.grown g9 (fun e => by have := HBX.out.2.1; have := Option.some.inj e; omega)))
        refine bodyPost_ret (resultRRT rfl _ _ rfl rfl rA9 rz9 Try.underlying32 sizeS25 Try.underlying32 sizeS25) rfl ?_
        exact ⟨rfl, (HLT6.out.2.2.grown g8 HLT6.out.2.2.size (fun i hi => by have := Option.some.inj hi; have := HBX.out.1; omega)).grown g9 (by rw [z8]; exact HLT6.out.2.2.size) (fun i hi => by have := Option.some.inj hi; have := HBX.out.1; have := HBX.out.2.1; omega)⟩
end Go.Proofs.Ytihhkcndcgljbaa
