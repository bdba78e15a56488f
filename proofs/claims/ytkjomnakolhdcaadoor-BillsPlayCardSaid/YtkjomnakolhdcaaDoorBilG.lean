/- Layer 35's Clone. Conditions: the ledger reads as told; the tables of the digest are in memory. -/
import Derived.Test.YtkjomnakolhdcaaDoorBilF
namespace Go.Proofs.YtkjomnakolhdcaaDoor
set_option linter.unusedVariables false
set_option linter.unusedSimpArgs false
open Go.RowKit
theorem col_zero0 {W : World} {bl : Nat} {col : Nat → Nat} {m : LM} {l : Bil.Lg} (h : LAt W bl col m l) {q : Nat} (hq : W.heap.size ≤ q) : col q = 0 := by
  rcases Nat.eq_zero_or_pos (col q) with h0 | h0
  · exact h0
  · have := h.lt q (by omega); omega
theorem LAt.append {W W0 W1 : World} {bc gk ok ck : Nat} {col : Nat → Nat} {m : LM} {l : Bil.Lg} (h : LAt W bc col m l) (hb : Below W.heap.size W W0) (kn : KA)
    (fc : FRow W0 kn.bc l.n (fun t => kn.a.bill.charges.getD t 0)) (fr : FRow W0 kn.br l.n (fun t => kn.a.bill.credits.getD t 0)) (ft : FRow W0 kn.bt l.n (fun t => kn.a.bill.nets.getD t 0)) (fg : FRow W0 kn.bg l.n (fun t => kn.a.granted.getD t 0))
    (lc : kn.a.bill.charges.length = l.n) (lr : kn.a.bill.credits.length = l.n) (lt : kn.a.bill.nets.length = l.n) (lg : kn.a.granted.length = l.n) (bc' : W.heap.size ≤ kn.bc) (br' : W.heap.size ≤ kn.br) (bt' : W.heap.size ≤ kn.bt) (bg' : W.heap.size ≤ kn.bg) (n1 : kn.bg ≠ kn.bc) (n2 : kn.bg ≠ kn.br) (n3 : kn.bg ≠ kn.bt)
    (hg : W0.grownBy W1 (some gk)) (hK : KRow W1 l.n (some ⟨gk, ok, none⟩) ck (m.ks ++ [kn])) (hor : (∃ o, m.A = some ⟨gk, o, none⟩) ∨ gk = W0.heap.size) (hlen : m.ks.length + 1 ≤ 16) (ht : 2 < W.heap.size ∧ 0 < W.heap.size ∧ 1 < W.heap.size) :
    ∃ col' m', LAt (W1.setCell ⟨bc, 1, none⟩ (.slice (some ⟨gk, ok, none⟩) (m.ks.length + 1) ck)) bc col' m' { l with kept := l.kept ++ [kn.a] } ∧ (∀ b, col' b ≠ 0 → col b ≠ 0 ∨ W.heap.size ≤ b) ∧ Keep (fun q => q = bc ∨ ∃ a, m.A = some a ∧ q = a.block) W (W1.setCell ⟨bc, 1, none⟩ (.slice (some ⟨gk, ok, none⟩) (m.ks.length + 1) ck)) := by
  have hrw := h.row
  have hbl := hrw.lt
  have hz := hb.size
  have hz2 := hg.size
  have hold : (∃ o, m.A = some ⟨gk, o, none⟩) → col gk = 4 ∧ gk < W.heap.size := fun ⟨o, ho⟩ => ⟨h.cka _ ho, h.lt gk (by have : col gk = 4 := h.cka _ ho; omega)⟩
  have hnb : gk ≠ bc := fun e => by
    rcases hor with ho | ho
    · have h1 := (hold ho).1; have h2 := h.cbl; rw [e] at h1; omega
    · omega
  have hne : ∀ b, W.heap.size ≤ b → b < W0.heap.size → b ≠ gk := fun b h1 h2 e => by
    rcases hor with ho | ho
    · have := (hold ho).2; omega
    · omega
  have z : (W1.setCell ⟨bc, 1, none⟩ (.slice (some ⟨gk, ok, none⟩) (m.ks.length + 1) ck)).heap.size = W1.heap.size := by simp
  have hgs := grown_setCell W1 bc 1 (.slice (some ⟨gk, ok, none⟩) (m.ks.length + 1) ck)
  have far : ∀ b, W.heap.size ≤ b → b < W0.heap.size → (W1.setCell ⟨bc, 1, none⟩ (.slice (some ⟨gk, ok, none⟩) (m.ks.length + 1) ck)).heap[b]? = W0.heap[b]? := fun b h1 h2 =>
    (hgs.block b (by omega) (fun e => by have := Option.some.inj e; omega)).trans (hg.block b h2 (fun e => hne b h1 h2 (Option.some.inj e)))
  have hkeep : Keep (fun q => q = bc ∨ ∃ a, m.A = some a ∧ q = a.block) W (W1.setCell ⟨bc, 1, none⟩ (.slice (some ⟨gk, ok, none⟩) (m.ks.length + 1) ck)) := by
    refine ((Keep.of_below hb).grown hg fun k e => ?_).grown hgs fun k e => .inl (.inl (Option.some.inj e).symm)
    have e := Option.some.inj e
    subst e
    rcases hor with ⟨o, ho⟩ | ho
    · exact .inl (.inr ⟨_, ho, rfl⟩)
    · exact .inr (by omega)
  have hrow : IsRow (W1.setCell ⟨bc, 1, none⟩ (.slice (some ⟨gk, ok, none⟩) (m.ks.length + 1) ck)) bc 71 (.int .i64 (l.periods : Int) :: .slice (some ⟨gk, ok, none⟩) (m.ks.length + 1) ck :: .slice (some ⟨m.bp, 0, none⟩) l.n m.cp :: .slice (some ⟨m.bq, 0, none⟩) l.n m.cq :: bvs l.head) :=
    ((hrw.below' hb).grown hg (by intro e; exact hnb (Option.some.inj e))).set 1 (.slice (some ⟨gk, ok, none⟩) (m.ks.length + 1) ck)
  have hkr : KRow (W1.setCell ⟨bc, 1, none⟩ (.slice (some ⟨gk, ok, none⟩) (m.ks.length + 1) ck)) l.n (some ⟨gk, ok, none⟩) ck (m.ks ++ [kn]) := hK.keep fun a ha => by
    have hal := hK.lt ha
    obtain rfl := Option.some.inj ha
    exact hgs.block _ hal (fun e => hnb (Option.some.inj e))
  have hl1 : (m.ks ++ [kn]).length = m.ks.length + 1 := by simp
  have hgl : gk < W1.heap.size := hK.lt rfl
  obtain ⟨col', h1, h2⟩ := LAt.pushed h hkeep W.heap.size (fun b hb => col_zero0 h hb) ht kn gk ok ck 0
    ⟨fc.keep (far _ bc' fc.lt), fr.keep (far _ br' fr.lt), ft.keep (far _ bt' ft.lt), fg.keep (far _ bg' fg.lt), lc, lr, lt, lg, bc', br', bt', bg', hne _ bc' fc.lt, hne _ br' fr.lt, hne _ bt' ft.lt, hne _ bg' fg.lt, n1, n2, n3⟩
    (by rw [List.drop_zero]; exact hkr) (by rw [List.drop_zero, hl1]; exact hlen) (by rcases hor with ho | ho; exact .inl ho; exact .inr (by omega)) (by rw [z]; exact hgl) (by rw [List.drop_zero, hl1]; exact hrow)
  rw [List.drop_zero, List.drop_zero] at h1
  exact ⟨col', _, h1, fun b hb => (h2 b hb).imp id (·.1), hkeep⟩
theorem lgcells_one (m : LM) (l : Bil.Lg) : (m.cells l).all (·.oneCell') = true := by
  unfold LM.cells
  simp only [List.all_cons, bvs_all, Bool.and_true]
  rfl
theorem size20 : (Tryd.prog.info? 71).map (·.size) = some 20 := by kernel_rfl
theorem info20 : (Tryd.prog.info? 71).map (fun i => (i.zero, i.size)) = some (some (.agg (([.int .i64 0, .slice none 0 0, .slice none 0 0, .slice none 0 0] : List Value) ++ List.replicate 16 (Value.int .u8 0)).toArray), (([.int .i64 0, .slice none 0 0, .slice none 0 0, .slice none 0 0] : List Value) ++ List.replicate 16 (Value.int .u8 0)).length) := by kernel_rfl
theorem size7 : (Tryd.prog.info? 79).map (·.size) = some 7 := by kernel_rfl
theorem cells20 {m : LM} {l : Bil.Lg} (h : l.head.length = 16) : (m.cells l).length = 20 := by simp [LM.cells, h]
/-- a copy -/
def CloneRes (w : World) (l : Bil.Lg) (e : Ending) (w' : World) : Prop := ∃ bc col m, e = .returned (.pointer (some ⟨bc, 0, none⟩)) ∧ LAt w' bc col m l ∧ (∀ b, col b ≠ 0 → w.heap.size ≤ b) ∧ Below w.heap.size w w'
/-- the copy with the first k accounts -/
def CloneSt (w W : World) (bc k : Nat) (l : Bil.Lg) : Prop := ∃ col m, LAt W bc col m { l with kept := l.kept.take k } ∧ (∀ b, col b ≠ 0 → w.heap.size ≤ b) ∧ Below w.heap.size w W
theorem clone_start {w w2 W : World} {bl bc g13 g18 c13 c18 : Nat} {col : Nat → Nat} {m : LM} {l : Bil.Lg} (h : LAt w bl col m l) (f13 : FRow W g13 l.n (fun t => l.pending.getD t 0)) (f18 : FRow W g18 l.n (fun t => l.paid.getD t 0)) (h1 : g13 < g18) (hb : w.heap.size ≤ bc) (hb1 : bc < g13)
    (hr : IsRow W bc 71 (.int .i64 (l.periods : Int) :: .slice none 0 0 :: .slice (some ⟨g13, 0, none⟩) l.n c13 :: .slice (some ⟨g18, 0, none⟩) l.n c18 :: bvs l.head)) (ht : 2 < w.heap.size ∧ 0 < w.heap.size ∧ 1 < w.heap.size) (hb2 : bc < g18)
    (hw2 : Below w.heap.size w w2) (hk : Keep (fun q => q = bc) w2 W) (hc : bc < w2.heap.size) : CloneSt w W bc 0 l := by
  refine ⟨fun b => if b = bc then 1 else if b = g13 then 2 else if b = g18 then 3 else 0, ⟨none, 0, [], g13, c13, g18, c18⟩, ⟨hr, h.h16, h.n1, h.n2, h.per, by simp, f13, f18, h.lp, h.lq, by simp, KRow.nil _ _, by simp, by simp, ?_, ?_, by simp, ?_, ?_⟩, ?_, hw2.trans (hk.below hw2.size fun q hq e => by omega)⟩
  · simp [show g13 ≠ bc by omega]
  · simp [show g18 ≠ bc by omega, show g18 ≠ g13 by omega]
  · intro k hk
    split at hk
    · subst k; exact hr.lt
    · split at hk
      · subst k; exact f13.lt
      · split at hk
        · subst k; exact f18.lt
        · exact absurd rfl hk
  · obtain ⟨t1, t2, t3⟩ := ht
    refine ⟨?_, ?_, ?_⟩ <;> (rw [if_neg (by omega), if_neg (by omega), if_neg (by omega)])
  · intro b hb'
    dsimp only at hb'
    split at hb'
    · omega
    · split at hb'
      · omega
      · split at hb'
        · omega
        · exact absurd rfl hb'
set_option maxRecDepth 100000 in
set_option maxHeartbeats 6400000 in
theorem cloneL_any (bl : Nat) (col : Nat → Nat) (m : LM) (l : Bil.Lg) (w : World) (h : LAt w bl col m l) (hT : Tabs w) (hR : RG w) :
    Calls Tryd.prog 17 #[.pointer (some ⟨bl, 0, none⟩)] w (CloneRes w l) := by
  have hrow := h.row
  have HL := Lib.hid h
  have HTT := Lib.hid (And.intro hT.k.lt (And.intro hT.s.lt hR.r.lt))
  have HBL := Lib.hid hrow.lt
  have H20 := Lib.hid (cells20 (m := m) h.h16)
  have c1 : w.cell? ⟨bl, 1, none⟩ = some (.slice m.A m.ks.length m.c) := hrow.cell 1
  have c2 : w.cell? ⟨bl, 2, none⟩ = some (.slice (some ⟨m.bp, 0, none⟩) l.n m.cp) := hrow.cell 2
  have c3 : w.cell? ⟨bl, 3, none⟩ = some (.slice (some ⟨m.bq, 0, none⟩) l.n m.cq) := hrow.cell 3
  have HC := Lib.hid (And.intro c1 (And.intro c2 c3))
  have hn2 := h.n2
  have HN := Lib.hid (And.intro h.n1 hn2)
  have HP := Lib.hid (fun W (hW : Below w.heap.size w W) => cloneI (some ⟨m.bp, 0, none⟩) l.n m.cp l.pending h.lp (by omega) W.heap.size W ((h.pend.below hW).rd h.lp) (Nat.le_refl _))
  have HQ := Lib.hid (fun W (hW : Below w.heap.size w W) => cloneI (some ⟨m.bq, 0, none⟩) l.n m.cq l.paid h.lq (by omega) W.heap.size W ((h.paid.below hW).rd h.lq) (Nat.le_refl _))
  obtain ⟨N, hN⟩ : ∃ x, l.n = x := ⟨_, rfl⟩
  obtain ⟨Lk, hLk⟩ : ∃ x, m.ks.length = x := ⟨_, rfl⟩
  have hL16 : Lk ≤ 16 := by rw [← hLk]; exact h.len
  rw [hN] at HP HQ HC HN
  rw [hLk] at HC
  have HEQ := Lib.hid (And.intro hN hLk)
  clear h c1 c2 c3 hn2 hT hR hN hLk
  go_enter Tryd.func17, Tryd.ntmps17
  go_upto_region 2 with (first
    | (refine wpList_loadS rfl _ (.tmp 7) rfl hrow rfl Tryd.underlying71 (by rw [H20.out]; exact size20) ?_)
    | (refine wpList_allocRow rfl _ rfl _ info20 ?_; intro w1 r1 b1 z1)
    | (refine wpList_storeRow rfl _ (.tmp 3) (.tmp 8) rfl (l' := m.cells l) r1 rfl rfl (by rw [H20.out]; exact size20) (by rw [H20.out]; rfl) (lgcells_one m l) ?_; intro w2 r2 g2 z2))
  obtain ⟨bc, hbc⟩ : ∃ x, w.heap.size = x := ⟨_, rfl⟩
  have hb2 : Below w.heap.size w w2 := b1.grown g2 b1.size (by intro j hj; have hj := Option.some.inj hj; omega)
  have HB2 := Lib.hid hb2
  rw [hbc] at r2 ⊢
  have HR2 := Lib.hid r2
  have HBC := Lib.hid hbc
  have HC2 := Lib.hid r2.lt
  clear hbc hb2 r1 b1 r2 g2 z1 z2 hrow
  try simp only [Act.put, List.setIfInBounds_toArray, List.set_cons_zero, List.set_cons_succ]
  go_cut [] (fun wx => Hid (CloneSt w wx bc 0 l))
  case first =>
    go_wp2_with fail
    have hv0 : Below w2.heap.size w2 w2.drew := (Below.refl _ _).drew
    refine wp_region_late (fun W => Below w2.heap.size w2 W) [11, 12, 13, 14, 15] (by kernel_rfl) (hv0) (fun hHeld => ?_)
    obtain ⟨wd, hwd⟩ : ∃ x, w2.drew = x := ⟨_, rfl⟩
    rw [hwd] at hv0 hHeld ⊢
    clear hwd
    refine wpAnyL_take (i := 0) (oi := { dst := some 9, op := Op.move (Operand.tmp 0), type := 25, pos := "bills.go:153", after := #[], guard := none }) (v := ?v0_201) rfl (by kernel_rfl) (by kernel_rfl) (by kernel_rfl) (by kernel_rfl) (fun _ _ _ h => h) (Or.inl ⟨by rfl, ?h0_201⟩) (by assumption) ?r0_201
    case h0_201 =>
      intro W hSW
      try dsimp only at hSW
      go_simp
      try with_reducible rfl
    try simp only [Act.put, List.setIfInBounds_toArray, List.set_cons_zero, List.set_cons_succ]
    refine wpAnyL_take (i := 1) (oi := { dst := some 10, op := Op.nilCheck (Operand.tmp 9), type := 0, pos := "bills.go:153", after := #[{ on := 0, ground := Ground.data }], guard := none }) (v := ?v1_202) rfl (by kernel_rfl) (by kernel_rfl) (by kernel_rfl) (by kernel_rfl) (fun _ _ _ h => h) (Or.inl ⟨by rfl, ?h1_202⟩) (by assumption) ?r1_202
    case h1_202 =>
      intro W hSW
      try dsimp only at hSW
      go_simp
      try with_reducible rfl
    try simp only [Act.put, List.setIfInBounds_toArray, List.set_cons_zero, List.set_cons_succ]
    refine wpAnyL_take (i := 2) (oi := { dst := some 11, op := Op.fieldAddr 71 (Operand.tmp 10) 2, type := 0, pos := "bills.go:153", after := #[{ on := 1, ground := Ground.data }], guard := none }) (v := ?v2_203) rfl (by kernel_rfl) (by kernel_rfl) (by kernel_rfl) (by kernel_rfl) (fun _ _ _ h => h) (Or.inl ⟨by rfl, ?h2_203⟩) (by assumption) ?r2_203
    case h2_203 =>
      intro W hSW
      try dsimp only at hSW
      go_simp
      try with_reducible rfl
    try simp only [Act.put, List.setIfInBounds_toArray, List.set_cons_zero, List.set_cons_succ]
    refine wpAnyL_take (i := 3) (oi := { dst := some 12, op := Op.load 29 (Operand.tmp 11), type := 29, pos := "bills.go:153", after := #[{ on := 2, ground := Ground.data }], guard := none }) (v := ?v3_204) rfl (by kernel_rfl) (by kernel_rfl) (by kernel_rfl) (by kernel_rfl) (fun _ _ _ h => h) (Or.inl ⟨by rfl, ?h3_204⟩) (by assumption) ?r3_204
    case h3_204 =>
      intro W hSW
      try dsimp only at hSW
      have hcc := ((HB2.out.trans (hSW.mono HB2.out.size)).cell (p := ⟨bl, 2, none⟩) HBL.out).trans HC.out.2.1
      go_simp
      try with_reducible rfl
    try simp only [Act.put, List.setIfInBounds_toArray, List.set_cons_zero, List.set_cons_succ]
    refine wpAnyL_take (i := 5) (oi := { dst := some 14, op := Op.move (Operand.tmp 0), type := 25, pos := "bills.go:153", after := #[], guard := none }) (v := ?v5_205) rfl (by kernel_rfl) (by kernel_rfl) (by kernel_rfl) (by kernel_rfl) (fun _ _ _ h => h) (Or.inl ⟨by rfl, ?h5_205⟩) (by assumption) ?r5_205
    case h5_205 =>
      intro W hSW
      try dsimp only at hSW
      go_simp
      try with_reducible rfl
    try simp only [Act.put, List.setIfInBounds_toArray, List.set_cons_zero, List.set_cons_succ]
    refine wpAnyL_take (i := 6) (oi := { dst := some 15, op := Op.nilCheck (Operand.tmp 14), type := 0, pos := "bills.go:153", after := #[{ on := 5, ground := Ground.data }], guard := none }) (v := ?v6_206) rfl (by kernel_rfl) (by kernel_rfl) (by kernel_rfl) (by kernel_rfl) (fun _ _ _ h => h) (Or.inl ⟨by rfl, ?h6_206⟩) (by assumption) ?r6_206
    case h6_206 =>
      intro W hSW
      try dsimp only at hSW
      go_simp
      try with_reducible rfl
    try simp only [Act.put, List.setIfInBounds_toArray, List.set_cons_zero, List.set_cons_succ]
    refine wpAnyL_take (i := 7) (oi := { dst := some 16, op := Op.fieldAddr 71 (Operand.tmp 15) 3, type := 0, pos := "bills.go:153", after := #[{ on := 6, ground := Ground.data }], guard := none }) (v := ?v7_207) rfl (by kernel_rfl) (by kernel_rfl) (by kernel_rfl) (by kernel_rfl) (fun _ _ _ h => h) (Or.inl ⟨by rfl, ?h7_207⟩) (by assumption) ?r7_207
    case h7_207 =>
      intro W hSW
      try dsimp only at hSW
      go_simp
      try with_reducible rfl
    try simp only [Act.put, List.setIfInBounds_toArray, List.set_cons_zero, List.set_cons_succ]
    refine wpAnyL_take (i := 8) (oi := { dst := some 17, op := Op.load 29 (Operand.tmp 16), type := 29, pos := "bills.go:153", after := #[{ on := 7, ground := Ground.data }], guard := none }) (v := ?v8_208) rfl (by kernel_rfl) (by kernel_rfl) (by kernel_rfl) (by kernel_rfl) (fun _ _ _ h => h) (Or.inl ⟨by rfl, ?h8_208⟩) (by assumption) ?r8_208
    case h8_208 =>
      intro W hSW
      try dsimp only at hSW
      have hcc := ((HB2.out.trans (hSW.mono HB2.out.size)).cell (p := ⟨bl, 3, none⟩) HBL.out).trans HC.out.2.2
      go_simp
      try with_reducible rfl
    try simp only [Act.put, List.setIfInBounds_toArray, List.set_cons_zero, List.set_cons_succ]
    refine wpAnyL_ready (rs := [4]) (by kernel_rfl) (by simp) ?_
    refine AllReadyL.cons (o := { dst := some 13, op := Op.call { callee := Callee.value (Operand.func 36), args := #[Operand.tmp 12], argTypes := #[29] }, type := 29, pos := "bills.go:153", after := #[{ on := 3, ground := Ground.data }], guard := none }) rfl (fun K hK => ?_) AllReadyL.nil
    go_simp
    refine (HP.out _ (HB2.out.trans (hv0.mono HB2.out.size))).mono ?_
    rintro e w40 ⟨A13, c13, rfl, own40, b40⟩
    have hv40 : Below w2.heap.size w2 w40 := hv0.trans (b40.mono hv0.size)
    obtain ⟨g13, rfl, hg13, f13⟩ := FRow.of_own own40 HN.out.1
    replace hg13 : w2.heap.size ≤ g13 := Nat.le_trans hv0.size hg13
    try have f13 := f13.below b40
    try have h1318 : g13 < g18 := Nat.lt_of_lt_of_le l13 hg18'
    clear own40 b40
    have l13 := f13.lt
    refine hK.out _ _ (hv40) (fun hHeld => ?_)
    clear hK K
    try simp only [Act.put, List.setIfInBounds_toArray, List.set_cons_zero, List.set_cons_succ]
    refine wpAnyL_ready (rs := [9]) (by kernel_rfl) (by simp) ?_
    refine AllReadyL.cons (o := { dst := some 18, op := Op.call { callee := Callee.value (Operand.func 36), args := #[Operand.tmp 17], argTypes := #[29] }, type := 29, pos := "bills.go:153", after := #[{ on := 8, ground := Ground.data }, { on := 4, ground := Ground.chain }], guard := none }) rfl (fun K hK => ?_) AllReadyL.nil
    go_simp
    refine (HQ.out _ (HB2.out.trans (hv40.mono HB2.out.size))).mono ?_
    rintro e w41 ⟨A18, c18, rfl, own41, b41⟩
    have hv41 : Below w2.heap.size w2 w41 := hv40.trans (b41.mono hv40.size)
    obtain ⟨g18, rfl, hg18, f18⟩ := FRow.of_own own41 HN.out.1
    have hg18' := hg18
    replace hg18 : w2.heap.size ≤ g18 := Nat.le_trans hv40.size hg18
    have h1318 : g13 < g18 := Nat.lt_of_lt_of_le l13 hg18'
    have f13 := f13.below b41
    clear own41 b41 l13 hg18'
    have qx := HR2.out.below' hv41
    have k2 : w41.cell? ⟨bc, 2, none⟩ = some (.slice (some ⟨m.bp, 0, none⟩) l.n m.cp) := qx.cell 2
    have z2 := qx.frozen 2
    have k3 : w41.cell? ⟨bc, 3, none⟩ = some (.slice (some ⟨m.bq, 0, none⟩) l.n m.cq) := qx.cell 3
    have z3 := qx.frozen 3
    have k1 : w41.cell? ⟨bc, 1, none⟩ = some (.slice m.A m.ks.length m.c) := qx.cell 1
    have z1 := qx.frozen 1
    have KX := Keep.of_below (S := fun q => q = bc) hv41
    refine hK.out _ _ (hv41) (fun hHeld => ?_)
    clear hK K
    try simp only [Act.put, List.setIfInBounds_toArray, List.set_cons_zero, List.set_cons_succ]
    refine wpAnyL_take (i := 10) (oi := { dst := some 19, op := Op.fieldAddr 71 (Operand.tmp 3) 2, type := 0, pos := "bills.go:153", after := #[{ on := 0, ground := Ground.phase }, { on := 1, ground := Ground.phase }, { on := 2, ground := Ground.phase }, { on := 3, ground := Ground.phase }, { on := 4, ground := Ground.phase }, { on := 5, ground := Ground.textOnly Departure.lateStores }, { on := 6, ground := Ground.textOnly Departure.lateStoresUnsure }, { on := 7, ground := Ground.textOnly Departure.lateStoresUnsure }, { on := 8, ground := Ground.phase }, { on := 9, ground := Ground.phase }], guard := none }) (v := ?v10_209) rfl (by kernel_rfl) (by kernel_rfl) (by kernel_rfl) (by kernel_rfl) (fun _ _ _ h => h) (Or.inl ⟨by rfl, ?h10_209⟩) (by assumption) ?r10_209
    case h10_209 =>
      intro W hSW
      try dsimp only at hSW
      go_simp
      try with_reducible rfl
    try simp only [Act.put, List.setIfInBounds_toArray, List.set_cons_zero, List.set_cons_succ]
    refine wpAnyL_ready (rs := [11]) (by kernel_rfl) (by simp) ?_
    refine AllReadyL.late (o := { dst := none, op := Op.store 29 (Operand.tmp 19) (Operand.tmp 13), type := 0, pos := "bills.go:153", after := #[{ on := 10, ground := Ground.data }, { on := 4, ground := Ground.data }, { on := 9, ground := Ground.chain }, { on := 0, ground := Ground.phase }, { on := 1, ground := Ground.phase }, { on := 2, ground := Ground.phase }, { on := 3, ground := Ground.phase }, { on := 4, ground := Ground.phase }, { on := 5, ground := Ground.textOnly Departure.lateStores }, { on := 6, ground := Ground.textOnly Departure.lateStoresUnsure }, { on := 7, ground := Ground.textOnly Departure.lateStoresUnsure }, { on := 8, ground := Ground.phase }, { on := 9, ground := Ground.phase }], guard := none }) rfl (by rfl) (fun K hK => ?_) AllReadyL.nil
    go_simp
    obtain ⟨w42, hw42⟩ : ∃ x, w41.setCell ⟨bc, 2, none⟩ (.slice (some ⟨g13, 0, none⟩) N c13) = x := ⟨_, rfl⟩
    rw [hw42]
    have qx : IsRow w42 bc 71 (.int .i64 (l.periods : Int) :: .slice m.A m.ks.length m.c :: .slice (some ⟨g13, 0, none⟩) N c13 :: .slice (some ⟨m.bq, 0, none⟩) l.n m.cq :: bvs l.head) := by rw [← hw42]; exact qx.set 2 _
    have gx : w41.grownBy w42 (some bc) := by rw [← hw42]; exact grown_setCell _ _ _ _
    have f13 := f13.keep (gx.block g13 f13.lt (fun e => by have := Option.some.inj e; have := HC2.out; omega))
    have f18 := f18.keep (gx.block g18 f18.lt (fun e => by have := Option.some.inj e; have := HC2.out; omega))
    have KX := KX.grown gx (fun q e => .inl (Option.some.inj e).symm)
    have k3 := qx.cell 3
    have z3 := qx.frozen 3
    have k1 := qx.cell 1
    have z1 := qx.frozen 1
    replace k3 : w42.cell? ⟨bc, 3, none⟩ = some (.slice (some ⟨m.bq, 0, none⟩) l.n m.cq) := k3
    replace k1 : w42.cell? ⟨bc, 1, none⟩ = some (.slice m.A m.ks.length m.c) := k1
    have hv42 := hv41
    clear hw42 gx
    refine hK.out _ _ ?_
    clear hK K
    try simp only [Act.put, List.setIfInBounds_toArray, List.set_cons_zero, List.set_cons_succ]
    refine wpAnyL_takeE (i := 12) (oi := { dst := some 20, op := Op.fieldAddr 71 (Operand.tmp 3) 3, type := 0, pos := "bills.go:153", after := #[{ on := 0, ground := Ground.phase }, { on := 1, ground := Ground.phase }, { on := 2, ground := Ground.phase }, { on := 3, ground := Ground.phase }, { on := 4, ground := Ground.phase }, { on := 5, ground := Ground.phase }, { on := 6, ground := Ground.phase }, { on := 7, ground := Ground.phase }, { on := 8, ground := Ground.phase }, { on := 9, ground := Ground.phase }, { on := 10, ground := Ground.phase }, { on := 11, ground := Ground.phase }], guard := none }) (v := ?v12_210) rfl (by kernel_rfl) (by kernel_rfl) (by kernel_rfl) (by kernel_rfl) (fun _ _ _ h => h) (Or.inl ⟨by rfl, ?h12_210⟩) ?r12_210
    case h12_210 =>
      intro W
      go_simp
      try with_reducible rfl
    try simp only [Act.put, List.setIfInBounds_toArray, List.set_cons_zero, List.set_cons_succ]
    refine wpAnyL_ready (rs := [13]) (by kernel_rfl) (by simp) ?_
    refine AllReadyL.late (o := { dst := none, op := Op.store 29 (Operand.tmp 20) (Operand.tmp 18), type := 0, pos := "bills.go:153", after := #[{ on := 12, ground := Ground.data }, { on := 9, ground := Ground.data }, { on := 11, ground := Ground.chain }, { on := 0, ground := Ground.phase }, { on := 1, ground := Ground.phase }, { on := 2, ground := Ground.phase }, { on := 3, ground := Ground.phase }, { on := 4, ground := Ground.phase }, { on := 5, ground := Ground.phase }, { on := 6, ground := Ground.phase }, { on := 7, ground := Ground.phase }, { on := 8, ground := Ground.phase }, { on := 9, ground := Ground.phase }, { on := 10, ground := Ground.phase }, { on := 11, ground := Ground.phase }], guard := none }) rfl (by rfl) (fun K hK => ?_) AllReadyL.nil
    go_simp
    obtain ⟨w43, hw43⟩ : ∃ x, w42.setCell ⟨bc, 3, none⟩ (.slice (some ⟨g18, 0, none⟩) N c18) = x := ⟨_, rfl⟩
    rw [hw43]
    have qx : IsRow w43 bc 71 (.int .i64 (l.periods : Int) :: .slice m.A m.ks.length m.c :: .slice (some ⟨g13, 0, none⟩) N c13 :: .slice (some ⟨g18, 0, none⟩) N c18 :: bvs l.head) := by rw [← hw43]; exact qx.set 3 _
    have gx : w42.grownBy w43 (some bc) := by rw [← hw43]; exact grown_setCell _ _ _ _
    have f13 := f13.keep (gx.block g13 f13.lt (fun e => by have := Option.some.inj e; have := HC2.out; omega))
    have f18 := f18.keep (gx.block g18 f18.lt (fun e => by have := Option.some.inj e; have := HC2.out; omega))
    have KX := KX.grown gx (fun q e => .inl (Option.some.inj e).symm)
    have k3 := qx.cell 3
    have z3 := qx.frozen 3
    have k1 := qx.cell 1
    have z1 := qx.frozen 1
    replace k3 : w43.cell? ⟨bc, 3, none⟩ = some (.slice (some ⟨g18, 0, none⟩) N c18) := k3
    replace k1 : w43.cell? ⟨bc, 1, none⟩ = some (.slice m.A m.ks.length m.c) := k1
    have hv43 := hv42
    clear hw43 gx
    refine hK.out _ _ ?_
    clear hK K
    try simp only [Act.put, List.setIfInBounds_toArray, List.set_cons_zero, List.set_cons_succ]
    refine wpAnyL_takeE (i := 14) (oi := { dst := some 21, op := Op.fieldAddr 71 (Operand.tmp 3) 1, type := 0, pos := "bills.go:153", after := #[{ on := 0, ground := Ground.phase }, { on := 1, ground := Ground.phase }, { on := 2, ground := Ground.phase }, { on := 3, ground := Ground.phase }, { on := 4, ground := Ground.phase }, { on := 5, ground := Ground.phase }, { on := 6, ground := Ground.phase }, { on := 7, ground := Ground.phase }, { on := 8, ground := Ground.phase }, { on := 9, ground := Ground.phase }, { on := 10, ground := Ground.phase }, { on := 11, ground := Ground.phase }, { on := 12, ground := Ground.phase }, { on := 13, ground := Ground.phase }], guard := none }) (v := ?v14_211) rfl (by kernel_rfl) (by kernel_rfl) (by kernel_rfl) (by kernel_rfl) (fun _ _ _ h => h) (Or.inl ⟨by rfl, ?h14_211⟩) ?r14_211
    case h14_211 =>
      intro W
      go_simp
      try with_reducible rfl
    try simp only [Act.put, List.setIfInBounds_toArray, List.set_cons_zero, List.set_cons_succ]
    refine wpAnyL_ready (rs := [15]) (by kernel_rfl) (by simp) ?_
    refine AllReadyL.late (o := { dst := none, op := Op.store 69 (Operand.tmp 21) (Operand.const (Value.slice none 0 0)), type := 0, pos := "bills.go:153", after := #[{ on := 14, ground := Ground.data }, { on := 13, ground := Ground.chain }, { on := 0, ground := Ground.phase }, { on := 1, ground := Ground.phase }, { on := 2, ground := Ground.phase }, { on := 3, ground := Ground.phase }, { on := 4, ground := Ground.phase }, { on := 5, ground := Ground.phase }, { on := 6, ground := Ground.phase }, { on := 7, ground := Ground.phase }, { on := 8, ground := Ground.phase }, { on := 9, ground := Ground.phase }, { on := 10, ground := Ground.phase }, { on := 11, ground := Ground.phase }, { on := 12, ground := Ground.phase }, { on := 13, ground := Ground.phase }], guard := none }) rfl (by rfl) (fun K hK => ?_) AllReadyL.nil
    go_simp
    obtain ⟨w44, hw44⟩ : ∃ x, w43.setCell ⟨bc, 1, none⟩ (.slice none 0 0) = x := ⟨_, rfl⟩
    rw [hw44]
    have qx : IsRow w44 bc 71 (.int .i64 (l.periods : Int) :: .slice none 0 0 :: .slice (some ⟨g13, 0, none⟩) N c13 :: .slice (some ⟨g18, 0, none⟩) N c18 :: bvs l.head) := by rw [← hw44]; exact qx.set 1 _
    have gx : w43.grownBy w44 (some bc) := by rw [← hw44]; exact grown_setCell _ _ _ _
    have f13 := f13.keep (gx.block g13 f13.lt (fun e => by have := Option.some.inj e; have := HC2.out; omega))
    have f18 := f18.keep (gx.block g18 f18.lt (fun e => by have := Option.some.inj e; have := HC2.out; omega))
    have KX := KX.grown gx (fun q e => .inl (Option.some.inj e).symm)
    have k3 := qx.cell 3
    have z3 := qx.frozen 3
    have k1 := qx.cell 1
    have z1 := qx.frozen 1
    replace k3 : w44.cell? ⟨bc, 3, none⟩ = some (.slice (some ⟨g18, 0, none⟩) N c18) := k3
    replace k1 : w44.cell? ⟨bc, 1, none⟩ = some (.slice none 0 0) := k1
    have hv44 := hv43
    clear hw44 gx
    refine hK.out _ _ ?_
    clear hK K
    try simp only [Act.put, List.setIfInBounds_toArray, List.set_cons_zero, List.set_cons_succ]
    refine wpAnyL_done (by kernel_rfl) ?_ _
    have HQX := Lib.hid qx
    have HKX := Lib.hid KX
    have HF := Lib.hid (And.intro f13 (And.intro f18 (And.intro hg13 (And.intro hg18 h1318))))
    clear qx KX f13 f18 hg13 hg18 h1318 k1 k2 k3 z1 z2 z3 hv44
    go_wp2_with fail
    go_meet
    refine Lib.hid (clone_start HL.out (by have := HEQ.out.1; rw [this]; exact HF.out.1) (by have := HEQ.out.1; rw [this]; exact HF.out.2.1) HF.out.2.2.2.2 ?_ ?_ (by have := HEQ.out.1; rw [this]; exact HQX.out) HTT.out ?_ HB2.out HKX.out HC2.out)
    · have := HBC.out; omega
    · have := HF.out.2.2.1; have := HC2.out; omega
    · have := HF.out.2.2.2.1; have := HC2.out; omega
  case rest =>
    obtain ⟨w3, hw3⟩ : ∃ x, wc = x := ⟨_, rfl⟩
    have HS3 := hcut
    try rw [hw3] at HS3 ⊢
    clear hw3 hcut HP HQ
    have hb3 : Below w.heap.size w w3 := HS3.out.choose_spec.choose_spec.2.2
    have c1 : w3.cell? ⟨bl, 1, none⟩ = some (.slice m.A Lk m.c) := (hb3.cell (p := ⟨bl, 1, none⟩) HBL.out).trans HC.out.1
    clear hb3
    go_wp2_with fail
    go_loopw [27] (fun u27 wr => ∃ k : Nat, k ≤ Lk ∧ u27 = .int .i64 k ∧ Hid (CloneSt w wr bc k l)) (fun u27 _ => Lk - (intOf u27).toNat)
    case atStart => exact ⟨0, Nat.zero_le _, rfl, HS3⟩
    case round =>
      clear c1 HS3
      obtain ⟨k, hk, rfl, HSK⟩ := hrel
      by_cases hlt : k < Lk
      · obtain ⟨colc, mc, hlc, hcc, hbc⟩ := HSK.out
        have hkm : k < m.ks.length := by rw [HEQ.out.2]; exact hlt
        have hlat := HL.out.below hbc
        obtain ⟨g, off, hA, _, hform⟩ := hlat.krow.form (by omega)
        have hcells := hform k hkm
        have hkat := hlat.kat _ (List.getElem_mem hkm)
        rw [hA]
        have hkl : k < l.kept.length := by rw [HL.out.klen]; exact hkm
        have hke : l.kept[k] = (m.ks[k]'hkm).a := by
          have := HL.out.acc hkm
          unfold Bil.accAt at this
          simpa [List.getD, hkl] using this
        have htk : l.kept.take (k + 1) = l.kept.take k ++ [(m.ks[k]'hkm).a] := by rw [List.take_succ_eq_append_getElem hkl, hke]
        have hmk : mc.ks.length = k := by have := hlc.klen; simp at this; omega
        obtain ⟨ka, hka⟩ : ∃ x, m.ks[k]'hkm = x := ⟨_, rfl⟩
        rw [hka] at hcells hkat htk
        have hrg : wr.rangeAt g (off + k * 7) (ka.cells l.n) := fun j v hv => hcells j v hv
        rw [HEQ.out.1] at hrg hkat
        have i0 : (0 : Int) ≤ (k : Int) := by omega
        have i1 : (k : Int) < (Lk : Int) := by omega
        have HKA := Lib.hid hkat
        have HTK := Lib.hid htk
        have HMK := Lib.hid hmk
        have HLC := Lib.hid hlc
        have HCC := Lib.hid hcc
        have HBW := Lib.hid hbc
        clear hlat hform hcells hkat hkl hke htk hka hkm hA hlc hcc hbc hmk HSK
        go_upto_region 6 with (first
          | (refine wpList_load_mid rfl _ (.tmp 29) rfl g (off + k * 7) rfl (ka.cells N) _ hrg Tryd.underlying79 rfl size7 ?_)
          | (refine wpList_allocRow rfl _ rfl _ infoA ?_; intro w5 r5 b5 z5)
          | (refine wpList_storeRow rfl _ (.tmp 5) (.tmp 30) rfl (l' := ka.cells N) r5 rfl rfl size7 rfl rfl ?_; intro w6 r6 g6 z6))
        obtain ⟨b5', hb5'⟩ : ∃ x, wr.heap.size = x := ⟨_, rfl⟩
        have hk6 : Keep (fun q => wr.heap.size ≤ q) wr w6 := (Keep.of_below b5).grown g6 fun q e => .inr (by have := Option.some.inj e; omega)
        have hz6 := hk6.size
        have hzw := HBW.out.size
        have HLC6 := Lib.hid (HLC.out.keeps hk6 fun b hb => col_zero0 HLC.out hb)
        have HB6 : Hid (Below w.heap.size w w6) := Lib.hid (HBW.out.trans (hk6.below hzw fun q hq (e : wr.heap.size ≤ q) => by omega))
        have HKA6 : Hid (∀ W, Below w6.heap.size w6 W → KAt W col N ka) := Lib.hid (fun W hW => by
          have h1 := (HKA.out.keeps (S := fun q => wr.heap.size ≤ q) hk6 (fun b hb => by
            rcases Nat.eq_zero_or_pos (col b) with h0 | h0
            · exact h0
            · have := HL.out.lt b (by omega); omega))
          exact ⟨h1.c.below hW, h1.r.below hW, h1.t.below hW, h1.g.below hW, h1.lc, h1.lr, h1.lt, h1.lg, h1.qc, h1.qr, h1.qt, h1.qg⟩)
        rw [hb5'] at r6 ⊢
        have HR6 := Lib.hid r6
        have H5 : Hid (b5' < w6.heap.size) := Lib.hid r6.lt
        have HCB : Hid (bc < w6.heap.size) := Lib.hid HLC6.out.row.lt
        have HR1 : Hid (w6.cell? ⟨bc, 1, none⟩ = some (.slice mc.A k mc.c)) := Lib.hid (by rw [← HMK.out]; exact HLC6.out.row.cell 1)
        have hN16 := HN.out.2
        have HN16 := Lib.hid hN16
        clear hb5' hk6 hz6 hzw r5 r6 b5 g6 z5 z6 hrg hN16 HKA HLC
        go_wp2_with fail
        have hv0 : Below w6.heap.size w6 w6.drew := (Below.refl _ _).drew
        refine wp_region_late (fun W => Below w6.heap.size w6 W) [10, 11, 12] (by kernel_rfl) (hv0) (fun hHeld => ?_)
        obtain ⟨wd, hwd⟩ : ∃ x, w6.drew = x := ⟨_, rfl⟩
        rw [hwd] at hv0 hHeld ⊢
        clear hwd
        refine wpAnyL_take (i := 0) (oi := { dst := some 31, op := Op.fieldAddr 71 (Operand.tmp 3) 1, type := 0, pos := "bills.go:155", after := #[], guard := none }) (v := ?v0_601) rfl (by kernel_rfl) (by kernel_rfl) (by kernel_rfl) (by kernel_rfl) (fun _ _ _ h => h) (Or.inl ⟨by rfl, ?h0_601⟩) (by assumption) ?r0_601
        case h0_601 =>
          intro W hSW
          try dsimp only at hSW
          go_simp
          try with_reducible rfl
        try simp only [Act.put, List.setIfInBounds_toArray, List.set_cons_zero, List.set_cons_succ]
        refine wpAnyL_take (i := 1) (oi := { dst := some 32, op := Op.load 69 (Operand.tmp 31), type := 69, pos := "bills.go:155", after := #[{ on := 0, ground := Ground.data }], guard := none }) (v := ?v1_602) rfl (by kernel_rfl) (by kernel_rfl) (by kernel_rfl) (by kernel_rfl) (fun _ _ _ h => h) (Or.inl ⟨by rfl, ?h1_602⟩) (by assumption) ?r1_602
        case h1_602 =>
          intro W hSW
          try dsimp only at hSW
          have hcc := (hSW.cell (p := ⟨bc, 1, none⟩) HCB.out).trans HR1.out
          go_simp
          try with_reducible rfl
        try simp only [Act.put, List.setIfInBounds_toArray, List.set_cons_zero, List.set_cons_succ]
        refine wpAnyL_take (i := 2) (oi := { dst := some 33, op := Op.fieldAddr 79 (Operand.tmp 5) 0, type := 0, pos := "bills.go:155", after := #[], guard := none }) (v := ?v2_603) rfl (by kernel_rfl) (by kernel_rfl) (by kernel_rfl) (by kernel_rfl) (fun _ _ _ h => h) (Or.inl ⟨by rfl, ?h2_603⟩) (by assumption) ?r2_603
        case h2_603 =>
          intro W hSW
          try dsimp only at hSW
          go_simp
          try with_reducible rfl
        try simp only [Act.put, List.setIfInBounds_toArray, List.set_cons_zero, List.set_cons_succ]
        refine wpAnyL_take (i := 3) (oi := { dst := some 34, op := Op.load 31 (Operand.tmp 33), type := 31, pos := "bills.go:155", after := #[{ on := 2, ground := Ground.data }], guard := none }) (v := ?v3_604) rfl (by kernel_rfl) (by kernel_rfl) (by kernel_rfl) (by kernel_rfl) (fun _ _ _ h => h) (Or.inl ⟨by rfl, ?h3_604⟩) (by assumption) ?r3_604
        case h3_604 =>
          intro W hSW
          try dsimp only at hSW
          have hcc0 : W.cell? ⟨b5', 0, none⟩ = some (.int .i64 ka.a.bill.period) := (hSW.cell (p := ⟨b5', 0, none⟩) H5.out).trans (HR6.out.cell 0)
          have hcc1 : W.cell? ⟨b5', 1, none⟩ = some (.int .i64 ka.a.bill.media) := (hSW.cell (p := ⟨b5', 1, none⟩) H5.out).trans (HR6.out.cell 1)
          have hcc2 : W.cell? ⟨b5', 2, none⟩ = some (.int .i64 ka.a.bill.house) := (hSW.cell (p := ⟨b5', 2, none⟩) H5.out).trans (HR6.out.cell 2)
          have hcc3 : W.cell? ⟨b5', 3, none⟩ = some (.slice (some ⟨ka.bc, 0, none⟩) N ka.cc) := (hSW.cell (p := ⟨b5', 3, none⟩) H5.out).trans (HR6.out.cell 3)
          have hcc4 : W.cell? ⟨b5', 4, none⟩ = some (.slice (some ⟨ka.br, 0, none⟩) N ka.cr) := (hSW.cell (p := ⟨b5', 4, none⟩) H5.out).trans (HR6.out.cell 4)
          have hcc5 : W.cell? ⟨b5', 5, none⟩ = some (.slice (some ⟨ka.bt, 0, none⟩) N ka.ct) := (hSW.cell (p := ⟨b5', 5, none⟩) H5.out).trans (HR6.out.cell 5)
          go_simp
          try with_reducible rfl
        try simp only [Act.put, List.setIfInBounds_toArray, List.set_cons_zero, List.set_cons_succ]
        refine wpAnyL_take (i := 5) (oi := { dst := some 36, op := Op.fieldAddr 79 (Operand.tmp 5) 1, type := 0, pos := "bills.go:155", after := #[], guard := none }) (v := ?v5_605) rfl (by kernel_rfl) (by kernel_rfl) (by kernel_rfl) (by kernel_rfl) (fun _ _ _ h => h) (Or.inl ⟨by rfl, ?h5_605⟩) (by assumption) ?r5_605
        case h5_605 =>
          intro W hSW
          try dsimp only at hSW
          go_simp
          try with_reducible rfl
        try simp only [Act.put, List.setIfInBounds_toArray, List.set_cons_zero, List.set_cons_succ]
        refine wpAnyL_take (i := 6) (oi := { dst := some 37, op := Op.load 29 (Operand.tmp 36), type := 29, pos := "bills.go:155", after := #[{ on := 5, ground := Ground.data }], guard := none }) (v := ?v6_606) rfl (by kernel_rfl) (by kernel_rfl) (by kernel_rfl) (by kernel_rfl) (fun _ _ _ h => h) (Or.inl ⟨by rfl, ?h6_606⟩) (by assumption) ?r6_606
        case h6_606 =>
          intro W hSW
          try dsimp only at hSW
          have hcc : W.cell? ⟨b5', 6, none⟩ = some (.slice (some ⟨ka.bg, 0, none⟩) N ka.cg) := (hSW.cell (p := ⟨b5', 6, none⟩) H5.out).trans (HR6.out.cell 6)
          go_simp
          try with_reducible rfl
        try simp only [Act.put, List.setIfInBounds_toArray, List.set_cons_zero, List.set_cons_succ]
        refine wpAnyL_ready (rs := [4]) (by kernel_rfl) (by simp) ?_
        refine AllReadyL.cons (o := { dst := some 35, op := Op.call { callee := Callee.value (Operand.func 37), args := #[Operand.tmp 34], argTypes := #[31] }, type := 31, pos := "bills.go:155", after := #[{ on := 3, ground := Ground.data }], guard := none }) rfl (fun K hK => ?_) AllReadyL.nil
        go_simp
        refine (copied_any ka.a.bill.period ka.a.bill.media ka.a.bill.house (some ⟨ka.bc, 0, none⟩) (some ⟨ka.br, 0, none⟩) (some ⟨ka.bt, 0, none⟩) N N N ka.cc ka.cr ka.ct ka.a.bill.charges ka.a.bill.credits ka.a.bill.nets (HKA6.out _ hv0).lc (HKA6.out _ hv0).lr (HKA6.out _ hv0).lt (Nat.le_trans HN16.out (by decide)) (Nat.le_trans HN16.out (by decide)) (Nat.le_trans HN16.out (by decide)) wd.heap.size wd ((HKA6.out _ hv0).c.rd (HKA6.out _ hv0).lc) ((HKA6.out _ hv0).r.rd (HKA6.out _ hv0).lr) ((HKA6.out _ hv0).t.rd (HKA6.out _ hv0).lt) (Nat.le_refl _)).mono ?_
        rintro e w60 ⟨v, rfl, hbv, b60⟩
        obtain ⟨A1, A2, A3, d1, d2, d3, hv, o1, o2, o3⟩ := hbv
        dsimp only at hv o1 o2 o3
        rw [(HKA6.out _ hv0).lc, (HKA6.out _ hv0).lr, (HKA6.out _ hv0).lt] at hv
        rw [(HKA6.out _ hv0).lc] at o1
        rw [(HKA6.out _ hv0).lr] at o2
        rw [(HKA6.out _ hv0).lt] at o3
        subst hv
        obtain ⟨gc, rfl, hgc, fc⟩ := FRow.of_own o1 HN.out.1
        obtain ⟨gr, rfl, hgr, fr⟩ := FRow.of_own o2 HN.out.1
        obtain ⟨gt, rfl, hgt, ft⟩ := FRow.of_own o3 HN.out.1
        have HG1 : Hid (w6.heap.size ≤ gc ∧ w6.heap.size ≤ gr ∧ w6.heap.size ≤ gt) := Lib.hid ⟨Nat.le_trans hv0.size hgc, Nat.le_trans hv0.size hgr, Nat.le_trans hv0.size hgt⟩
        have hv60 : Below w6.heap.size w6 w60 := hv0.trans (b60.mono hv0.size)
        have HF1 := Lib.hid (And.intro fc (And.intro fr ft))
        have HW1 := Lib.hid hv60
        obtain ⟨wcp, hwcp⟩ : ∃ x, w60 = x := ⟨_, rfl⟩
        have HBC1 : Hid (Below wcp.heap.size wcp w60) := Lib.hid (by rw [hwcp]; exact Below.refl _ _)
        rw [hwcp] at HF1
        clear o1 o2 o3 b60 hgc hgr hgt fc fr ft hwcp
        refine hK.out _ _ (hv60) (fun hHeld => ?_)
        clear hK K
        try simp only [Act.put, List.setIfInBounds_toArray, List.set_cons_zero, List.set_cons_succ]
        refine wpAnyL_ready (rs := [7]) (by kernel_rfl) (by simp) ?_
        refine AllReadyL.cons (o := { dst := some 38, op := Op.call { callee := Callee.value (Operand.func 36), args := #[Operand.tmp 37], argTypes := #[29] }, type := 29, pos := "bills.go:155", after := #[{ on := 6, ground := Ground.data }, { on := 4, ground := Ground.chain }], guard := none }) rfl (fun K hK => ?_) AllReadyL.nil
        go_simp
        refine (cloneI (some ⟨ka.bg, 0, none⟩) N ka.cg ka.a.granted (HKA6.out _ hv60).lg (Nat.le_trans HN16.out (by decide)) w60.heap.size w60 ((HKA6.out _ hv60).g.rd (HKA6.out _ hv60).lg) (Nat.le_refl _)).mono ?_
        rintro e w61 ⟨A4, d4, rfl, own61, b61⟩
        have hv61 : Below w6.heap.size w6 w61 := hv60.trans (b61.mono hv60.size)
        obtain ⟨gg, rfl, hgg, fg⟩ := FRow.of_own own61 HN.out.1
        have HF2 := Lib.hid (HBC1.out.trans (b61.mono HBC1.out.size))
        have HG2 : Hid (w6.heap.size ≤ gg ∧ gg ≠ gc ∧ gg ≠ gr ∧ gg ≠ gt) := Lib.hid (by have h1 := HF1.out.1.lt; have h2 := HF1.out.2.1.lt; have h3 := HF1.out.2.2.lt; have h4 := HBC1.out.size; have h5 := hv60.size; omega)
        clear own61 b61 hgg
        refine hK.out _ _ (hv61) (fun hHeld => ?_)
        clear hK K
        try simp only [Act.put, List.setIfInBounds_toArray, List.set_cons_zero, List.set_cons_succ]
        refine wpAnyL_take (i := 8) (oi := { dst := some 39, op := Op.build 79 #[(0, Operand.tmp 35), (1, Operand.tmp 38)], type := 79, pos := "bills.go:155", after := #[{ on := 4, ground := Ground.data }, { on := 7, ground := Ground.data }], guard := none }) (v := _) rfl (by kernel_rfl) (by kernel_rfl) (by kernel_rfl) (by kernel_rfl) (fun _ _ _ h => h) (y_build01 rfl 79 0 1 (.tmp 35) (.tmp 38) rfl (.agg #[.int .i64 ka.a.bill.period, .int .i64 ka.a.bill.media, .int .i64 ka.a.bill.house, .slice (some ⟨gc, 0, none⟩) N d1, .slice (some ⟨gr, 0, none⟩) N d2, .slice (some ⟨gt, 0, none⟩) N d3]) (.slice (some ⟨gg, 0, none⟩) N d4) rfl rfl _ (built_acc _ _ _ _ _ _ _ _ _ _ _ _ _ _ _)) (by assumption) ?_
        try simp only [Act.put, List.setIfInBounds_toArray, List.set_cons_zero, List.set_cons_succ]
        refine wpAnyL_ready (rs := [9]) (by kernel_rfl) (by simp) ?_
        refine AllReadyL.cons (o := { dst := some 40, op := Op.buildSlice 69 1 #[(0, Operand.tmp 39)], type := 69, pos := "bills.go:155", after := #[{ on := 8, ground := Ground.data }], guard := none }) rfl (fun K hK => ?_) AllReadyL.nil
        go_simp
        obtain ⟨g40, hg40⟩ : ∃ x, w61.heap.size = x := ⟨_, rfl⟩
        have r40 := IsRow.new w61 79 [.int .i64 ka.a.bill.period, .int .i64 ka.a.bill.media, .int .i64 ka.a.bill.house, .slice (some ⟨gc, 0, none⟩) N d1, .slice (some ⟨gr, 0, none⟩) N d2, .slice (some ⟨gt, 0, none⟩) N d3, .slice (some ⟨gg, 0, none⟩) N d4]
        obtain ⟨w62, hw62⟩ : ∃ x, w61.alloc (.cells #[.int .i64 ka.a.bill.period, .int .i64 ka.a.bill.media, .int .i64 ka.a.bill.house, .slice (some ⟨gc, 0, none⟩) N d1, .slice (some ⟨gr, 0, none⟩) N d2, .slice (some ⟨gt, 0, none⟩) N d3, .slice (some ⟨gg, 0, none⟩) N d4] 79) = x := ⟨_, rfl⟩
        rw [show ([.int .i64 ka.a.bill.period, .int .i64 ka.a.bill.media, .int .i64 ka.a.bill.house, .slice (some ⟨gc, 0, none⟩) N d1, .slice (some ⟨gr, 0, none⟩) N d2, .slice (some ⟨gt, 0, none⟩) N d3, .slice (some ⟨gg, 0, none⟩) N d4] : List Value).toArray = #[.int .i64 ka.a.bill.period, .int .i64 ka.a.bill.media, .int .i64 ka.a.bill.house, .slice (some ⟨gc, 0, none⟩) N d1, .slice (some ⟨gr, 0, none⟩) N d2, .slice (some ⟨gt, 0, none⟩) N d3, .slice (some ⟨gg, 0, none⟩) N d4] from rfl, hw62, hg40] at r40
        rw [hw62, hg40]
        have b62 : Below w61.heap.size w61 w62 := by rw [← hw62]; exact (Below.refl _ _).alloc (Nat.le_refl _) _
        have hv62 : Below w6.heap.size w6 w62 := hv61.trans (b62.mono hv61.size)
        have fg := fg.below b62
        have HF3 := Lib.hid (HF2.out.trans (b62.mono HF2.out.size))
        clear hw62 b62 hg40
        refine hK.out _ _ (hv62) (fun hHeld => ?_)
        clear hK K
        try simp only [Act.put, List.setIfInBounds_toArray, List.set_cons_zero, List.set_cons_succ]
        refine wpAnyL_ready (rs := [10]) (by kernel_rfl) (by simp) ?_
        refine AllReadyL.late (o := { dst := some 41, op := Op.call { callee := Callee.builtin Builtin.append, args := #[Operand.tmp 32, Operand.tmp 40], argTypes := #[69, 69] }, type := 69, pos := "bills.go:155", after := #[{ on := 1, ground := Ground.data }, { on := 9, ground := Ground.data }, { on := 7, ground := Ground.chain }], guard := none }) rfl (by rfl) (fun K hK => ?_) AllReadyL.nil
        rw [if_pos (by rfl)]
        have hlat := HLC6.out.below hv62
        have hkr := hlat.krow
        replace hkr : KRow w62 N mc.A mc.c mc.ks := by rw [← HEQ.out.1]; exact hkr
        have hcells : ∀ j u, ((⟨ka.a, gc, d1, gr, d2, gt, d3, gg, d4⟩ : KA).cells N)[j]? = some u → w62.cell? ⟨g40, j, none⟩ = some u := fun j u hu => by rw [r40.cell]; exact hu
        obtain ⟨gk, ok, ck, w63, hrun, hKR, hor, hgr⟩ := run_kapp w62 N mc.c mc.A mc.ks hkr (⟨ka.a, gc, d1, gr, d2, gt, d3, gg, d4⟩ : KA) g40 hcells (by have := hlat.len; omega) 69
        rw [HMK.out] at hrun
        refine wp_arun (.tmp 32) (.tmp 40) 69 rfl _ _ _ rfl rfl hrun ?_
        have hka := HKA6.out _ (Below.refl _ _)
        have happ := LAt.append HLC6.out hv62 (⟨ka.a, gc, d1, gr, d2, gt, d3, gg, d4⟩ : KA) (by have e : ({ l with kept := l.kept.take k } : Bil.Lg).n = N := HEQ.out.1; rw [e]; exact HF1.out.1.below HF3.out) (by have e : ({ l with kept := l.kept.take k } : Bil.Lg).n = N := HEQ.out.1; rw [e]; exact HF1.out.2.1.below HF3.out) (by have e : ({ l with kept := l.kept.take k } : Bil.Lg).n = N := HEQ.out.1; rw [e]; exact HF1.out.2.2.below HF3.out) (by have e : ({ l with kept := l.kept.take k } : Bil.Lg).n = N := HEQ.out.1; rw [e]; exact fg) (hka.lc.trans HEQ.out.1.symm) (hka.lr.trans HEQ.out.1.symm) (hka.lt.trans HEQ.out.1.symm) (hka.lg.trans HEQ.out.1.symm) HG1.out.1 HG1.out.2.1 HG1.out.2.2 HG2.out.1 HG2.out.2.1 HG2.out.2.2.1 HG2.out.2.2.2 hgr (by have e : ({ l with kept := l.kept.take k } : Bil.Lg).n = N := HEQ.out.1; rw [e]; exact hKR) hor (by rw [HMK.out]; omega) (by have h1 := HTT.out; have h2 := HB6.out.size; omega)
        rw [HMK.out] at happ
        have HAP := Lib.hid happ
        have hnb : gk ≠ bc := fun e => Or.elim hor (fun ⟨o, ho⟩ => by have h1 := HLC6.out.cka _ ho; have h2 := HLC6.out.cbl; rw [← e] at h2; simp only at h1; omega) (fun ho => by have := HLC6.out.row.lt; have := hv62.size; omega)
        have hrw := (hlat.row).grown hgr (by intro e; exact hnb (Option.some.inj e))
        have hk1 : w63.cell? ⟨bc, 1, none⟩ = some _ := hrw.cell 1
        have hf1 : w63.frozen? ⟨bc, 1, none⟩ = false := hrw.frozen 1
        have hv63 := hgr
        clear hlat hkr hcells hrun hKR hor happ hrw r40 fg hka hnb
        refine hK.out _ _ ?_
        clear hK K
        try simp only [Act.put, List.setIfInBounds_toArray, List.set_cons_zero, List.set_cons_succ]
        refine wpAnyL_takeE (i := 11) (oi := { dst := some 42, op := Op.fieldAddr 71 (Operand.tmp 3) 1, type := 0, pos := "bills.go:155", after := #[{ on := 0, ground := Ground.phase }, { on := 1, ground := Ground.phase }, { on := 2, ground := Ground.phase }, { on := 3, ground := Ground.phase }, { on := 4, ground := Ground.phase }, { on := 5, ground := Ground.phase }, { on := 6, ground := Ground.phase }, { on := 7, ground := Ground.phase }, { on := 8, ground := Ground.phase }, { on := 9, ground := Ground.phase }, { on := 10, ground := Ground.phase }], guard := none }) (v := ?v11_608) rfl (by kernel_rfl) (by kernel_rfl) (by kernel_rfl) (by kernel_rfl) (fun _ _ _ h => h) (Or.inl ⟨by rfl, ?h11_608⟩) ?r11_608
        case h11_608 =>
          intro W
          go_simp
          try with_reducible rfl
        try simp only [Act.put, List.setIfInBounds_toArray, List.set_cons_zero, List.set_cons_succ]
        refine wpAnyL_ready (rs := [12]) (by kernel_rfl) (by simp) ?_
        refine AllReadyL.late (o := { dst := none, op := Op.store 69 (Operand.tmp 42) (Operand.tmp 41), type := 0, pos := "bills.go:155", after := #[{ on := 11, ground := Ground.data }, { on := 10, ground := Ground.data }, { on := 10, ground := Ground.chain }, { on := 0, ground := Ground.phase }, { on := 1, ground := Ground.phase }, { on := 2, ground := Ground.phase }, { on := 3, ground := Ground.phase }, { on := 4, ground := Ground.phase }, { on := 5, ground := Ground.phase }, { on := 6, ground := Ground.phase }, { on := 7, ground := Ground.phase }, { on := 8, ground := Ground.phase }, { on := 9, ground := Ground.phase }, { on := 10, ground := Ground.phase }], guard := none }) rfl (by rfl) (fun K hK => ?_) AllReadyL.nil
        go_simp
        obtain ⟨w64, hw64⟩ : ∃ x, w63.setCell ⟨bc, 1, none⟩ (.slice (some ⟨gk, ok, none⟩) (k + 1) ck) = x := ⟨_, rfl⟩
        rw [hw64]
        have hap := HAP.out
        rw [hw64] at hap
        have HAQ := Lib.hid hap
        have hv64 := HAQ
        clear hw64 hap hk1 hf1
        refine hK.out _ _ ?_
        clear hK K
        try simp only [Act.put, List.setIfInBounds_toArray, List.set_cons_zero, List.set_cons_succ]
        refine wpAnyL_done (by kernel_rfl) ?_ _
        obtain ⟨coln, mn, hln, hcn, hkn⟩ := HAQ.out
        have HNS : Hid (CloneSt w w64 bc (k + 1) l) := Lib.hid ⟨coln, mn, by rw [HTK.out]; exact hln, fun b hb => by
          rcases hcn b hb with h | h
          · exact HCC.out b h
          · have := HB6.out.size; omega, HB6.out.trans (hkn.below HB6.out.size fun q hq e => by
          rcases e with e | ⟨a, ha, e⟩
          · have := HCC.out bc (by have := HLC6.out.cbl; omega); omega
          · have h1 := HLC6.out.cka a ha; have := HCC.out a.block (by omega); omega)⟩
        clear hln hcn hkn
        go_wp2_with fail
        go_roundw
        case rel => exact ⟨k + 1, by omega, by go_num, HNS⟩
        case measure => simp [intOf]; omega
      · obtain rfl : k = Lk := by omega
        go_wp2_with fail
        go_ret
        obtain ⟨col2, m2, h1, h2, h3⟩ := HSK.out
        rw [List.take_of_length_le (by rw [HL.out.klen, HEQ.out.2]; exact Nat.le_refl _)] at h1
        exact ⟨bc, col2, m2, rfl, h1, h2, h3⟩
end Go.Proofs.YtkjomnakolhdcaaDoor
