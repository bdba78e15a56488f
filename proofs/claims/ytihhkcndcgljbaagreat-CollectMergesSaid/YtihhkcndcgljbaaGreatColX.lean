/- The specification's Copied, used and with of layer 24. Conditions: the rows are kept. -/
import Derived.Test.YtihhkcndcgljbaaGreatHeld2
import Derived.Test.YtihhkcndcgljbaaGreatColVU
namespace Go.Proofs.YtihhkcndcgljbaaGreat
set_option linter.unusedVariables false
set_option linter.unusedSimpArgs false
open Go.RowKit
abbrev oColX0 : Oper := { dst := some 15, op := Op.move (Operand.tmp 6), type := 4, pos := "ref.go:88", after := #[], guard := none }
abbrev oColX1 : Oper := { dst := some 16, op := Op.unOp UnOp.not 4 (Operand.tmp 15), type := 4, pos := "ref.go:88", after := #[{ on := 0, ground := Ground.data }], guard := none }
abbrev oColX2 : Oper := { dst := some 17, op := Op.move (Operand.tmp 16), type := 4, pos := "ref.go:88", after := #[{ on := 1, ground := Ground.data }], guard := none }
abbrev oColX3 : Oper := { dst := some 18, op := Op.fieldAddr 44 (Operand.tmp 2) 2, type := 0, pos := "ref.go:88", after := #[{ on := 2, ground := Ground.guard }], guard := some (2, true) }
abbrev oColX4 : Oper := { dst := some 19, op := Op.load 42 (Operand.tmp 18), type := 42, pos := "ref.go:88", after := #[{ on := 3, ground := Ground.data }, { on := 2, ground := Ground.guard }], guard := some (2, true) }
abbrev oColX5 : Oper := { dst := some 20, op := Op.move (Operand.tmp 7), type := 3, pos := "ref.go:88", after := #[{ on := 2, ground := Ground.guard }], guard := some (2, true) }
abbrev oColX6 : Oper := { dst := some 21, op := Op.indexAddr 42 (Operand.tmp 19) (Operand.tmp 20), type := 0, pos := "ref.go:88", after := #[{ on := 4, ground := Ground.data }, { on := 5, ground := Ground.data }, { on := 2, ground := Ground.guard }], guard := some (2, true) }
abbrev oColX7 : Oper := { dst := some 22, op := Op.fieldAddr 107 (Operand.tmp 21) 0, type := 0, pos := "ref.go:88", after := #[{ on := 6, ground := Ground.data }, { on := 2, ground := Ground.guard }], guard := some (2, true) }
abbrev oColX8 : Oper := { dst := some 23, op := Op.load 3 (Operand.tmp 22), type := 3, pos := "ref.go:88", after := #[{ on := 7, ground := Ground.data }, { on := 2, ground := Ground.guard }], guard := some (2, true) }
abbrev oColX9 : Oper := { dst := some 24, op := Op.fieldAddr 107 (Operand.tmp 3) 0, type := 0, pos := "ref.go:88", after := #[{ on := 2, ground := Ground.guard }], guard := some (2, true) }
abbrev oColX10 : Oper := { dst := some 25, op := Op.load 3 (Operand.tmp 24), type := 3, pos := "ref.go:88", after := #[{ on := 9, ground := Ground.data }, { on := 2, ground := Ground.guard }], guard := some (2, true) }
abbrev oColX11 : Oper := { dst := some 26, op := Op.binOp BinOp.gtr 3 (Operand.tmp 23) (Operand.tmp 25) 3, type := 4, pos := "ref.go:88", after := #[{ on := 8, ground := Ground.data }, { on := 10, ground := Ground.data }, { on := 2, ground := Ground.guard }], guard := some (2, true) }
abbrev oColX12 : Oper := { dst := some 27, op := Op.pick (Operand.tmp 17) (Operand.tmp 26) (Operand.const (Value.bool false)), type := 4, pos := "ref.go:88", after := #[{ on := 2, ground := Ground.data }, { on := 11, ground := Ground.data }], guard := none }
namespace Col
def uB (us : List S.Str.Us) (g : Int) : Bool := us.any fun u => decide (u.g = g)
theorem uB_hit {us : List S.Str.Us} {g : Int} {j : Nat} (hj : j < us.length) (h : us[j].g = g) : uB us g = true := by
  unfold uB; rw [List.any_eq_true]; exact ⟨us[j], List.getElem_mem hj, by simpa using h⟩
theorem uB_miss {us : List S.Str.Us} {g : Int} (h : ∀ i (hi : i < us.length), us[i].g ≠ g) : uB us g = false := by
  unfold uB; rw [List.any_eq_false]
  intro u hu
  obtain ⟨i, hi, rfl⟩ := List.getElem_of_mem hu
  simpa using h i hi
theorem uB_no {us : List S.Str.Us} {g : Int} (h : uB us g = false) : ∀ u ∈ us, u.g ≠ g := fun u hu => by
  unfold uB at h; rw [List.any_eq_false] at h
  simpa using h u hu
/-- a used stripe in its place -/
def insU (u : S.Str.Us) : List S.Str.Us → List S.Str.Us
  | [] => [u]
  | x :: l => if u.g < x.g then u :: x :: l else x :: insU u l
def anyG (u : S.Str.Us) (l : List S.Str.Us) : Bool := l.any fun x => decide (u.g < x.g)
theorem insU_none {u : S.Str.Us} : ∀ {l : List S.Str.Us}, anyG u l = false → insU u l = l ++ [u]
  | [], _ => rfl
  | x :: l, h => by
    unfold anyG at h
    rw [List.any_cons, Bool.or_eq_false_iff] at h
    have h1 : ¬ u.g < x.g := by simpa using h.1
    rw [insU, if_neg h1, insU_none h.2]; rfl
theorem insU_snoc {u x : S.Str.Us} : ∀ {l : List S.Str.Us}, anyG u l = true → insU u (l ++ [x]) = insU u l ++ [x]
  | [], h => by simp [anyG] at h
  | y :: l, h => by
    rw [List.cons_append, insU, insU]
    by_cases h1 : u.g < y.g
    · rw [if_pos h1, if_pos h1]; rfl
    · rw [if_neg h1, if_neg h1]
      have h2 : anyG u l = true := by
        unfold anyG at h ⊢
        rw [List.any_cons, Bool.or_eq_true] at h
        rcases h with h | h
        · exact absurd (by simpa using h) h1
        · exact h
      rw [insU_snoc h2]; rfl
theorem insU_new {u x : S.Str.Us} : ∀ {l : List S.Str.Us}, anyG u l = false → u.g < x.g → insU u (l ++ [x]) = l ++ [u, x]
  | [], _, h => by rw [List.nil_append, insU, if_pos h]; rfl
  | y :: l, h, hx => by
    unfold anyG at h
    rw [List.any_cons, Bool.or_eq_false_iff] at h
    have h1 : ¬ u.g < y.g := by simpa using h.1
    rw [List.cons_append, insU, if_neg h1, insU_new h.2 hx]; rfl
theorem anyG_snoc (u x : S.Str.Us) (l : List S.Str.Us) : anyG u (l ++ [x]) = (anyG u l || decide (u.g < x.g)) := by
  unfold anyG; simp
/-- what with holds behind some elements -/
def insJ (u : S.Str.Us) (l : List S.Str.Us) : List S.Str.Us := if anyG u l = true then insU u l else l
theorem insJ_yes {u x : S.Str.Us} {l : List S.Str.Us} (h : anyG u l = true) : insJ u (l ++ [x]) = insJ u l ++ [x] ∧ anyG u (l ++ [x]) = true := by
  have h2 : anyG u (l ++ [x]) = true := by rw [anyG_snoc, h]; rfl
  unfold insJ; rw [if_pos h, if_pos h2, insU_snoc h]; exact ⟨rfl, h2⟩
theorem insJ_new {u x : S.Str.Us} {l : List S.Str.Us} (h : anyG u l = false) (hx : u.g < x.g) : insJ u (l ++ [x]) = (insJ u l ++ [u]) ++ [x] ∧ anyG u (l ++ [x]) = true := by
  have h2 : anyG u (l ++ [x]) = true := by rw [anyG_snoc, h]; simpa using hx
  have e1 : insJ u l = l := if_neg (by rw [h]; decide)
  have e2 : insJ u (l ++ [x]) = insU u (l ++ [x]) := if_pos h2
  rw [e1, e2, insU_new h hx]; exact ⟨by simp, h2⟩
theorem insJ_no {u x : S.Str.Us} {l : List S.Str.Us} (h : anyG u l = false) (hx : ¬ u.g < x.g) : insJ u (l ++ [x]) = insJ u l ++ [x] ∧ anyG u (l ++ [x]) = false := by
  have h2 : anyG u (l ++ [x]) = false := by rw [anyG_snoc, h]; simpa using hx
  have e1 : insJ u l = l := if_neg (by rw [h]; decide)
  have e2 : insJ u (l ++ [x]) = l ++ [x] := if_neg (by rw [h2]; decide)
  rw [e1, e2]; exact ⟨rfl, h2⟩
theorem insJ_end {u : S.Str.Us} {l : List S.Str.Us} : insU u l = if anyG u l = true then insJ u l else insJ u l ++ [u] := by
  by_cases h : anyG u l = true
  · rw [if_pos h]; unfold insJ; rw [if_pos h]
  · rw [if_neg h]; unfold insJ; rw [if_neg h, insU_none (by simpa using h)]
theorem insJ_len (u : S.Str.Us) (l : List S.Str.Us) : (insJ u l).length = l.length + (if anyG u l = true then 1 else 0) := by
  have key : ∀ l : List S.Str.Us, (insU u l).length = l.length + 1 := fun l => by
    induction l with
    | nil => rfl
    | cons x l ih => rw [insU]; split <;> simp [ih]
  unfold insJ; split
  · rw [key]
  · rfl
end Col
abbrev rowV (x : S.RR) : Value := .agg (S.rwL x).toArray
theorem usT25 : ElemT Tryz.prog 42 107 (.agg #[.int .i64 0, .int .i64 0, .int .i64 0]) 3 24 := ⟨Tryz.underlying42, by kernel_rfl, by kernel_rfl, by decide, by decide⟩
theorem rowsT25' : ElemT Tryz.prog 25 44 (.agg #[.int .i64 0, .int .i64 0, .slice none 0 0]) 3 40 := ⟨Tryz.underlying25, by kernel_rfl, by kernel_rfl, by decide, by decide⟩
theorem usL_ones (l : List S.Str.Us) : ∀ u ∈ l.flatMap S.usL, u.oneCell' = true := fun u hu => by
  obtain ⟨x, _, hx⟩ := List.mem_flatMap.1 hu
  exact S.usL_one x u hx
/-- a cell of a row is stored -/
theorem isRow_put {w : World} {b t k : Nat} {l : List Value} (h : IsRow w b t l) (hk : k < l.length) (v : Value) : IsRow (w.setCell ⟨b, k, none⟩ v) b t (l.set k v) ∧ w.grownBy (w.setCell ⟨b, k, none⟩ v) (some b) := by
  refine ⟨?_, ⟨rfl, rfl, rfl, by simp, fun j _ hj => Below.heap_setCell _ _ _ j (fun e => hj (by rw [e]))⟩⟩
  have h1 : w.heap[b]? = some (.cells l.toArray t (0, 0)) := h
  have hlt := (Array.getElem?_eq_some_iff.1 h1).1
  show (w.setCell ⟨b, k, none⟩ v).heap[b]? = _
  have h2 : w.heap[b] = .cells l.toArray t (0, 0) := (Array.getElem?_eq_some_iff.1 h1).2
  unfold World.setCell
  simp [h1, hlt, h2, Array.getElem_modify]
section
variable {w : World} {B n c : Nat} {A : Option Addr} {D : List S.RR} {rs : List S.Str.Rw}
set_option maxRecDepth 100000 in
set_option maxHeartbeats 1600000 in
theorem copied24 (h : S.RowsAt w B A n D rs) (hB : B ≤ w.heap.size) (hnc : n ≤ c) (hn : n ≤ 1000) :
    Calls Tryz.prog 39 #[.slice A n c] w fun e w' => ∃ A' c' D', e = .returned (.slice A' n c') ∧ AllAt w (fun _ => True) w' A' n c' D' rs ∧ (∀ x ∈ D', ∀ p, x.A = some p → w.heap.size ≤ p.block) ∧ Below w.heap.size w w' := by
  have HR := Lib.hid h
  have HBB := Lib.hid hB
  have HL := Lib.hid h.len
  clear h hB
  go_enter Tryz.func39, Tryz.ntmps39
  go_upto_region 3 with fail
  go_loopw [3, 4] (fun u3 u4 wx => ∃ (wr : World) (j : Nat) (A3 : Option Addr) (c3 : Nat) (D3 : List S.RR), wr = wx ∧ j ≤ n ∧ u4 = .int .i64 (j : Int) ∧ u3 = .slice A3 j c3 ∧ Hid (AllAt w (fun _ => True) wr A3 j c3 D3 (rs.take j)) ∧ Hid (∀ x ∈ D3, ∀ p, x.A = some p → w.heap.size ≤ p.block) ∧ Hid (Below w.heap.size w wr)) (fun _ u4 _ => n - (intOf u4).toNat)
  case atStart => exact ⟨_, 0, none, 0, [], rfl, Nat.zero_le _, rfl, rfl, Lib.hid ⟨World.ownsRow_nil _ _ _ _, (fun x hx => by cases hx), by simp, fun _ _ => trivial, (fun x hx => by cases hx), (fun x hx => by cases hx)⟩, Lib.hid (fun x hx => by cases hx), Lib.hid (Below.refl _ _)⟩
  case round =>
    obtain ⟨wr, j, A3, c3, D3, rfl, hj, rfl, rfl, HA, HDN, HBR⟩ := hrel
    by_cases hlt : j < n
    · obtain ⟨b, off, x, rfl, hbb, hD, hl, hok, hrg, -⟩ := HR.out.at hlt
      have hrw : wr.rangeAt b (off + j * 3) (S.rwL x) := fun q u hq => (HBR.out.cell (p := ⟨b, off + j * 3 + q, none⟩) (Nat.lt_of_lt_of_le hbb HBB.out)).trans (hrg q u hq)
      have htk : rs.take (j + 1) = rs.take j ++ [x.r] := by
        have hjl := (List.getElem?_eq_some_iff.1 hl).1
        rw [List.take_succ_eq_append_getElem hjl]
        congr 1
        rw [List.getElem?_eq_getElem hjl] at hl
        rw [Option.some.inj hl]
      have hus := ((hok.rd.more HBB.out).below HBR.out)
      have hmx := hok.mx
      have hle := hok.le
      obtain ⟨⟨cd, wd, us⟩, xA, xk⟩ := x
      unfold S.rwL S.RR.v at hrw
      dsimp only at hrw hus hmx hle
      obtain ⟨m, hm⟩ : ∃ m, us.length = m := ⟨_, rfl⟩
      rw [hm] at hrw hus hmx hle
      have HTK := Lib.hid htk
      have HUS := Lib.hid hus
      have HM := Lib.hid hm
      have e1 : (0 : Int) ≤ (j : Int) := by omega
      have e2 : (j : Int) < (n : Int) := by omega
      clear hbb hD hl hok hrg htk hus hm
      go_upto_region 6 with (first
        | (refine wpList_load_mid rfl _ (.tmp 15) rfl b (off + j * 3) rfl [.int .i64 cd, .int .i64 wd, .slice xA m xk] _ hrw Tryz.underlying44 rfl S.sizeRw ?_)
        | (refine wpList_allocRow rfl _ rfl _ S.infoRw ?_; intro w5 rz5 b5 z5; clear z5)
        | (refine wpList_storeRow rfl _ (.tmp 5) (.tmp 16) rfl (l' := [.int .i64 cd, .int .i64 wd, .slice xA m xk]) rz5 rfl rfl S.sizeRw rfl rfl ?_; intro w6 rz6 g6 z6; clear z6))
      have hb6 : Below wr.heap.size wr w6 := b5.grown g6 b5.size (fun i hi => by have := Option.some.inj hi; omega)
      obtain ⟨y5, h5⟩ : ∃ y, wr.heap.size = y := ⟨_, rfl⟩
      rw [h5] at rz6 ⊢
      have k2 := rz6.cell 2
      dsimp only [List.getElem?_cons_zero, List.getElem?_cons_succ] at k2
      have HB6 := Lib.hid hb6
      have HR6 := Lib.hid rz6
      have HY5 := Lib.hid h5
      clear rz5 b5 g6 hb6 h5 rz6 hrw
      try simp only [PT]
      go_upto_region 8 with (at_builtin; refine wpList_appR rfl (.tmp 17) (.tmp 19) 42 rfl w6.heap.size 107 _ 3 24 usT25 none 0 0 [] xA m xk (us.flatMap S.usL) rfl rfl (World.ownsRow_nil _ _ _ _) (HUS.out.below (HB6.out.mono HBR.out.size)) (usL_ones us) (W0 := w6) (B := w6.heap.size) (Below.refl _ _) (by omega) (Nat.le_refl _) (Nat.le_refl _) ?_; intro A7 c7 w7 own7 b7; rw [Nat.zero_add, List.nil_append] at own7; simp only [Nat.zero_add])
      have rz7 := HR6.out.below' b7
      have k2 := rz7.cell 2
      have f2 := rz7.frozen 2
      dsimp only [List.getElem?_cons_zero, List.getElem?_cons_succ] at k2
      obtain ⟨rz8, g8⟩ := isRow_put rz7 (k := 2) (by simp) (.slice A7 m c7)
      have hown7 := own_block_lt own7
      have hcap7 := (own_cap own7).1
      have hne : ∀ p, A7 = some p → p.block ≠ y5 := fun p hp e => by have := (hown7 p hp).1; have := HR6.out.lt; omega
      have hus8 : Rd (w7.setCell ⟨y5, 2, none⟩ (.slice A7 m c7)) w7.heap.size 3 A7 m (us.flatMap S.usL) := (Rd.of_own own7).keepA fun h0 p hp => g8.block p.block (hown7 p hp).2 (fun e => hne p hp (Option.some.inj e))
      obtain ⟨w8, hw8⟩ : ∃ x, w7.setCell ⟨y5, 2, none⟩ (.slice A7 m c7) = x := ⟨_, rfl⟩
      have hw8' := hw8
      rw [hw8] at rz8 g8 hus8
      dsimp only [List.set_cons_zero, List.set_cons_succ] at rz8
      have hb8 : Below wr.heap.size wr w8 := (HB6.out.trans (b7.mono HB6.out.size)).grown g8 (Nat.le_trans HB6.out.size b7.size) (fun i hi => by have := Option.some.inj hi; have := HY5.out; omega)
      have hr8 : w8.rangeAt y5 0 [.int .i64 cd, .int .i64 wd, .slice A7 m c7] := fun q u hq => by rw [Nat.zero_add, rz8.cell]; exact hq
      have HB8 := Lib.hid hb8
      have HU8 := Lib.hid (And.intro hus8 (And.intro hcap7 (And.intro hown7 (And.intro g8.size (Nat.le_trans HB6.out.size b7.size)))))
      have HA8 := Lib.hid (HA.out.below hb8)
      clear own7 b7 rz7 g8 hown7 hcap7 hne hus8 hb8 rz8 HR6
      try simp only [PT]
      go_upto_region 9 with fail
      clear k2 f2
      try rw [hw8]
      clear hw8 hw8'
      have HB8w := Lib.hid (HBR.out.trans (HB8.out.mono HBR.out.size))
      go_wp2_with (first
        | (refine wpList_load_mid rfl _ (.tmp 5) rfl y5 0 rfl [.int .i64 cd, .int .i64 wd, .slice A7 m c7] _ hr8 Tryz.underlying44 rfl S.sizeRw ?_)
        | (at_builtin; refine wpList_appN rfl (.tmp 23) (.tmp 25) 25 rfl w.heap.size 44 _ 3 40 rowsT25' A3 j c3 (D3.flatMap S.rwL) [.int .i64 cd, .int .i64 wd, .slice A7 m c7] _ rfl rfl rfl HA8.out.own HB8w.out rfl (fun u hu => by simp only [List.mem_cons, List.not_mem_nil, or_false] at hu; rcases hu with rfl | rfl | rfl <;> rfl) (by omega) (Nat.le_refl _) HB8w.out.size ?_; intro g9 c9 w9 own9 b9 hg9))
      have hkp : Keep (fun b => ∃ p, A3 = some p ∧ b = p.block) wr w9 := (Keep.of_below HB8.out).grown hg9.1 (fun k e => .inl (by
        cases hAA : A3 with
        | none => rw [hAA] at e; cases e
        | some q => rw [hAA] at e; exact ⟨q, rfl, (Option.some.inj e).symm⟩))
      obtain ⟨hu1, hu2, hu3, hu4, hu5⟩ := HU8.out
      have hA3 := own_block_lt HA.out.own
      have hA7 : ∀ p, A7 = some p → wr.heap.size ≤ p.block ∧ p.block < w8.heap.size := fun p hp => by
        have h1 := hu3 p hp
        have h3 := HB6.out.size
        omega
      have ha9 := HA.out.push hkp (x := ⟨⟨cd, wd, us⟩, A7, c7⟩) (A' := some ⟨g9, 0, none⟩) (c' := c9) (by rw [List.flatMap_append, List.flatMap_singleton]; have := own9; unfold S.rwL S.RR.v; dsimp only; rw [HM.out]; exact this)
        ⟨by
          have h1 := hu1.keepA (w' := w9) fun h0 p hp => hg9.1.block p.block (hA7 p hp).2 (fun e => by
            have h5 := HA8.out.own.lt p.block e.symm
            have h6 := HA.out.own.lt p.block e.symm
            have := (hA7 p hp).1; omega)
          have h2 := h1.more (Nat.le_trans hu4 hg9.1.size)
          show Rd w9 w9.heap.size 3 A7 us.length (us.flatMap S.usL)
          rw [HM.out]; exact h2, by show us.length ≤ c7; rw [HM.out]; exact hu2, by show us.length ≤ 65536; rw [HM.out]; exact hmx⟩
        (fun p hp => by
          rcases hg9.2 with e | e
          · exact .inl (e.trans hp)
          · rw [← Option.some.inj hp]; exact .inr (Nat.le_trans HB8.out.size e))
        (fun p hp => ⟨(hA7 p hp).1, Nat.lt_of_lt_of_le (hA7 p hp).2 hg9.1.size, fun q hq => by
          have h1 := hA7 p hp
          rw [← Option.some.inj hq]
          show p.block ≠ g9
          rcases hg9.2 with e | e
          · have := (hA3 _ e).2
            dsimp only at this; omega
          · omega⟩)
      have HA9 := Lib.hid (ha9.wide (G' := fun _ => True) (fun _ _ => trivial))
      have HB9 := Lib.hid b9
      have HDN9 : Hid (∀ x ∈ D3 ++ [⟨⟨cd, wd, us⟩, A7, c7⟩], ∀ p, x.A = some p → w.heap.size ≤ p.block) := Lib.hid (fun x hx p hp => by
        rcases List.mem_append.1 hx with hx | hx
        · exact HDN.out x hx p hp
        · simp only [List.mem_cons, List.not_mem_nil, or_false] at hx
          subst hx
          exact Nat.le_trans HBR.out.size (hA7 p hp).1)
      clear hkp hu1 hu2 hu3 hu4 hu5 hA3 hA7 ha9 own9 b9 hg9 HU8 HA8
      go_roundw
      case rel => exact ⟨_, j + 1, _, c9, _, rfl, by omega, by go_num, rfl, Lib.hid (by rw [HTK.out]; exact HA9.out), HDN9, HB9⟩
      case measure => simp [intOf]; omega
    · obtain rfl : j = n := by omega
      have htk : rs.take j = rs := List.take_of_length_le (by rw [HL.out.2]; exact Nat.le_refl _)
      have ha := HA.out
      rw [htk] at ha
      have HA2 := Lib.hid ha
      clear ha htk
      go_wp2_with fail
      go_ret
      exact ⟨A3, c3, D3, rfl, HA2.out, HDN.out, HBR.out⟩
theorem AllAt.rowsBut {w0 W W' : World} {G : Nat → Prop} {A : Option Addr} {n c y : Nat} {D : List S.RR} {rs : List S.Str.Rw} (h : AllAt w0 G W A n c D rs) (hg : W.grownBy W' (some y)) (hA : ∀ p, A = some p → p.block ≠ y) (hD : ∀ x ∈ D, ∀ p, x.A = some p → p.block ≠ y) (hn : n ≤ 65536) : S.RowsAt W' W'.heap.size A n D rs :=
  ⟨((Rd.of_own h.own).keepA fun _ p hp => hg.block p.block (own_block_lt h.own p hp).2 (fun e => hA p hp (Option.some.inj e))).more hg.size, h.rs, fun x hx => ⟨((h.us x hx).rd.keepA fun h0 p hp => hg.block p.block (ok_block (h.us x hx) h0 p hp) (fun e => hD x hx p hp (Option.some.inj e))).more hg.size, (h.us x hx).le, (h.us x hx).mx⟩, hn⟩
set_option maxRecDepth 100000 in
set_option maxHeartbeats 1600000 in
theorem used24 {w : World} {B : Nat} {x : S.RR} (hx : x.Ok w B) (hB : B ≤ w.heap.size) (g : Int) (q : Bool) (hq : Col.uB x.r.used g = q) :
    Calls Tryz.prog 40 #[.agg (S.rwL x).toArray, .int .i64 g] w fun e w' => e = .returned (.bool q) ∧ Below w.heap.size w w' := by
  have HX := Lib.hid hx
  have HQ := Lib.hid hq
  have hmx := hx.mx
  have hle := hx.le
  have HBB := Lib.hid hB
  obtain ⟨⟨cd, wd, us⟩, xA, xk⟩ := x
  unfold S.rwL S.RR.v
  dsimp only at hmx hle HQ ⊢
  obtain ⟨m, hm⟩ : ∃ m, us.length = m := ⟨_, rfl⟩
  rw [hm] at hmx hle ⊢
  have HM := Lib.hid hm
  clear hx hm hq hB
  go_enter Tryz.func40, Tryz.ntmps40
  go_upto_region 2 with (refine S.wpList_boxRow rfl _ _ rfl [.int .i64 cd, .int .i64 wd, .slice xA m xk] rfl rfl ?_; intro w1 rs1 b1 z1)
  have k2 := rs1.cell 2
  dsimp only [List.getElem?_cons_zero, List.getElem?_cons_succ] at k2
  have HB1 := Lib.hid b1
  have HX1 := Lib.hid (HX.out.below (b1.mono HBB.out))
  clear rs1 b1 z1
  go_loop [5] (fun u5 => ∃ j : Nat, j ≤ m ∧ u5 = .int .i64 (j : Int) ∧ Hid (∀ i (hi : i < us.length), i < j → us[i].g ≠ g)) (fun u5 => m - (intOf u5).toNat)
  case atStart => exact ⟨0, Nat.zero_le _, rfl, Lib.hid fun i _ hi => absurd hi (Nat.not_lt_zero i)⟩
  case round =>
    obtain ⟨j, hj, rfl, HI⟩ := hrel
    by_cases hlt : j < m
    · have hju : j < us.length := by rw [HM.out]; exact hlt
      obtain ⟨b, off, hA, hbb, -, c0⟩ := HX1.out.at (k := j) hju
      dsimp only at hA c0
      subst hA
      obtain ⟨y, hy⟩ : ∃ y, us[j].g = y := ⟨_, rfl⟩
      rw [hy] at c0
      have HY := Lib.hid hy
      have e1 : (0 : Int) ≤ (j : Int) := by omega
      have e2 : (j : Int) < (m : Int) := by omega
      clear hy hbb
      by_cases hyg : y = g
      · have e3 : (y == g) = true := by simp [hyg]
        have HYG := Lib.hid hyg
        clear hyg
        go_wp2_with fail
        go_ret
        exact ⟨by rw [← HQ.out, Col.uB_hit hju (HY.out.trans HYG.out)]; rfl, HB1.out⟩
      · have e3 : (y == g) = false := by simp [hyg]
        have HYG := Lib.hid hyg
        clear hyg
        go_wp2_with fail
        go_round
        case rel =>
          refine ⟨j + 1, by omega, by go_num, fun i hi hij => ?_⟩
          rcases Nat.lt_or_ge i j with e | e
          · exact HI.out i hi e
          · obtain rfl : i = j := by omega
            rw [HY.out]; exact HYG.out
        case measure => simp [intOf]; omega
    · obtain rfl : j = m := by omega
      go_wp2_with fail
      go_ret
      exact ⟨by rw [← HQ.out, Col.uB_miss (fun i hi => HI.out i hi (by rw [← HM.out]; exact hi))]; rfl, HB1.out⟩
theorem resultRow24 {P : Program} {fn : Func} {p : Tmp} {ty : TypeId} (h : fn.results = #[.cell p ty]) (tmps : Array Value) (w : World) {b t : Nat} {fs : Array Field} {l : List Value} (hr : IsRow w b t l)
    (hp : tmps.getD p undef = .pointer (some ⟨b, 0, none⟩)) (hu : P.underlying ty = some (.struct fs)) (hi : (P.info? ty).map (·.size) = some l.length) : (results fn tmps).run P w = .ok (.agg l.toArray) w :=
  results_cell_row h tmps w b t l.toArray (0, 0) _ hp hr hu rfl (by simpa using hi)
def WithIs (r : S.Str.Rw) (u : S.Str.Us) (w : World) (e : Ending) (w' : World) : Prop :=
  ∃ A c, e = .returned (.agg (S.rwL ⟨⟨r.code, r.width, Col.insU u r.used⟩, A, c⟩).toArray) ∧ S.RR.Ok w' w'.heap.size ⟨⟨r.code, r.width, Col.insU u r.used⟩, A, c⟩ ∧ (∀ p, A = some p → w.heap.size ≤ p.block ∧ p.block < w'.heap.size) ∧ Below w.heap.size w w'
set_option maxRecDepth 100000 in
set_option maxHeartbeats 3200000 in
theorem with24 {w : World} {B : Nat} {x : S.RR} (hx : x.Ok w B) (hB : B ≤ w.heap.size) (hmx : x.r.used.length ≤ 60000) (u : S.Str.Us) :
    Calls Tryz.prog 41 #[.agg (S.rwL x).toArray, .agg (S.usL u).toArray] w (WithIs x.r u w) := by
  have HX := Lib.hid hx
  have hle := hx.le
  have HBB := Lib.hid hB
  obtain ⟨⟨cd, wd, us⟩, xA, xk⟩ := x
  obtain ⟨ug, ue, uc⟩ := u
  obtain ⟨U, hU⟩ : ∃ U : S.Str.Us, (⟨ug, ue, uc⟩ : S.Str.Us) = U := ⟨_, rfl⟩
  have HU := Lib.hid hU
  have hul : S.usL U = [.int .i64 ug, .int .i64 ue, .int .i64 uc] := by rw [← hU]; rfl
  have HUG : Hid (U.g = ug) := Lib.hid (by rw [← hU])
  have HUL := Lib.hid hul
  rw [hU, hul]
  unfold S.rwL S.RR.v
  dsimp only at hmx hle ⊢
  obtain ⟨m, hm⟩ : ∃ m, us.length = m := ⟨_, rfl⟩
  rw [hm] at hmx hle ⊢
  have HM := Lib.hid hm
  clear hx hm hB hU hul
  go_enter Tryz.func41, Tryz.ntmps41
  go_upto_region 4 with (first
    | (have tk := rs3; refine wpList_allocRow rfl _ rfl _ S.infoRw ?_; intro w4 rs4 b4 z4; clear tk; have q3 := rs3.below' b4; have q2 := (rs2.below' b3).below' b4)
    | (have tk := rs2; refine S.wpList_boxRow rfl _ _ rfl [.int .i64 ug, .int .i64 ue, .int .i64 uc] rfl rfl ?_; intro w3 rs3 b3 z3; clear tk)
    | (refine S.wpList_boxRow rfl _ _ rfl [.int .i64 cd, .int .i64 wd, .slice xA m xk] rfl rfl ?_; intro w2 rs2 b2 z2))
  have hb4 : Below w.heap.size w w4 := b2.trans ((b3.trans (b4.mono b3.size)).mono b2.size)
  obtain ⟨y2, h2⟩ : ∃ y, w.heap.size = y := ⟨_, rfl⟩
  obtain ⟨y3, h3⟩ : ∃ y, y2 + 1 = y := ⟨_, rfl⟩
  obtain ⟨y4, h4⟩ : ∃ y, y3 + 1 = y := ⟨_, rfl⟩
  rw [show w2.heap.size = y3 by omega] at q3
  rw [show w3.heap.size = y4 by omega] at rs4
  rw [h2] at q2
  have HY : Hid (w.heap.size = y2 ∧ y2 < y3 ∧ y3 < y4 ∧ y4 < w4.heap.size) := Lib.hid ⟨h2, by omega, by omega, rs4.lt⟩
  have HQ2 := Lib.hid q2
  have HQ3 := Lib.hid q3
  have HQ4 := Lib.hid rs4
  have HB4 := Lib.hid hb4
  have HX4 := Lib.hid (HX.out.below (hb4.mono HBB.out))
  rw [h2, h3, h4]
  clear rs2 b2 z2 rs3 b3 z3 rs4 b4 z4 q2 q3 hb4 h2 h3 h4
  go_loopw [5, 6, 7] (fun u5 u6 u7 wx => ∃ (wr : World) (j L : Nat) (A5 : Option Addr) (c5 : Nat) (dn : Bool), wr = wx ∧ j ≤ m ∧ L ≤ j + 1 ∧ u7 = .int .i64 (j : Int) ∧ u5 = .slice A5 L c5 ∧ u6 = .bool dn ∧ Hid (Col.anyG U (us.take j) = dn ∧ (Col.insJ U (us.take j)).length = L) ∧ Hid (wr.ownsRow w4.heap.size 107 3 (.slice A5 L c5) L ((Col.insJ U (us.take j)).flatMap S.usL)) ∧ Hid (Below w4.heap.size w4 wr)) (fun _ _ u7 _ => m - (intOf u7).toNat)
  case atStart => exact ⟨_, 0, 0, none, 0, false, rfl, Nat.zero_le _, by omega, rfl, rfl, rfl, Lib.hid ⟨rfl, rfl⟩, Lib.hid (World.ownsRow_nil _ _ _ _), Lib.hid (Below.refl _ _)⟩
  case round =>
    obtain ⟨wr, j, L, A5, c5, dn, rfl, hj, hLj, rfl, rfl, rfl, HI, HO, HBR⟩ := hrel
    by_cases hlt : j < m
    · have hju : j < us.length := by rw [HM.out]; exact hlt
      have htk := List.take_succ_eq_append_getElem hju
      obtain ⟨b, off, hA, hbb, hrg, -⟩ := (HX4.out.below (HBR.out.mono (Nat.le_trans HBB.out HB4.out.size))).at (k := j) hju
      dsimp only at hA hrg
      subst hA
      obtain ⟨⟨x0, x1, x2⟩, hy⟩ : ∃ y, us[j] = y := ⟨_, rfl⟩
      rw [hy] at hrg htk
      unfold S.usL at hrg
      dsimp only at hrg
      have hblt : b < wr.heap.size := Nat.lt_of_lt_of_le (Nat.lt_of_lt_of_le hbb (Nat.le_trans HBB.out HB4.out.size)) HBR.out.size
      have HRG := Lib.hid (And.intro hblt hrg)
      have HBX : Hid (b < w4.heap.size) := Lib.hid (Nat.lt_of_lt_of_le hbb (Nat.le_trans HBB.out HB4.out.size))
      have HTK := Lib.hid htk
      have hR2 := HQ2.out.below' HBR.out
      have hR3 := HQ3.out.below' HBR.out
      have HK : Hid (y2 < wr.heap.size ∧ y3 < wr.heap.size ∧ wr.cell? ⟨y2, 2, none⟩ = some (.slice (some ⟨b, off, none⟩) m xk) ∧ wr.cell? ⟨y3, 0, none⟩ = some (.int .i64 ug)) := Lib.hid ⟨hR2.lt, hR3.lt, hR2.cell 2, hR3.cell 0⟩
      have hk2 := HK.out.2.2.1
      have e1 : (0 : Int) ≤ (j : Int) := by omega
      have e2 : (j : Int) < (m : Int) := by omega
      clear hju htk hbb hrg hy hblt hR2 hR3
      go_upto_region 6 with fail
      clear hk2
      cases dn with
      | true =>
        have hv0 : Below wr.heap.size wr wr.drew := (Below.refl _ _).drew
        refine wp_region_held_drew (S := fun W => Below wr.heap.size wr W) (by kernel_rfl) (hv0) (fun hHeld => ?_)
        refine tkH 0 oColX0 ?v0_1 (.inl ⟨by rfl, ?h0_1⟩) ?r0_1
        case h0_1 =>
          intro W hSW
          unfold oColX0
          try dsimp only at hSW
          go_simp
          try with_reducible rfl
        try simp only [oColX0, PT]
        refine tkH 1 oColX1 ?v1_2 (.inl ⟨by rfl, ?h1_2⟩) ?r1_2
        case h1_2 =>
          intro W hSW
          unfold oColX1
          try dsimp only at hSW
          go_simp
          try with_reducible rfl
        try simp only [oColX1, PT]
        refine tkH 2 oColX2 ?v2_3 (.inl ⟨by rfl, ?h2_3⟩) ?r2_3
        case h2_3 =>
          intro W hSW
          unfold oColX2
          try dsimp only at hSW
          go_simp
          try with_reducible rfl
        try simp only [oColX2, PT]
        refine tkH 3 oColX3 undef (.inr ⟨by rfl, rfl⟩) ?_
        try simp only [oColX3, PT]
        refine tkH 4 oColX4 undef (.inr ⟨by rfl, rfl⟩) ?_
        try simp only [oColX4, PT]
        refine tkH 5 oColX5 undef (.inr ⟨by rfl, rfl⟩) ?_
        try simp only [oColX5, PT]
        refine tkH 6 oColX6 undef (.inr ⟨by rfl, rfl⟩) ?_
        try simp only [oColX6, PT]
        refine tkH 7 oColX7 undef (.inr ⟨by rfl, rfl⟩) ?_
        try simp only [oColX7, PT]
        refine tkH 8 oColX8 undef (.inr ⟨by rfl, rfl⟩) ?_
        try simp only [oColX8, PT]
        refine tkH 9 oColX9 undef (.inr ⟨by rfl, rfl⟩) ?_
        try simp only [oColX9, PT]
        refine tkH 10 oColX10 undef (.inr ⟨by rfl, rfl⟩) ?_
        try simp only [oColX10, PT]
        refine tkH 11 oColX11 undef (.inr ⟨by rfl, rfl⟩) ?_
        try simp only [oColX11, PT]
        refine tkH 12 oColX12 ?v12_13 (.inl ⟨by rfl, ?h12_13⟩) ?r12_13
        case h12_13 =>
          intro W hSW
          unfold oColX12
          try dsimp only at hSW
          go_simp
          try with_reducible rfl
        try simp only [oColX12, PT]
        refine wpAnyH_done (by kernel_rfl) ?_ _
        have hwd : Below wr.heap.size wr wr.drew := hv0
        have hk2 := (hwd.cell (p := ⟨y2, 2, none⟩) HK.out.1).trans HK.out.2.2.1
        have hrx : wr.drew.rangeAt b (off + j * 3) [.int .i64 x0, .int .i64 x1, .int .i64 x2] := fun q v hq => (hwd.cell (p := ⟨b, off + j * 3 + q, none⟩) HRG.out.1).trans (HRG.out.2 q v hq)
        have HOD := Lib.hid (own_below HO.out hwd)
        have HBD := Lib.hid (HBR.out.trans (hwd.mono HBR.out.size))
        obtain ⟨hn1, hn2⟩ := Col.insJ_yes (x := ⟨x0, x1, x2⟩) HI.out.1
        rw [← HTK.out] at hn1 hn2
        have HN := Lib.hid (And.intro hn1 hn2)
        clear hn1 hn2
        go_wp2_with (first
          | (refine wpList_load_mid rfl _ (.tmp 36) rfl b (off + j * 3) rfl [.int .i64 x0, .int .i64 x1, .int .i64 x2] _ (hrx) Tryz.underlying107 rfl S.sizeUs ?_)
          | (at_builtin; refine wpList_appN rfl (.tmp 32) (.tmp 38) 42 rfl w4.heap.size 107 _ 3 24 usT25 A5 L c5 ((Col.insJ U (us.take j)).flatMap S.usL) [.int .i64 x0, .int .i64 x1, .int .i64 x2] _ rfl rfl rfl HOD.out HBD.out rfl (S.usL_one ⟨x0, x1, x2⟩) (by omega) (Nat.le_refl _) HBD.out.size ?_; intro g9 c9 w9 own9 b9 hg9))
        go_roundw
        case rel => exact ⟨_, j + 1, L + 1, _, c9, true, rfl, by omega, by omega, by go_num, rfl, rfl, Lib.hid ⟨HN.out.2, by rw [HN.out.1, List.length_append, HI.out.2]; rfl⟩, Lib.hid (by rw [HN.out.1, List.flatMap_append, List.flatMap_singleton]; exact own9), Lib.hid b9⟩
        case measure => simp [intOf]; omega
      | false =>
        by_cases hgt : ug < x0
        · skip
          have hv0 : Below wr.heap.size wr wr.drew := (Below.refl _ _).drew
          refine wp_region_held_drew (S := fun W => Below wr.heap.size wr W) (by kernel_rfl) (hv0) (fun hHeld => ?_)
          refine tkH 0 oColX0 ?v0_101 (.inl ⟨by rfl, ?h0_101⟩) ?r0_101
          case h0_101 =>
            intro W hSW
            unfold oColX0
            try dsimp only at hSW
            go_simp
            try with_reducible rfl
          try simp only [oColX0, PT]
          refine tkH 1 oColX1 ?v1_102 (.inl ⟨by rfl, ?h1_102⟩) ?r1_102
          case h1_102 =>
            intro W hSW
            unfold oColX1
            try dsimp only at hSW
            go_simp
            try with_reducible rfl
          try simp only [oColX1, PT]
          refine tkH 2 oColX2 ?v2_103 (.inl ⟨by rfl, ?h2_103⟩) ?r2_103
          case h2_103 =>
            intro W hSW
            unfold oColX2
            try dsimp only at hSW
            go_simp
            try with_reducible rfl
          try simp only [oColX2, PT]
          refine tkH 3 oColX3 ?v3_104 (.inl ⟨by rfl, ?h3_104⟩) ?r3_104
          case h3_104 =>
            intro W hSW
            unfold oColX3
            try dsimp only at hSW
            go_simp
            try with_reducible rfl
          try simp only [oColX3, PT]
          refine tkH 4 oColX4 ?v4_105 (.inl ⟨by rfl, ?h4_105⟩) ?r4_105
          case h4_105 =>
            intro W hSW
            unfold oColX4
            try dsimp only at hSW
            have c2 := (hSW.cell (p := ⟨y2, 2, none⟩) HK.out.1).trans HK.out.2.2.1
            go_simp
            try with_reducible rfl
          try simp only [oColX4, PT]
          refine tkH 5 oColX5 ?v5_106 (.inl ⟨by rfl, ?h5_106⟩) ?r5_106
          case h5_106 =>
            intro W hSW
            unfold oColX5
            try dsimp only at hSW
            go_simp
            try with_reducible rfl
          try simp only [oColX5, PT]
          refine tkH 6 oColX6 ?v6_107 (.inl ⟨by rfl, ?h6_107⟩) ?r6_107
          case h6_107 =>
            intro W hSW
            unfold oColX6
            try dsimp only at hSW
            go_simp
            try with_reducible rfl
          try simp only [oColX6, PT]
          refine tkH 7 oColX7 ?v7_108 (.inl ⟨by rfl, ?h7_108⟩) ?r7_108
          case h7_108 =>
            intro W hSW
            unfold oColX7
            try dsimp only at hSW
            go_simp
            try with_reducible rfl
          try simp only [oColX7, PT]
          refine tkH 8 oColX8 ?v8_109 (.inl ⟨by rfl, ?h8_109⟩) ?r8_109
          case h8_109 =>
            intro W hSW
            unfold oColX8
            try dsimp only at hSW
            have d0 := (hSW.cell (p := ⟨b, off + j * 3, none⟩) HRG.out.1).trans (HRG.out.2 0 _ rfl)
            go_simp
            try with_reducible rfl
          try simp only [oColX8, PT]
          refine tkH 9 oColX9 ?v9_110 (.inl ⟨by rfl, ?h9_110⟩) ?r9_110
          case h9_110 =>
            intro W hSW
            unfold oColX9
            try dsimp only at hSW
            go_simp
            try with_reducible rfl
          try simp only [oColX9, PT]
          refine tkH 10 oColX10 ?v10_111 (.inl ⟨by rfl, ?h10_111⟩) ?r10_111
          case h10_111 =>
            intro W hSW
            unfold oColX10
            try dsimp only at hSW
            have c0 := (hSW.cell (p := ⟨y3, 0, none⟩) HK.out.2.1).trans HK.out.2.2.2
            go_simp
            try with_reducible rfl
          try simp only [oColX10, PT]
          refine tkH 11 oColX11 ?v11_112 (.inl ⟨by rfl, ?h11_112⟩) ?r11_112
          case h11_112 =>
            intro W hSW
            unfold oColX11
            try dsimp only at hSW
            go_simp
            try with_reducible rfl
          try simp only [oColX11, PT]
          refine tkH 12 oColX12 ?v12_113 (.inl ⟨by rfl, ?h12_113⟩) ?r12_113
          case h12_113 =>
            intro W hSW
            unfold oColX12
            try dsimp only at hSW
            go_simp
            try with_reducible rfl
          try simp only [oColX12, PT]
          refine wpAnyH_done (by kernel_rfl) ?_ _
          have hwd : Below wr.heap.size wr wr.drew := hv0
          have hk2 := (hwd.cell (p := ⟨y2, 2, none⟩) HK.out.1).trans HK.out.2.2.1
          have hrx : wr.drew.rangeAt b (off + j * 3) [.int .i64 x0, .int .i64 x1, .int .i64 x2] := fun q v hq => (hwd.cell (p := ⟨b, off + j * 3 + q, none⟩) HRG.out.1).trans (HRG.out.2 q v hq)
          have HOD := Lib.hid (own_below HO.out hwd)
          have HBD := Lib.hid (HBR.out.trans (hwd.mono HBR.out.size))
          obtain ⟨hn1, hn2⟩ := Col.insJ_new (x := ⟨x0, x1, x2⟩) HI.out.1 (by rw [HUG.out]; exact hgt)
          rw [← HTK.out] at hn1 hn2
          have HN := Lib.hid (And.intro hn1 hn2)
          clear hn1 hn2
          have hr3 : wr.drew.rangeAt y3 0 [.int .i64 ug, .int .i64 ue, .int .i64 uc] := fun q v hq => by rw [Nat.zero_add, (((HQ3.out.below' HBR.out).below' hwd)).cell]; exact hq
          go_upto_region 8 with (first
            | (refine wpList_load_mid rfl _ (.tmp 3) rfl y3 0 rfl [.int .i64 ug, .int .i64 ue, .int .i64 uc] _ hr3 Tryz.underlying107 rfl S.sizeUs ?_)
            | (at_builtin; refine wpList_appN rfl (.tmp 28) (.tmp 30) 42 rfl w4.heap.size 107 _ 3 24 usT25 A5 L c5 ((Col.insJ U (us.take j)).flatMap S.usL) [.int .i64 ug, .int .i64 ue, .int .i64 uc] _ rfl rfl rfl HOD.out HBD.out rfl (S.usL_one ⟨ug, ue, uc⟩) (by omega) (Nat.le_refl _) HBD.out.size ?_; intro g7 c7 w7 own7 b7 hg7))
          have hb7 := b7
          have hbr7 : ∀ q, q < w4.heap.size → w7.heap[q]? = w4.heap[q]? := fun q hq => b7.block q hq
          have hk2 := (b7.cell (p := ⟨y2, 2, none⟩) HQ2.out.lt).trans (HQ2.out.cell 2)
          dsimp only [List.getElem?_cons_zero, List.getElem?_cons_succ] at hk2
          have hbx : b < w4.heap.size := HBX.out
          have hrx : w7.rangeAt b (off + j * 3) [.int .i64 x0, .int .i64 x1, .int .i64 x2] := fun q v hq => (b7.cell (p := ⟨b, off + j * 3 + q, none⟩) hbx).trans ((HBR.out.cell (p := ⟨b, off + j * 3 + q, none⟩) hbx).symm.trans (HRG.out.2 q v hq))
          have HO7 := Lib.hid own7
          have HB7 := Lib.hid b7
          clear hr3 own7 hg7 hwd
          go_wp2_with (first
            | (refine wpList_load_mid rfl _ (.tmp 36) rfl b (off + j * 3) rfl [.int .i64 x0, .int .i64 x1, .int .i64 x2] _ (hrx) Tryz.underlying107 rfl S.sizeUs ?_)
            | (at_builtin; refine wpList_appN rfl (.tmp 32) (.tmp 38) 42 rfl w4.heap.size 107 _ 3 24 usT25 (some ⟨g7, 0, none⟩) (L + 1) c7 ((Col.insJ U (us.take j)).flatMap S.usL ++ [.int .i64 ug, .int .i64 ue, .int .i64 uc]) [.int .i64 x0, .int .i64 x1, .int .i64 x2] _ rfl rfl rfl HO7.out HB7.out rfl (S.usL_one ⟨x0, x1, x2⟩) (by omega) (Nat.le_refl _) HB7.out.size ?_; intro g9 c9 w9 own9 b9 hg9))
          go_roundw
          case rel => exact ⟨_, j + 1, L + 1 + 1, _, c9, true, rfl, by omega, by have := HN.out.1; have h5 := HI.out; have h6 := Col.insJ_len U (us.take j); rw [h5.1, List.length_take] at h6; simp at h6; omega, by go_num, rfl, rfl, Lib.hid ⟨HN.out.2, by rw [HN.out.1, List.length_append, List.length_append, HI.out.2]; rfl⟩, Lib.hid (by rw [HN.out.1, List.flatMap_append, List.flatMap_append, List.flatMap_singleton, List.flatMap_singleton, HUL.out]; exact own9), Lib.hid b9⟩
          case measure => simp [intOf]; omega
        · skip
          have hv0 : Below wr.heap.size wr wr.drew := (Below.refl _ _).drew
          refine wp_region_held_drew (S := fun W => Below wr.heap.size wr W) (by kernel_rfl) (hv0) (fun hHeld => ?_)
          refine tkH 0 oColX0 ?v0_201 (.inl ⟨by rfl, ?h0_201⟩) ?r0_201
          case h0_201 =>
            intro W hSW
            unfold oColX0
            try dsimp only at hSW
            go_simp
            try with_reducible rfl
          try simp only [oColX0, PT]
          refine tkH 1 oColX1 ?v1_202 (.inl ⟨by rfl, ?h1_202⟩) ?r1_202
          case h1_202 =>
            intro W hSW
            unfold oColX1
            try dsimp only at hSW
            go_simp
            try with_reducible rfl
          try simp only [oColX1, PT]
          refine tkH 2 oColX2 ?v2_203 (.inl ⟨by rfl, ?h2_203⟩) ?r2_203
          case h2_203 =>
            intro W hSW
            unfold oColX2
            try dsimp only at hSW
            go_simp
            try with_reducible rfl
          try simp only [oColX2, PT]
          refine tkH 3 oColX3 ?v3_204 (.inl ⟨by rfl, ?h3_204⟩) ?r3_204
          case h3_204 =>
            intro W hSW
            unfold oColX3
            try dsimp only at hSW
            go_simp
            try with_reducible rfl
          try simp only [oColX3, PT]
          refine tkH 4 oColX4 ?v4_205 (.inl ⟨by rfl, ?h4_205⟩) ?r4_205
          case h4_205 =>
            intro W hSW
            unfold oColX4
            try dsimp only at hSW
            have c2 := (hSW.cell (p := ⟨y2, 2, none⟩) HK.out.1).trans HK.out.2.2.1
            go_simp
            try with_reducible rfl
          try simp only [oColX4, PT]
          refine tkH 5 oColX5 ?v5_206 (.inl ⟨by rfl, ?h5_206⟩) ?r5_206
          case h5_206 =>
            intro W hSW
            unfold oColX5
            try dsimp only at hSW
            go_simp
            try with_reducible rfl
          try simp only [oColX5, PT]
          refine tkH 6 oColX6 ?v6_207 (.inl ⟨by rfl, ?h6_207⟩) ?r6_207
          case h6_207 =>
            intro W hSW
            unfold oColX6
            try dsimp only at hSW
            go_simp
            try with_reducible rfl
          try simp only [oColX6, PT]
          refine tkH 7 oColX7 ?v7_208 (.inl ⟨by rfl, ?h7_208⟩) ?r7_208
          case h7_208 =>
            intro W hSW
            unfold oColX7
            try dsimp only at hSW
            go_simp
            try with_reducible rfl
          try simp only [oColX7, PT]
          refine tkH 8 oColX8 ?v8_209 (.inl ⟨by rfl, ?h8_209⟩) ?r8_209
          case h8_209 =>
            intro W hSW
            unfold oColX8
            try dsimp only at hSW
            have d0 := (hSW.cell (p := ⟨b, off + j * 3, none⟩) HRG.out.1).trans (HRG.out.2 0 _ rfl)
            go_simp
            try with_reducible rfl
          try simp only [oColX8, PT]
          refine tkH 9 oColX9 ?v9_210 (.inl ⟨by rfl, ?h9_210⟩) ?r9_210
          case h9_210 =>
            intro W hSW
            unfold oColX9
            try dsimp only at hSW
            go_simp
            try with_reducible rfl
          try simp only [oColX9, PT]
          refine tkH 10 oColX10 ?v10_211 (.inl ⟨by rfl, ?h10_211⟩) ?r10_211
          case h10_211 =>
            intro W hSW
            unfold oColX10
            try dsimp only at hSW
            have c0 := (hSW.cell (p := ⟨y3, 0, none⟩) HK.out.2.1).trans HK.out.2.2.2
            go_simp
            try with_reducible rfl
          try simp only [oColX10, PT]
          refine tkH 11 oColX11 ?v11_212 (.inl ⟨by rfl, ?h11_212⟩) ?r11_212
          case h11_212 =>
            intro W hSW
            unfold oColX11
            try dsimp only at hSW
            go_simp
            try with_reducible rfl
          try simp only [oColX11, PT]
          refine tkH 12 oColX12 ?v12_213 (.inl ⟨by rfl, ?h12_213⟩) ?r12_213
          case h12_213 =>
            intro W hSW
            unfold oColX12
            try dsimp only at hSW
            go_simp
            try with_reducible rfl
          try simp only [oColX12, PT]
          refine wpAnyH_done (by kernel_rfl) ?_ _
          have hwd : Below wr.heap.size wr wr.drew := hv0
          have hk2 := (hwd.cell (p := ⟨y2, 2, none⟩) HK.out.1).trans HK.out.2.2.1
          have hrx : wr.drew.rangeAt b (off + j * 3) [.int .i64 x0, .int .i64 x1, .int .i64 x2] := fun q v hq => (hwd.cell (p := ⟨b, off + j * 3 + q, none⟩) HRG.out.1).trans (HRG.out.2 q v hq)
          have HOD := Lib.hid (own_below HO.out hwd)
          have HBD := Lib.hid (HBR.out.trans (hwd.mono HBR.out.size))
          obtain ⟨hn1, hn2⟩ := Col.insJ_no (x := ⟨x0, x1, x2⟩) HI.out.1 (by rw [HUG.out]; exact hgt)
          rw [← HTK.out] at hn1 hn2
          have HN := Lib.hid (And.intro hn1 hn2)
          clear hn1 hn2
          go_wp2_with (first
            | (refine wpList_load_mid rfl _ (.tmp 36) rfl b (off + j * 3) rfl [.int .i64 x0, .int .i64 x1, .int .i64 x2] _ (hrx) Tryz.underlying107 rfl S.sizeUs ?_)
            | (at_builtin; refine wpList_appN rfl (.tmp 32) (.tmp 38) 42 rfl w4.heap.size 107 _ 3 24 usT25 A5 L c5 ((Col.insJ U (us.take j)).flatMap S.usL) [.int .i64 x0, .int .i64 x1, .int .i64 x2] _ rfl rfl rfl HOD.out HBD.out rfl (S.usL_one ⟨x0, x1, x2⟩) (by omega) (Nat.le_refl _) HBD.out.size ?_; intro g9 c9 w9 own9 b9 hg9))
          go_roundw
          case rel => exact ⟨_, j + 1, L + 1, _, c9, false, rfl, by omega, by omega, by go_num, rfl, rfl, Lib.hid ⟨HN.out.2, by rw [HN.out.1, List.length_append, HI.out.2]; rfl⟩, Lib.hid (by rw [HN.out.1, List.flatMap_append, List.flatMap_singleton]; exact own9), Lib.hid b9⟩
          case measure => simp [intOf]; omega
    · obtain rfl : j = m := by omega
      have htk : us.take j = us := List.take_of_length_le (by rw [HM.out]; exact Nat.le_refl _)
      have hi := HI.out
      have ho := HO.out
      rw [htk] at hi ho
      have hie := Col.insJ_end (u := U) (l := us)
      have hR2 := HQ2.out.below' HBR.out
      have hR3 := HQ3.out.below' HBR.out
      have hR4 := HQ4.out.below' HBR.out
      have HR2 := Lib.hid hR2
      have HR4 := Lib.hid hR4
      have k2 := hR2.cell 2
      dsimp only [List.getElem?_cons_zero, List.getElem?_cons_succ] at k2
      have hr3 : wr.rangeAt y3 0 [.int .i64 ug, .int .i64 ue, .int .i64 uc] := fun q v hq => by rw [Nat.zero_add, hR3.cell]; exact hq
      cases dn with
      | true =>
        rw [if_pos hi.1] at hie
        rw [← hie] at ho
        have hl2 : (Col.insU U us).length = L := by rw [hie]; exact hi.2
        have HOWN := Lib.hid ho
        have HLEN := Lib.hid hl2
        have hbz := HBR.out
        clear hi ho hie hl2 hR2 hR3 hR4 HR2 HR4 k2 hr3
        have rz2 := HQ2.out.below' hbz
        have k2 := rz2.cell 2
        have f2 := rz2.frozen 2
        dsimp only [List.getElem?_cons_zero, List.getElem?_cons_succ] at k2
        obtain ⟨rz5, g5⟩ := isRow_put rz2 (k := 2) (by simp) (.slice A5 L c5)
        obtain ⟨ws, hws⟩ : ∃ x, wr.setCell ⟨y2, 2, none⟩ (.slice A5 L c5) = x := ⟨_, rfl⟩
        rw [hws] at rz5 g5
        dsimp only [List.set_cons_zero, List.set_cons_succ] at rz5
        have hr5 : ws.rangeAt y2 0 [.int .i64 cd, .int .i64 wd, .slice A5 L c5] := fun q v hq => by rw [Nat.zero_add, rz5.cell]; exact hq
        have r4 := (HQ4.out.below' hbz).grown g5 (fun e => by have := HY.out; have := Option.some.inj e; omega)
        have HG5 := Lib.hid g5
        go_upto_region 13 with fail
        try rw [hws]
        clear k2 f2
        go_wp2_with (first
          | (refine wpList_load_mid rfl _ (.tmp 2) rfl y2 0 rfl [.int .i64 cd, .int .i64 wd, .slice A5 L c5] _ hr5 Tryz.underlying44 rfl S.sizeRw ?_)
          | (refine wpList_storeRow rfl _ (.tmp 4) (.tmp 48) rfl (l' := [.int .i64 cd, .int .i64 wd, .slice A5 L c5]) r4 rfl rfl S.sizeRw rfl rfl ?_; intro wf rf gf zf))
        refine bodyPost_ret (resultRow24 rfl _ _ rf rfl Tryz.underlying44 S.sizeRw) rfl ?_
        have hob := own_block_lt HOWN.out
        have hrd : Rd wf wf.heap.size 3 A5 L ((Col.insU U us).flatMap S.usL) := (((Rd.of_own HOWN.out).keepA (w' := ws) fun h0 p hp => HG5.out.block p.block (hob p hp).2 (fun e => by have := (hob p hp).1; have := HY.out; have := Option.some.inj e; omega)).keepB (w' := wf) (B' := wf.heap.size) (fun h0 p hp => gf.block p.block (Nat.lt_of_lt_of_le (hob p hp).2 HG5.out.size) (fun e => by have := (hob p hp).1; have := HY.out; have := Option.some.inj e; omega)) (fun h0 p hp => Nat.lt_of_lt_of_le (Nat.lt_of_lt_of_le (hob p hp).2 HG5.out.size) gf.size))
        have hbw := HB4.out.trans (hbz.mono HB4.out.size)
        have hbs := (hbw.grown HG5.out hbw.size (fun i hi => by have := HY.out; have := Option.some.inj hi; omega)).grown gf (Nat.le_trans hbw.size HG5.out.size) (fun i hi => by have := HY.out; have := Option.some.inj hi; omega)
        refine ⟨A5, c5, ?_, ⟨?_, ?_, ?_⟩, fun p hp => ⟨Nat.le_trans HB4.out.size (hob p hp).1, Nat.lt_of_lt_of_le (Nat.lt_of_lt_of_le (hob p hp).2 HG5.out.size) gf.size⟩, hbs⟩
        · unfold S.rwL S.RR.v
          dsimp only
          rw [HLEN.out]
        · show Rd wf wf.heap.size 3 A5 (Col.insU U us).length _
          rw [HLEN.out]; exact hrd
        · show (Col.insU U us).length ≤ c5
          rw [HLEN.out]; exact (own_cap HOWN.out).1
        · show (Col.insU U us).length ≤ 65536
          rw [HLEN.out]; omega
      | false =>
        rw [if_neg (by rw [hi.1]; decide)] at hie
        have hl2 : (Col.insU U us).length = L + 1 := by rw [hie, List.length_append, hi.2]; rfl
        have HLEN := Lib.hid hl2
        have HIE := Lib.hid hie
        have HOD := Lib.hid ho
        clear hi ho hie hl2 hR2 hR3 hR4 HR2 HR4
        go_upto_region 12 with (first
          | (refine wpList_load_mid rfl _ (.tmp 3) rfl y3 0 rfl [.int .i64 ug, .int .i64 ue, .int .i64 uc] _ hr3 Tryz.underlying107 rfl S.sizeUs ?_)
          | (at_builtin; refine wpList_appN rfl (.tmp 42) (.tmp 44) 42 rfl w4.heap.size 107 _ 3 24 usT25 A5 L c5 ((Col.insJ U us).flatMap S.usL) [.int .i64 ug, .int .i64 ue, .int .i64 uc] _ rfl rfl rfl HOD.out HBR.out rfl (S.usL_one ⟨ug, ue, uc⟩) (by omega) (Nat.le_refl _) HBR.out.size ?_; intro g7 c7 w7 own7 b7 hg7))
        have HOWN : Hid (w7.ownsRow w4.heap.size 107 3 (.slice (some ⟨g7, 0, none⟩) (L + 1) c7) (L + 1) ((Col.insU U us).flatMap S.usL)) := Lib.hid (by rw [HIE.out, List.flatMap_append, List.flatMap_singleton, HUL.out]; exact own7)
        have hbz := b7
        clear own7 b7 hg7 hr3 k2
        try simp only [PT]
        have rz2 := HQ2.out.below' hbz
        have k2 := rz2.cell 2
        have f2 := rz2.frozen 2
        dsimp only [List.getElem?_cons_zero, List.getElem?_cons_succ] at k2
        obtain ⟨rz5, g5⟩ := isRow_put rz2 (k := 2) (by simp) (.slice (some ⟨g7, 0, none⟩) (L + 1) c7)
        obtain ⟨ws, hws⟩ : ∃ x, w7.setCell ⟨y2, 2, none⟩ (.slice (some ⟨g7, 0, none⟩) (L + 1) c7) = x := ⟨_, rfl⟩
        rw [hws] at rz5 g5
        dsimp only [List.set_cons_zero, List.set_cons_succ] at rz5
        have hr5 : ws.rangeAt y2 0 [.int .i64 cd, .int .i64 wd, .slice (some ⟨g7, 0, none⟩) (L + 1) c7] := fun q v hq => by rw [Nat.zero_add, rz5.cell]; exact hq
        have r4 := (HQ4.out.below' hbz).grown g5 (fun e => by have := HY.out; have := Option.some.inj e; omega)
        have HG5 := Lib.hid g5
        go_upto_region 13 with fail
        try rw [hws]
        clear k2 f2
        go_wp2_with (first
          | (refine wpList_load_mid rfl _ (.tmp 2) rfl y2 0 rfl [.int .i64 cd, .int .i64 wd, .slice (some ⟨g7, 0, none⟩) (L + 1) c7] _ hr5 Tryz.underlying44 rfl S.sizeRw ?_)
          | (refine wpList_storeRow rfl _ (.tmp 4) (.tmp 48) rfl (l' := [.int .i64 cd, .int .i64 wd, .slice (some ⟨g7, 0, none⟩) (L + 1) c7]) r4 rfl rfl S.sizeRw rfl rfl ?_; intro wf rf gf zf))
        refine bodyPost_ret (resultRow24 rfl _ _ rf rfl Tryz.underlying44 S.sizeRw) rfl ?_
        have hob := own_block_lt HOWN.out
        have hrd : Rd wf wf.heap.size 3 (some ⟨g7, 0, none⟩) (L + 1) ((Col.insU U us).flatMap S.usL) := (((Rd.of_own HOWN.out).keepA (w' := ws) fun h0 p hp => HG5.out.block p.block (hob p hp).2 (fun e => by have := (hob p hp).1; have := HY.out; have := Option.some.inj e; omega)).keepB (w' := wf) (B' := wf.heap.size) (fun h0 p hp => gf.block p.block (Nat.lt_of_lt_of_le (hob p hp).2 HG5.out.size) (fun e => by have := (hob p hp).1; have := HY.out; have := Option.some.inj e; omega)) (fun h0 p hp => Nat.lt_of_lt_of_le (Nat.lt_of_lt_of_le (hob p hp).2 HG5.out.size) gf.size))
        have hbw := HB4.out.trans (hbz.mono HB4.out.size)
        have hbs := (hbw.grown HG5.out hbw.size (fun i hi => by have := HY.out; have := Option.some.inj hi; omega)).grown gf (Nat.le_trans hbw.size HG5.out.size) (fun i hi => by have := HY.out; have := Option.some.inj hi; omega)
        refine ⟨(some ⟨g7, 0, none⟩), c7, ?_, ⟨?_, ?_, ?_⟩, fun p hp => ⟨Nat.le_trans HB4.out.size (hob p hp).1, Nat.lt_of_lt_of_le (Nat.lt_of_lt_of_le (hob p hp).2 HG5.out.size) gf.size⟩, hbs⟩
        · unfold S.rwL S.RR.v
          dsimp only
          rw [HLEN.out]
        · show Rd wf wf.heap.size 3 (some ⟨g7, 0, none⟩) (Col.insU U us).length _
          rw [HLEN.out]; exact hrd
        · show (Col.insU U us).length ≤ c7
          rw [HLEN.out]; exact (own_cap HOWN.out).1
        · show (Col.insU U us).length ≤ 65536
          rw [HLEN.out]; omega
end
end Go.Proofs.YtihhkcndcgljbaaGreat
