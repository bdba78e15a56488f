/- Rows in memory; the search for a used stripe. Conditions: the rows are kept; at most 65536 of each. -/
import Derived.Test.YtcmgnjdhjnclkaaStrB
namespace Go.Proofs.Ytcmgnjdhjnclkaa.S
set_option linter.unusedVariables false
set_option linter.unusedSimpArgs false
open Go.RowKit
theorem wpList_load_rg {P : Program} {w : World} {ops : Array Oper} {rest : List Oper} {o : Oper} {a : Act} {Q : Exit → Act → World → Prop} (hw : Region.wanted o (yielded ops a.tmps) = true) (ty : TypeId) (x : Operand) (ho : o.op = .load ty x) (b off : Nat) (hx : a.eval x = .pointer (some ⟨b, off, none⟩)) (l : List Value) (ud : TypeDesc) (hr : w.rangeAt b off l)
    (hu : P.underlying ty = some ud) (ha : ud.isRow = true) (hi : (P.info? ty).map (·.size) = some l.length) (h : wpList P ops Q rest (a.put o.dst (.agg l.toArray)) w) : wpList P ops Q (o :: rest) a w :=
  wpList_step fun K hK => by
    rw [if_pos hw]
    exact wp_load_mid ty x ho b off hx l _ hr hu ha hi (hK _ _ h)
theorem sizeUs : (Try.prog.info? 37).map (·.size) = some 3 := by kernel_rfl
theorem sizeRw : (Try.prog.info? 59).map (·.size) = some 3 := by kernel_rfl
def usL (u : Str.Us) : List Value := [.int .i64 u.g, .int .i64 u.e, .int .i64 u.c]
/-- a row in memory: its used stripes lie in a slice -/
structure RR where
  r : Str.Rw
  A : Option Addr
  k : Nat
def RR.v (x : RR) : Value := .slice x.A x.r.used.length x.k
def rwL (x : RR) : List Value := [.int .i64 x.r.code, .int .i64 x.r.width, x.v]
structure RR.Ok (w : World) (B : Nat) (x : RR) : Prop where
  rd : Rd w B 3 x.A x.r.used.length (x.r.used.flatMap usL)
  le : x.r.used.length ≤ x.k
  mx : x.r.used.length ≤ 65536
/-- a row in memory, however long -/
structure RR.In (w : World) (B : Nat) (x : RR) : Prop where
  rd : Rd w B 3 x.A x.r.used.length (x.r.used.flatMap usL)
  le : x.r.used.length ≤ x.k
  mx : x.r.used.length ≤ 140737488355328
theorem RR.Ok.wide {w : World} {B : Nat} {x : RR} (h : x.Ok w B) : x.In w B := ⟨h.rd, h.le, Nat.le_trans h.mx (by omega)⟩
theorem RR.In.ok {w : World} {B : Nat} {x : RR} (h : x.In w B) (hm : x.r.used.length ≤ 65536) : x.Ok w B := ⟨h.rd, h.le, hm⟩
structure RowsAt (w : World) (B : Nat) (A : Option Addr) (n : Nat) (D : List RR) (l : List Str.Rw) : Prop where
  rd : Rd w B 3 A n (D.flatMap rwL)
  rs : D.map RR.r = l
  us : ∀ x ∈ D, x.Ok w B
  mx : n ≤ 65536
/-- rows in memory, however many -/
structure RowsIn (w : World) (B : Nat) (A : Option Addr) (n : Nat) (D : List RR) (l : List Str.Rw) : Prop where
  rd : Rd w B 3 A n (D.flatMap rwL)
  rs : D.map RR.r = l
  us : ∀ x ∈ D, x.In w B
  mx : n ≤ 140737488355328
theorem RowsAt.wide {w : World} {B n : Nat} {A : Option Addr} {D : List RR} {l : List Str.Rw} (h : RowsAt w B A n D l) : RowsIn w B A n D l := ⟨h.rd, h.rs, fun x hx => (h.us x hx).wide, Nat.le_trans h.mx (by omega)⟩
theorem RowsIn.at_ {w : World} {B n : Nat} {A : Option Addr} {D : List RR} {l : List Str.Rw} (h : RowsIn w B A n D l) (hn : n ≤ 65536) (hu : ∀ r ∈ l, r.used.length ≤ 65536) : RowsAt w B A n D l :=
  ⟨h.rd, h.rs, fun x hx => (h.us x hx).ok (hu x.r (by rw [← h.rs]; exact List.mem_map_of_mem hx)), hn⟩
theorem usL_len (u : Str.Us) : (usL u).length = 3 := rfl
theorem rwL_len (x : RR) : (rwL x).length = 3 := rfl
theorem usL_one (u : Str.Us) : ∀ v ∈ usL u, v.oneCell' = true := by intro v hv; simp only [usL, List.mem_cons, List.not_mem_nil, or_false] at hv; rcases hv with rfl | rfl | rfl <;> rfl
theorem rwL_one (x : RR) : ∀ v ∈ rwL x, v.oneCell' = true := by intro v hv; simp only [rwL, RR.v, List.mem_cons, List.not_mem_nil, or_false] at hv; rcases hv with rfl | rfl | rfl <;> rfl
section
variable {w w' : World} {B B' n : Nat} {A : Option Addr} {D : List RR} {l : List Str.Rw} {x : RR}
theorem RR.Ok.below (h : x.Ok w B) (hb : Below B w w') : x.Ok w' B := ⟨h.rd.below hb, h.le, h.mx⟩
theorem RR.Ok.more (h : x.Ok w B) (hb : B ≤ B') : x.Ok w B' := ⟨h.rd.more hb, h.le, h.mx⟩
theorem RowsAt.below (h : RowsAt w B A n D l) (hb : Below B w w') : RowsAt w' B A n D l := ⟨h.rd.below hb, h.rs, fun x hx => (h.us x hx).below hb, h.mx⟩
theorem RowsAt.more (h : RowsAt w B A n D l) (hb : B ≤ B') : RowsAt w B' A n D l := ⟨h.rd.more hb, h.rs, fun x hx => (h.us x hx).more hb, h.mx⟩
theorem RowsAt.len (h : RowsAt w B A n D l) : D.length = n ∧ l.length = n := by
  have h1 : (D.flatMap rwL).length = D.length * 3 := flatMap_len fun x _ => rwL_len x
  have h2 := h.rd.1
  have h3 : D.length = l.length := by rw [← h.rs, List.length_map]
  omega
/-- a row's cells -/
theorem RowsAt.at (h : RowsAt w B A n D l) {k : Nat} (hk : k < n) : ∃ b off x, A = some ⟨b, off, none⟩ ∧ b < B ∧ D[k]? = some x ∧ l[k]? = some x.r ∧ x.Ok w B ∧ w.rangeAt b (off + k * 3) (rwL x) ∧ w.cell? ⟨b, off + k * 3, none⟩ = some (.int .i64 x.r.code) ∧ w.cell? ⟨b, off + k * 3 + 1, none⟩ = some (.int .i64 x.r.width) ∧ w.cell? ⟨b, off + k * 3 + 2, none⟩ = some x.v := by
  have hD : k < D.length := by rw [h.len.1]; exact hk
  obtain ⟨b, off, e, hb, hr⟩ := h.rd.elem (f := rwL) (fun x _ => rwL_len x) hD hk
  refine ⟨b, off, D[k], e, hb, List.getElem?_eq_getElem hD, by rw [← h.rs, List.getElem?_map, List.getElem?_eq_getElem hD]; rfl, h.us _ (List.getElem_mem hD), hr, hr 0 _ rfl, hr 1 _ rfl, hr 2 _ rfl⟩
/-- a used stripe's cells -/
theorem RR.Ok.at (h : x.Ok w B) {k : Nat} (hk : k < x.r.used.length) : ∃ b off, x.A = some ⟨b, off, none⟩ ∧ b < B ∧ w.rangeAt b (off + k * 3) (usL x.r.used[k]) ∧ w.cell? ⟨b, off + k * 3, none⟩ = some (.int .i64 x.r.used[k].g) := by
  obtain ⟨b, off, e, hb, hr⟩ := h.rd.elem (f := usL) (fun x _ => usL_len x) hk hk
  exact ⟨b, off, e, hb, hr, hr 0 _ rfl⟩
end
section
variable {w w' : World} {B B' n : Nat} {A : Option Addr} {D : List RR} {l : List Str.Rw} {x : RR}
theorem RR.In.below (h : x.In w B) (hb : Below B w w') : x.In w' B := ⟨h.rd.below hb, h.le, h.mx⟩
theorem RR.In.more (h : x.In w B) (hb : B ≤ B') : x.In w B' := ⟨h.rd.more hb, h.le, h.mx⟩
theorem RowsIn.below (h : RowsIn w B A n D l) (hb : Below B w w') : RowsIn w' B A n D l := ⟨h.rd.below hb, h.rs, fun x hx => (h.us x hx).below hb, h.mx⟩
theorem RowsIn.more (h : RowsIn w B A n D l) (hb : B ≤ B') : RowsIn w B' A n D l := ⟨h.rd.more hb, h.rs, fun x hx => (h.us x hx).more hb, h.mx⟩
theorem RowsIn.len (h : RowsIn w B A n D l) : D.length = n ∧ l.length = n := by
  have h1 : (D.flatMap rwL).length = D.length * 3 := flatMap_len fun x _ => rwL_len x
  have h2 := h.rd.1
  have h3 : D.length = l.length := by rw [← h.rs, List.length_map]
  omega
theorem RowsIn.at (h : RowsIn w B A n D l) {k : Nat} (hk : k < n) : ∃ b off x, A = some ⟨b, off, none⟩ ∧ b < B ∧ D[k]? = some x ∧ l[k]? = some x.r ∧ x.In w B ∧ w.rangeAt b (off + k * 3) (rwL x) ∧ w.cell? ⟨b, off + k * 3, none⟩ = some (.int .i64 x.r.code) ∧ w.cell? ⟨b, off + k * 3 + 1, none⟩ = some (.int .i64 x.r.width) ∧ w.cell? ⟨b, off + k * 3 + 2, none⟩ = some x.v := by
  have hD : k < D.length := by rw [h.len.1]; exact hk
  obtain ⟨b, off, e, hb, hr⟩ := h.rd.elem (f := rwL) (fun x _ => rwL_len x) hD hk
  refine ⟨b, off, D[k], e, hb, List.getElem?_eq_getElem hD, by rw [← h.rs, List.getElem?_map, List.getElem?_eq_getElem hD]; rfl, h.us _ (List.getElem_mem hD), hr, hr 0 _ rfl, hr 1 _ rfl, hr 2 _ rfl⟩
theorem RR.In.at (h : x.In w B) {k : Nat} (hk : k < x.r.used.length) : ∃ b off, x.A = some ⟨b, off, none⟩ ∧ b < B ∧ w.rangeAt b (off + k * 3) (usL x.r.used[k]) ∧ w.cell? ⟨b, off + k * 3, none⟩ = some (.int .i64 x.r.used[k].g) := by
  obtain ⟨b, off, e, hb, hr⟩ := h.rd.elem (f := usL) (fun x _ => usL_len x) hk hk
  exact ⟨b, off, e, hb, hr, hr 0 _ rfl⟩
end
/-- the result of a search -/
def Str.idx (l : List Str.Us) (g : Int) : Int := match Str.at? l g with | some k => (k : Int) | none => -1
theorem Str.idx_hit {l : List Str.Us} {g : Int} {k : Nat} (hk : k < l.length) (h : l[k].g = g) (hn : ∀ i (hi : i < k), l[i].g ≠ g) : Str.idx l g = (k : Int) := by
  have : Str.at? l g = some k := by
    unfold Str.at?
    rw [List.findIdx?_eq_some_iff_getElem]
    exact ⟨hk, by simpa using h, fun j hj => by simpa using hn j hj⟩
  unfold Str.idx; rw [this]
theorem Str.idx_miss {l : List Str.Us} {g : Int} (hn : ∀ i (hi : i < l.length), l[i].g ≠ g) : Str.idx l g = -1 := by
  have : Str.at? l g = none := by
    unfold Str.at?
    rw [List.findIdx?_eq_none_iff]
    intro u hu
    obtain ⟨i, hi, rfl⟩ := List.getElem_of_mem hu
    simpa using hn i hi
  unfold Str.idx; rw [this]
abbrev isG (bk : Nat) : Value := .func (.func 40) #[] #[.pointer (some ⟨bk, 0, none⟩)]
theorem isG_any (u e c g : Int) (bk : Nat) (w : World) (hk : w.cell? ⟨bk, 1, none⟩ = some (.int .i64 g)) (hkl : bk < w.heap.size) :
    Calls Try.prog 40 #[.agg #[.int .i64 u, .int .i64 e, .int .i64 c], .pointer (some ⟨bk, 0, none⟩)] w fun e w' => e = .returned (.bool (u == g)) ∧ Below w.heap.size w w' := by
  have R0 := (IsRow.new w 37 [.int .i64 u, .int .i64 e, .int .i64 c]).cell 0
  dsimp only [List.getElem?_cons_zero] at R0
  have hb0 : Below w.heap.size w (w.alloc (.cells #[.int .i64 u, .int .i64 e, .int .i64 c] 37)) := (Below.refl _ w).alloc (Nat.le_refl _) _
  have hk0 := (hb0.cell (p := ⟨bk, 1, none⟩) hkl).trans hk
  obtain ⟨w0, hw0⟩ : ∃ w0, w.alloc (.cells #[.int .i64 u, .int .i64 e, .int .i64 c] 37) = w0 := ⟨_, rfl⟩
  have hw1 : w.alloc (.cells [Value.int .i64 u, .int .i64 e, .int .i64 c].toArray 37) = w0 := hw0
  rw [hw0] at hb0 hk0
  rw [hw1] at R0
  have HW0 := Lib.hid hw0
  clear hw0 hw1 hk
  go_enter Try.func40, Try.ntmps40
  go_upto_region 1 with fail
  rw [HW0.out]
  go_wp2_with fail
  go_ret
  exact ⟨rfl, hb0⟩
set_option maxRecDepth 100000 in
set_option maxHeartbeats 1600000 in
theorem indexU (x : RR) (g : Int) (B bk : Nat) (w : World) (hx : x.Ok w B) (hB : B ≤ w.heap.size) (hk : w.cell? ⟨bk, 1, none⟩ = some (.int .i64 g)) (hkl : bk < w.heap.size) :
    Calls Try.prog 39 #[x.v, isG bk] w fun e w' => e = .returned (.int .i64 (Str.idx x.r.used g)) ∧ Below w.heap.size w w' := by
  obtain ⟨V, hV⟩ : ∃ V, Str.idx x.r.used g = V := ⟨_, rfl⟩
  rw [hV]
  have HV := Lib.hid hV
  have HX := Lib.hid hx
  have HK := Lib.hid (And.intro hk hkl)
  have hnc := hx.le
  have hmx := hx.mx
  unfold RR.v
  obtain ⟨n, hn⟩ : ∃ n, x.r.used.length = n := ⟨_, rfl⟩
  have HN := Lib.hid hn
  obtain ⟨A, hA⟩ : ∃ A, x.A = A := ⟨_, rfl⟩
  have HA := Lib.hid hA
  rw [hn, hA]
  rw [hn] at hnc hmx
  clear hx hk hkl hV hn hA
  go_enter Try.func39, Try.ntmps39
  go_wp2_with fail
  go_loopw [8] (fun u wr => ∃ j : Nat, j ≤ n ∧ u = .int .i64 (j : Int) ∧ Hid (∀ i (hi : i < x.r.used.length), i < j → x.r.used[i].g ≠ g) ∧ Hid (Below w.heap.size w wr)) (fun u _ => n - (intOf u).toNat)
  case atStart => exact ⟨0, Nat.zero_le _, rfl, Lib.hid fun i _ hi => absurd hi (Nat.not_lt_zero i), Lib.hid (Below.refl _ _)⟩
  case round =>
    obtain ⟨j, hj, rfl, HI, HB⟩ := hrel
    by_cases hlt : j < n
    · have hju : j < x.r.used.length := by rw [HN.out]; exact hlt
      obtain ⟨b, off, hA, hbb, hrg, -⟩ := (HX.out.below (HB.out.mono hB)).at hju
      have e1 : (0 : Int) ≤ (j : Int) := by omega
      have e2 : (j : Int) < (n : Int) := by omega
      obtain ⟨y, hy⟩ : ∃ y, x.r.used[j] = y := ⟨_, rfl⟩
      rw [hy] at hrg
      obtain ⟨ug, ue, uc⟩ := y
      have HY : Hid (x.r.used[j].g = ug) := Lib.hid (by rw [hy])
      have HC := Lib.hid (isG_any ug ue uc g bk wr ((HB.out.cell (p := ⟨bk, 1, none⟩) HK.out.2).trans HK.out.1) (Nat.lt_of_lt_of_le HK.out.2 HB.out.size))
      obtain rfl : A = some ⟨b, off, none⟩ := HA.out.symm.trans hA
      obtain ⟨q, hq⟩ : ∃ q, (ug == g) = q := ⟨_, rfl⟩
      rw [hq] at HC
      have HQ := Lib.hid hq
      clear hy hA hq
      cases q with
      | true =>
        go_wp2_with (first
          | (refine wpList_load_rg rfl _ (.tmp 14) rfl b (off + j * 3) rfl _ _ hrg Try.underlying37 rfl sizeUs ?_)
          | (go_at_call 40; refine HC.out.mono ?_; rintro e w1 ⟨rfl, b1⟩))
        go_ret
        exact ⟨by rw [← HV.out, Str.idx_hit hju (HY.out.trans (by simpa using HQ.out)) (fun i hi => HI.out i (by omega) hi)]; rfl, HB.out.trans (b1.mono HB.out.size)⟩
      | false =>
        go_wp2_with (first
          | (refine wpList_load_rg rfl _ (.tmp 14) rfl b (off + j * 3) rfl _ _ hrg Try.underlying37 rfl sizeUs ?_)
          | (go_at_call 40; refine HC.out.mono ?_; rintro e w1 ⟨rfl, b1⟩))
        go_roundw
        case rel =>
          refine ⟨j + 1, by omega, by go_num, Lib.hid fun i hi hij => ?_, Lib.hid (HB.out.trans (b1.mono HB.out.size))⟩
          rcases Nat.lt_or_ge i j with e | e
          · exact HI.out i hi e
          · obtain rfl : i = j := by omega
            rw [HY.out]; simpa using HQ.out
        case measure => simp [intOf]; omega
    · obtain rfl : j = n := by omega
      go_wp2_with fail
      go_ret
      exact ⟨by rw [← HV.out, Str.idx_miss (fun i hi => HI.out i hi (by rw [← HN.out]; exact hi))]; rfl, HB.out⟩
end Go.Proofs.Ytcmgnjdhjnclkaa.S
