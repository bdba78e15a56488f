/- Rows in memory; the search for a used stripe. Conditions: the rows are kept; at most 65536 of each. -/
import Derived.Test.YtihhkcndcgljbaaGreatStrB
namespace Go.Proofs.YtihhkcndcgljbaaGreat.S
set_option linter.unusedVariables false
set_option linter.unusedSimpArgs false
open Go.RowKit
theorem wpList_load_rg {P : Program} {w : World} {ops : Array Oper} {rest : List Oper} {o : Oper} {a : Act} {Q : Exit → Act → World → Prop} (hw : Region.wanted o (yielded ops a.tmps) = true) (ty : TypeId) (x : Operand) (ho : o.op = .load ty x) (b off : Nat) (hx : a.eval x = .pointer (some ⟨b, off, none⟩)) (l : List Value) (ud : TypeDesc) (hr : w.rangeAt b off l)
    (hu : P.underlying ty = some ud) (ha : ud.isRow = true) (hi : (P.info? ty).map (·.size) = some l.length) (h : wpList P ops Q rest (a.put o.dst (.agg l.toArray)) w) : wpList P ops Q (o :: rest) a w :=
  wpList_step fun K hK => by
    rw [if_pos hw]
    exact wp_load_mid ty x ho b off hx l _ hr hu ha hi (hK _ _ h)
theorem sizeUs : (Tryz.prog.info? 107).map (·.size) = some 3 := by kernel_rfl
theorem sizeRw : (Tryz.prog.info? 44).map (·.size) = some 3 := by kernel_rfl
def usL (u : Str.Us) : List Value := [.int .i64 u.g, .int .i64 u.e, .int .i64 u.c]
/-- a row in memory: its used stripes lie in a slice -/
structure RR where
  r : Str.Rw
  A : Option Addr
  k : Nat
def RR.v (x : RR) : Value := .slice x.A x.r.used.length x.k
def rwL (x : RR) : List Value := [.int .i64 x.r.code, .int .i64 x.r.width, x.v]
structure RR.Ok (w : World) (B : Nat) (x : RR) : Prop where
  rd : Rd w B 3 x.A x.r.used.length (x.r.used.flatMap usL)
  le : x.r.used.length ≤ x.k
  mx : x.r.used.length ≤ 65536
/-- a row in memory, however long -/
structure RR.In (w : World) (B : Nat) (x : RR) : Prop where
  rd : Rd w B 3 x.A x.r.used.length (x.r.used.flatMap usL)
  le : x.r.used.length ≤ x.k
  mx : x.r.used.length ≤ 140737488355328
theorem RR.Ok.wide {w : World} {B : Nat} {x : RR} (h : x.Ok w B) : x.In w B := ⟨h.rd, h.le, Nat.le_trans h.mx (by omega)⟩
theorem RR.In.ok {w : World} {B : Nat} {x : RR} (h : x.In w B) (hm : x.r.used.length ≤ 65536) : x.Ok w B := ⟨h.rd, h.le, hm⟩
structure RowsAt (w : World) (B : Nat) (A : Option Addr) (n : Nat) (D : List RR) (l : List Str.Rw) : Prop where
  rd : Rd w B 3 A n (D.flatMap rwL)
  rs : D.map RR.r = l
  us : ∀ x ∈ D, x.Ok w B
  mx : n ≤ 65536
/-- rows in memory, however many -/
structure RowsIn (w : World) (B : Nat) (A : Option Addr) (n : Nat) (D : List RR) (l : List Str.Rw) : Prop where
  rd : Rd w B 3 A n (D.flatMap rwL)
  rs : D.map RR.r = l
  us : ∀ x ∈ D, x.In w B
  mx : n ≤ 140737488355328
theorem RowsAt.wide {w : World} {B n : Nat} {A : Option Addr} {D : List RR} {l : List Str.Rw} (h : RowsAt w B A n D l) : RowsIn w B A n D l := ⟨h.rd, h.rs, fun x hx => (h.us x hx).wide, Nat.le_trans h.mx (by omega)⟩
theorem RowsIn.at_ {w : World} {B n : Nat} {A : Option Addr} {D : List RR} {l : List Str.Rw} (h : RowsIn w B A n D l) (hn : n ≤ 65536) (hu : ∀ r ∈ l, r.used.length ≤ 65536) : RowsAt w B A n D l :=
  ⟨h.rd, h.rs, fun x hx => (h.us x hx).ok (hu x.r (by rw [← h.rs]; exact List.mem_map_of_mem hx)), hn⟩
theorem usL_len (u : Str.Us) : (usL u).length = 3 := rfl
theorem rwL_len (x : RR) : (rwL x).length = 3 := rfl
theorem usL_one (u : Str.Us) : ∀ v ∈ usL u, v.oneCell' = true := by intro v hv; simp only [usL, List.mem_cons, List.not_mem_nil, or_false] at hv; rcases hv with rfl | rfl | rfl <;> rfl
theorem rwL_one (x : RR) : ∀ v ∈ rwL x, v.oneCell' = true := by intro v hv; simp only [rwL, RR.v, List.mem_cons, List.not_mem_nil, or_false] at hv; rcases hv with rfl | rfl | rfl <;> rfl
section
variable {w w' : World} {B B' n : Nat} {A : Option Addr} {D : List RR} {l : List Str.Rw} {x : RR}
theorem RR.Ok.below (h : x.Ok w B) (hb : Below B w w') : x.Ok w' B := ⟨h.rd.below hb, h.le, h.mx⟩
theorem RR.Ok.more (h : x.Ok w B) (hb : B ≤ B') : x.Ok w B' := ⟨h.rd.more hb, h.le, h.mx⟩
theorem RowsAt.below (h : RowsAt w B A n D l) (hb : Below B w w') : RowsAt w' B A n D l := ⟨h.rd.below hb, h.rs, fun x hx => (h.us x hx).below hb, h.mx⟩
theorem RowsAt.more (h : RowsAt w B A n D l) (hb : B ≤ B') : RowsAt w B' A n D l := ⟨h.rd.more hb, h.rs, fun x hx => (h.us x hx).more hb, h.mx⟩
theorem RowsAt.len (h : RowsAt w B A n D l) : D.length = n ∧ l.length = n := by
  have h1 : (D.flatMap rwL).length = D.length * 3 := flatMap_len fun x _ => rwL_len x
  have h2 := h.rd.1
  have h3 : D.length = l.length := by rw [← h.rs, List.length_map]
  omega
/-- a row's cells -/
theorem RowsAt.at (h : RowsAt w B A n D l) {k : Nat} (hk : k < n) : ∃ b off x, A = some ⟨b, off, none⟩ ∧ b < B ∧ D[k]? = some x ∧ l[k]? = some x.r ∧ x.Ok w B ∧ w.rangeAt b (off + k * 3) (rwL x) ∧ w.cell? ⟨b, off + k * 3, none⟩ = some (.int .i64 x.r.code) ∧ w.cell? ⟨b, off + k * 3 + 1, none⟩ = some (.int .i64 x.r.width) ∧ w.cell? ⟨b, off + k * 3 + 2, none⟩ = some x.v := by
  have hD : k < D.length := by rw [h.len.1]; exact hk
  obtain ⟨b, off, e, hb, hr⟩ := h.rd.elem (f := rwL) (fun x _ => rwL_len x) hD hk
  refine ⟨b, off, D[k], e, hb, List.getElem?_eq_getElem hD, by rw [← h.rs, List.getElem?_map, List.getElem?_eq_getElem hD]; rfl, h.us _ (List.getElem_mem hD), hr, hr 0 _ rfl, hr 1 _ rfl, hr 2 _ rfl⟩
/-- a used stripe's cells -/
theorem RR.Ok.at (h : x.Ok w B) {k : Nat} (hk : k < x.r.used.length) : ∃ b off, x.A = some ⟨b, off, none⟩ ∧ b < B ∧ w.rangeAt b (off + k * 3) (usL x.r.used[k]) ∧ w.cell? ⟨b, off + k * 3, none⟩ = some (.int .i64 x.r.used[k].g) := by
  obtain ⟨b, off, e, hb, hr⟩ := h.rd.elem (f := usL) (fun x _ => usL_len x) hk hk
  exact ⟨b, off, e, hb, hr, hr 0 _ rfl⟩
end
section
variable {w w' : World} {B B' n : Nat} {A : Option Addr} {D : List RR} {l : List Str.Rw} {x : RR}
theorem RR.In.below (h : x.In w B) (hb : Below B w w') : x.In w' B := ⟨h.rd.below hb, h.le, h.mx⟩
theorem RR.In.more (h : x.In w B) (hb : B ≤ B') : x.In w B' := ⟨h.rd.more hb, h.le, h.mx⟩
theorem RowsIn.below (h : RowsIn w B A n D l) (hb : Below B w w') : RowsIn w' B A n D l := ⟨h.rd.below hb, h.rs, fun x hx => (h.us x hx).below hb, h.mx⟩
theorem RowsIn.more (h : RowsIn w B A n D l) (hb : B ≤ B') : RowsIn w B' A n D l := ⟨h.rd.more hb, h.rs, fun x hx => (h.us x hx).more hb, h.mx⟩
theorem RowsIn.len (h : RowsIn w B A n D l) : D.length = n ∧ l.length = n := by
  have h1 : (D.flatMap rwL).length = D.length * 3 := flatMap_len fun x _ => rwL_len x
  have h2 := h.rd.1
  have h3 : D.length = l.length := by rw [← h.rs, List.length_map]
  omega
theorem RowsIn.at (h : RowsIn w B A n D l) {k : Nat} (hk : k < n) : ∃ b off x, A = some ⟨b, off, none⟩ ∧ b < B ∧ D[k]? = some x ∧ l[k]? = some x.r ∧ x.In w B ∧ w.rangeAt b (off + k * 3) (rwL x) ∧ w.cell? ⟨b, off + k * 3, none⟩ = some (.int .i64 x.r.code) ∧ w.cell? ⟨b, off + k * 3 + 1, none⟩ = some (.int .i64 x.r.width) ∧ w.cell? ⟨b, off + k * 3 + 2, none⟩ = some x.v := by
  have hD : k < D.length := by rw [h.len.1]; exact hk
  obtain ⟨b, off, e, hb, hr⟩ := h.rd.elem (f := rwL) (fun x _ => rwL_len x) hD hk
  refine ⟨b, off, D[k], e, hb, List.getElem?_eq_getElem hD, by rw [← h.rs, List.getElem?_map, List.getElem?_eq_getElem hD]; rfl, h.us _ (List.getElem_mem hD), hr, hr 0 _ rfl, hr 1 _ rfl, hr 2 _ rfl⟩
theorem RR.In.at (h : x.In w B) {k : Nat} (hk : k < x.r.used.length) : ∃ b off, x.A = some ⟨b, off, none⟩ ∧ b < B ∧ w.rangeAt b (off + k * 3) (usL x.r.used[k]) ∧ w.cell? ⟨b, off + k * 3, none⟩ = some (.int .i64 x.r.used[k].g) := by
  obtain ⟨b, off, e, hb, hr⟩ := h.rd.elem (f := usL) (fun x _ => usL_len x) hk hk
  exact ⟨b, off, e, hb, hr, hr 0 _ rfl⟩
end
/-- the result of a search -/
def Str.idx (l : List Str.Us) (g : Int) : Int := match Str.at? l g with | some k => (k : Int) | none => -1
theorem Str.idx_hit {l : List Str.Us} {g : Int} {k : Nat} (hk : k < l.length) (h : l[k].g = g) (hn : ∀ i (hi : i < k), l[i].g ≠ g) : Str.idx l g = (k : Int) := by
  have : Str.at? l g = some k := by
    unfold Str.at?
    rw [List.findIdx?_eq_some_iff_getElem]
    exact ⟨hk, by simpa using h, fun j hj => by simpa using hn j hj⟩
  unfold Str.idx; rw [this]
theorem Str.idx_miss {l : List Str.Us} {g : Int} (hn : ∀ i (hi : i < l.length), l[i].g ≠ g) : Str.idx l g = -1 := by
  have : Str.at? l g = none := by
    unfold Str.at?
    rw [List.findIdx?_eq_none_iff]
    intro u hu
    obtain ⟨i, hi, rfl⟩ := List.getElem_of_mem hu
    simpa using hn i hi
  unfold Str.idx; rw [this]
end Go.Proofs.YtihhkcndcgljbaaGreat.S
