/- Joined texts: Base, Base2. Conditions: as each part says. -/
import Derived.Below
import Derived.Laws.OwnMore
import Derived.Deep.AppendLies
import Derived.Deep.Draws
import Derived.Maps.AppendAt
import Derived.RegionTactic
import Derived.OwnWalk
import Derived.Lib.Hide
import Derived.Lib.AppendStr
import Derived.ChangeSame
import Derived.Laws.AppendOwnNone
import Derived.ArgAppend
import Derived.Laws.IdiomStrings
import Derived.Laws.BytesArg
import Derived.Laws.Slices
import Derived.Deep.MidRow
import Derived.Deep.WholeRow
namespace Go.Proofs.YtfllkaeaanahmaaGreat
set_option linter.unusedVariables false
set_option linter.unusedSimpArgs false
section
open Go.RowKit

theorem ret_bool {a b : Bool} (h : a = b) : Ending.returned (.bool a) = .returned (.bool b) := by rw [h]
theorem ret_int {k : IntKind} {a b : Int} (h : a = b) : Ending.returned (.int k a) = .returned (.int k b) := by rw [h]

theorem below_drewN {B : Nat} {a w : World} (h : Below B a w) (n : Nat) : Below B a (w.drewN n) := ⟨h.os, h.tape, h.output, h.size, h.block⟩
theorem below_of_drewN (B : Nat) (w : World) (n : Nat) : Below B w (w.drewN n) := below_drewN (Below.refl _ _) n

def Rd (w : World) (B size : Nat) (A : Option Addr) (n : Nat) (xs : List Value) : Prop :=
 xs.length = n * size ∧ (0 < n → ∃ b off, A = some ⟨b, off, none⟩ ∧ b < B ∧ ∀ j u, xs[j]? = some u → w.cell? ⟨b, off + j, none⟩ = some u)

section
variable {w w' : World} {B B' size n : Nat} {A : Option Addr} {xs : List Value}
theorem Rd.nil_ (w : World) (B size : Nat) (A : Option Addr) : Rd w B size A 0 [] := ⟨by simp, fun h => absurd h (by omega)⟩
theorem Rd.keep (h : Rd w B size A n xs) (hk : ∀ p : Addr, p.block < B → w'.cell? p = w.cell? p) : Rd w' B size A n xs :=
 ⟨h.1, fun hn => by
  obtain ⟨b, off, e, hb, hc⟩ := h.2 hn
  exact ⟨b, off, e, hb, fun j u hu => (hk _ hb).trans (hc j u hu)⟩⟩
theorem Rd.more (h : Rd w B size A n xs) (hB : B ≤ B') : Rd w B' size A n xs :=
 ⟨h.1, fun hn => by
  obtain ⟨b, off, e, hb, hc⟩ := h.2 hn
  exact ⟨b, off, e, by omega, hc⟩⟩
theorem Rd.below (h : Rd w B size A n xs) (hb : Below B w w') : Rd w' B size A n xs := h.keep fun _ hp => hb.cell hp
theorem Rd.drew (h : Rd w B size A n xs) : Rd w.drew B size A n xs := h
theorem Rd.drewN (h : Rd w B size A n xs) (k : Nat) : Rd (w.drewN k) B size A n xs := h
theorem Rd.alloc (h : Rd w B size A n xs) (hB : B ≤ w.heap.size) (o : Obj) : Rd (w.alloc o) B size A n xs := h.keep fun p hp => World.cell?_alloc_lt w o p (by omega)
theorem Rd.setCell (h : Rd w B size A n xs) {p : Addr} (hB : B ≤ p.block) (u : Value) : Rd (w.setCell p u) B size A n xs :=
 h.keep fun q hq => World.cell?_setCell_other w p q u (fun e => by subst e; omega)
theorem Rd.setCell_far (h : Rd w B size A n xs) {p : Addr} (hA : ∀ a, A = some a → a.block ≠ p.block) (u : Value) : Rd (w.setCell p u) B size A n xs :=
 ⟨h.1, fun hn => by
  obtain ⟨b, off, e, hb, hc⟩ := h.2 hn
  exact ⟨b, off, e, hb, fun j x hx => (World.cell?_setCell_other w p _ u (fun e' => hA _ e (by subst e'; rfl))).trans (hc j x hx)⟩⟩
theorem Rd.grown (h : Rd w B size A n xs) {row : Option Nat} (hg : w.grownBy w' row) (hB : B ≤ w.heap.size) (hr : ∀ g, row = some g → B ≤ g) : Rd w' B size A n xs :=
 h.keep fun p hp => World.cell?_of_block (hg.block p.block (by omega) (fun e => by have := hr _ e.symm; omega))
theorem Rd.grown_far (h : Rd w B size A n xs) {row : Option Nat} (hg : w.grownBy w' row) (hB : B ≤ w.heap.size) (hr : ∀ a, A = some a → some a.block ≠ row) : Rd w' B size A n xs :=
 ⟨h.1, fun hn => by
  obtain ⟨b, off, e, hb, hc⟩ := h.2 hn
  exact ⟨b, off, e, hb, fun j x hx => (World.cell?_of_block (a := ⟨b, off + j, none⟩) (hg.block b (by omega) (hr _ e))).trans (hc j x hx)⟩⟩
theorem Rd.cut (h : Rd w B size A n xs) {k cap : Nat} (hk : k ≤ n) (hc : n ≤ cap) :
  Rd w B size (if cap = k then A else A.map (·.add (k * size))) (n - k) (xs.drop (k * size)) := by
 refine ⟨by rw [List.length_drop, h.1, Nat.sub_mul], fun hn => ?_⟩
 obtain ⟨b, off, rfl, hb, hcell⟩ := h.2 (by omega)
 rw [if_neg (by omega)]
 have ha : (⟨b, off, none⟩ : Addr).add (k * size) = ⟨b, off + k * size, none⟩ := by unfold Addr.add; split <;> simp_all
 refine ⟨b, off + k * size, by simp [ha], hb, fun j u hu => ?_⟩
 rw [Nat.add_assoc]
 exact hcell _ u (by rw [← hu, List.getElem?_drop])
theorem Rd.take (h : Rd w B size A n xs) {k : Nat} (hk : k ≤ n) : Rd w B size A k (xs.take (k * size)) := by
 refine ⟨by rw [List.length_take, h.1]; exact Nat.min_eq_left (Nat.mul_le_mul_right _ hk), fun hn => ?_⟩
 obtain ⟨b, off, rfl, hb, hcell⟩ := h.2 (by omega)
 refine ⟨b, off, rfl, hb, fun j u hu => hcell j u ?_⟩
 rw [List.getElem?_take] at hu
 split at hu
 ·
  exact hu
 ·
  cases hu
theorem Rd.get {α : Type} {f : α → Value} {l : List α} (h : Rd w B 1 A n (l.map f)) {k : Nat} (hk : k < l.length) :
  ∃ b off, A = some ⟨b, off, none⟩ ∧ b < B ∧ w.cell? ⟨b, off + k, none⟩ = some (f l[k]) := by
 have hl : l.length = n := by simpa using h.1
 obtain ⟨b, off, e, hb, hc⟩ := h.2 (by omega)
 exact ⟨b, off, e, hb, hc k _ (by simp [hk])⟩
theorem Rd.all {α : Type} {f : α → Value} {l : List α} (h : Rd w B 1 A n (l.map f)) (hn : 0 < n) :
  ∃ b off, A = some ⟨b, off, none⟩ ∧ b < B ∧ ∀ k (hk : k < l.length), w.cell? ⟨b, off + k, none⟩ = some (f l[k]) := by
 obtain ⟨b, off, e, hb, hc⟩ := h.2 hn
 exact ⟨b, off, e, hb, fun k hk => hc k _ (by simp [hk])⟩
theorem Rd.of_own {base : Nat} {e : TypeId} {c : Nat} (h : w.ownsRow base e size (.slice A n c) n xs) : Rd w w.heap.size size A n xs := by
 refine ⟨h.1, fun hn => ?_⟩
 obtain ⟨g, cap, hv, _, hlt⟩ := h.form hn
 have hA : A = some ⟨g, 0, none⟩ := by injection hv
 subst hA
 refine ⟨g, 0, rfl, hlt, fun j u hu => ?_⟩
 have := h.cells (g := g) rfl j u hu
 rw [Addr.add_lit] at this
 exact this
theorem Rd.one (w : World) (u : Value) (e : TypeId) : Rd (w.alloc (.cells #[u] e)) (w.heap.size + 1) 1 (some ⟨w.heap.size, 0, none⟩) 1 [u] := by
 refine ⟨rfl, fun _ => ⟨w.heap.size, 0, rfl, by omega, fun j v hv => ?_⟩⟩
 have := cell_one_new w u e j v hv
 rw [Addr.add_lit] at this
 exact this
theorem Rd.new (w : World) (us : List Value) (e : TypeId) (n : Nat) (hl : us.length = n * size) : Rd (w.alloc (.cells us.toArray e)) (w.heap.size + 1) size (some ⟨w.heap.size, 0, none⟩) n us := by
 refine ⟨hl, fun _ => ⟨w.heap.size, 0, rfl, by omega, fun j v hv => ?_⟩⟩
 have h := cell_of_row (w.alloc (.cells us.toArray e)) w.heap.size (0 + j) us.toArray e (0, 0) (heap_alloc_new w _)
 rw [h, Nat.zero_add]
 simpa using hv
end

section
variable {w w' : World} {base B size n c : Nat} {e : TypeId} {A : Option Addr} {v : Value} {xs : List Value}
theorem own_base {b' : Nat} (h : w.ownsRow base e size v n xs) (hb : b' ≤ base) : w.ownsRow b' e size v n xs := by
 refine ⟨h.1, ?_⟩
 rcases h.2 with h0 | ⟨g, cap, cur, hv, hg, r⟩
 ·
  exact .inl h0
 ·
  exact .inr ⟨g, cap, cur, hv, by omega, r⟩
theorem own_slice (h : w.ownsRow base e size v n xs) : ∃ A c, v = .slice A n c := by
 rcases h.2 with ⟨rfl, rfl⟩ | ⟨g, cap, cur, rfl, _⟩
 ·
  exact ⟨none, 0, rfl⟩
 ·
  exact ⟨_, _, rfl⟩
theorem own_cap (h : w.ownsRow base e size (.slice A n c) n xs) : n ≤ c ∧ c ≤ maxLen := by
 rcases h.2 with ⟨h0, rfl⟩ | ⟨g, cap, cur, hv, _, _, h1, h2, _⟩
 ·
  injection h0 with _ _ hc; subst hc; exact ⟨Nat.le_refl _, by unfold maxLen; omega⟩
 ·
  injection hv with _ _ hc; subst hc; exact ⟨h1, h2⟩
theorem own_block_lt (h : w.ownsRow base e size (.slice A n c) n xs) : ∀ a, A = some a → base ≤ a.block ∧ a.block < w.heap.size := fun a ha => h.lt a.block (by rw [ha]; rfl)
theorem own_below (h : w.ownsRow base e size v n xs) (hb : Below w.heap.size w w') : w'.ownsRow base e size v n xs := by
 refine ⟨h.1, ?_⟩
 rcases h.2 with h0 | ⟨g, cap, cur, hv, hg, hh, r⟩
 ·
  exact .inl h0
 ·
  exact .inr ⟨g, cap, cur, hv, hg, (hb.block g (Array.getElem?_eq_some_iff.1 hh).1).trans hh, r⟩
theorem own_drewN (h : w.ownsRow base e size v n xs) (k : Nat) : (w.drewN k).ownsRow base e size v n xs := h
end

structure ElemT (P : Program) (t e : TypeId) (z : Value) (size bytes : Nat) : Prop where
 sl : P.underlying t = some (.slice e)
 info : (P.info? e).map (fun i => (i.zero, i.size, i.bytes)) = some (some z, size, bytes)
 zs : z.cells.size = size
 pos : 0 < size
 bpos : 0 < bytes

section
variable {P : Program} (w : World) {t e : TypeId} {z : Value} {size bytes : Nat}

theorem run_append_of_nil (base : Nat) (ty : TypeId) (E : ElemT P t e z size bytes)
  (v : Value) (n : Nat) (xs : List Value) (hown : w.ownsRow base e size v n xs) (c : Nat) : (Builtin.append_ #[t, t] ty #[v, .slice none 0 c]).run P w = .ok v w := by
 obtain ⟨i, hi, hz, hsize, hby⟩ := info_parts E.info
 rcases hown.2 with ⟨rfl, rfl⟩ | ⟨g, cap, cur, rfl, _, _, hnc, _⟩
 ·
  simp [Builtin.append_, run_underlying E.sl, sizeOf, typeInfo, hi, Builtin.lenOf, Builtin.firstCells]
 ·
  simp [Builtin.append_, run_underlying E.sl, sizeOf, typeInfo, hi, Builtin.lenOf, Builtin.firstCells, hnc, storeCells]

theorem run_app (base ty : Nat) (E : ElemT P t e z size bytes)
  (A0 : Option Addr) (n c0 : Nat) (xs : List Value) (hown : w.ownsRow base e size (.slice A0 n c0) n xs)
  (B : Nat) (A : Option Addr) (m c : Nat) (news : List Value) (hr : Rd w B size A m news) (h1 : ∀ u ∈ news, u.oneCell' = true)
  (hb : (n + m) * bytes ≤ 140737488355328) (h63 : n + m ≤ maxLen) (hbase : base ≤ w.heap.size) :
  ∃ A' c' w', (Builtin.append_ #[t, t] ty #[.slice A0 n c0, .slice A m c]).run P w = .ok (.slice A' (n + m) c') w' ∧ w'.ownsRow base e size (.slice A' (n + m) c') (n + m) (xs ++ news) ∧
   w.grownBy w' (Value.slice A0 n c0).ownBlock ∧ (A' = A0 ∨ ∃ a, A' = some a ∧ a.block = w.heap.size) := by
 obtain ⟨i, hi, hz, hsize, hby⟩ := info_parts E.info
 have key : ∀ v' w', (Builtin.append_ #[t, t] ty #[.slice A0 n c0, .slice A m c]).run P w = .ok v' w' → w'.ownsRow base e size v' (n + m) (xs ++ news) → w.grownBy w' (Value.slice A0 n c0).ownBlock →
   (v'.ownBlock = (Value.slice A0 n c0).ownBlock ∨ v'.ownBlock = some w.heap.size) → ∃ A' c' w', (Builtin.append_ #[t, t] ty #[.slice A0 n c0, .slice A m c]).run P w = .ok (.slice A' (n + m) c') w' ∧ w'.ownsRow base e size (.slice A' (n + m) c') (n + m) (xs ++ news) ∧
   w.grownBy w' (Value.slice A0 n c0).ownBlock ∧ (A' = A0 ∨ ∃ a, A' = some a ∧ a.block = w.heap.size) := by
  intro v' w' hrun h2 h3 h4
  obtain ⟨A', c', rfl⟩ := own_slice h2
  refine ⟨A', c', w', hrun, h2, h3, ?_⟩
  rcases h4 with h4 | h4
  ·
   left
   rcases h2.2 with ⟨h5, _⟩ | ⟨g, cap, cur, h5, _⟩
   ·
    injection h5 with h5 _ _
    subst h5
    cases A0 with
    | none => rfl
    | some a => simp [Value.ownBlock] at h4
   ·
    injection h5 with h5 _ _
    subst h5
    rcases hown.2 with ⟨h6, _⟩ | ⟨g', cap', cur', h6, _⟩
    ·
     injection h6 with h6 _ _
     subst h6
     simp [Value.ownBlock] at h4
    ·
     injection h6 with h6 _ _
     subst h6
     simp [Value.ownBlock] at h4
     rw [h4]
  ·
   right
   cases A' with
   | none => simp [Value.ownBlock] at h4
   | some a => exact ⟨a, rfl, by simpa [Value.ownBlock] using h4⟩
 rcases Nat.eq_zero_or_pos m with h0 | h0
 ·
  subst h0
  obtain rfl : news = [] := List.eq_nil_of_length_eq_zero (by simpa using hr.1)
  cases A with
  | none => exact key _ w (run_append_of_nil w base ty E _ n xs hown c) (by simpa using hown) (World.grownBy.refl w _) (.inl rfl)
  | some ad =>
   obtain ⟨v', w', hrun, h2, h3, _, h5⟩ := run_append_own_at (P := P) w base t ty e i z size bytes E.sl hi hz hsize hby E.zs E.pos _ n xs hown ad 0 c [] (by simp) (by simp) (by simp) h63 hb hbase
   exact key v' w' hrun h2 h3 h5
 ·
  obtain ⟨b, off, rfl, _, hc⟩ := hr.2 h0
  obtain ⟨v', w', hrun, h2, h3, _, h5⟩ := run_append_own_at (P := P) w base t ty e i z size bytes E.sl hi hz hsize hby E.zs E.pos _ n xs hown ⟨b, off, none⟩ m c news hr.1 (fun j u hu => by rw [Addr.add_lit]; exact hc j u hu) h1 h63 hb hbase
  exact key v' w' hrun h2 h3 h5

theorem wp_app {o : Oper} {a : Act} {K : Act → World → Prop} {Q : Exit → Act → World → Prop} (s x : Operand) (t : TypeId)
  (ho : o.op = .call { callee := .builtin .append, args := #[s, x], argTypes := #[t, t] })
  (base : Nat) (e : TypeId) (z : Value) (size bytes : Nat) (E : ElemT P t e z size bytes)
  (A0 : Option Addr) (n c0 : Nat) (xs : List Value) (hs : a.eval s = .slice A0 n c0) (hown : w.ownsRow base e size (.slice A0 n c0) n xs)
  (B : Nat) (A : Option Addr) (m c : Nat) (news : List Value) (hx : a.eval x = .slice A m c) (hr : Rd w B size A m news) (h1 : ∀ u ∈ news, u.oneCell' = true)
  (hb : (n + m) * bytes ≤ 140737488355328) (h63 : n + m ≤ maxLen) (hbase : base ≤ w.heap.size)
  (h : ∀ A' c' w', w'.ownsRow base e size (.slice A' (n + m) c') (n + m) (xs ++ news) → w.grownBy w' (Value.slice A0 n c0).ownBlock → (A' = A0 ∨ ∃ a, A' = some a ∧ a.block = w.heap.size) → K (a.put o.dst (.slice A' (n + m) c')) w') : o.wp P a w K Q := by
 obtain ⟨A', c', w', hrun, h2, h3, h4⟩ := run_app (P := P) w base o.type E A0 n c0 xs hown B A m c news hr h1 hb h63 hbase
 unfold Oper.wp execOp
 simp only [ho, resolve, invoke, builtin, Sem.run_bind, Sem.run_pure, Result.andThen_ok, List.map_toArray, List.map_cons, List.map_nil, hs, hx, hrun]
 exact h A' c' w' h2 h3 h4

theorem wpList_app {ops : Array Oper} {rest : List Oper} {o : Oper} {a : Act} {Q : Exit → Act → World → Prop} (hgd : o.guard = none) (s x : Operand) (t : TypeId)
  (ho : o.op = .call { callee := .builtin .append, args := #[s, x], argTypes := #[t, t] })
  (base : Nat) (e : TypeId) (z : Value) (size bytes : Nat) (E : ElemT P t e z size bytes)
  (A0 : Option Addr) (n c0 : Nat) (xs : List Value) (hs : a.eval s = .slice A0 n c0) (hown : w.ownsRow base e size (.slice A0 n c0) n xs)
  (B : Nat) (A : Option Addr) (m c : Nat) (news : List Value) (hx : a.eval x = .slice A m c) (hr : Rd w B size A m news) (h1 : ∀ u ∈ news, u.oneCell' = true)
  (hb : (n + m) * bytes ≤ 140737488355328) (h63 : n + m ≤ maxLen) (hbase : base ≤ w.heap.size)
  (h : ∀ A' c' w', w'.ownsRow base e size (.slice A' (n + m) c') (n + m) (xs ++ news) → w.grownBy w' (Value.slice A0 n c0).ownBlock → (A' = A0 ∨ ∃ a, A' = some a ∧ a.block = w.heap.size) → wpList P ops Q rest (a.put o.dst (.slice A' (n + m) c')) w') : wpList P ops Q (o :: rest) a w :=
 wpList_plain hgd fun _ hK => wp_app w s x t ho base e z size bytes E A0 n c0 xs hs hown B A m c news hx hr h1 hb h63 hbase fun A' c' w' h2 h3 h4 => hK _ _ (h A' c' w' h2 h3 h4)

theorem le_maxLen {n bytes : Nat} (hb : n * bytes ≤ 140737488355328) (hp : 0 < bytes) : n ≤ maxLen := by
 have : n * 1 ≤ n * bytes := Nat.mul_le_mul_left _ hp
 unfold maxLen; omega

theorem wpList_app1 {w0 : World} {ops : Array Oper} {rest : List Oper} {o : Oper} {a : Act} {Q : Exit → Act → World → Prop} (hgd : o.guard = none) (s x : Operand) (t : TypeId)
  (ho : o.op = .call { callee := .builtin .append, args := #[s, x], argTypes := #[t, t] })
  (base : Nat) (e : TypeId) (z : Value) (bytes : Nat) (E : ElemT P t e z 1 bytes)
  (A0 : Option Addr) (n c0 : Nat) (xs : List Value) (u : Value) (hs : a.eval s = .slice A0 n c0) (hx : a.eval x = .slice (some ⟨w0.heap.size, 0, none⟩) 1 1) {W0 : World} {B : Nat} (hown : w0.ownsRow base e 1 (.slice A0 n c0) n xs)
  (hbel : Below B W0 w0) (hu : u.oneCell' = true) (hb : (n + 1) * bytes ≤ 140737488355328) (hB : B ≤ base) (hbase : base ≤ w0.heap.size)
  (h : ∀ g c' w', w'.ownsRow base e 1 (.slice (some ⟨g, 0, none⟩) (n + 1) c') (n + 1) (xs ++ [u]) → Below B W0 w' → w0.grownBy w' (Value.slice A0 n c0).ownBlock ∧ (A0 = some ⟨g, 0, none⟩ ∨ w0.heap.size ≤ g) → wpList P ops Q rest (a.put o.dst (.slice (some ⟨g, 0, none⟩) (n + 1) c')) w') :
  wpList P ops Q (o :: rest) a (w0.alloc (.cells #[u] e)) := by
 refine wpList_app _ hgd s x t ho base e z 1 bytes E A0 n c0 xs hs (hown.alloc _) _ _ 1 1 [u] hx (Rd.one w0 u e) (by intro v hv; simp at hv; subst hv; exact hu) hb (le_maxLen hb E.bpos) (by simp; omega) ?_
 intro A' c' w' h2 h3 h4
 obtain ⟨g, cap, hv, _, _⟩ := h2.form (by omega)
 injection hv with hA _ hc
 subst hA
 have hg0 : w0.grownBy w' (Value.slice A0 n c0).ownBlock := (World.grownBy_alloc w0 _ _).trans h3
 refine h g c' w' h2 (hbel.grown hg0 (by omega) fun k hk => ?_) ⟨hg0, h4.imp (fun h => h.symm) fun ⟨a, ha, hb⟩ => by cases ha; simp at hb; omega⟩
 have := hown.lt k hk
 omega
end

abbrev bvs (l : List UInt8) : List Value := l.map fun x => .int .u8 (x.toNat : Int)
theorem run_cutFrom {P : Program} (w : World) {t e : TypeId} {z : Value} {size bytes : Nat} (E : ElemT P t e z size bytes) (A : Option Addr) (n c l : Nat) (kl : IntKind) (hl : l ≤ n) :
  (Instr.sliceAt t (.slice A n c) (some (.int kl l)) none none).run P w = .ok (.slice (if c = l then A else A.map (·.add (l * size))) (n - l) (c - l)) w := by
 obtain ⟨i, hi, hz, hsize, hby⟩ := info_parts E.info
 simp [Instr.sliceAt, run_underlying E.sl, Instr.slice, Instr.sliceBounds, run_sliceBound, hl, sizeOf, typeInfo, hi, hsize]
theorem wpList_appR {P : Program} {w : World} {ops : Array Oper} {rest : List Oper} {o : Oper} {a : Act} {Q : Exit → Act → World → Prop} (hgd : o.guard = none) (s x : Operand) (t : TypeId)
  (ho : o.op = .call { callee := .builtin .append, args := #[s, x], argTypes := #[t, t] })
  (base : Nat) (e : TypeId) (z : Value) (size bytes : Nat) (E : ElemT P t e z size bytes)
  (A0 : Option Addr) (n c0 : Nat) (xs : List Value) (A : Option Addr) (m c : Nat) (news : List Value) (hs : a.eval s = .slice A0 n c0) (hx : a.eval x = .slice A m c) (hown : w.ownsRow base e size (.slice A0 n c0) n xs)
  {B' : Nat} (hr : Rd w B' size A m news) (h1 : ∀ u ∈ news, u.oneCell' = true) {W0 : World} {B : Nat} (hbel : Below B W0 w)
  (hb : (n + m) * bytes ≤ 140737488355328) (hB : B ≤ base) (hbase : base ≤ w.heap.size)
  (h : ∀ A' c' w', w'.ownsRow base e size (.slice A' (n + m) c') (n + m) (xs ++ news) → Below B W0 w' → wpList P ops Q rest (a.put o.dst (.slice A' (n + m) c')) w') : wpList P ops Q (o :: rest) a w :=
 wpList_app w hgd s x t ho base e z size bytes E A0 n c0 xs hs hown B' A m c news hx hr h1 hb (le_maxLen hb E.bpos) hbase fun A' c' w' h2 h3 _ =>
  h A' c' w' h2 (hbel.grown h3 (by omega) fun k hk => by have := hown.lt k hk; omega)

theorem map_snoc {α : Type} {f : α → Value} (l : List α) (x : α) {v : Value} (h : v = f x) : l.map f ++ [v] = (l ++ [x]).map f := by subst h; simp

theorem bvs_one (l : List UInt8) : ∀ u ∈ bvs l, u.oneCell' = true := by
 intro u hu; simp only [bvs, List.mem_map] at hu; obtain ⟨x, _, rfl⟩ := hu; rfl
abbrev ivs (l : List Int) : List Value := l.map (Value.int .i64)
theorem ivs_snoc (l : List Int) (x : Int) {v : Int} (h : v = x) : ivs l ++ [.int .i64 v] = ivs (l ++ [x]) := map_snoc _ _ (by rw [h])

theorem flatMap_get? {α : Type} {f : α → List Value} {sz : Nat} {D : List α} (hf : ∀ d ∈ D, (f d).length = sz) {k j : Nat} (hk : k < D.length) (hj : j < sz) : (D.flatMap f)[k * sz + j]? = (f D[k])[j]? := by
 induction D generalizing k with
 | nil => simp at hk
 | cons d D ih =>
  have hd : (f d).length = sz := hf d (by simp)
  simp only [List.flatMap_cons]
  cases k with
  | zero => rw [Nat.zero_mul, Nat.zero_add, List.getElem?_append_left (by omega)]; rfl
  | succ k =>
   rw [Nat.succ_mul, List.getElem?_append_right (by omega)]
   have e : k * sz + sz + j - (f d).length = k * sz + j := by omega
   rw [e, ih (fun x hx => hf x (by simp [hx])) (by simpa using hk)]
   rfl
theorem flatMap_len {α : Type} {f : α → List Value} {sz : Nat} {D : List α} (hf : ∀ d ∈ D, (f d).length = sz) : (D.flatMap f).length = D.length * sz := by
 induction D with
 | nil => simp
 | cons d D ih =>
  rw [List.flatMap_cons, List.length_append, ih (fun x hx => hf x (by simp [hx])), hf d (by simp), List.length_cons, Nat.succ_mul, Nat.add_comm]
theorem Rd.elem {w : World} {B sz n : Nat} {A : Option Addr} {α : Type} {f : α → List Value} {D : List α} (h : Rd w B sz A n (D.flatMap f)) (hf : ∀ d ∈ D, (f d).length = sz) {k : Nat} (hk : k < D.length) (hkn : k < n) :
  ∃ b off, A = some ⟨b, off, none⟩ ∧ b < B ∧ w.rangeAt b (off + k * sz) (f D[k]) := by
 obtain ⟨b, off, e, hb, hc⟩ := h.2 (by omega)
 refine ⟨b, off, e, hb, fun j v hv => ?_⟩
 rw [Nat.add_assoc]
 have hj : j < sz := by
  have := (List.getElem?_eq_some_iff.1 hv).1
  rwa [hf _ (List.getElem_mem hk)] at this
 exact hc _ v (by rw [flatMap_get? hf hk hj]; exact hv)
theorem wpList_appN {P : Program} {w0 : World} {ops : Array Oper} {rest : List Oper} {o : Oper} {a : Act} {Q : Exit → Act → World → Prop} (hgd : o.guard = none) (s x : Operand) (t : TypeId)
  (ho : o.op = .call { callee := .builtin .append, args := #[s, x], argTypes := #[t, t] })
  (base : Nat) (e : TypeId) (z : Value) (size bytes : Nat) (E : ElemT P t e z size bytes)
  (A0 : Option Addr) (n c0 : Nat) (xs us : List Value) (ua : Array Value) (hua : ua = us.toArray) (hs : a.eval s = .slice A0 n c0) (hx : a.eval x = .slice (some ⟨w0.heap.size, 0, none⟩) 1 1) {W0 : World} {B : Nat} (hown : w0.ownsRow base e size (.slice A0 n c0) n xs)
  (hbel : Below B W0 w0) (hul : us.length = size) (hu : ∀ u ∈ us, u.oneCell' = true) (hb : (n + 1) * bytes ≤ 140737488355328) (hB : B ≤ base) (hbase : base ≤ w0.heap.size)
  (h : ∀ g c' w', w'.ownsRow base e size (.slice (some ⟨g, 0, none⟩) (n + 1) c') (n + 1) (xs ++ us) → Below B W0 w' → w0.grownBy w' (Value.slice A0 n c0).ownBlock ∧ (A0 = some ⟨g, 0, none⟩ ∨ w0.heap.size ≤ g) → wpList P ops Q rest (a.put o.dst (.slice (some ⟨g, 0, none⟩) (n + 1) c')) w') :
  wpList P ops Q (o :: rest) a (w0.alloc (.cells ua e)) := by
 subst hua
 refine wpList_app _ hgd s x t ho base e z size bytes E A0 n c0 xs hs (hown.alloc _) _ _ 1 1 us hx (Rd.new (size := size) w0 us e 1 (by omega)) hu hb (le_maxLen hb E.bpos) (by simp; omega) ?_
 intro A' c' w' h2 h3 h4
 obtain ⟨g, cap, hv, _, _⟩ := h2.form (by omega)
 injection hv with hA _ hc
 subst hA
 have hg0 : w0.grownBy w' (Value.slice A0 n c0).ownBlock := (World.grownBy_alloc w0 _ _).trans h3
 refine h g c' w' h2 (hbel.grown hg0 (by omega) fun k hk => ?_) ⟨hg0, h4.imp (fun h => h.symm) fun ⟨a, ha, hb⟩ => by cases ha; simp at hb; omega⟩
 have := hown.lt k hk
 omega
end
section
open Go.RowKit

section
variable {P : Program} (w : World) {t e : TypeId} {z : Value} {size bytes : Nat}

end
end
end Go.Proofs.YtfllkaeaanahmaaGreat
