/- ChargeLocal, its memory: the reference's table, a list of operations of the law's own and the first share beside each other. No walk. -/
import Derived.Test.YtfllkaeaanahmaaGreatChaO
namespace Go.Proofs.YtfllkaeaanahmaaGreat
set_option linter.unusedVariables false
set_option linter.unusedSimpArgs false
open Go.RowKit
open W (FRow)
def RG (w0 w : World) (r : Nat) (l : List Chk.Ck) (G : Nat → Prop) : Prop :=
 ∃ F S : Nat → Prop, (∃ t, RAt w F S r t l) ∧ (∀ b, F b ∨ S b → w0.heap.size ≤ b ∧ b < w.heap.size) ∧ Below w0.heap.size w0 w ∧ (∀ b, G b → b < w.heap.size ∧ ¬ S b ∧ ¬ F b)
section
variable {w0 w w' : World} {a r : Nat} {l l' : List Chk.Ck} {G G' T : Nat → Prop}
theorem Pair.rg (h : Pair w0 w a l r l' G) : RG w0 w r l' (fun _ => False) := by
 obtain ⟨F, S, F', S', h1, h2, h3, h4, h5, h6, h7, h8⟩ := h
 exact ⟨F', S', h2, fun b e => h3 b (.inr e), h7, fun _ e => e.elim⟩
theorem RG.b (h : RG w0 w r l G) : Below w0.heap.size w0 w := by obtain ⟨F, S, _, _, h7, _⟩ := h; exact h7
theorem RG.keep (h : RG w0 w r l G) (hk : Keep T w w') (hT : ∀ b, T b → G b ∧ w0.heap.size ≤ b) (hG : ∀ b, G' b → G b ∨ (w.heap.size ≤ b ∧ b < w'.heap.size)) : RG w0 w' r l G' := by
 obtain ⟨F, S, ⟨t, h1⟩, h3, h7, h8⟩ := h
 refine ⟨F, S, ⟨t, h1.keep hk (fun b e e2 => (h8 b (hT b e2).1).2.1 e) (fun b e e2 => (h8 b (hT b e2).1).2.2 e)⟩, fun b e => ⟨(h3 b e).1, Nat.lt_of_lt_of_le (h3 b e).2 hk.size⟩, Below.then_keep h7 hk (fun b e => (hT b e).2) (Nat.le_refl _), fun b e => ?_⟩
 rcases hG b e with e | ⟨e, e2⟩
 ·
  exact ⟨Nat.lt_of_lt_of_le (h8 b e).1 hk.size, (h8 b e).2⟩
 ·
  exact ⟨e2, fun hS => by have := (h3 b (.inr hS)).2; omega, fun hF => by have := (h3 b (.inl hF)).2; omega⟩
theorem RG.grow (h : RG w0 w r l G) (hb : Below w.heap.size w w') (hG : ∀ b, G' b → G b ∨ (w.heap.size ≤ b ∧ b < w'.heap.size)) : RG w0 w' r l G' := h.keep (T := fun _ => False) (Keep.of_below hb) (fun _ e => e.elim) hG
theorem RG.do_ (h : RG w0 w r l G) (o : Chk.Op) (hp : Chk.inR o.pr 4294967296) :
  Calls Tryz.prog 27 #[.pointer (some ⟨r, 0, none⟩), opV o] w fun e w' => e = .returned (.tuple #[.int .i64 (Chk.step l o).2.1, .int .i64 (Chk.step l o).2.2]) ∧ RG w0 w' r (Chk.step l o).1 G ∧ SameG w w' G ∧ w.heap.size ≤ w'.heap.size := by
 obtain ⟨F, S, ⟨t, h1⟩, h3, h7, h8⟩ := h
 refine (rdo_any h1 (fun b e => (h3 b e).2) o hp).mono ?_
 rintro e w' ⟨he, Fn, Sn, ht, hk, hb, hS, hF⟩
 have hs := h7.size
 refine ⟨he, ⟨Fn, Sn, ht, fun b e => ⟨?_, hb b e⟩, Below.then_keep h7 hk (fun b e => (h3 b (.inr e)).1) (Nat.le_refl _), fun b e => ⟨Nat.lt_of_lt_of_le (h8 b e).1 hk.size, fun e2 => ?_, fun e2 => ?_⟩⟩, fun b e => hk.block b (h8 b e).1 (h8 b e).2.1, hk.size⟩
 ·
  rcases e with e | e
  ·
   rcases hF b e with h | h
   ·
    exact (h3 b (.inl h)).1
   ·
    omega
  ·
   rcases hS b e with h | h
   ·
    exact (h3 b (.inr h)).1
   ·
    omega
 ·
  rcases hS b e2 with h | h
  ·
   exact (h8 b e).2.1 h
  ·
   have := (h8 b e).1; omega
 ·
  rcases hF b e2 with h | h
  ·
   exact (h8 b e).2.2 h
  ·
   have := (h8 b e).1; omega
theorem RG.get (h : RG w0 w r l G) (id : Int) : ∃ (ch : Chk.Ck) (has : Bool), ch.dg.length = 16 ∧ (has = true → ∃ k, Chk.pos (Chk.ids l) id = some k ∧ ch = Chk.nth l k) ∧ (has = false → Chk.pos (Chk.ids l) id = none) ∧
  Calls Tryz.prog 26 #[.pointer (some ⟨r, 0, none⟩), .int .i64 id] w fun e w' => ∃ A n k, e = .returned (.tuple #[.agg (ckCells ch (.slice A n k)).toArray, .bool has]) ∧ Below w.heap.size w w' := by
 obtain ⟨F, S, ⟨t, h1⟩, _⟩ := h
 cases hp : Chk.pos (Chk.ids l) id with
 | none =>
  refine ⟨⟨0, List.replicate 16 0, 0, Chk.z, false, []⟩, false, ?_, fun e => (by cases e), fun _ => rfl, (rget_none h1 id hp).mono ?_⟩
  ·
   rfl
  ·
   rintro e w' ⟨he, hb⟩
   exact ⟨none, 0, 0, he, hb⟩
 | some k =>
  refine ⟨Chk.nth l k, true, ?_, fun _ => ⟨k, rfl, rfl⟩, fun e => (by cases e), (rget_some h1 id k hp).mono ?_⟩
  ·
   have hk := (Chk.pos_lt hp).1
   rw [← Cha.nth_elem hk]
   exact (h1.inv.ok _ (List.getElem_mem hk)).dg
  ·
   rintro e w' ⟨A, k, he, _, hb⟩
   exact ⟨A, _, k, he, hb⟩
theorem own_blk {base e size n c : Nat} {A : Option Addr} {xs : List Value} (h : w.ownsRow base e size (.slice A n c) n xs) (hk : ∀ p, A = some p → w'.heap[p.block]? = w.heap[p.block]?) : w'.ownsRow base e size (.slice A n c) n xs := by
 obtain ⟨h1, h2⟩ := h
 rcases h2 with h | ⟨g, cc, us, e, hb, hh, r⟩
 ·
  exact ⟨h1, .inl h⟩
 ·
  injection e with e1 e2 e3
  subst e1 e3
  exact ⟨h1, .inr ⟨g, _, us, rfl, hb, (hk _ rfl).trans hh, r⟩⟩
theorem own_lt {base e size n c : Nat} {A : Option Addr} {xs : List Value} (h : w.ownsRow base e size (.slice A n c) n xs) : ∀ p, A = some p → p.block < w.heap.size := fun p e => by
 subst e
 obtain ⟨h1, h2⟩ := h
 rcases h2 with h | ⟨g, cc, us, e, hb, hh, r⟩
 ·
  injection h.1 with e1; cases e1
 ·
  injection e with e1 e2 e3
  have := Option.some.inj e1
  subst this
  exact (Array.getElem?_eq_some_iff.1 hh).1
end
theorem opT34 : ElemT Tryz.prog 26 78 (.agg zOp.toArray) 9 64 := ⟨Tryz.underlying26, by kernel_rfl, rfl, by decide, by decide⟩
theorem ops_one (ops : List Chk.Op) : ∀ u ∈ ops.flatMap opL, u.oneCell' = true := fun u hu => by
 obtain ⟨o, _, h⟩ := List.mem_flatMap.1 hu
 exact List.all_eq_true.1 (opL_one o) u h
theorem wp_build9 {o : Oper} {a : Act} {w : World} {K : Act → World → Prop} {Q : Exit → Act → World → Prop} (x : Operand) (ho : o.op = .buildSlice 26 1 #[(0, x)]) (c : Chk.Op) (cs : List Value) (hl : opL c = cs) (hx : a.eval x = .agg cs.toArray)
  (h : K (a.put o.dst (.slice (some ⟨w.heap.size, 0, none⟩) 1 1)) (w.alloc (.cells cs.toArray 78))) : o.wp Tryz.prog a w K Q := by
 subst hl
 have hr : (Instr.buildSlice 26 1 #[(0, .agg (opL c).toArray)]).run Tryz.prog w = .ok (.slice (some ⟨w.heap.size, 0, none⟩) 1 1) (w.alloc (.cells (opL c).toArray 78)) := by kernel_rfl
 unfold Oper.wp execOp
 simp only [ho, List.map_toArray, List.map_cons, List.map_nil, hx, Sem.run_bind, Sem.run_pure, hr, Result.andThen_ok]
 exact h
def skipB (kd ur row : Int) (has lo : Bool) (ar : Int) : Bool := (decide (kd = 1 ∨ kd = 4) && decide (ur = row)) || (decide (kd ≠ 1) && has && !lo && decide (ar = row))
theorem skipB_keeps {l : List Chk.Ck} {o : Chk.Op} {row : Int} {has : Bool} {ch : Chk.Ck} (h1 : has = true → ∃ k, Chk.pos (Chk.ids l) o.id = some k ∧ ch = Chk.nth l k) (h0 : has = false → Chk.pos (Chk.ids l) o.id = none) (h : skipB o.kind o.u.r row has ch.lost ch.at_.r = false) : Cha.keeps l o row := by
 unfold skipB at h
 rw [Bool.or_eq_false_iff] at h
 refine ⟨fun ⟨e1, e2⟩ => ?_, fun ⟨e1, k, e2, e3, e4⟩ => ?_⟩
 ·
  simp [e1, e2] at h
 ·
  cases has with
  | false => rw [h0 rfl] at e2; cases e2
  | true =>
   obtain ⟨k', q1, q2⟩ := h1 rfl
   rw [q1] at e2
   have := Option.some.inj e2
   subst this
   rw [q2] at h
   simp [e1, e3, e4] at h
structure LS (w0 w : World) (r B b49 : Nat) (cs : List Value) (A4 : Option Addr) (N4 : Nat) (X : List Int) (l : List Chk.Ck) (all : List Chk.Op) (A3 : Option Addr) (n3 c3 : Nat) : Prop where
 rg : RG w0 w r l (fun b => b = b49 ∨ (∃ p, A4 = some p ∧ b = p.block) ∨ ∃ p, A3 = some p ∧ b = p.block)
 len : all.length = n3
 own : w.ownsRow B 78 9 (.slice A3 n3 c3) n3 (all.flatMap opL)
 row : IsRow w b49 35 cs
 rd : Rd w w.heap.size 1 A4 N4 (ivs X)
 lo : w0.heap.size ≤ b49 ∧ b49 < B ∧ B ≤ w.heap.size ∧ ∀ p, A4 = some p → w0.heap.size ≤ p.block ∧ p.block < B
section
variable {w0 w w' : World} {r B b49 N4 n3 c3 : Nat} {cs : List Value} {A4 A3 : Option Addr} {X : List Int} {l : List Chk.Ck} {all : List Chk.Op}
theorem LS.below (h : LS w0 w r B b49 cs A4 N4 X l all A3 n3 c3) (hb : Below w.heap.size w w') : LS w0 w' r B b49 cs A4 N4 X l all A3 n3 c3 :=
 ⟨h.rg.grow hb fun _ e => .inl e, h.len, own_below h.own hb, h.row.below' hb, (h.rd.below hb).more hb.size, h.lo.1, h.lo.2.1, Nat.le_trans h.lo.2.2.1 hb.size, h.lo.2.2.2⟩
theorem LS.do2 {w1 : World} (h : LS w0 w1 r B b49 cs A4 N4 X l all A3 n3 c3) (hb : Below w1.heap.size w1 w) (x : Nat) (hx1 : w1.heap.size ≤ x) (hx2 : x < w.heap.size) (o : Chk.Op) (hp : Chk.inR o.pr 4294967296) :
  Calls Tryz.prog 27 #[.pointer (some ⟨r, 0, none⟩), opV o] w fun e w' => (∃ v1 v2 : Int, e = .returned (.tuple #[.int .i64 v1, .int .i64 v2])) ∧ LS w0 w' r B b49 cs A4 N4 X (Chk.step l o).1 all A3 n3 c3 ∧ w'.heap[x]? = w.heap[x]? := by
 have hw := h.below hb
 have hg : RG w0 w r l (fun b => (b = b49 ∨ (∃ p, A4 = some p ∧ b = p.block) ∨ ∃ p, A3 = some p ∧ b = p.block) ∨ b = x) := h.rg.grow hb fun b e => e.imp id fun e => ⟨by omega, by omega⟩
 refine (hg.do_ o hp).mono ?_
 rintro e w' ⟨he, h1, h2, h3⟩
 refine ⟨⟨_, _, he⟩, ⟨h1.grow (Below.refl _ _) fun b e => .inl (.inl e), hw.len, own_blk hw.own (fun p e => h2 _ (.inl (.inr (.inr ⟨p, e, rfl⟩)))), hw.row.keep (h2 _ (.inl (.inl rfl))), ⟨hw.rd.1, fun hn => ?_⟩, hw.lo.1, hw.lo.2.1, Nat.le_trans hw.lo.2.2.1 h3, hw.lo.2.2.2⟩, h2 x (.inr rfl)⟩
 obtain ⟨b, off, e, hb, hc⟩ := hw.rd.2 hn
 exact ⟨b, off, e, Nat.lt_of_lt_of_le hb h3, fun j u hu => (World.cell?_of_block (a := ⟨b, off + j, none⟩) (h2 b (.inl (.inr (.inl ⟨_, e, rfl⟩))))).trans (hc j u hu)⟩
theorem LS.app (h : LS w0 w r B b49 cs A4 N4 X l all A3 n3 c3) (o : Chk.Op) {g c' : Nat} (hown : w'.ownsRow B 78 9 (.slice (some ⟨g, 0, none⟩) (n3 + 1) c') (n3 + 1) (all.flatMap opL ++ opL o)) (hg : w.grownBy w' (Value.slice A3 n3 c3).ownBlock) (hx : A3 = some ⟨g, 0, none⟩ ∨ w.heap.size ≤ g) : LS w0 w' r B b49 cs A4 N4 X l (all ++ [o]) (some ⟨g, 0, none⟩) (n3 + 1) c' := by
 have hA : ∀ k, (Value.slice A3 n3 c3).ownBlock = some k → ∃ p, A3 = some p ∧ k = p.block := fun k e => by
  cases A3 with
  | none => cases e
  | some p => exact ⟨p, rfl, (Option.some.inj e).symm⟩
 have hk : Keep (fun b => ∃ p, A3 = some p ∧ b = p.block) w w' := (Keep.refl _ _).grown hg fun k e => .inl (hA k e)
 have hfr := own_fr h.own
 obtain ⟨h1, h2, h3, h4⟩ := h.lo
 have hgl : g < w'.heap.size := by
  obtain ⟨b, off, e, hb, _⟩ := (Rd.of_own hown).2 (by omega)
  have := Option.some.inj e
  have : g = b := congrArg Addr.block this
  omega
 refine ⟨h.rg.keep hk (fun b e => ⟨.inr (.inr e), ?_⟩) (fun b e => ?_), by rw [List.length_append, h.len]; rfl, by rw [List.flatMap_append]; simpa using hown, h.row.keep (hk.block _ h.row.lt fun ⟨p, e, e2⟩ => ?_), (h.rd.keepS hk (Nat.le_refl _) fun a e ⟨p, e2, e3⟩ => ?_).more hk.size, h1, h2, Nat.le_trans h3 hk.size, h4⟩
 ·
  obtain ⟨p, e, e2⟩ := e
  have := hfr p e
  omega
 ·
  rcases e with e | e | ⟨p, e, e2⟩
  ·
   exact .inl (.inl e)
  ·
   exact .inl (.inr (.inl e))
  ·
   have := Option.some.inj e
   subst this
   rcases hx with hx | hx
   ·
    exact .inl (.inr (.inr ⟨_, hx, e2⟩))
   ·
    exact .inr ⟨by rw [e2]; exact hx, by rw [e2]; exact hgl⟩
 ·
  have := hfr p e
  omega
 ·
  have := hfr p e2
  have := (h4 a e).2
  omega
theorem LS.ops (h : LS w0 w r B b49 cs A4 N4 X l all A3 n3 c3) (hp : ∀ o ∈ all, Chk.inR o.pr 4294967296) : OpsAt w A3 n3 all := ⟨Rd.of_own h.own, h.len, hp⟩
end
def ShF (w : World) (N : Nat) (X : List Int) (H E : Int) (e : Ending) (w' : World) : Prop := ∃ A c, e = .returned (.tuple #[.agg #[.slice A N c, .int .i64 H], .int .i64 E]) ∧ (Rd w' w'.heap.size 1 A N (ivs X) ∧ ∀ p, A = some p → w.heap.size ≤ p.block ∧ p.block < w'.heap.size) ∧ Below w.heap.size w w'
theorem shF (o : Option Cha.Sh) : ∃ (N : Nat) (X : List Int) (H E : Int), X.length = N ∧ N ≤ 16 ∧ (∀ w e w', ShRes w o e w' → ShF w N X H E e w') := by
 cases o with
 | none => exact ⟨0, [], 0, 1, rfl, by omega, fun w e w' h => ⟨none, 0, h.1, ⟨Rd.nil_ _ _ _ _, fun p e => (by cases e)⟩, h.2⟩⟩
 | some s => exact ⟨16, W.rowL 16 s.t, s.h, 0, W.rowL_len _ _, by omega, fun w e w' ⟨g, h1, h2, h3, h4⟩ => ⟨_, _, h1, ⟨h2.rdL, fun p e => by have := Option.some.inj e; subst this; exact ⟨h3, h2.lt⟩⟩, h4⟩⟩
theorem run_snoc (l : List Chk.Ck) (xs : List Chk.Op) (o : Chk.Op) : Chk.run l (xs ++ [o]) = (Chk.step (Chk.run l xs) o).1 := by
 unfold Chk.run; rw [List.foldl_append]; rfl
end Go.Proofs.YtfllkaeaanahmaaGreat
