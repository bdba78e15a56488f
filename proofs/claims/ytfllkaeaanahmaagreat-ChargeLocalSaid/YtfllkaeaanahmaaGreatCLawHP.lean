/- Joined texts: ChkBF, CLawKit, CLawU, CLawHP. Conditions: as each part says. -/
import Derived.Test.YtfllkaeaanahmaaGreatChkOps
import Derived.Test.YtfllkaeaanahmaaGreatLawKit3
namespace Go.Proofs.YtfllkaeaanahmaaGreat
set_option linter.unusedVariables false
set_option linter.unusedSimpArgs false
section
open Go.RowKit
namespace Chk
end Chk
end
section
open Go.RowKit Go.WideShapes Go.ChangeShapes Go.ChangeAt Go.Deep
section
variable {H : Type} {enc : TypeId × Value → H} {P : Program} {W : World} {t e : TypeId} {v : Value} {d : DataW H} {ps : List MemPlace} {r : Reach} {b0 : Nat}
theorem field_at0 {fs : Array Field} {fuel : Nat} {cs : List Value} {x : DataW H × List MemPlace} (he : P.underlying e = some (.struct fs)) (h : DataW.trod enc P W 0 (fun _ => true) true fuel e cs = some x) {j : Nat} {f : Field} (hj : fs[j]? = some f) :
  ∃ (n : Nat) (y : DataW H × List MemPlace), DataW.trod enc P W 0 (fun _ => true) true n f.type ((cs.drop f.offset).take (P.cellsOf f.type)) = some y := by
 obtain ⟨ys, n', _, hx, _, hyl, hf⟩ := DataW.trod_struct he h
 have hjl : j < fs.size := (Array.getElem?_eq_some_iff.1 hj).1
 have h1 := hf j f hj
 rw [List.getElem?_eq_getElem (by omega)] at h1
 exact ⟨_, _, h1⟩
theorem take1 {cs : List Value} {k : Nat} (h : k < cs.length) : (cs.drop k).take 1 = [cs[k]] := by rw [List.drop_eq_getElem_cons h]; rfl
theorem cell_int {n : Nat} {cs : List Value} {y : DataW H × List MemPlace} {k : Nat} (hl : k < cs.length) (h : DataW.trod enc Tryz.prog W 0 (fun _ => true) true n 3 ((cs.drop k).take 1) = some y) : ∃ q : Int, cs[k] = .int .i64 q ∧ I64 q := by
 rw [take1 hl] at h
 obtain ⟨q, hq, hw⟩ := field_int Tryz.underlying3 h
 exact ⟨q, hq, int_range hw⟩
theorem cell_u8 {n : Nat} {cs : List Value} {y : DataW H × List MemPlace} {k : Nat} (hl : k < cs.length) (h : DataW.trod enc Tryz.prog W 0 (fun _ => true) true n 5 ((cs.drop k).take 1) = some y) : ∃ q : UInt8, cs[k] = .int .u8 (q.toNat : Int) := by
 rw [take1 hl] at h
 obtain ⟨q, hq, hw⟩ := field_int Tryz.underlying5 h
 have hr := u8_range hw
 refine ⟨UInt8.ofNat q.toNat, ?_⟩
 rw [hq]
 congr 1
 rw [UInt8.toNat_ofNat']
 omega
theorem cell_u32 {n : Nat} {cs : List Value} {y : DataW H × List MemPlace} {k : Nat} (hl : k < cs.length) (h : DataW.trod enc Tryz.prog W 0 (fun _ => true) true n 61 ((cs.drop k).take 1) = some y) : ∃ q : Int, cs[k] = .int .u32 q ∧ Chk.inR q 4294967296 := by
 rw [take1 hl] at h
 obtain ⟨q, hq, hw⟩ := field_int Tryz.underlying61 h
 have hr := u32_range hw
 exact ⟨q, hq, hr.1, by omega⟩
theorem opFields : ∃ f0 f1 f2 f3 f4 f5 f6 : Field, Tryz.prog.underlying 78 = some (.struct #[f0, f1, f2, f3, f4, f5, f6]) ∧ (f0.type = 3 ∧ f0.offset = 0) ∧ (f1.type = 3 ∧ f1.offset = 1) ∧ (f2.type = 3 ∧ f2.offset = 2) ∧ (f3.type = 3 ∧ f3.offset = 3) ∧ (f4.type = 65 ∧ f4.offset = 4) ∧ (f5.type = 5 ∧ f5.offset = 7) ∧ (f6.type = 61 ∧ f6.offset = 8) :=
 ⟨_, _, _, _, _, _, _, Tryz.underlying78, ⟨rfl, rfl⟩, ⟨rfl, rfl⟩, ⟨rfl, rfl⟩, ⟨rfl, rfl⟩, ⟨rfl, rfl⟩, ⟨rfl, rfl⟩, ⟨rfl, rfl⟩⟩
theorem unFields2 : ∃ f0 f1 : Field, Tryz.prog.underlying 65 = some (.struct #[f0, f1]) ∧ (f0.type = 63 ∧ f0.offset = 0) ∧ (f1.type = 3 ∧ f1.offset = 2) :=
 ⟨_, _, Tryz.underlying65, ⟨rfl, rfl⟩, ⟨rfl, rfl⟩⟩
theorem stFields2 : ∃ f0 f1 : Field, Tryz.prog.underlying 63 = some (.struct #[f0, f1]) ∧ (f0.type = 3 ∧ f0.offset = 0) ∧ (f1.type = 3 ∧ f1.offset = 1) :=
 ⟨_, _, Tryz.underlying63, ⟨rfl, rfl⟩, ⟨rfl, rfl⟩⟩
theorem cellsI : Tryz.prog.cellsOf 3 = 1 := by kernel_rfl
theorem cellsB : Tryz.prog.cellsOf 5 = 1 := by kernel_rfl
theorem cellsW : Tryz.prog.cellsOf 61 = 1 := by kernel_rfl
theorem cellsS : Tryz.prog.cellsOf 63 = 2 := by kernel_rfl
theorem cellsU : Tryz.prog.cellsOf 65 = 3 := by kernel_rfl
def UnOk (u : Chk.Un) : Prop := I64 u.r ∧ I64 u.g ∧ I64 u.u
theorem unit_cells {fuel : Nat} {cs : List Value} {x : DataW H × List MemPlace} (hl : cs.length = 3) (h : DataW.trod enc Tryz.prog W 0 (fun _ => true) true fuel 65 cs = some x) : ∃ u : Chk.Un, cs = [.int .i64 u.r, .int .i64 u.g, .int .i64 u.u] ∧ UnOk u := by
 obtain ⟨u0, u1, u2, rfl⟩ : ∃ u0 u1 u2, cs = [u0, u1, u2] := by
  match cs, hl with
  | [a, b, c], _ => exact ⟨a, b, c, rfl⟩
 obtain ⟨f0, f1, he, ⟨t0, o0⟩, ⟨t1, o1⟩⟩ := unFields2
 obtain ⟨n0, y0, h0⟩ := field_at0 he h (j := 0) (f := f0) rfl
 obtain ⟨n1, y1, h1⟩ := field_at0 he h (j := 1) (f := f1) rfl
 rw [t0, o0, cellsS] at h0
 rw [t1, o1, cellsI] at h1
 obtain ⟨g0, g1, he1, ⟨s0, p0⟩, ⟨s1, p1⟩⟩ := stFields2
 obtain ⟨m0, z0, k0⟩ := field_at0 he1 h0 (j := 0) (f := g0) rfl
 obtain ⟨m1, z1, k1⟩ := field_at0 he1 h0 (j := 1) (f := g1) rfl
 rw [s0, p0, cellsI] at k0
 rw [s1, p1, cellsI] at k1
 obtain ⟨a, ha, ra⟩ := cell_int (by simp) k0
 obtain ⟨b, hb, rb⟩ := cell_int (by simp) k1
 obtain ⟨c, hc, rc⟩ := cell_int (by simp) h1
 refine ⟨⟨a, b, c⟩, ?_, ra, rb, rc⟩
 simp at ha hb hc
 subst ha hb hc
 rfl
def OpOk (o : Chk.Op) : Prop := I64 o.kind ∧ I64 o.id ∧ I64 o.t ∧ I64 o.n ∧ UnOk o.u ∧ Chk.inR o.pr 4294967296
theorem op_cells {fuel : Nat} {cs : List Value} {x : DataW H × List MemPlace} (hl : cs.length = 9) (h : DataW.trod enc Tryz.prog W 0 (fun _ => true) true fuel 78 cs = some x) : ∃ o : Chk.Op, cs = opL o ∧ OpOk o := by
 obtain ⟨u0, u1, u2, u3, u4, u5, u6, u7, u8, rfl⟩ : ∃ u0 u1 u2 u3 u4 u5 u6 u7 u8, cs = [u0, u1, u2, u3, u4, u5, u6, u7, u8] := by
  match cs, hl with
  | [a, b, c, d, e, f, g, h, i], _ => exact ⟨a, b, c, d, e, f, g, h, i, rfl⟩
 obtain ⟨f0, f1, f2, f3, f4, f5, f6, he, ⟨t0, o0⟩, ⟨t1, o1⟩, ⟨t2, o2⟩, ⟨t3, o3⟩, ⟨t4, o4⟩, ⟨t5, o5⟩, ⟨t6, o6⟩⟩ := opFields
 obtain ⟨n0, y0, h0⟩ := field_at0 he h (j := 0) (f := f0) rfl
 obtain ⟨n1, y1, h1⟩ := field_at0 he h (j := 1) (f := f1) rfl
 obtain ⟨n2, y2, h2⟩ := field_at0 he h (j := 2) (f := f2) rfl
 obtain ⟨n3, y3, h3⟩ := field_at0 he h (j := 3) (f := f3) rfl
 obtain ⟨n4, y4, h4⟩ := field_at0 he h (j := 4) (f := f4) rfl
 obtain ⟨n5, y5, h5⟩ := field_at0 he h (j := 5) (f := f5) rfl
 obtain ⟨n6, y6, h6⟩ := field_at0 he h (j := 6) (f := f6) rfl
 rw [t0, o0, cellsI] at h0
 rw [t1, o1, cellsI] at h1
 rw [t2, o2, cellsI] at h2
 rw [t3, o3, cellsI] at h3
 rw [t4, o4, cellsU] at h4
 rw [t5, o5, cellsB] at h5
 rw [t6, o6, cellsW] at h6
 obtain ⟨a, ha, ra⟩ := cell_int (by simp) h0
 obtain ⟨b, hb, rb⟩ := cell_int (by simp) h1
 obtain ⟨c, hc, rc⟩ := cell_int (by simp) h2
 obtain ⟨d, hd, rd⟩ := cell_int (by simp) h3
 obtain ⟨u, hu, ru⟩ := unit_cells (by simp) h4
 obtain ⟨q, hq⟩ := cell_u8 (by simp) h5
 obtain ⟨p, hp, rp⟩ := cell_u32 (by simp) h6
 refine ⟨⟨a, b, c, d, u, q, p⟩, ?_, ra, rb, rc, rd, ru, rp⟩
 simp at ha hb hc hd hu hq hp
 obtain ⟨hu1, hu2, hu3⟩ := hu
 subst ha hb hc hd hu1 hu2 hu3 hq hp
 rfl
set_option maxRecDepth 100000 in
theorem arg_ops (hval : Value.okWide Tryz.prog W r b0 26 v) (hd : DataW.Trod enc Tryz.prog W 0 (fun _ => true) true 26 v d ps) (hs : Sized Tryz.prog 26 d) :
  ∃ (A : Option Addr) (n c : Nat) (L : List Chk.Op), v = .slice A n c ∧ n ≤ c ∧ c ≤ 140737488355328 ∧ L.length = n ∧ (∀ o ∈ L, OpOk o) ∧ Rd W W.heap.size 9 A n (L.flatMap opL) := by
 obtain ⟨A, n, c, L, hv, h1, h2, h3, h4, h5⟩ := arg_elems (f := opL) (Q := OpOk) (m := 9) (bytes := 64) Tryz.underlying26 (by kernel_rfl) (by kernel_rfl) (by omega) (by omega) (fun fuel cs x hl h => op_cells hl h) hval hd hs
 exact ⟨A, n, c, L, hv, h1, h2, h3, fun o ho => (h4 o ho).1, h5⟩
end
end
section
open Go.RowKit
namespace Chk
end Chk
theorem TabNew.inv {w0 w : World} {a : Nat} {l : List Chk.Ck} (h : TabNew w0 w a l) : Chk.Inv l := h.g.inv
end
section
open Go.RowKit
namespace Chk
theorem lose_at {l : List Ck} {id : Int} {k : Nat} (hp : pos (ids l) id = some k) : lose l id = (l.set k { nth l k with at_ := z, lost := true }, 0, 0) := by unfold lose; rw [hp]
end Chk
theorem box_below (w : World) (o : Obj) : Below w.heap.size w (w.alloc o) := (Below.refl _ _).alloc (Nat.le_refl _) _
theorem box_below2 (w : World) (o o2 : Obj) : Below w.heap.size w ((w.alloc o).alloc o2) := (box_below w o).trans ((box_below _ o2).mono (box_below w o).size)
theorem own_same2 {w w' : World} {base size n : Nat} {v : Value} {e : TypeId} {xs : List Value} (h : w.ownsRow base e size v n xs) (hs : ∀ b, base ≤ b → b < w.heap.size → w'.heap[b]? = w.heap[b]?) : w'.ownsRow base e size v n xs := by
 refine ⟨h.1, ?_⟩
 rcases h.2 with h0 | ⟨g, cap, cur, hv, hg, hh, r⟩
 ·
  exact .inl h0
 ·
  exact .inr ⟨g, cap, cur, hv, hg, (hs g hg (Array.getElem?_eq_some_iff.1 hh).1).trans hh, r⟩
def ckV (c : Chk.Ck) (A : Option Addr) (k : Nat) : Value := .agg (ckCells c (.slice A c.refs.length k)).toArray
def RefAt (W : World) (L bo : Nat) (c : Chk.Ck) (A : Option Addr) (k : Nat) : Prop :=
 W.ownsRow L 76 2 (.slice A c.refs.length k) c.refs.length (rfs c.refs) ∧ ∀ p, A = some p → p.block ≠ bo
section
variable {W W2 : World} {L B bo k : Nat} {c : Chk.Ck} {A : Option Addr}
theorem RefAt.same (h : RefAt W L bo c A k) (hs : ∀ b, L ≤ b → b ≠ bo → b < W.heap.size → W2.heap[b]? = W.heap[b]?) : RefAt W2 L bo c A k := by
 refine ⟨⟨h.1.1, ?_⟩, h.2⟩
 rcases h.1.2 with h0 | ⟨g, cap, cur, hv, hg, hh, r⟩
 ·
  exact .inl h0
 ·
  injection hv with h1 h2 h3
  exact .inr ⟨g, cap, cur, by rw [h1, h3], hg, (hs g hg (h.2 _ h1) (Array.getElem?_eq_some_iff.1 hh).1).trans hh, r⟩
theorem RefAt.of_own (h : W.ownsRow B 76 2 (.slice A c.refs.length k) c.refs.length (rfs c.refs)) (hL : L ≤ B) (hb : bo < B) : RefAt W L bo c A k := by
 refine ⟨own_base h hL, fun p hp => ?_⟩
 rcases h.2 with h0 | ⟨g, cap, cur, hv, hg, hh, r⟩
 ·
  injection h0.1 with h1; rw [hp] at h1; cases h1
 ·
  injection hv with h1; rw [hp] at h1; have := Option.some.inj h1; rw [this]; show g ≠ bo; omega
end
structure OldM (W : World) (L bo : Nat) (l : List Chk.Ck) (J : Nat) (M : Int → Option Value) : Prop where
 map : MapIs W bo (Value.int .i64) M J
 lo : L ≤ bo
 at_ : ∀ j, j < J → ∃ A k, M (Chk.nth l j).id = some (ckV (Chk.nth l j) A k) ∧ RefAt W L bo (Chk.nth l j) A k
 dom : ∀ y, (M y).isSome = true → ∃ j, j < J ∧ y = (Chk.nth l j).id
section
variable {W W2 : World} {L bo J : Nat} {l : List Chk.Ck} {M : Int → Option Value}
theorem OldM.nil (h : MapIs W bo (Value.int .i64) (fun _ => none) 0) (hL : L ≤ bo) : OldM W L bo l 0 (fun _ => none) := ⟨h, hL, fun j hj => absurd hj (Nat.not_lt_zero j), fun y hy => by cases hy⟩
theorem OldM.same (h : OldM W L bo l J M) (hs : ∀ b, L ≤ b → b < W.heap.size → W2.heap[b]? = W.heap[b]?) : OldM W2 L bo l J M :=
 ⟨h.map.block (hs bo h.lo h.map.lt), h.lo, fun j hj => by
  obtain ⟨A, k, h1, h2⟩ := h.at_ j hj
  exact ⟨A, k, h1, h2.same fun b e1 _ e2 => hs b e1 e2⟩, h.dom⟩
theorem OldM.mono {L' : Nat} (h : OldM W L bo l J M) (hL : L' ≤ L) : OldM W L' bo l J M :=
 ⟨h.map, Nat.le_trans hL h.lo, fun j hj => by
  obtain ⟨A, k, h1, h2⟩ := h.at_ j hj
  exact ⟨A, k, h1, own_base h2.1 hL, h2.2⟩, h.dom⟩
theorem OldM.below (h : OldM W L bo l J M) (hb : Below W.heap.size W W2) : OldM W2 L bo l J M := h.same fun b _ e => hb.block b e
theorem OldM.step (hi : Chk.Inv l) (h : OldM W L bo l J M) (hJ : J < l.length) {c : Chk.Ck} (hc : Chk.nth l J = c) {A : Option Addr} {k : Nat} {id : Int} (hid : c.id = id) (ho : RefAt W L bo c A k)
  (hm : MapIs W2 bo (Value.int .i64) (fun y => if y = id then some (ckV c A k) else M y) (if (M id).isSome then J else J + 1)) (hk : Keep (fun b => b = bo) W W2) : ∃ M', OldM W2 L bo l (J + 1) M' := by
 subst hid hc
 have hne : ∀ j, j < J → (Chk.nth l j).id ≠ (Chk.nth l J).id := fun j hj e => by
  have := hi.idx (Chk.nth_get (show j < l.length by omega)) (Chk.nth_get hJ) e
  omega
 have hno : (M (Chk.nth l J).id).isSome = false := by
  cases e : (M (Chk.nth l J).id).isSome with
  | false => rfl
  | true => obtain ⟨j, hj, e2⟩ := h.dom _ e; exact absurd e2.symm (hne j hj)
 rw [hno] at hm
 refine ⟨_, hm, h.lo, fun j hj => ?_, fun y hy => ?_⟩
 ·
  rcases Nat.lt_or_ge j J with e | e
  ·
   obtain ⟨A', k', h1, h2⟩ := h.at_ j e
   exact ⟨A', k', by rw [if_neg (hne j e)]; exact h1, h2.same fun b _ e1 e2 => hk.block b e2 e1⟩
  ·
   obtain rfl : j = J := by omega
   exact ⟨A, k, if_pos rfl, ho.same fun b _ e1 e2 => hk.block b e2 e1⟩
 ·
  by_cases e : y = (Chk.nth l J).id
  ·
   exact ⟨J, Nat.lt_succ_self _, e⟩
  ·
   rw [if_neg e] at hy
   obtain ⟨j, hj, e2⟩ := h.dom y hy
   exact ⟨j, by omega, e2⟩
end
section
variable {W : World} {L bo J : Nat} {l : List Chk.Ck} {M : Int → Option Value}
end
set_option maxHeartbeats 1600000 in
theorem refValid_any (u : Chk.Un) (w : World) (S : Bool) (hS : decide (Chk.valid u) = S) : Calls Tryz.prog 89 #[unV u] w fun e w' => e = .returned (.bool S) ∧ Below w.heap.size w w' := by
 obtain ⟨r, g, n⟩ := u
 unfold unV
 by_cases h : Chk.valid ⟨r, g, n⟩
 ·
  obtain rfl : S = true := by rw [← hS]; exact decide_eq_true h
  obtain ⟨⟨h1, h2⟩, ⟨h3, h4⟩, h5, h6⟩ := h
  dsimp only at h1 h2 h3 h4 h5 h6
  clear hS
  go_enter Tryz.func89, Tryz.ntmps89
  go_wp2
  go_ret
  exact ⟨rfl, box_below2 w _ _⟩
 ·
  obtain rfl : S = false := by rw [← hS]; exact decide_eq_false h
  clear hS
  have hd : r < 0 ∨ 4096 ≤ r ∨ (0 ≤ r ∧ r < 4096 ∧ (g < 0 ∨ 64 ≤ g ∨ (0 ≤ g ∧ g < 64 ∧ (n < 0 ∨ 32 ≤ n)))) := by
   unfold Chk.valid Chk.inR at h; dsimp only at h; omega
  clear h
  rcases hd with h1 | h1 | ⟨h0, h1, h1' | h1' | ⟨h2, h2', h3 | h3⟩⟩
  all_goals
   go_enter Tryz.func89, Tryz.ntmps89
   go_wp2
   go_ret
   exact ⟨by first | rfl | (congr 2; simp; omega), box_below2 w _ _⟩
end
end Go.Proofs.YtfllkaeaanahmaaGreat
