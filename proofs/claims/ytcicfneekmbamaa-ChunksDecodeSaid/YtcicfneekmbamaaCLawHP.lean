/- What the law ChunksHeal needs: plain facts on Lose and Move, a map from identifiers to chunks, the reference's Valid. Conditions: as each lemma says. -/
import Derived.Test.YtcicfneekmbamaaCLawU
namespace Go.Proofs.Ytcicfneekmbamaa
set_option linter.unusedVariables false
set_option linter.unusedSimpArgs false
open Go.RowKit
namespace Chk
theorem nth_set_same {l : List Ck} {k : Nat} (hk : k < l.length) (c : Ck) : nth (l.set k c) k = c := by
  unfold nth; rw [List.getD_eq_getElem?_getD, List.getElem?_set_self hk]; rfl
theorem nth_set_ne {l : List Ck} {k j : Nat} (h : j ≠ k) (c : Ck) : nth (l.set k c) j = nth l j := by
  unfold nth; rw [List.getD_eq_getElem?_getD, List.getD_eq_getElem?_getD, List.getElem?_set_ne (fun e => h e.symm)]
theorem lose_at {l : List Ck} {id : Int} {k : Nat} (hp : pos (ids l) id = some k) : lose l id = (l.set k { nth l k with at_ := z, lost := true }, 0, 0) := by unfold lose; rw [hp]
theorem heal_at {l : List Ck} (h : Inv l) {id : Int} {k : Nat} (hp : pos (ids l) id = some k) {u : Un} (hu : valid u) (hat : unitAt l u = none) :
    pos (ids (l.set k { nth l k with at_ := z, lost := true })) id = some k ∧ move (l.set k { nth l k with at_ := z, lost := true }) id u = (l.set k { nth l k with at_ := u, lost := false }, 0, 0) := by
  have hk := (pos_lt hp).1
  have hp' : pos (ids (l.set k { nth l k with at_ := z, lost := true })) id = some k := by
    have e : ids (l.set k { nth l k with at_ := z, lost := true }) = ids l := ids_set hk rfl
    rw [e]; exact hp
  have h' : Inv (l.set k { nth l k with at_ := z, lost := true }) := by have := h.lose id; rw [lose_at hp] at this; exact this
  have hu' : unitAt (l.set k { nth l k with at_ := z, lost := true }) u = none := by
    rw [unitAt_lose h hk h' rfl]; unfold leave; rw [hat]; exact ite_self _
  refine ⟨hp', ?_⟩
  unfold move
  rw [hp']
  show ite _ _ _ = _
  rw [if_neg (fun e => e hu), hu']
  show (_, _, _) = _
  rw [nth_set_same hk, List.set_set]
end Chk
theorem box_below (w : World) (o : Obj) : Below w.heap.size w (w.alloc o) := (Below.refl _ _).alloc (Nat.le_refl _) _
theorem box_below2 (w : World) (o o2 : Obj) : Below w.heap.size w ((w.alloc o).alloc o2) := (box_below w o).trans ((box_below _ o2).mono (box_below w o).size)
theorem keyInt22 : KeyT Try.prog 3 (Value.int .i64) := keyT_int Try.underlying3
theorem own_same2 {w w' : World} {base size n : Nat} {v : Value} {e : TypeId} {xs : List Value} (h : w.ownsRow base e size v n xs) (hs : ∀ b, base ≤ b → b < w.heap.size → w'.heap[b]? = w.heap[b]?) : w'.ownsRow base e size v n xs := by
  refine ⟨h.1, ?_⟩
  rcases h.2 with h0 | ⟨g, cap, cur, hv, hg, hh, r⟩
  · exact .inl h0
  · exact .inr ⟨g, cap, cur, hv, hg, (hs g hg (Array.getElem?_eq_some_iff.1 hh).1).trans hh, r⟩
def ckV (c : Chk.Ck) (A : Option Addr) (k : Nat) : Value := .agg (ckCells c (.slice A c.refs.length k)).toArray
/-- the references of the chunk c, in a block that is no older than L and is not bo -/
def RefAt (W : World) (L bo : Nat) (c : Chk.Ck) (A : Option Addr) (k : Nat) : Prop :=
  W.ownsRow L 83 2 (.slice A c.refs.length k) c.refs.length (rfs c.refs) ∧ ∀ p, A = some p → p.block ≠ bo
section
variable {W W2 : World} {L B bo k : Nat} {c : Chk.Ck} {A : Option Addr}
theorem RefAt.same (h : RefAt W L bo c A k) (hs : ∀ b, L ≤ b → b ≠ bo → b < W.heap.size → W2.heap[b]? = W.heap[b]?) : RefAt W2 L bo c A k := by
  refine ⟨⟨h.1.1, ?_⟩, h.2⟩
  rcases h.1.2 with h0 | ⟨g, cap, cur, hv, hg, hh, r⟩
  · exact .inl h0
  · injection hv with h1 h2 h3
    exact .inr ⟨g, cap, cur, by rw [h1, h3], hg, (hs g hg (h.2 _ h1) (Array.getElem?_eq_some_iff.1 hh).1).trans hh, r⟩
theorem RefAt.of_own (h : W.ownsRow B 83 2 (.slice A c.refs.length k) c.refs.length (rfs c.refs)) (hL : L ≤ B) (hb : bo < B) : RefAt W L bo c A k := by
  refine ⟨own_base h hL, fun p hp => ?_⟩
  rcases h.2 with h0 | ⟨g, cap, cur, hv, hg, hh, r⟩
  · injection h0.1 with h1; rw [hp] at h1; cases h1
  · injection hv with h1; rw [hp] at h1; have := Option.some.inj h1; rw [this]; show g ≠ bo; omega
theorem RefAt.of_old (h : W.ownsRow L 83 2 (.slice A c.refs.length k) c.refs.length (rfs c.refs)) (hb : W.heap.size ≤ bo) : RefAt W L bo c A k := by
  refine ⟨h, fun p hp => ?_⟩
  rcases h.2 with h0 | ⟨g, cap, cur, hv, hg, hh, r⟩
  · injection h0.1 with h1; rw [hp] at h1; cases h1
  · injection hv with h1; rw [hp] at h1; have := Option.some.inj h1; have := (Array.getElem?_eq_some_iff.1 hh).1; subst p; show g ≠ bo; omega
end
/-- the map in block bo holds the first J chunks of l, each under its identifier -/
structure OldM (W : World) (L bo : Nat) (l : List Chk.Ck) (J : Nat) (M : Int → Option Value) : Prop where
  map : MapIs W bo (Value.int .i64) M J
  lo : L ≤ bo
  at_ : ∀ j, j < J → ∃ A k, M (Chk.nth l j).id = some (ckV (Chk.nth l j) A k) ∧ RefAt W L bo (Chk.nth l j) A k
  dom : ∀ y, (M y).isSome = true → ∃ j, j < J ∧ y = (Chk.nth l j).id
section
variable {W W2 : World} {L bo J : Nat} {l : List Chk.Ck} {M : Int → Option Value}
theorem OldM.nil (h : MapIs W bo (Value.int .i64) (fun _ => none) 0) (hL : L ≤ bo) : OldM W L bo l 0 (fun _ => none) := ⟨h, hL, fun j hj => absurd hj (Nat.not_lt_zero j), fun y hy => by cases hy⟩
theorem OldM.same (h : OldM W L bo l J M) (hs : ∀ b, L ≤ b → b < W.heap.size → W2.heap[b]? = W.heap[b]?) : OldM W2 L bo l J M :=
  ⟨h.map.block (hs bo h.lo h.map.lt), h.lo, fun j hj => by
    obtain ⟨A, k, h1, h2⟩ := h.at_ j hj
    exact ⟨A, k, h1, h2.same fun b e1 _ e2 => hs b e1 e2⟩, h.dom⟩
theorem OldM.mono {L' : Nat} (h : OldM W L bo l J M) (hL : L' ≤ L) : OldM W L' bo l J M :=
  ⟨h.map, Nat.le_trans hL h.lo, fun j hj => by
    obtain ⟨A, k, h1, h2⟩ := h.at_ j hj
    exact ⟨A, k, h1, own_base h2.1 hL, h2.2⟩, h.dom⟩
theorem OldM.below (h : OldM W L bo l J M) (hb : Below W.heap.size W W2) : OldM W2 L bo l J M := h.same fun b _ e => hb.block b e
theorem OldM.step (hi : Chk.Inv l) (h : OldM W L bo l J M) (hJ : J < l.length) {c : Chk.Ck} (hc : Chk.nth l J = c) {A : Option Addr} {k : Nat} {id : Int} (hid : c.id = id) (ho : RefAt W L bo c A k)
    (hm : MapIs W2 bo (Value.int .i64) (fun y => if y = id then some (ckV c A k) else M y) (if (M id).isSome then J else J + 1)) (hk : Keep (fun b => b = bo) W W2) : ∃ M', OldM W2 L bo l (J + 1) M' := by
  subst hid hc
  have hne : ∀ j, j < J → (Chk.nth l j).id ≠ (Chk.nth l J).id := fun j hj e => by
    have := hi.idx (Chk.nth_get (show j < l.length by omega)) (Chk.nth_get hJ) e
    omega
  have hno : (M (Chk.nth l J).id).isSome = false := by
    cases e : (M (Chk.nth l J).id).isSome with
    | false => rfl
    | true => obtain ⟨j, hj, e2⟩ := h.dom _ e; exact absurd e2.symm (hne j hj)
  rw [hno] at hm
  refine ⟨_, hm, h.lo, fun j hj => ?_, fun y hy => ?_⟩
  · rcases Nat.lt_or_ge j J with e | e
    · obtain ⟨A', k', h1, h2⟩ := h.at_ j e
      exact ⟨A', k', by rw [if_neg (hne j e)]; exact h1, h2.same fun b _ e1 e2 => hk.block b e2 e1⟩
    · obtain rfl : j = J := by omega
      exact ⟨A, k, if_pos rfl, ho.same fun b _ e1 e2 => hk.block b e2 e1⟩
  · by_cases e : y = (Chk.nth l J).id
    · exact ⟨J, Nat.lt_succ_self _, e⟩
    · rw [if_neg e] at hy
      obtain ⟨j, hj, e2⟩ := h.dom y hy
      exact ⟨j, by omega, e2⟩
/-- one chunk is laid anew -/
theorem OldM.heal (hi : Chk.Inv l) (h : OldM W L bo l J M) (hJ : l.length = J) {q : Nat} (hq : q < l.length) {c : Chk.Ck} (hcid : c.id = (Chk.nth l q).id) {id : Int} (hid : (Chk.nth l q).id = id) {A : Option Addr} {k : Nat} (ho : RefAt W L bo c A k)
    (hm : MapIs W2 bo (Value.int .i64) (fun y => if y = id then some (ckV c A k) else M y) (if (M id).isSome then J else J + 1)) (hk : Keep (fun b => b = bo) W W2) : ∃ M', OldM W2 L bo (l.set q c) J M' := by
  subst hid hJ
  have hne : ∀ j, j < l.length → j ≠ q → (Chk.nth l j).id ≠ (Chk.nth l q).id := fun j hj hjq e => hjq (hi.idx (Chk.nth_get hj) (Chk.nth_get hq) e)
  have hyes : (M (Chk.nth l q).id).isSome = true := by obtain ⟨A', k', h1, _⟩ := h.at_ q hq; rw [h1]; rfl
  rw [hyes] at hm
  refine ⟨_, hm, h.lo, fun j hj => ?_, fun y hy => ?_⟩
  · by_cases e : j = q
    · subst e
      rw [Chk.nth_set_same hq, hcid]
      exact ⟨A, k, if_pos rfl, ho.same fun b _ e1 e2 => hk.block b e2 e1⟩
    · rw [Chk.nth_set_ne e]
      obtain ⟨A', k', h1, h2⟩ := h.at_ j hj
      exact ⟨A', k', by rw [if_neg (hne j hj e)]; exact h1, h2.same fun b _ e1 e2 => hk.block b e2 e1⟩
  · by_cases e : y = (Chk.nth l q).id
    · exact ⟨q, hq, by rw [Chk.nth_set_same hq, hcid]; exact e⟩
    · rw [if_neg e] at hy
      obtain ⟨j, hj, e2⟩ := h.dom y hy
      exact ⟨j, hj, by rw [Chk.nth_set_ne (fun e3 => e (by rw [e2, e3]))]; exact e2⟩
end
theorem ckCells_put4 (c : Chk.Ck) (v : Value) (h : c.dg.length = 16) (u : Chk.Un) (b : Bool) :
    ((((ckCells c v).set 18 (.int .i64 u.r)).set 19 (.int .i64 u.g)).set 20 (.int .i64 u.u)).set 21 (.bool b) = ckCells { c with at_ := u, lost := b } v := by
  rw [(ckCells_put c v h u b).1, (ckCells_put { c with at_ := ⟨u.r, c.at_.g, c.at_.u⟩ } v h u b).2.1, (ckCells_put { c with at_ := ⟨u.r, u.g, c.at_.u⟩ } v h u b).2.2.1, (ckCells_put { c with at_ := ⟨u.r, u.g, u.u⟩ } v h u b).2.2.2]
theorem zeroCkV (w : World) : (zeroValue 45).run Try.prog w = .ok (.agg zCk.toArray) w := by kernel_rfl
section
variable {W : World} {L bo J : Nat} {l : List Chk.Ck} {M : Int → Option Value}
theorem OldM.look (h : OldM W L bo l J M) {j : Nat} (hj : j < J) {c : Chk.Ck} (hc : Chk.nth l j = c) : ∃ A k, (∀ V : World, Below W.heap.size W V → (Instr.lookup 65 (.map (some bo)) (.int .i64 c.id) false).run Try.prog V = .ok (ckV c A k) V) ∧ RefAt W L bo c A k := by
  subst hc
  obtain ⟨A, k, h1, h2⟩ := h.at_ j hj
  refine ⟨A, k, fun V hV => ?_, h2⟩
  have := (h.below hV).map.look (P := Try.prog) keyInt22 Try.underlying65 (zeroCkV V) (Chk.nth l j).id false
  rw [this, h1]; rfl
end
theorem eql_un (w : World) (u : Chk.Un) : (binOp .eql 26 (unV u) (unV u)).run Try.prog w = .ok (.bool true) w := by
  have h := run_equal_un u u w
  unfold unV at *
  rw [run_eql_struct]
  have h' : (Op.equalIn 10000 26 (.agg #[.int .i64 u.r, .int .i64 u.g, .int .i64 u.u]) (.agg #[.int .i64 u.r, .int .i64 u.g, .int .i64 u.u])).run Try.prog w = _ := h
  rw [h']; simp [Result.andThen]
theorem TabG.mores {w0 w w' : World} {a : Nat} {l : List Chk.Ck} {G : Nat → Prop} (h : TabG w0 w a l G) (hb : Below w.heap.size w w') : TabG w0 w' a l (fun b => w.heap.size ≤ b ∧ b < w'.heap.size) := by
  obtain ⟨F, S, ⟨t, ht⟩, h2, h3, h4⟩ := h
  exact ⟨F, S, ⟨t, ht.below hb⟩, fun b e => ⟨(h2 b e).1, Nat.lt_of_lt_of_le (h2 b e).2 hb.size⟩, h3.trans (hb.mono h3.size), fun b e => ⟨e.2, fun hS => by have := (h2 b (.inr hS)).2; omega, fun hF => by have := (h2 b (.inl hF)).2; omega⟩⟩
/-- Get of the program's table, in both ways -/
def GetAny (l : List Chk.Ck) (id : Int) (w : World) (e : Ending) (w' : World) : Prop :=
  ∃ (cs : List Value) (q : Bool), e = .returned (.tuple #[.agg cs.toArray, .bool q]) ∧ cs.length = 23 ∧ cs.all (·.oneCell') = true ∧ Below w.heap.size w w' ∧
    (q = true → ∃ k A kk, Chk.pos (Chk.ids l) id = some k ∧ cs = ckCells (Chk.nth l k) (.slice A (Chk.nth l k).refs.length kk) ∧ w'.ownsRow w.heap.size 83 2 (.slice A (Chk.nth l k).refs.length kk) (Chk.nth l k).refs.length (rfs (Chk.nth l k).refs))
theorem TabG.getAny {w0 w : World} {a : Nat} {l : List Chk.Ck} {G : Nat → Prop} (h : TabG w0 w a l G) (id : Int) : Calls Try.prog 14 #[.pointer (some ⟨a, 0, none⟩), .int .i64 id] w (GetAny l id w) := by
  cases hp : Chk.pos (Chk.ids l) id with
  | none =>
    refine (h.getNo id hp).mono ?_
    rintro e w' ⟨rfl, hb⟩
    exact ⟨zCk, false, rfl, by kernel_rfl, by kernel_rfl, hb, fun e => by cases e⟩
  | some k =>
    refine (h.getOk id k _ hp rfl).mono ?_
    rintro e w' ⟨A, kk, rfl, ho, hb⟩
    have hdg := (h.inv.nth (Chk.pos_lt hp).1).dg
    exact ⟨_, true, rfl, ckCells_len hdg _, List.all_eq_true.2 (ckCells_one _ _ rfl), hb, fun _ => ⟨k, A, kk, hp, rfl, ho⟩⟩
set_option maxHeartbeats 1600000 in
theorem refValid_any (u : Chk.Un) (w : World) (S : Bool) (hS : decide (Chk.valid u) = S) : Calls Try.prog 31 #[unV u] w fun e w' => e = .returned (.bool S) ∧ Below w.heap.size w w' := by
  obtain ⟨r, g, n⟩ := u
  unfold unV
  by_cases h : Chk.valid ⟨r, g, n⟩
  · obtain rfl : S = true := by rw [← hS]; exact decide_eq_true h
    obtain ⟨⟨h1, h2⟩, ⟨h3, h4⟩, h5, h6⟩ := h
    dsimp only at h1 h2 h3 h4 h5 h6
    clear hS
    go_enter Try.func31, Try.ntmps31
    go_wp2
    go_ret
    exact ⟨rfl, box_below2 w _ _⟩
  · obtain rfl : S = false := by rw [← hS]; exact decide_eq_false h
    clear hS
    have hd : r < 0 ∨ 4096 ≤ r ∨ (0 ≤ r ∧ r < 4096 ∧ (g < 0 ∨ 64 ≤ g ∨ (0 ≤ g ∧ g < 64 ∧ (n < 0 ∨ 32 ≤ n)))) := by
      unfold Chk.valid Chk.inR at h; dsimp only at h; omega
    clear h
    rcases hd with h1 | h1 | ⟨h0, h1, h1' | h1' | ⟨h2, h2', h3 | h3⟩⟩
    all_goals
      go_enter Try.func31, Try.ntmps31
      go_wp2
      go_ret
      exact ⟨by first | rfl | (congr 2; simp; omega), box_below2 w _ _⟩
end Go.Proofs.Ytcicfneekmbamaa
