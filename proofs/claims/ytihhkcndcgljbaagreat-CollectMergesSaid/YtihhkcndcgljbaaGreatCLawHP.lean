/- What the law ChunksHeal needs: plain facts on Lose and Move, a map from identifiers to chunks, the reference's Valid. Conditions: as each lemma says. -/
import Derived.Test.YtihhkcndcgljbaaGreatCLawU
namespace Go.Proofs.YtihhkcndcgljbaaGreat
set_option linter.unusedVariables false
set_option linter.unusedSimpArgs false
open Go.RowKit
namespace Chk
theorem lose_at {l : List Ck} {id : Int} {k : Nat} (hp : pos (ids l) id = some k) : lose l id = (l.set k { nth l k with at_ := z, lost := true }, 0, 0) := by unfold lose; rw [hp]
end Chk
theorem box_below (w : World) (o : Obj) : Below w.heap.size w (w.alloc o) := (Below.refl _ _).alloc (Nat.le_refl _) _
theorem box_below2 (w : World) (o o2 : Obj) : Below w.heap.size w ((w.alloc o).alloc o2) := (box_below w o).trans ((box_below _ o2).mono (box_below w o).size)
theorem own_same2 {w w' : World} {base size n : Nat} {v : Value} {e : TypeId} {xs : List Value} (h : w.ownsRow base e size v n xs) (hs : ∀ b, base ≤ b → b < w.heap.size → w'.heap[b]? = w.heap[b]?) : w'.ownsRow base e size v n xs := by
  refine ⟨h.1, ?_⟩
  rcases h.2 with h0 | ⟨g, cap, cur, hv, hg, hh, r⟩
  · exact .inl h0
  · exact .inr ⟨g, cap, cur, hv, hg, (hs g hg (Array.getElem?_eq_some_iff.1 hh).1).trans hh, r⟩
def ckV (c : Chk.Ck) (A : Option Addr) (k : Nat) : Value := .agg (ckCells c (.slice A c.refs.length k)).toArray
/-- the references of the chunk c, in a block that is no older than L and is not bo -/
def RefAt (W : World) (L bo : Nat) (c : Chk.Ck) (A : Option Addr) (k : Nat) : Prop :=
  W.ownsRow L 116 2 (.slice A c.refs.length k) c.refs.length (rfs c.refs) ∧ ∀ p, A = some p → p.block ≠ bo
section
variable {W W2 : World} {L B bo k : Nat} {c : Chk.Ck} {A : Option Addr}
theorem RefAt.same (h : RefAt W L bo c A k) (hs : ∀ b, L ≤ b → b ≠ bo → b < W.heap.size → W2.heap[b]? = W.heap[b]?) : RefAt W2 L bo c A k := by
  refine ⟨⟨h.1.1, ?_⟩, h.2⟩
  rcases h.1.2 with h0 | ⟨g, cap, cur, hv, hg, hh, r⟩
  · exact .inl h0
  · injection hv with h1 h2 h3
    exact .inr ⟨g, cap, cur, by rw [h1, h3], hg, (hs g hg (h.2 _ h1) (Array.getElem?_eq_some_iff.1 hh).1).trans hh, r⟩
theorem RefAt.of_own (h : W.ownsRow B 116 2 (.slice A c.refs.length k) c.refs.length (rfs c.refs)) (hL : L ≤ B) (hb : bo < B) : RefAt W L bo c A k := by
  refine ⟨own_base h hL, fun p hp => ?_⟩
  rcases h.2 with h0 | ⟨g, cap, cur, hv, hg, hh, r⟩
  · injection h0.1 with h1; rw [hp] at h1; cases h1
  · injection hv with h1; rw [hp] at h1; have := Option.some.inj h1; rw [this]; show g ≠ bo; omega
end
/-- the map in block bo holds the first J chunks of l, each under its identifier -/
structure OldM (W : World) (L bo : Nat) (l : List Chk.Ck) (J : Nat) (M : Int → Option Value) : Prop where
  map : MapIs W bo (Value.int .i64) M J
  lo : L ≤ bo
  at_ : ∀ j, j < J → ∃ A k, M (Chk.nth l j).id = some (ckV (Chk.nth l j) A k) ∧ RefAt W L bo (Chk.nth l j) A k
  dom : ∀ y, (M y).isSome = true → ∃ j, j < J ∧ y = (Chk.nth l j).id
section
variable {W W2 : World} {L bo J : Nat} {l : List Chk.Ck} {M : Int → Option Value}
theorem OldM.nil (h : MapIs W bo (Value.int .i64) (fun _ => none) 0) (hL : L ≤ bo) : OldM W L bo l 0 (fun _ => none) := ⟨h, hL, fun j hj => absurd hj (Nat.not_lt_zero j), fun y hy => by cases hy⟩
theorem OldM.same (h : OldM W L bo l J M) (hs : ∀ b, L ≤ b → b < W.heap.size → W2.heap[b]? = W.heap[b]?) : OldM W2 L bo l J M :=
  ⟨h.map.block (hs bo h.lo h.map.lt), h.lo, fun j hj => by
    obtain ⟨A, k, h1, h2⟩ := h.at_ j hj
    exact ⟨A, k, h1, h2.same fun b e1 _ e2 => hs b e1 e2⟩, h.dom⟩
theorem OldM.mono {L' : Nat} (h : OldM W L bo l J M) (hL : L' ≤ L) : OldM W L' bo l J M :=
  ⟨h.map, Nat.le_trans hL h.lo, fun j hj => by
    obtain ⟨A, k, h1, h2⟩ := h.at_ j hj
    exact ⟨A, k, h1, own_base h2.1 hL, h2.2⟩, h.dom⟩
theorem OldM.below (h : OldM W L bo l J M) (hb : Below W.heap.size W W2) : OldM W2 L bo l J M := h.same fun b _ e => hb.block b e
theorem OldM.step (hi : Chk.Inv l) (h : OldM W L bo l J M) (hJ : J < l.length) {c : Chk.Ck} (hc : Chk.nth l J = c) {A : Option Addr} {k : Nat} {id : Int} (hid : c.id = id) (ho : RefAt W L bo c A k)
    (hm : MapIs W2 bo (Value.int .i64) (fun y => if y = id then some (ckV c A k) else M y) (if (M id).isSome then J else J + 1)) (hk : Keep (fun b => b = bo) W W2) : ∃ M', OldM W2 L bo l (J + 1) M' := by
  subst hid hc
  have hne : ∀ j, j < J → (Chk.nth l j).id ≠ (Chk.nth l J).id := fun j hj e => by
    have := hi.idx (Chk.nth_get (show j < l.length by omega)) (Chk.nth_get hJ) e
    omega
  have hno : (M (Chk.nth l J).id).isSome = false := by
    cases e : (M (Chk.nth l J).id).isSome with
    | false => rfl
    | true => obtain ⟨j, hj, e2⟩ := h.dom _ e; exact absurd e2.symm (hne j hj)
  rw [hno] at hm
  refine ⟨_, hm, h.lo, fun j hj => ?_, fun y hy => ?_⟩
  · rcases Nat.lt_or_ge j J with e | e
    · obtain ⟨A', k', h1, h2⟩ := h.at_ j e
      exact ⟨A', k', by rw [if_neg (hne j e)]; exact h1, h2.same fun b _ e1 e2 => hk.block b e2 e1⟩
    · obtain rfl : j = J := by omega
      exact ⟨A, k, if_pos rfl, ho.same fun b _ e1 e2 => hk.block b e2 e1⟩
  · by_cases e : y = (Chk.nth l J).id
    · exact ⟨J, Nat.lt_succ_self _, e⟩
    · rw [if_neg e] at hy
      obtain ⟨j, hj, e2⟩ := h.dom y hy
      exact ⟨j, by omega, e2⟩
end
section
variable {W : World} {L bo J : Nat} {l : List Chk.Ck} {M : Int → Option Value}
end
/-- Get of the program's table, in both ways -/
def GetAny (l : List Chk.Ck) (id : Int) (w : World) (e : Ending) (w' : World) : Prop :=
  ∃ (cs : List Value) (q : Bool), e = .returned (.tuple #[.agg cs.toArray, .bool q]) ∧ cs.length = 23 ∧ cs.all (·.oneCell') = true ∧ Below w.heap.size w w' ∧
    (q = true → ∃ k A kk, Chk.pos (Chk.ids l) id = some k ∧ cs = ckCells (Chk.nth l k) (.slice A (Chk.nth l k).refs.length kk) ∧ w'.ownsRow w.heap.size 116 2 (.slice A (Chk.nth l k).refs.length kk) (Chk.nth l k).refs.length (rfs (Chk.nth l k).refs))
set_option maxHeartbeats 1600000 in
theorem refValid_any (u : Chk.Un) (w : World) (S : Bool) (hS : decide (Chk.valid u) = S) : Calls Tryz.prog 77 #[unV u] w fun e w' => e = .returned (.bool S) ∧ Below w.heap.size w w' := by
  obtain ⟨r, g, n⟩ := u
  unfold unV
  by_cases h : Chk.valid ⟨r, g, n⟩
  · obtain rfl : S = true := by rw [← hS]; exact decide_eq_true h
    obtain ⟨⟨h1, h2⟩, ⟨h3, h4⟩, h5, h6⟩ := h
    dsimp only at h1 h2 h3 h4 h5 h6
    clear hS
    go_enter Tryz.func77, Tryz.ntmps77
    go_wp2
    go_ret
    exact ⟨rfl, box_below2 w _ _⟩
  · obtain rfl : S = false := by rw [← hS]; exact decide_eq_false h
    clear hS
    have hd : r < 0 ∨ 4096 ≤ r ∨ (0 ≤ r ∧ r < 4096 ∧ (g < 0 ∨ 64 ≤ g ∨ (0 ≤ g ∧ g < 64 ∧ (n < 0 ∨ 32 ≤ n)))) := by
      unfold Chk.valid Chk.inR at h; dsimp only at h; omega
    clear h
    rcases hd with h1 | h1 | ⟨h0, h1, h1' | h1' | ⟨h2, h2', h3 | h3⟩⟩
    all_goals
      go_enter Tryz.func77, Tryz.ntmps77
      go_wp2
      go_ret
      exact ⟨by first | rfl | (congr 2; simp; omega), box_below2 w _ _⟩
end Go.Proofs.YtihhkcndcgljbaaGreat
