/- Joined texts: Held, Held2, Tk. Conditions: as each part says. -/
import Derived.Test.YtfllkaeaanahmaaGreatRow
import Derived.Deep.RegionHeld3
namespace Go.Proofs.YtfllkaeaanahmaaGreat
set_option linter.unusedVariables false
set_option linter.unusedSimpArgs false
section
open Go.RowKit
section
variable {P : Program} {w : World} {ops : Array Oper} {o : Oper} {a : Act} {K : Act → World → Prop} {Q : Exit → Act → World → Prop}
end
end
section
open Go.RowKit
section
variable {P : Program} {ops : Array Oper} {Q : Exit → Act → World → Prop} {md : Region.Mode} {S T : World → Prop} {E : List Nat}
def wpAnyL (P : Program) (md : Region.Mode) (ops : Array Oper) (Q : Exit → Act → World → Prop) (S : World → Prop) (E : List Nat) : Nat → Array Bool → Act → World → Prop
 | 0, l, a, w => Region.ready md ops l = [] ∧ Q .normal a w
 | n + 1, l, a, w => (Region.ready md ops l = [] → Q .normal a w) ∧ ∀ i ∈ Region.ready md ops l, wpOp P ops Q i (fun b v => (E.contains i = false → S v) ∧ wpAnyL P md ops Q S E n (l.setIfInBounds i true) b v) a w
theorem wpAny_of_late : ∀ (n : Nat) (l : Array Bool) (a : Act) (w : World), wpAnyL P md ops Q S E n l a w → wpAny P md ops Q n l a w
 | 0, _, _, _, h => h
 | n + 1, _, _, _, h => ⟨h.1, fun i hi => wpOp_mono (fun b v k => wpAny_of_late n _ b v k.2) (h.2 i hi)⟩
theorem wp_region_late {id : Nat} {a : Act} {w : World} (S : World → Prop) (E : List Nat) (hm : P.follows .mixedOrders = true) (hS : S w.drew)
  (h : S w.drew → wpAnyL P .any ops Q S E ops.size (Array.replicate ops.size false) a w.drew) : (Code.region id ops true).wp P Q a w :=
 wp_region_any hm (wpAny_of_late _ _ _ _ (h hS))
def Closed (md : Region.Mode) (ops : Array Oper) (l : Array Bool) : Prop := ∀ k o, ops[k]? = some o → l.getD k false = true → ∀ e ∈ o.after, Region.binds md e = true → l.getD e.on false = true
def closedB (md : Region.Mode) (ops : Array Oper) (l : Array Bool) : Bool := (List.range ops.size).all fun k => match ops[k]? with | some o => !l.getD k false || o.after.all (fun e => !Region.binds md e || l.getD e.on false) | none => true
theorem closed_of {l : Array Bool} (h : closedB md ops l = true) : Closed md ops l := fun k o ho hk e he hb => by
 have hlt := (Array.getElem?_eq_some_iff.1 ho).1
 have h1 := List.all_eq_true.1 h k (List.mem_range.2 hlt)
 rw [ho] at h1
 simp only [hk, Bool.not_true, Bool.false_or] at h1
 have h2 := Array.all_eq_true'.1 h1 e he
 simpa [hb] using h2
theorem Closed.step {l : Array Bool} {j : Nat} (h : Closed md ops l) (hj : j ∈ Region.ready md ops l) : Closed md ops (l.setIfInBounds j true) := fun k o ho hk e he hb => by
 by_cases hkj : j = k
 ·
  subst hkj
  obtain ⟨_, o', ho', hall⟩ := mem_ready.1 hj
  rw [ho] at ho'
  cases ho'
  exact getD_set_true (hall e he hb)
 ·
  rw [getD_set_ne false hkj] at hk
  exact getD_set_true (h k o ho hk e he hb)
def reach (md : Region.Mode) (ops : Array Oper) : Nat → Nat → Nat → Bool
 | 0, _, _ => false
 | f + 1, j, i => match ops[j]? with | some o => o.after.any (fun e => Region.binds md e && (e.on == i || reach md ops f e.on i)) | none => false
theorem reach_listed {l : Array Bool} (hc : Closed md ops l) {i : Nat} : ∀ (f j : Nat), l.getD j false = true → reach md ops f j i = true → l.getD i false = true
 | 0, _, _, h => by cases h
 | f + 1, j, hj, h => by
  unfold reach at h
  cases ho : ops[j]? with
  | none => rw [ho] at h; cases h
  | some o =>
   rw [ho] at h
   obtain ⟨e, he, hb⟩ := Array.any_eq_true'.1 h
   rw [Bool.and_eq_true, Bool.or_eq_true, beq_iff_eq] at hb
   have h1 := hc j o ho hj e he hb.1
   rcases hb.2 with h2 | h2
   ·
    rw [← h2]; exact h1
   ·
    exact reach_listed hc f e.on h1 h2
theorem reach_ready {l : Array Bool} (hc : Closed md ops l) {i j f : Nat} (hj : j ∈ Region.ready md ops l) (h : reach md ops f j i = true) : l.getD i false = true := by
 obtain ⟨_, o, ho, hall⟩ := mem_ready.1 hj
 cases f with
 | zero => cases h
 | succ f =>
  unfold reach at h
  rw [ho] at h
  obtain ⟨e, he, hb⟩ := Array.any_eq_true'.1 h
  rw [Bool.and_eq_true, Bool.or_eq_true, beq_iff_eq] at hb
  have h1 := hall e he hb.1
  rcases hb.2 with h2 | h2
  ·
   rw [← h2]; exact h1
  ·
   exact reach_listed hc f e.on h1 h2
theorem unlisted {l : Array Bool} {i : Nat} (hi : i ∈ Region.ready md ops l) : l.getD i false = false := by
 have h0 := (mem_ready.1 hi).1
 rcases Nat.lt_or_ge i l.size with h' | h'
 ·
  simp [h'] at h0 ⊢; exact h0
 ·
  simp [Array.getElem?_eq_none h']
theorem wpAnyL_first {i : Nat} {oi : Oper} {v : Value} (hi : ops[i]? = some oi) (hsel : ∀ (j : Nat) (o : Oper) cs b, ops[j]? = some o → o.op ≠ .select cs b)
  (hQ : ∀ c a w, Q (.panic c) (a.put oi.dst v) w → Q (.panic c) a w)
  (l0 : Array Bool) (hT : ∀ (l : Array Bool) (j : Nat), (∀ k, l0.getD k false = true → l.getD k false = true) → Closed md ops l → i ∈ Region.ready md ops l → j ∈ Region.ready md ops l → ∀ w' : World, (E.contains j = false → S w') → T w') (hTS : E.contains i = false → ∀ w : World, T w → S w) :
  ∀ (n : Nat) (l : Array Bool) (a : Act) (w : World), (∀ k, l0.getD k false = true → l.getD k false = true) → Closed md ops l →
   (∀ j oj, ops[j]? = some oj → j ≠ i → l.getD j true = false → (∀ e ∈ oj.after, Region.binds md e = true → e.on ≠ i) → oi.apart ops oj = true) →
   i ∈ Region.ready md ops l → YieldsIf P ops T oi v a → T w →
   wpAnyL P md ops Q S E n (l.setIfInBounds i true) (a.put oi.dst v) w → wpAnyL P md ops Q S E (n + 1) l a w := by
 intro n
 induction n with
 | zero =>
  intro l a w _ _ _ hr hy hw H
  refine ⟨fun h => absurd hr (by rw [h]; exact List.not_mem_nil), fun j hj => ?_⟩
  by_cases e : j = i
  ·
   subst e; exact hy.wpOp hi hw ⟨fun hE => hTS hE _ hw, H⟩
  ·
   exact absurd (ready_mono hj e) (by rw [H.1]; exact List.not_mem_nil)
 | succ n ih =>
  intro l a w hsub hc hfree hr hy hw H
  refine ⟨fun h => absurd hr (by rw [h]; exact List.not_mem_nil), fun j hj => ?_⟩
  by_cases e : j = i
  ·
   subst e; exact hy.wpOp hi hw ⟨fun hE => hTS hE _ hw, H⟩
  ·
   obtain ⟨hun, oj, hoj, hall⟩ := mem_ready.1 hj
   have hno : ∀ x ∈ oj.after, Region.binds md x = true → x.on ≠ i := fun x hx hb heq => by
    have h1 := hall x hx hb
    rw [heq, unlisted hr] at h1
    cases h1
   have h2 := wpOp_putIf hoj (hfree j oj hoj e hun hno) (fun cs b => hsel i oi cs b hi) (fun cs b => hsel j oj cs b hoj) hQ hy (H.2 j (ready_mono hj e))
   refine wpOp_mono (fun b u h3 => ?_) h2
   have hTu := hT l j hsub hc hr hj u h3.2.1
   refine ⟨h3.2.1, ih (l.setIfInBounds j true) b u (fun k hk => getD_set_true (hsub k hk)) (hc.step hj) (fun k ok hk hki hku hkn => hfree k ok hk hki ?_ hkn) (ready_mono hr (Ne.symm e)) h3.1 hTu ?_⟩
   ·
    by_cases hjk : j = k
    ·
     subst hjk; exact hun
    ·
     rw [getD_set_ne true hjk] at hku; exact hku
   ·
    rw [Array.setIfInBounds_comm _ _ e]
    exact h3.2.2
theorem wpAnyL_take {i : Nat} {oi : Oper} {v : Value} {n : Nat} {l : Array Bool} {a : Act} {w : World} (hi : ops[i]? = some oi)
  (hs : Region.noSelect ops = true) (hf : Region.free md ops l i = true) (hr : (Region.ready md ops l).contains i = true) (hE : (closedB md ops l && !E.contains i && E.all fun j => l.getD j false || reach md ops ops.size j i) = true)
  (hQ : ∀ c a w, Q (.panic c) (a.put oi.dst v) w → Q (.panic c) a w) (hy : YieldsIf P ops S oi v a) (hS : S w)
  (h : wpAnyL P md ops Q S E n (l.setIfInBounds i true) (a.put oi.dst v) w) : wpAnyL P md ops Q S E (n + 1) l a w := by
 rw [Bool.and_eq_true, Bool.and_eq_true, Bool.not_eq_true'] at hE
 refine wpAnyL_first hi (Region.noSelect_spec hs) hQ (T := S) l (fun l' j hsub hc hr hj w' hw' => hw' ?_) (fun _ _ h => h) n l a w (fun _ h => h) (closed_of hE.1.1) (Region.free_spec hi hf) (by simpa using hr) hy hS h
 cases hcn : E.contains j with
 | false => rfl
 | true =>
  have h1 := List.all_eq_true.1 hE.2 j (by simpa using hcn)
  rw [Bool.or_eq_true] at h1
  rcases h1 with h1 | h1
  ·
   have h2 := hsub j h1
   rw [unlisted hj] at h2
   cases h2
  ·
   have h2 := reach_ready hc hj h1
   rw [unlisted hr] at h2
   cases h2
theorem wpAnyL_takeE {i : Nat} {oi : Oper} {v : Value} {n : Nat} {l : Array Bool} {a : Act} {w : World} (hi : ops[i]? = some oi)
  (hs : Region.noSelect ops = true) (hf : Region.free md ops l i = true) (hr : (Region.ready md ops l).contains i = true) (hE : (closedB md ops l && E.contains i) = true)
  (hQ : ∀ c a w, Q (.panic c) (a.put oi.dst v) w → Q (.panic c) a w) (hy : Yields P ops oi v a)
  (h : wpAnyL P md ops Q S E n (l.setIfInBounds i true) (a.put oi.dst v) w) : wpAnyL P md ops Q S E (n + 1) l a w := by
 rw [Bool.and_eq_true] at hE
 exact wpAnyL_first hi (Region.noSelect_spec hs) hQ (T := fun _ => True) l (fun _ _ _ _ _ _ _ _ => trivial) (fun h => absurd (hE.2.symm.trans h) (by decide)) n l a w (fun _ h => h) (closed_of hE.1) (Region.free_spec hi hf) (by simpa using hr) hy.yieldsIf trivial h
def AllReadyL (P : Program) (md : Region.Mode) (ops : Array Oper) (Q : Exit → Act → World → Prop) (S : World → Prop) (E : List Nat) (n : Nat) (l : Array Bool) (a : Act) (w : World) (rs : List Nat) : Prop :=
 ∀ i ∈ rs, wpOp P ops Q i (fun b v => (E.contains i = false → S v) ∧ wpAnyL P md ops Q S E n (l.setIfInBounds i true) b v) a w
theorem AllReadyL.nil {n : Nat} {l : Array Bool} {a : Act} {w : World} : AllReadyL P md ops Q S E n l a w [] := fun _ h => absurd h List.not_mem_nil
theorem AllReadyL.cons {n : Nat} {l : Array Bool} {a : Act} {w : World} {i : Nat} {o : Oper} {rs : List Nat} (ho : ops[i]? = some o)
  (h : ∀ K : Act → World → Prop, Shut (∀ b v, S v → (S v → wpAnyL P md ops Q S E n (l.setIfInBounds i true) b v) → K b v) → if Region.wanted o (yielded ops a.tmps) = true then Oper.wp P o a w K Q else K (a.put o.dst undef) w)
  (hs : AllReadyL P md ops Q S E n l a w rs) : AllReadyL P md ops Q S E n l a w (i :: rs) := fun j hj => by
 rcases List.mem_cons.1 hj with rfl | hj
 ·
  exact wpOp_step ho fun K hK => h K fun b v hv hW => hK b v ⟨fun _ => hv, hW hv⟩
 ·
  exact hs j hj
theorem AllReadyL.late {n : Nat} {l : Array Bool} {a : Act} {w : World} {i : Nat} {o : Oper} {rs : List Nat} (ho : ops[i]? = some o) (hE : E.contains i = true)
  (h : ∀ K : Act → World → Prop, Shut (∀ b v, wpAnyL P md ops Q S E n (l.setIfInBounds i true) b v → K b v) → if Region.wanted o (yielded ops a.tmps) = true then Oper.wp P o a w K Q else K (a.put o.dst undef) w)
  (hs : AllReadyL P md ops Q S E n l a w rs) : AllReadyL P md ops Q S E n l a w (i :: rs) := fun j hj => by
 rcases List.mem_cons.1 hj with rfl | hj
 ·
  exact wpOp_step ho fun K hK => h K fun b v hW => hK b v ⟨fun hc => absurd (hE.symm.trans hc) (by decide), hW⟩
 ·
  exact hs j hj
theorem wpAnyL_ready {rs : List Nat} {n : Nat} {l : Array Bool} {a : Act} {w : World} (hr : Region.ready md ops l = rs) (hne : rs ≠ []) (h : AllReadyL P md ops Q S E n l a w rs) : wpAnyL P md ops Q S E (n + 1) l a w :=
 ⟨fun h0 => absurd (hr ▸ h0) hne, hr ▸ h⟩
theorem wpAnyL_done {l : Array Bool} {a : Act} {w : World} (hr : Region.ready md ops l = []) (h : Q .normal a w) : ∀ n, wpAnyL P md ops Q S E n l a w
 | 0 => ⟨hr, h⟩
 | _ + 1 => ⟨fun _ => h, fun i hi => absurd hi (by rw [hr]; exact List.not_mem_nil)⟩
end
end
section
open Go.RowKit
section
variable {P : Program} {ops : Array Oper} {Q : Exit → Act → World → Prop} {md : Region.Mode} {S : World → Prop} {E : List Nat} {n : Nat} {l : Array Bool} {a : Act} {w : World}
theorem tkH (i : Nat) (oi : Oper) (v : Value) (hy : YieldsIf P ops S oi v a) (h : wpAnyH P md ops Q S n (l.setIfInBounds i true) (a.put oi.dst v) w) (hi : ops[i]? = some oi := by rfl)
  (hs : Region.noSelect ops = true := by kernel_rfl) (hf : Region.free md ops l i = true := by kernel_rfl) (hr : (Region.ready md ops l).contains i = true := by kernel_rfl)
  (hQ : ∀ c a w, Q (.panic c) (a.put oi.dst v) w → Q (.panic c) a w := by exact fun _ _ _ h => h) (hS : S w := by assumption) : wpAnyH P md ops Q S (n + 1) l a w := wpAnyH_take hi hs hf hr hQ hy hS h
theorem tkL (i : Nat) (oi : Oper) (v : Value) (hy : YieldsIf P ops S oi v a) (h : wpAnyL P md ops Q S E n (l.setIfInBounds i true) (a.put oi.dst v) w) (hi : ops[i]? = some oi := by rfl)
  (hs : Region.noSelect ops = true := by kernel_rfl) (hf : Region.free md ops l i = true := by kernel_rfl) (hr : (Region.ready md ops l).contains i = true := by kernel_rfl)
  (hE : (closedB md ops l && !E.contains i && E.all fun j => l.getD j false || reach md ops ops.size j i) = true := by kernel_rfl)
  (hQ : ∀ c a w, Q (.panic c) (a.put oi.dst v) w → Q (.panic c) a w := by exact fun _ _ _ h => h) (hS : S w := by assumption) : wpAnyL P md ops Q S E (n + 1) l a w := wpAnyL_take hi hs hf hr hE hQ hy hS h
end
end
theorem PT : (∀ (a : Act) (i : Nat) (v : Value), a.put (some i) v = { a with tmps := a.tmps.setIfInBounds i v }) ∧ (∀ (a : Act) (v : Value), a.put none v = a) ∧ (∀ {α : Type} (l : List α) (i : Nat) (x : α), l.toArray.setIfInBounds i x = (l.set i x).toArray) ∧
  (∀ {α : Type} (a : α) (as : List α) (b : α), (a :: as).set 0 b = b :: as) ∧ (∀ {α : Type} (a : α) (as : List α) (n : Nat) (b : α), (a :: as).set (n + 1) b = a :: as.set n b) :=
 ⟨fun _ _ _ => rfl, fun _ _ => rfl, fun _ _ _ => by simp, fun _ _ _ => rfl, fun _ _ _ _ => rfl⟩
section
variable {P : Program} {ops : Array Oper} {Q : Exit → Act → World → Prop} {md : Region.Mode} {S : World → Prop} {E : List Nat} {n : Nat} {l : Array Bool} {a : Act} {w : World}
theorem rdyH (rs : List Nat) (h : AllReadyH P md ops Q S n l a w rs) (hr : Region.ready md ops l = rs := by kernel_rfl) (hne : rs ≠ [] := by simp) : wpAnyH P md ops Q S (n + 1) l a w := wpAnyH_ready hr hne h
theorem rdyL (rs : List Nat) (h : AllReadyL P md ops Q S E n l a w rs) (hr : Region.ready md ops l = rs := by kernel_rfl) (hne : rs ≠ [] := by simp) : wpAnyL P md ops Q S E (n + 1) l a w := wpAnyL_ready hr hne h
end
end Go.Proofs.YtfllkaeaanahmaaGreat
