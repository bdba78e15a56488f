/- A region that draws its order in a round of a range over a function: as outside of one. No condition. -/
import Derived.Test.YtcmgnjdhjnclkaaHeld2
import Derived.RangeFuncNested
import Derived.OrdersIn
import Derived.OwnWalkIn
namespace Go.Proofs.Ytcmgnjdhjnclkaa
set_option linter.unusedVariables false
set_option linter.unusedSimpArgs false
open Go.RowKit
theorem wpIn_of_wp {n : Nat} {P : Program} {o : Oper} {a : Act} {w : World} {K : Act → World → Prop} {Q : Exit → Act → World → Prop} (hnd : ∀ c, o.op ≠ .defer c) (h : o.wp P a w K Q) {F : Fence} (hF : F = Fence.wide) : o.wpIn F n P a w K Q := by
  subst hF
  unfold Oper.wpIn
  rw [Oper.semAt_plain _ _ _ hnd]
  refine ⟨fun _ _ => trivial, ?_⟩
  unfold Oper.wp at h
  generalize (execOp a.eval o).run P w = r at h ⊢
  cases r with
  | ok x w' =>
    cases x with
    | value v => exact h
    | skip => exact h
    | defer d => exact h
    | enter f args => exact ⟨fun e => (by cases e), callsIn_wide.2 h⟩
    | row s args => exact ⟨fun e => (by cases e), fun c cs _ => (h c cs).imp fun v hv => hv.imp fun w2 hw => ⟨hw.1, stepsIn_wide.2 hw.2⟩⟩
    | _ => exact h.elim
  | halt x w' => cases x <;> exact h
theorem wpOpIn_round' {n : Nat} {P : Program} {l : Nat} {o : Oper} {a : Act} {w : World} {K : Act → World → Prop} {Q : Exit → Act → World → Prop} (hnd : ∀ c, o.op ≠ .defer c) (h : o.wpIn Fence.wide n P a w K Q) : o.wpIn (Fence.wide.inRound l) n P a w K Q := by
  unfold Oper.wpIn at h ⊢
  rw [Oper.semAt_plain _ _ _ hnd] at h ⊢
  refine ⟨h.1, ?_⟩
  have h2 := h.2
  generalize (execOp a.eval o).run P w = r at h2 ⊢
  cases r with
  | ok x w' => cases x <;> exact h2
  | halt x w' => cases x <;> exact h2
theorem wpOpsIn_of_wp {n : Nat} {P : Program} {l : Nat} {ops : Array Oper} {Q : Exit → Act → World → Prop} (hno : ¬ LetsOut Q) (hnd : ∀ (i : Nat) (o : Oper) c, ops[i]? = some o → o.op ≠ .defer c) : ∀ (is : List Nat) (a : Act) (w : World), wpOps P ops Q is a w → wpOpsIn (Fence.wide.inRound l) n P ops Q is a w
  | [], _, _, h => h
  | i :: is, a, w, h => by
    rw [wpOpsIn_cons]
    rw [wpOps_cons] at h
    have h1 := wpOp_mono (fun a w => wpOpsIn_of_wp (l := l) (n := n) hno hnd is a w) h
    unfold wpOp at h1
    unfold wpOpIn
    cases ho : ops[i]? with
    | none => rw [ho] at h1; exact h1
    | some o =>
      rw [ho] at h1
      simp only at h1 ⊢
      split
      · next hw => rw [if_pos hw] at h1; exact wpOpIn_round' (fun c => hnd i o c ho) (wpIn_of_wp (fun c => hnd i o c ho) (h1.resolve_right (fun h => hno h.2)) rfl)
      · next hw => rw [if_neg hw] at h1; exact ⟨fun _ _ => trivial, h1⟩
def isDef (o : Oper) : Bool := match o.op with | .defer _ => true | _ => false
theorem noDef {ops : Array Oper} (h : ops.all (fun o => !isDef o) = true) : ∀ (i : Nat) (o : Oper) c, ops[i]? = some o → o.op ≠ .defer c := by
  intro i o c ho hd
  rw [Array.all_eq_true] at h
  obtain ⟨hi, he⟩ := Array.getElem?_eq_some_iff.1 ho
  have := h i hi
  rw [he] at this
  simp [isDef, hd] at this
theorem wpIn_any_round {n : Nat} {P : Program} {l id : Nat} {ops : Array Oper} {Q : Exit → Act → World → Prop} {a : Act} {w : World} (hm : P.follows .mixedOrders = true) (hno : ¬ LetsOut Q) (hnd : ops.all (fun o => !isDef o) = true)
    (h : wpAny P .any ops Q ops.size (Array.replicate ops.size false) a w.drew) : (Code.region id ops true).wpIn (Fence.wide.inRound l) n P Q a w :=
  wpIn_region_draw fun t => by
    simp only [Region.schedule, hm, Bool.true_or, if_true]
    exact wpOpsIn_of_wp hno (noDef hnd) _ _ _ (wpAny_sound ops.size t _ a _ h)
theorem wpIn_late_round {n : Nat} {P : Program} {l id : Nat} {ops : Array Oper} {Q : Exit → Act → World → Prop} {a : Act} {w : World} (S : World → Prop) (E : List Nat) (hm : P.follows .mixedOrders = true) (hno : ¬ LetsOut Q) (hnd : ops.all (fun o => !isDef o) = true) (hS : S w.drew)
    (h : S w.drew → wpAnyL P .any ops Q S E ops.size (Array.replicate ops.size false) a w.drew) : (Code.region id ops true).wpIn (Fence.wide.inRound l) n P Q a w :=
  wpIn_any_round hm hno hnd (wpAny_of_late _ _ _ _ (h hS))
/-- a post that no panic meets -/
def noPanic (Q : Exit → Act → World → Prop) : Exit → Act → World → Prop
  | .panic _, _, _ => False
  | e, a, w => Q e a w
theorem noPanic_imp {Q : Exit → Act → World → Prop} : ∀ e a w, noPanic Q e a w → Q e a w := fun e a w h => by cases e <;> first | exact h | exact h.elim
theorem wp_noPanic {P : Program} {c : Code} {Q : Exit → Act → World → Prop} {a : Act} {w : World} (h : c.wp P (noPanic Q) a w) : c.wp P Q a w := wp_mono h noPanic_imp
theorem wpIn_noPanic {F : Fence} {n : Nat} {P : Program} {c : Code} {Q : Exit → Act → World → Prop} {a : Act} {w : World} (h : c.wpIn F n P (noPanic Q) a w) : c.wpIn F n P Q a w := wpIn_mono h noPanic_imp
end Go.Proofs.Ytcmgnjdhjnclkaa
