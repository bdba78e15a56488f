/- Joined texts: Inputs1, RevB, Inputs2, InputsE, InputsL, ClimbP, ClimbQ, Inputs3, Inputs4. Conditions: as each part says. -/
import Derived.Test.YtfnbcchmembomaaDoorProveW
namespace Go.Proofs.YtfnbcchmembomaaDoor
set_option linter.unusedVariables false
set_option linter.unusedSimpArgs false
/-! One step of the path of a proof: a walk of digest's inputs$1. -/
section
open Go.RowKit
theorem boolsE : ElemT Tryd.prog 85 4 (.bool false) 1 1 := ⟨Tryd.underlying85, by kernel_rfl, rfl, by decide, by decide⟩
set_option maxRecDepth 100000 in
set_option maxHeartbeats 1000000 in
theorem inputs1_any (a0 a1 a2 a3 : Nat) (B0 bo : Nat) (vo : Value) (k : Nat) (L : List Bool) (hk : k ≤ 1099511627776) (w : World) (hB : B0 ≤ bo) (hbo : Boxed w bo 85 vo) (how : w.ownsRow B0 4 1 vo k (L.map .bool)) :
    Calls Tryd.prog 60 #[.int .i64 (a0 : Int), .int .i64 (a1 : Int), .int .i64 (a2 : Int), .int .i64 (a3 : Int), .pointer (some ⟨bo, 0, none⟩)] w fun e w' => (∃ v, e = .returned v) ∧ ∃ v', Boxed w' bo 85 v' ∧ w'.ownsRow B0 4 1 v' (k + 1) ((L ++ [decide (a2 < a0)]).map .bool) ∧ Below B0 w w' := by
  have hlt := hbo.lt
  have hBw : B0 ≤ w.heap.size := by omega
  have hcell := hbo.cell
  obtain ⟨A0, c0, rfl⟩ := own_slice how
  go_enter Tryd.func60, Tryd.ntmps60
  go_wp2_with (at_builtin; refine wpList_app1 rfl (.tmp 9) (.tmp 13) 85 rfl B0 4 _ 1 boolsE A0 k c0 _ _ rfl rfl how (Below.refl B0 w) rfl (by omega) (Nat.le_refl _) hBw ?_; intro g c4 w4 own4 hb4 hg4; have xo4 := hbo.kept hg4.1 (hbo.not_row (by decide) how); have xoc4 := xo4.cell; have xof4 := xo4.frozen)
  go_end0
  refine ⟨⟨_, rfl⟩, _, Boxed.set _ xo4, ?_, hb4.grown (grownBy_setCell' w4 bo _) (Nat.le_trans hBw hb4.size) (fun j hj => by have hj := Option.some.inj hj; omega)⟩
  rw [List.map_append]
  exact own4.kept (grownBy_setCell' w4 bo _) (.inr (xo4.not_row (by decide) own4).symm)
end
/-! slices.Reverse of bools: a walk of its text. -/
section
open Go.RowKit
/-- what stands at place t when i rounds of the reversal are over -/
def revB (l : List Bool) (i t : Nat) : Bool := if t < i ∨ l.length - i ≤ t then l.getD (l.length - 1 - t) false else l.getD t false
theorem revB_zero (l : List Bool) {t : Nat} (ht : t < l.length) : revB l 0 t = l.getD t false := by unfold revB; rw [if_neg (by omega)]
theorem revB_mid (l : List Bool) {i t : Nat} (h1 : i ≤ t) (h2 : t < l.length - i) : revB l i t = l.getD t false := by unfold revB; rw [if_neg (by omega)]
theorem revB_end (l : List Bool) {i t : Nat} (h : l.length ≤ 2 * i + 1) (ht : t < l.length) : revB l i t = l.reverse.getD t false := by
  have hr : l.reverse.getD t false = l.getD (l.length - 1 - t) false := by
    simp only [List.getD]
    rw [List.getElem?_reverse (by omega)]
  rw [hr]
  unfold revB
  split
  · rfl
  · congr 1; omega
theorem revB_succ (l : List Bool) {i t : Nat} (h : 2 * i + 1 < l.length) : revB l (i + 1) t = if t = i then l.getD (l.length - 1 - i) false else if t = l.length - 1 - i then l.getD i false else revB l i t := by
  unfold revB
  by_cases h1 : t = i
  · subst h1; rw [if_pos (by omega), if_pos rfl]
  · by_cases h2 : t = l.length - 1 - i
    · subst h2; rw [if_pos (by omega), if_neg h1, if_pos rfl]; congr 1; omega
    · rw [if_neg h1, if_neg h2]
      by_cases h3 : t < i ∨ l.length - i ≤ t
      · rw [if_pos h3, if_pos (by omega)]
      · rw [if_neg h3, if_neg (by omega)]
set_option maxRecDepth 100000 in
set_option maxHeartbeats 2000000 in
theorem reverseB_any (n c b : Nat) (l : List Bool) (hl : l.length = n) (hn : 1 ≤ n) (hn2 : n ≤ 1099511627776) (w : World)
    (hE : ∀ t, t < n → w.cell? ⟨b, t, none⟩ = some (.bool (l.getD t false))) (hF : ∀ t, t < n → w.frozen? ⟨b, t, none⟩ = false) :
    Calls Tryd.prog 52 #[.slice (some ⟨b, 0, none⟩) n c] w fun e w' => (∃ v, e = .returned v) ∧ (∀ t, t < n → w'.cell? ⟨b, t, none⟩ = some (.bool (l.reverse.getD t false))) ∧ w.grownBy w' (some b) := by
  have HL := Lib.hid hl
  have HE := Lib.hid hE
  clear hl hE
  go_enter Tryd.func52, Tryd.ntmps52
  go_wp2
  go_loopw [2, 3] (fun u2 u3 wr => ∃ i : Nat, 2 * i ≤ n ∧ u2 = .int .i64 i ∧ u3 = .int .i64 ((n : Int) - 1 - i) ∧ Hid (∀ t, t < n → wr.cell? ⟨b, t, none⟩ = some (.bool (revB l i t))) ∧ Hid (∀ t, t < n → wr.frozen? ⟨b, t, none⟩ = false) ∧ w.grownBy wr (some b))
    (fun u2 _ _ => n - (intOf u2).toNat)
  case atStart => exact ⟨0, by omega, rfl, by simp, fun t ht => by rw [revB_zero l (by rw [HL.out]; exact ht)]; exact HE.out t ht, hF, World.grownBy.refl w _⟩
  case round =>
    clear hF
    obtain ⟨i, hi, rfl, rfl, HE, HF, hg⟩ := hrel
    by_cases hlt : 2 * i + 1 < n
    · obtain ⟨j, hj⟩ : ∃ j, j + 1 + i = n := ⟨n - 1 - i, by omega⟩
      have ej : (n : Int) - 1 - (i : Int) = (j : Int) := by omega
      rw [ej]
      have HJ := Lib.hid hj
      have hji : i < j := by omega
      have hjn : j < n := by omega
      clear ej
      have gi : revB l i i = l.getD i false := revB_mid l (Nat.le_refl _) (by rw [HL.out]; omega)
      have gj : revB l i j = l.getD j false := revB_mid l (by omega) (by rw [HL.out]; omega)
      have ri := HE.out i (by omega)
      have rj := HE.out j hjn
      have fi := HF.out i (by omega)
      have fj := HF.out j hjn
      have hsucc : ∀ t, revB l (i + 1) t = if t = i then revB l i j else if t = j then revB l i i else revB l i t := fun t => by
        rw [revB_succ l (by rw [HL.out]; exact hlt), HL.out, show n - 1 - i = j from by omega, gi, gj]
      have HSU := Lib.hid hsucc
      clear hsucc gi gj hj
      generalize revB l i i = di at *
      generalize revB l i j = dj at *
      have i0 : (0 : Int) ≤ (i : Int) := by omega
      have i1 : (i : Int) < (n : Int) := by omega
      have j0 : (0 : Int) ≤ (j : Int) := by omega
      have j1 : (j : Int) < (n : Int) := by omega
      have hij : (i : Int) < (j : Int) := by omega
      have hne : ¬ i = j := by omega
      have hne2 : ¬ j = i := by omega
      go_wp2
      go_region
      all_goals go_wp2
      all_goals refine ⟨⟨i + 1, by omega, rfl, congrArg _ (by have := HJ.out; push_cast; omega), fun t ht => ?_, fun t ht => ?_, grown_drew (hg.trans ((grown_setCell _ _ _ _).trans (grown_setCell _ _ _ _)))⟩, by simp [intOf]; omega⟩
      · show ((wr.setCell ⟨b, i, none⟩ (.bool dj)).setCell ⟨b, j, none⟩ (.bool di)).cell? ⟨b, t, none⟩ = _
        rw [HSU.out]
        have hoff : ∀ x y : Nat, x ≠ y → (⟨b, x, none⟩ : Addr) ≠ ⟨b, y, none⟩ := fun x y h e => h (congrArg (·.off) e)
        split
        · rename_i e; subst e
          rw [World.cell?_setCell_other _ _ _ _ (hoff _ _ (by omega)), World.cell?_setCell_same _ _ _ ri]
        · split
          · rename_i e; subst e
            rw [World.cell?_setCell_same _ _ _ (by rw [World.cell?_setCell_other _ _ _ _ (hoff _ _ (by omega))]; exact rj)]
          · rename_i e1 e2
            rw [World.cell?_setCell_other _ _ _ _ (hoff _ _ (by omega)), World.cell?_setCell_other _ _ _ _ (hoff _ _ (by omega))]
            exact HE.out t ht
      · have := HF.out t ht
        simpa using this
    · go_wp2
      go_end0
      refine ⟨⟨_, rfl⟩, fun t ht => ?_, hg⟩
      have := HE.out t ht
      rwa [revB_end l (by rw [HL.out]; omega) (by rw [HL.out]; exact ht)] at this
end
/-! The path of a proof: inputs' steps and their reversal. -/
section
open Go.RowKit
theorem heg60 (args : Array Value) (w : World) : (callFunc 60 args).run Tryd.prog w = .ok (.enter 60 args) w := by
  have h1 : Tryd.f60.name = "runtime.NumGoroutine" ↔ False := by simp [Tryd.f60]
  have h2 : Tryd.f60.body = none ↔ False := by simp [Tryd.f60]
  simp [callFunc, h1, h2]
set_option maxRecDepth 100000 in
theorem reverseB_nil (w : World) : Calls Tryd.prog 52 #[.slice none 0 0] w fun e w' => (∃ v, e = .returned v) ∧ w.grownBy w' none := by
  go_enter Tryd.func52, Tryd.ntmps52
  go_wp2
  go_loopw [2, 3] (fun u2 u3 wr => u2 = .int .i64 0 ∧ u3 = .int .i64 (-1) ∧ w.grownBy wr none) (fun _ _ _ => 0)
  case atStart => exact ⟨rfl, rfl, World.grownBy.refl w _⟩
  case round =>
    obtain ⟨rfl, rfl, hg⟩ := hrel
    go_wp2
    go_end0
    exact ⟨⟨_, rfl⟩, hg⟩
/-- what holds of a reversed row of bools -/
theorem reverseB_own (w : World) (vo : Value) (m : Nat) (L : List Bool) (hm : L.length = m) (hm2 : m ≤ 1099511627776) (base : Nat) (how : w.ownsRow base 4 1 vo m (L.map .bool)) (hnil : m = 0 → vo = .slice none 0 0) :
    Calls Tryd.prog 52 #[vo] w fun e w' => (∃ v, e = .returned v) ∧ w.grownBy w' vo.ownBlock ∧ ∃ A' c', vo = .slice A' m c' ∧ (0 < m → ∃ g, A' = some ⟨g, 0, none⟩ ∧ base ≤ g ∧ g < w'.heap.size ∧ ∀ t, t < m → w'.cell? ⟨g, t, none⟩ = some (.bool (L.reverse.getD t false))) := by
  rcases Nat.eq_zero_or_pos m with h0 | h1
  · have hv := hnil h0
    subst hv h0
    refine (reverseB_nil w).mono ?_
    rintro e w' ⟨hv, hg⟩
    exact ⟨hv, hg, none, 0, rfl, fun h => absurd h (by omega)⟩
  · rcases how.2 with ⟨_, h⟩ | ⟨g, cap, cur, rfl, hb, hgb, hn, hcm, _⟩
    · omega
    · have hlt := (Array.getElem?_eq_some_iff.1 hgb).1
      have rd := Rd.of_own how
      have hE : ∀ t, t < m → w.cell? ⟨g, t, none⟩ = some (.bool (L.getD t false)) := fun t ht => by
        obtain ⟨b', off', e, _, hc⟩ := rd.get (k := t) (by rw [hm]; exact ht)
        have e := Option.some.inj e
        have eb : g = b' := congrArg (·.block) e
        have eo : 0 = off' := congrArg (·.off) e
        subst eb eo
        rw [Nat.zero_add] at hc
        rw [hc]
        simp only [List.getD]
        rw [List.getElem?_eq_getElem (by rw [hm]; exact ht)]
        rfl
      refine (reverseB_any m cap g L hm h1 hm2 w hE (fun t _ => how.frozenAt t)).mono ?_
      rintro e w' ⟨hv, hE', hg⟩
      exact ⟨hv, hg, some ⟨g, 0, none⟩, cap, rfl, fun _ => ⟨g, rfl, hb, by have := hg.size; omega, hE'⟩⟩
/-- does the sibling lie on the left -/
def Mk.left (s : Mk.Step) : Bool := decide (s.2.2.1 < s.1)
def InputsJ (w : World) (bo : Nat) (pre : List Mk.Step) (W : World) : Prop :=
  ∃ vo, (pre = [] → vo = .slice none 0 0) ∧ Boxed W bo 85 vo ∧ W.ownsRow w.heap.size 4 1 vo pre.length ((pre.map Mk.left).map .bool) ∧ Below w.heap.size w W
theorem inputs_step (n i : Nat) (hn : n ≤ 9223372036854775807) (w : World) (bo : Nat) (hbo : w.heap.size ≤ bo) (pre : List Mk.Step) (s : Mk.Step) (rest : List Mk.Step) (W : World) (hs : Mk.steps 0 n i = pre ++ s :: rest) (hJ : InputsJ w bo pre W) :
    Calls Tryd.prog 60 (stepArgs s ++ #[.pointer (some ⟨bo, 0, none⟩)]) W fun e W' => (∃ v, e = .returned v) ∧ InputsJ w bo (pre ++ [s]) W' := by
  obtain ⟨vo, _, xo, own, hv⟩ := hJ
  have hpl : pre.length < 64 := by
    have : (Mk.steps 0 n i).length ≤ 63 := Mk.steps_63 0 n i hn
    rw [hs, List.length_append, List.length_cons] at this; omega
  refine (inputs1_any s.1 s.2.1 s.2.2.1 s.2.2.2 w.heap.size bo vo pre.length (pre.map Mk.left) (by omega) W hbo xo own).mono ?_
  rintro e W' ⟨hv', v', xo', own', b'⟩
  refine ⟨hv', v', fun h => by simp at h, xo', ?_, hv.trans b'⟩
  rw [List.map_append, List.length_append]
  exact own'
end
/-! digest.inputs where there is no such element. -/
section
open Go.RowKit
set_option maxRecDepth 100000 in
set_option maxHeartbeats 1000000 in
theorem inputs_out (n i : Int) (hi : i < 0 ∨ n ≤ i) (d : List UInt8) (hd : d.length = 16) (P : Value) (w : World) :
    Calls Tryd.prog 49 #[.int .i64 n, .int .i64 i, dv d, P] w fun e w' => e = .returned (.slice none 0 0) ∧ Below w.heap.size w w' := by
  have hb1 : Below w.heap.size w (w.alloc (.cells (bvs d).toArray 30)) := (Below.refl _ w).alloc (Nat.le_refl _) _
  by_cases h0 : i < 0
  · go_enter Tryd.func49, Tryd.ntmps49
    go_wp2
    exact bodyPost_ret (results_tmp rfl _ _ _) rfl ⟨rfl, hb1⟩
  · have h1 : 0 ≤ i := by omega
    have h2 : n ≤ i := by omega
    go_enter Tryd.func49, Tryd.ntmps49
    go_wp2
    exact bodyPost_ret (results_tmp rfl _ _ _) rfl ⟨rfl, hb1⟩
end
/-! digest.inputs where the proof has another length. -/
section
open Go.RowKit
set_option maxRecDepth 100000 in
set_option maxHeartbeats 1000000 in
theorem inputs_len (n i : Nat) (hi : i < n) (hn : n ≤ 9223372036854775807) (d : List UInt8) (A : Option Addr) (m c : Nat) (hm : m ≠ (Mk.steps 0 n i).length) (w : World) :
    Calls Tryd.prog 49 #[.int .i64 (n : Int), .int .i64 (i : Int), dv d, .slice A m c] w fun e w' => e = .returned (.slice none 0 0) ∧ Below w.heap.size w w' := by
  have i0 : ¬ ((i : Int) < 0) := by omega
  have i1 : (i : Int) < (n : Int) := by omega
  have hW1 : InputsJ w (w.heap.size + 1) [] ((w.alloc (.cells (bvs d).toArray 30)).alloc (.cells #[.slice none 0 0] 85)) :=
    ⟨_, fun _ => rfl, by have := Boxed.new (w.alloc (.cells (bvs d).toArray 30)) 85 (.slice none 0 0); rwa [alloc_size1] at this, ⟨rfl, .inl ⟨rfl, rfl⟩⟩, ((Below.refl _ w).alloc (Nat.le_refl _) _).alloc (by rw [alloc_size1]; exact Nat.le_succ _) _⟩
  have HD := Lib.hid (fun W h => descend_any n i hi hn 60 heg60 #[.pointer (some ⟨w.heap.size + 1, 0, none⟩)] (InputsJ w (w.heap.size + 1)) W (fun pre s rest W h1 h2 => inputs_step n i hn w (w.heap.size + 1) (by omega) pre s rest W h1 h2) h)
  generalize Mk.steps 0 n i = ss at *
  have hml : ¬ (ss.length = m) := fun h => hm h.symm
  go_enter Tryd.func49, Tryd.ntmps49
  go_wp2_with (go_at_call 39; refine (HD.out _ hW1).mono ?_; rintro e w2 ⟨⟨v2, rfl⟩, vo, hnil, xo, own, b2⟩; have xoc := xo.cell; obtain ⟨A2, c2, rfl⟩ := own_slice own)
  exact bodyPost_ret (results_tmp rfl _ _ _) rfl ⟨rfl, b2⟩
end
/-! The proof of an element leads to the root: plain Lean. No condition. -/
section
namespace Mk
/-- up a path: from an input, by siblings and their sides -/
def climb (x : List UInt8) : List (Bool × List UInt8) → List UInt8
  | [] => x
  | s :: r => climb (if s.1 then node s.2 (short x) else node (short x) s.2) r
theorem climb_append (x : List UInt8) (a b : List (Bool × List UInt8)) : climb x (a ++ b) = climb (climb x a) b := by
  induction a generalizing x with
  | nil => rfl
  | cons s a ih => exact ih _
theorem cut_take (l : List (List UInt8)) (a n k : Nat) (h : k ≤ n) : ((l.drop a).take n).take k = (l.drop a).take k := by rw [List.take_take, Nat.min_eq_left h]
theorem cut_drop (l : List (List UInt8)) (a n k : Nat) : ((l.drop a).take n).drop k = (l.drop (a + k)).take (n - k) := by rw [List.drop_take, List.drop_drop]
theorem climb_root (l : List (List UInt8)) : ∀ (f at_ n i : Nat), n ≤ f → i < n → at_ + n ≤ l.length →
    short (climb (leaf (l.getD (at_ + i) [])) ((stepsF f at_ n i).map fun s => (left s, sib l s)).reverse) = root ((l.drop at_).take n)
  | 0, _, n, _, h, hi, _ => by omega
  | f + 1, at_, n, i, hf, hi, hl => by
    unfold stepsF
    by_cases h1 : n ≤ 1
    · have hn : n = 1 := by omega
      have hi0 : i = 0 := by omega
      subst hn hi0
      rw [if_pos h1]
      have : (l.drop at_).take 1 = [l.getD (at_ + 0) []] := by
        rw [Nat.add_zero, List.getD, List.getElem?_eq_getElem (by omega), List.drop_eq_getElem_cons (by omega)]
        rfl
      rw [this]
      simp [climb, root_one]
    · have h2 := split_lt (n := n) (by omega)
      have h3 := split_pos n
      have hlen : ((l.drop at_).take n).length = n := by rw [List.length_take, List.length_drop]; omega
      have hr := root_more (l := (l.drop at_).take n) (by rw [hlen]; omega)
      rw [hlen, cut_take l at_ n _ (by omega), cut_drop] at hr
      rw [if_neg h1, hr]
      by_cases hlt : i < split n
      · rw [if_pos hlt, List.map_cons, List.reverse_cons, climb_append]
        have ih := climb_root l f at_ (split n) i (by omega) hlt (by omega)
        have hs : left (at_, split n, at_ + split n, n - split n) = false := by simp [left]
        rw [hs, ← ih]
        rfl
      · rw [if_neg hlt, List.map_cons, List.reverse_cons, climb_append]
        have ih := climb_root l f (at_ + split n) (n - split n) (i - split n) (by omega) (by omega) (by omega)
        rw [show at_ + split n + (i - split n) = at_ + i from by omega] at ih
        have hs : left (at_ + split n, n - split n, at_, split n) = true := by simp [left]; omega
        rw [hs, ← ih]
        rfl
/-- the sides of the siblings, from the leaf up -/
def sides (n i : Nat) : List Bool := ((steps 0 n i).map left).reverse
theorem sides_len (l : List (List UInt8)) (i : Nat) : (sides l.length i).length = (prove l i).length := by simp [sides, prove]
/-- THE LAW: the proof of an element is accepted. -/
theorem prove_root (l : List (List UInt8)) (i : Nat) (hi : i < l.length) : short (climb (leaf (l.getD i [])) ((sides l.length i).zip (prove l i))) = root l := by
  have h := climb_root l l.length 0 l.length i (Nat.le_refl _) hi (by omega)
  rw [Nat.zero_add, List.drop_zero, List.take_length] at h
  rw [← h]
  unfold sides prove
  have e : ∀ L : List Step, ((L.map left).reverse).zip ((L.map (sib l)).reverse) = (L.map fun s => (left s, sib l s)).reverse := fun L => by
    rw [← List.map_reverse, ← List.map_reverse, ← List.map_reverse]
    generalize L.reverse = R
    induction R with
    | nil => rfl
    | cons a R ih => simp [ih]
  rw [e]
  rfl
end Mk
end
/-! Rounds of a climb. No condition. -/
section
namespace Mk
/-- one round -/
def up (x : List UInt8) (s : Bool × List UInt8) : List UInt8 := if s.1 then node s.2 (short x) else node (short x) s.2
theorem climb_step (x : List UInt8) (L : List (Bool × List UInt8)) (k : Nat) (hk : k < L.length) : climb x (L.take (k + 1)) = up (climb x (L.take k)) L[k] := by
  rw [← List.take_append_getElem hk, climb_append]
  rfl
theorem climb_zip (x : List UInt8) (a : List Bool) (b : List (List UInt8)) (k : Nat) (ha : k < a.length) (hb : k < b.length) : climb x ((a.zip b).take (k + 1)) = up (climb x ((a.zip b).take k)) (a.getD k false, b.getD k []) := by
  rw [climb_step _ _ k (by rw [List.length_zip]; omega), List.getElem_zip, List.getD, List.getD, List.getElem?_eq_getElem ha, List.getElem?_eq_getElem hb]
  rfl
theorem climb_done (x : List UInt8) (a : List Bool) (b : List (List UInt8)) (k : Nat) (hb : b.length ≤ k) : climb x ((a.zip b).take k) = climb x (a.zip b) := by
  rw [List.take_of_length_le (by rw [List.length_zip]; omega)]
theorem up_le (x : List UInt8) (s : Bool × List UInt8) (hs : s.2.length = 16) : (up x s).length ≤ 1000 := by
  unfold up
  split
  · exact node_le _ _ hs (short_len _)
  · exact node_le _ _ (short_len _) hs
theorem climb_le (d : List UInt8) (hd : d.length = 16) (a : List Bool) (b : List (List UInt8)) (hb : D16 b) : ∀ k, k ≤ a.length → k ≤ b.length → (climb (leaf d) ((a.zip b).take k)).length ≤ 1000
  | 0, _, _ => by rw [List.take_zero]; exact leaf_le d hd
  | k + 1, h1, h2 => by
    rw [climb_zip _ a b k (by omega) (by omega)]
    refine up_le _ _ ?_
    simp only [List.getD]
    rw [List.getElem?_eq_getElem (by omega)]
    exact hb _ (List.getElem_mem (by omega))
end Mk
end
/-! digest.inputs in full: a walk of its text. -/
section
open Go.RowKit
theorem slicesE : ElemT Tryd.prog 48 22 (.slice none 0 0) 1 24 := ⟨Tryd.underlying48, by kernel_rfl, rfl, by decide, by decide⟩
theorem ob_eq (A : Option Addr) (n c : Nat) : (Value.slice A n c).ownBlock = (Value.slice A 0 0).ownBlock := by cases A <;> rfl
/-- a row of byte slices, each of which reads as a list and lies outside the row's own block -/
def RowsJ (w : World) (A : Option Addr) (xs : List Value) (L : List (List UInt8)) : Prop :=
  xs.length = L.length ∧ ∀ (j : Nat) (l : List UInt8), L[j]? = some l → ∃ (A' : Option Addr) (N' c' : Nat), xs[j]? = some (Value.slice A' N' c') ∧ N' = l.length ∧ Rd w w.heap.size 1 A' N' (bvs l) ∧ ∀ a, A' = some a → a.block < w.heap.size ∧ some a.block ≠ (Value.slice A 0 0).ownBlock
theorem RowsJ.below {w w' : World} {A : Option Addr} {xs : List Value} {L : List (List UInt8)} (h : RowsJ w A xs L) (hb : Below w.heap.size w w') : RowsJ w' A xs L :=
  ⟨h.1, fun j l hl => by
    obtain ⟨A', N', c', h1, h2, h3, h4⟩ := h.2 j l hl
    have := hb.size
    exact ⟨A', N', c', h1, h2, (h3.below hb).more this, fun a ha => ⟨by have := (h4 a ha).1; omega, (h4 a ha).2⟩⟩⟩
theorem RowsJ.push {w w' : World} {A An : Option Addr} {xs : List Value} {L : List (List UInt8)} {g n c0 N cn : Nat} {l : List UInt8} (h : RowsJ w A xs L) (hg : w.grownBy w' (Value.slice A n c0).ownBlock)
    (hA : A = some ⟨g, 0, none⟩ ∨ w.heap.size ≤ g) (hN : N = l.length) (hr : Rd w w.heap.size 1 An N (bvs l)) (hn : ∀ a, An = some a → a.block < w.heap.size ∧ some a.block ≠ (Value.slice A 0 0).ownBlock) : RowsJ w' (some ⟨g, 0, none⟩) (xs ++ [.slice An N cn]) (L ++ [l]) := by
  have hsz := hg.size
  have key : ∀ (A' : Option Addr) (N' : Nat) (l' : List UInt8), Rd w w.heap.size 1 A' N' (bvs l') → (∀ a, A' = some a → a.block < w.heap.size ∧ some a.block ≠ (Value.slice A 0 0).ownBlock) →
      Rd w' w'.heap.size 1 A' N' (bvs l') ∧ ∀ a, A' = some a → a.block < w'.heap.size ∧ some a.block ≠ (Value.slice (some ⟨g, 0, none⟩) 0 0).ownBlock := fun A' N' l' h1 h2 => by
    refine ⟨(h1.grown_far hg (Nat.le_refl _) (fun a ha => by rw [ob_eq]; exact (h2 a ha).2)).more hsz, fun a ha => ?_⟩
    have h3 := h2 a ha
    refine ⟨by omega, ?_⟩
    rcases hA with hA | hA
    · rw [← hA]; exact h3.2
    · intro e
      have : a.block = g := by simpa [Value.ownBlock] using e
      omega
  refine ⟨by simp [h.1], fun j l' hl => ?_⟩
  rcases Nat.lt_or_ge j L.length with hj | hj
  · rw [List.getElem?_append_left hj] at hl
    obtain ⟨A', N', c', h1, h2, h3, h4⟩ := h.2 j l' hl
    obtain ⟨h5, h6⟩ := key A' N' l' h3 h4
    exact ⟨A', N', c', by rw [List.getElem?_append_left (by rw [h.1]; exact hj)]; exact h1, h2, h5, h6⟩
  · rw [List.getElem?_append_right hj] at hl
    have hj0 : j - L.length = 0 := by
      rcases Nat.eq_zero_or_pos (j - L.length) with h0 | h0
      · exact h0
      · rw [List.getElem?_eq_none (by simp; omega)] at hl; cases hl
    rw [hj0] at hl
    obtain rfl : l = l' := by simpa using hl
    obtain ⟨h5, h6⟩ := key An N l hr hn
    exact ⟨An, N, cn, by rw [List.getElem?_append_right (by rw [h.1]; exact hj), h.1, hj0]; rfl, hN, h5, h6⟩
namespace Mk
/-- the inputs of a proof: the leaf's and one a step -/
def ins (d : List UInt8) (sd : List Bool) (pr : List (List UInt8)) (k : Nat) : List (List UInt8) := (List.range (k + 1)).map fun j => climb (leaf d) ((sd.zip pr).take j)
theorem ins_zero (d : List UInt8) (sd : List Bool) (pr : List (List UInt8)) : ins d sd pr 0 = [leaf d] := by simp [ins, climb]
theorem ins_len (d : List UInt8) (sd : List Bool) (pr : List (List UInt8)) (k : Nat) : (ins d sd pr k).length = k + 1 := by simp [ins]
theorem ins_get (d : List UInt8) (sd : List Bool) (pr : List (List UInt8)) (k j : Nat) (hj : j ≤ k) : (ins d sd pr k)[j]? = some (climb (leaf d) ((sd.zip pr).take j)) := by
  have : j < k + 1 := by omega
  simp [ins, List.getElem?_range this]
theorem ins_succ (d : List UInt8) (sd : List Bool) (pr : List (List UInt8)) (k : Nat) (ha : k < sd.length) (hb : k < pr.length) : ins d sd pr (k + 1) = ins d sd pr k ++ [up (climb (leaf d) ((sd.zip pr).take k)) (sd.getD k false, pr.getD k [])] := by
  rw [← climb_zip _ _ _ _ ha hb]
  simp [ins, List.range_succ]
end Mk
end
/-! digest.inputs in full: a walk of its text. -/
section
open Go.RowKit
set_option maxRecDepth 100000 in
set_option maxHeartbeats 2000000 in
theorem inputs_any (n i : Nat) (hi : i < n) (hn : n ≤ 9223372036854775807) (d : List UInt8) (hd : d.length = 16) (A : Option Addr) (m c : Nat) (proof : List (List UInt8)) (hpl : proof.length = m) (hp : D16 proof) (hm : m = (Mk.steps 0 n i).length) (B : Nat) (w : World) (hr : Rd w B 16 A m (dvs proof)) (hB : B ≤ w.heap.size) (hT : Tabs w) :
    Calls Tryd.prog 49 #[.int .i64 (n : Int), .int .i64 (i : Int), dv d, .slice A m c] w fun e w' => ∃ A' c' xs, e = .returned (.slice A' (m + 1) c') ∧ Below w.heap.size w w' ∧ w'.ownsRow w.heap.size 22 1 (.slice A' (m + 1) c') (m + 1) xs ∧ RowsJ w' A' xs (Mk.ins d (Mk.sides n i) proof m) := by
  obtain ⟨N, hN⟩ : ∃ N, (Mk.leaf d).length = N := ⟨_, rfl⟩
  have HN := Lib.hid hN
  clear hN
  have i0 : ¬ ((i : Int) < 0) := by omega
  have i1 : (i : Int) < (n : Int) := by omega
  have z0 := alloc_size1 w (.cells (bvs d).toArray 30)
  have r0 : IsRow (w.alloc (.cells (bvs d).toArray 30)) w.heap.size 30 (bvs d) := World.alloc_heap_new w _
  have hb0 : Below w.heap.size w (w.alloc (.cells (bvs d).toArray 30)) := (Below.refl _ w).alloc (Nat.le_refl _) _
  have hW1 : InputsJ (w.alloc (.cells (bvs d).toArray 30)) (w.heap.size + 1) [] ((w.alloc (.cells (bvs d).toArray 30)).alloc (.cells #[.slice none 0 0] 85)) :=
    ⟨_, fun _ => rfl, by have := Boxed.new (w.alloc (.cells (bvs d).toArray 30)) 85 (.slice none 0 0); rwa [alloc_size1] at this, ⟨rfl, .inl ⟨rfl, rfl⟩⟩, (Below.refl _ _).alloc (Nat.le_refl _) _⟩
  have HD := Lib.hid (fun W h => descend_any n i hi hn 60 heg60 #[.pointer (some ⟨w.heap.size + 1, 0, none⟩)] (InputsJ (w.alloc (.cells (bvs d).toArray 30)) (w.heap.size + 1)) W (fun pre s rest W h1 h2 => inputs_step n i hn (w.alloc (.cells (bvs d).toArray 30)) (w.heap.size + 1) (by omega) pre s rest W h1 h2) h)
  have hlen : (Mk.steps 0 n i).length ≤ 63 := Mk.steps_63 0 n i hn
  have HSD : Hid (Mk.sides n i = ((Mk.steps 0 n i).map Mk.left).reverse) := Lib.hid rfl
  generalize Mk.sides n i = sd at *
  generalize Mk.steps 0 n i = ss at *
  subst hm
  have HSL : Hid (sd.length = ss.length) := Lib.hid (by rw [HSD.out]; simp)
  have HPL := Lib.hid hpl
  have HLEN := Lib.hid hlen
  clear hlen hpl
  go_enter Tryd.func49, Tryd.ntmps49
  go_wp2_with (first
    | (go_at_call 39; refine (HD.out _ hW1).mono ?_; rintro e w2 ⟨⟨v2, rfl⟩, vo, hnil, xo, own, b2⟩; have xoc := xo.cell; obtain ⟨A2, c2, rfl⟩ := own_slice own; have r2 := r0.below' b2; have HB2 := Lib.hid (hb0.trans (b2.mono (by omega))))
    | (go_at_call 52; refine (reverseB_own w2 _ ss.length (ss.map Mk.left) (by simp) (by have := HLEN.out; omega) _ own (fun h => hnil (List.eq_nil_of_length_eq_zero h))).mono ?_; rintro e w3 ⟨⟨v3, rfl⟩, g3, A3, c3, he, hbits⟩; cases he; have xo3 := xo.kept g3 (xo.not_row (by decide) own); have xoc3 := xo3.cell; have r3 : IsRow w3 w.heap.size 30 (bvs d) := (g3.block w.heap.size (by have := b2.size; omega) (fun e => by have := (own.lt _ e.symm).1; omega)).trans r2; have HB3 := Lib.hid (HB2.out.grown g3 HB2.out.size (fun j hj => by have := (own.lt j hj).1; omega)); clear xoc)
    | (refine wpList_loadRow rfl _ (.tmp 6) rfl r3 rfl Tryd.underlying30 (by rw [bvs_len, hd]; exact size16) ?_)
    | (go_at_call 45; refine (leaf_any d hd w3 N HN.out).mono ?_; rintro e w4 ⟨A4, c4, rfl, own4, b4⟩; have xo4 := box_old xo3 b4; have xoc4 := xo4.cell)
    | fail)
  go_loopw [10, 37] (fun u10 u37 wr => ∃ (k : Nat) (A5 : Option Addr) (c5 : Nat) (xs : List Value), k ≤ ss.length ∧ u37 = .int .i64 k ∧ u10 = .slice A5 (k + 1) c5 ∧ wr.ownsRow w4.heap.size 22 1 (.slice A5 (k + 1) c5) (k + 1) xs ∧ Hid (RowsJ wr A5 xs (Mk.ins d sd proof k)) ∧
    Boxed wr (w.heap.size + 1) 85 (.slice A2 ss.length c2) ∧ Hid (Below w.heap.size w wr) ∧ Hid (∀ g t, A2 = some ⟨g, 0, none⟩ → t < ss.length → wr.cell? ⟨g, t, none⟩ = some (.bool (sd.getD t false)) ∧ g < w4.heap.size))
    (fun _ u37 _ => ss.length - (intOf u37).toNat)
  case atStart =>
    have hz4 := b4.size
    have hz3 := HB3.out.size
    have hzb := xo4.lt
    refine ⟨0, some ⟨w4.heap.size, 0, none⟩, 1, [.slice A4 N c4], by omega, rfl, rfl, own_one w4 _ _ _ (Nat.le_refl _), Lib.hid ⟨rfl, ?_⟩, xo4.alloc _, Lib.hid ((HB3.out.trans (b4.mono hz3)).alloc (by omega) _), Lib.hid fun g t hA ht => ?_⟩
    · intro j l hl
      rw [Mk.ins_zero] at hl
      have hj : j = 0 := by
        rcases Nat.eq_zero_or_pos j with h0 | h0
        · exact h0
        · rw [List.getElem?_eq_none (by simp; omega)] at hl; cases hl
      subst hj
      obtain rfl : Mk.leaf d = l := by simpa using hl
      refine ⟨A4, N, c4, rfl, HN.out.symm, ((Rd.of_own own4).alloc (Nat.le_refl _) _).more (by rw [alloc_size1]; omega), fun a ha => ?_⟩
      have := own_block_lt own4 a ha
      refine ⟨by rw [alloc_size1]; omega, fun e => ?_⟩
      have : a.block = w4.heap.size := by simpa [Value.ownBlock] using e
      omega
    · obtain ⟨g', hA', hg1, hg2, hc⟩ := hbits (by omega)
      have e := Option.some.inj (hA.symm.trans hA')
      have eg : g = g' := congrArg (·.block) e
      subst eg
      refine ⟨?_, by omega⟩
      rw [World.cell?_alloc_lt _ _ _ (show g < w4.heap.size by omega), b4.cell (p := ⟨g, t, none⟩) hg2, HSD.out]
      exact hc t ht
  case round =>
    obtain ⟨k, A5, c5, xs, hk, rfl, rfl, own5, HR, xb, HB, HC⟩ := hrel
    by_cases hkl : k < ss.length
    · obtain ⟨gb, hA2, hg1, hg2, _⟩ := hbits (by omega)
      subst hA2
      obtain ⟨bp, offp, rfl, hbp, _⟩ := hr.2 (by omega)
      have hp16 : (proof.getD k []).length = 16 := by
        simp only [List.getD]
        rw [List.getElem?_eq_getElem (by rw [HPL.out]; exact hkl)]
        exact hp _ (List.getElem_mem _)
      have hrg : wr.rangeAt bp (offp + k * 16) (bvs (proof.getD k [])) := fun j v hv => (HB.out.cell (p := ⟨bp, _, none⟩) (show bp < w.heap.size by omega)).trans (Rd.ranges hp HPL.out hr k hkl j v hv)
      have HINS := Lib.hid (Mk.ins_succ d sd proof k (by rw [HSL.out]; exact hkl) (by rw [HPL.out]; exact hkl))
      have hc1 := (HC.out gb k rfl hkl).1
      have hgbl := (HC.out gb k rfl hkl).2
      obtain ⟨A', N', cN, hx, hNl, rdk, _⟩ := HR.out.2 k _ (Mk.ins_get d sd proof k k (Nat.le_refl _))
      have hle : (Mk.climb (Mk.leaf d) ((sd.zip proof).take k)).length ≤ 1000 := Mk.climb_le d hd sd proof hp k (by rw [HSL.out]; omega) (by rw [HPL.out]; omega)
      generalize Mk.climb (Mk.leaf d) ((sd.zip proof).take k) = x at *
      generalize proof.getD k [] = p at *
      generalize sd.getD k false = bit at *
      obtain ⟨g5, off5, hA5, hgb5, hc5⟩ := (Rd.of_own own5).2 (by omega)
      have hck := hc5 k _ hx
      have hA5' := hA5
      subst hA5
      have h5lt : w4.heap.size ≤ g5 ∧ g5 < wr.heap.size := own5.lt g5 rfl
      have hgbw : gb < wr.heap.size := by omega
      have HKL := Lib.hid hkl
      have hk63 : k ≤ 63 := by have := HLEN.out; omega
      have HSX := Lib.hid (Mk.short_len x)
      have HTB := Lib.hid (fun (v : World) (h : Below wr.heap.size wr v) => (hT.below HB.out).below h)
      obtain ⟨Nn, hNn⟩ : ∃ Nn, (Mk.up x (bit, p)).length = Nn := ⟨_, rfl⟩
      have HNn := Lib.hid hNn
      have HNL := Lib.hid hNl
      have hw4 : w.heap.size ≤ w4.heap.size := by have := HB3.out.size; have := b4.size; omega
      clear hNn hx hc5 hA5' hgbl hNl
      cases bit with
      | true =>
          go_wp2_with (first
            | (refine wpList_load_mid rfl _ (.tmp 40) rfl bp (offp + k * 16) rfl (bvs p) _ hrg Tryd.underlying30 rfl (by rw [bvs_len, hp16]; exact size16) ?_)
            | (have tok := q3; refine wpList_allocRow rfl _ rfl _ info16 ?_; intro v4 r4 q4 z4; have Q4 := Q3.trans (q4.mono Q3.size); have rp4 := r3.below' q4; clear tok q3 z4)
            | (refine wpList_allocRow rfl _ rfl _ info16 ?_; intro v1 r1 q1 z1; clear z1)
            | (refine wpList_storeRow rfl _ (.tmp 12) (.tmp 41) rfl r1 rfl rfl (by rw [bvs_len, hp16]; exact size16) (by rw [bvs_len, List.length_replicate]; exact hp16.symm) (bvs_all _) ?_; intro v2 r2 g2 z2; have Q2 : Below wr.heap.size wr v2 := q1.grown g2 q1.size (by intro j hj; have hj := Option.some.inj hj; omega); have c2k := (Q2.cell (p := ⟨g5, off5 + k, none⟩) hgb5).trans hck; have rd2 := rdk.below Q2; clear z2)
            | (go_at_call 36; refine (short_any A' N' cN x HNL.out.symm (by have := HNL.out; omega) _ v2 rd2 Q2.size (HTB.out v2 Q2)).mono ?_; rintro e v3 ⟨rfl, q3⟩; have Q3 := Q2.trans (q3.mono Q2.size); have r3 := r2.below' q3)
            | (refine wpList_storeRow rfl _ (.tmp 13) (.tmp 46) rfl r4 rfl rfl (by rw [bvs_len, HSX.out]; exact size16) (by rw [bvs_len, List.length_replicate]; exact HSX.out.symm) (bvs_all _) ?_; intro v5 r5 g5' z5; have Q5 : Below wr.heap.size wr v5 := Q4.grown g5' Q4.size (by intro j hj; have hj := Option.some.inj hj; have := Q3.size; omega); have rp5 := rp4.grown g5' (fun e => by have := Option.some.inj e; have := r3.lt; omega); have xb5 := box_old xb Q5; have xc5 := xb5.cell; have cb5 := (Q5.cell (p := ⟨gb, k, none⟩) hgbw).trans hc1; clear z5)
            | (refine wpList_loadRow rfl _ (.tmp 12) rfl rp5 rfl Tryd.underlying30 (by rw [bvs_len, hp16]; exact size16) ?_)
            | (refine wpList_loadRow rfl _ (.tmp 13) rfl r5 rfl Tryd.underlying30 (by rw [bvs_len, HSX.out]; exact size16) ?_)
            | (go_at_call 46; refine (node_any p (Mk.short x) hp16 HSX.out v5 Nn HNn.out).mono ?_; rintro e v6 ⟨A6, c6, rfl, own6, q6⟩; have Q6 := Q5.trans (q6.mono Q5.size); have ow6 := own_below own5 Q6; have hb6 := HB.out.trans (Q6.mono HB.out.size))
            | (at_builtin; refine wpList_app1 rfl (.tmp 51) (.tmp 55) 48 rfl w4.heap.size 22 _ 24 slicesE (some ⟨g5, off5, none⟩) (k + 1) c5 xs _ rfl rfl ow6 hb6 rfl (by have := HLEN.out; omega) hw4 (by have := Q6.size; omega) ?_; intro g7 c7 v7 own7 b7 hg7)
            | fail)
          go_roundw
          case rel =>
            have xb6 := box_old xb Q6
            have hs6 := Q6.size
            have hs5 := Q5.size
            refine ⟨k + 1, some ⟨g7, 0, none⟩, c7, xs ++ [.slice A6 Nn c6], HKL.out, by go_num, rfl, own7, Lib.hid ?_, xb6.kept hg7.1 (xb6.not_row (by decide) ow6), Lib.hid b7, Lib.hid fun g t hA ht => ?_⟩
            · rw [HINS.out]
              refine RowsJ.push (HR.out.below Q6) hg7.1 hg7.2 HNn.out.symm (Rd.of_own own6) (fun a ha => ?_)
              have h1 := own_block_lt own6 a ha
              refine ⟨h1.2, fun e => ?_⟩
              have : a.block = g5 := by simpa [Value.ownBlock] using e
              omega
            · have e := Option.some.inj hA
              have eg : gb = g := congrArg (·.block) e
              subst eg
              have h1 := HC.out gb t rfl ht
              refine ⟨?_, h1.2⟩
              have h2 := (Q6.cell (p := ⟨gb, t, none⟩) hgbw).trans h1.1
              exact (World.cell?_of_block (a := ⟨gb, t, none⟩) (hg7.1.block gb (by omega) (fun e => by have : gb = g5 := by simpa [Value.ownBlock] using e
                                                                                                       omega))).trans h2
          case measure => (have := HKL.out; simp [intOf]; omega)
      | false =>
          go_wp2_with (first
            | (refine wpList_load_mid rfl _ (.tmp 40) rfl bp (offp + k * 16) rfl (bvs p) _ hrg Tryd.underlying30 rfl (by rw [bvs_len, hp16]; exact size16) ?_)
            | (have tok := q3; refine wpList_allocRow rfl _ rfl _ info16 ?_; intro v4 r4 q4 z4; have Q4 := Q3.trans (q4.mono Q3.size); have rp4 := r3.below' q4; clear tok q3 z4)
            | (refine wpList_allocRow rfl _ rfl _ info16 ?_; intro v1 r1 q1 z1; clear z1)
            | (refine wpList_storeRow rfl _ (.tmp 12) (.tmp 41) rfl r1 rfl rfl (by rw [bvs_len, hp16]; exact size16) (by rw [bvs_len, List.length_replicate]; exact hp16.symm) (bvs_all _) ?_; intro v2 r2 g2 z2; have Q2 : Below wr.heap.size wr v2 := q1.grown g2 q1.size (by intro j hj; have hj := Option.some.inj hj; omega); have c2k := (Q2.cell (p := ⟨g5, off5 + k, none⟩) hgb5).trans hck; have rd2 := rdk.below Q2; clear z2)
            | (go_at_call 36; refine (short_any A' N' cN x HNL.out.symm (by have := HNL.out; omega) _ v2 rd2 Q2.size (HTB.out v2 Q2)).mono ?_; rintro e v3 ⟨rfl, q3⟩; have Q3 := Q2.trans (q3.mono Q2.size); have r3 := r2.below' q3)
            | (refine wpList_storeRow rfl _ (.tmp 13) (.tmp 46) rfl r4 rfl rfl (by rw [bvs_len, HSX.out]; exact size16) (by rw [bvs_len, List.length_replicate]; exact HSX.out.symm) (bvs_all _) ?_; intro v5 r5 g5' z5; have Q5 : Below wr.heap.size wr v5 := Q4.grown g5' Q4.size (by intro j hj; have hj := Option.some.inj hj; have := Q3.size; omega); have rp5 := rp4.grown g5' (fun e => by have := Option.some.inj e; have := r3.lt; omega); have xb5 := box_old xb Q5; have xc5 := xb5.cell; have cb5 := (Q5.cell (p := ⟨gb, k, none⟩) hgbw).trans hc1; clear z5)
            | (refine wpList_loadRow rfl _ (.tmp 12) rfl rp5 rfl Tryd.underlying30 (by rw [bvs_len, hp16]; exact size16) ?_)
            | (refine wpList_loadRow rfl _ (.tmp 13) rfl r5 rfl Tryd.underlying30 (by rw [bvs_len, HSX.out]; exact size16) ?_)
            | (go_at_call 46; refine (node_any (Mk.short x) p HSX.out hp16 v5 Nn HNn.out).mono ?_; rintro e v6 ⟨A6, c6, rfl, own6, q6⟩; have Q6 := Q5.trans (q6.mono Q5.size); have ow6 := own_below own5 Q6; have hb6 := HB.out.trans (Q6.mono HB.out.size))
            | (at_builtin; refine wpList_app1 rfl (.tmp 57) (.tmp 61) 48 rfl w4.heap.size 22 _ 24 slicesE (some ⟨g5, off5, none⟩) (k + 1) c5 xs _ rfl rfl ow6 hb6 rfl (by have := HLEN.out; omega) hw4 (by have := Q6.size; omega) ?_; intro g7 c7 v7 own7 b7 hg7)
            | fail)
          go_roundw
          case rel =>
            have xb6 := box_old xb Q6
            have hs6 := Q6.size
            have hs5 := Q5.size
            refine ⟨k + 1, some ⟨g7, 0, none⟩, c7, xs ++ [.slice A6 Nn c6], HKL.out, by go_num, rfl, own7, Lib.hid ?_, xb6.kept hg7.1 (xb6.not_row (by decide) ow6), Lib.hid b7, Lib.hid fun g t hA ht => ?_⟩
            · rw [HINS.out]
              refine RowsJ.push (HR.out.below Q6) hg7.1 hg7.2 HNn.out.symm (Rd.of_own own6) (fun a ha => ?_)
              have h1 := own_block_lt own6 a ha
              refine ⟨h1.2, fun e => ?_⟩
              have : a.block = g5 := by simpa [Value.ownBlock] using e
              omega
            · have e := Option.some.inj hA
              have eg : gb = g := congrArg (·.block) e
              subst eg
              have h1 := HC.out gb t rfl ht
              refine ⟨?_, h1.2⟩
              have h2 := (Q6.cell (p := ⟨gb, t, none⟩) hgbw).trans h1.1
              exact (World.cell?_of_block (a := ⟨gb, t, none⟩) (hg7.1.block gb (by omega) (fun e => by have : gb = g5 := by simpa [Value.ownBlock] using e
                                                                                                       omega))).trans h2
          case measure => (have := HKL.out; simp [intOf]; omega)
    · have hke : k = ss.length := by omega
      subst hke
      go_wp2
      exact bodyPost_ret (results_tmp rfl _ _ _) rfl ⟨A5, c5, xs, rfl, HB.out, own_base own5 (by have := HB3.out.size; have := b4.size; omega), HR.out⟩
end
end Go.Proofs.YtfnbcchmembomaaDoor
