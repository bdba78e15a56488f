/- Joined texts: DescP, Desc, Rev, Build16, Prove1, ProveP, Prove, ProveE. Conditions: as each part says. -/
import Derived.Test.YtfnbcchmembomaaDoorDigBase
import Derived.Great.BuildSlice
import Derived.RangeFuncBox
namespace Go.Proofs.YtfnbcchmembomaaDoor
set_option linter.unusedVariables false
set_option linter.unusedSimpArgs false
/-! The path of an index in plain Lean. No condition. -/
section
namespace Mk
/-- a step of a path: the offset and the length of the part that is kept, and of the sibling -/
abbrev Step := Nat × Nat × Nat × Nat
/-- the steps from a part of n elements at an offset down to the element i of this part -/
def stepsF : Nat → Nat → Nat → Nat → List Step
  | 0, _, _, _ => []
  | f + 1, at_, n, i => if n ≤ 1 then [] else if i < split n then (at_, split n, at_ + split n, n - split n) :: stepsF f at_ (split n) i
      else (at_ + split n, n - split n, at_, split n) :: stepsF f (at_ + split n) (n - split n) (i - split n)
def steps (at_ n i : Nat) : List Step := stepsF n at_ n i
theorem stepsF_eq : ∀ (f g at_ n i : Nat), n ≤ f → n ≤ g → stepsF f at_ n i = stepsF g at_ n i
  | 0, 0, _, _, _, _, _ => rfl
  | 0, g + 1, at_, n, i, h, _ => by
    have : n ≤ 1 := by omega
    simp [stepsF, this]
  | f + 1, 0, at_, n, i, _, h => by
    have : n ≤ 1 := by omega
    simp [stepsF, this]
  | f + 1, g + 1, at_, n, i, hf, hg => by
    unfold stepsF
    by_cases h1 : n ≤ 1
    · rw [if_pos h1, if_pos h1]
    · have := split_lt (n := n) (by omega)
      have := split_pos n
      rw [if_neg h1, if_neg h1, stepsF_eq f g at_ (split n) i (by omega) (by omega), stepsF_eq f g (at_ + split n) (n - split n) (i - split n) (by omega) (by omega)]
theorem steps_one (at_ i : Nat) {n : Nat} (h : n ≤ 1) : steps at_ n i = [] := by
  unfold steps
  cases n with
  | zero => rfl
  | succ m => rw [stepsF, if_pos h]
theorem steps_lo (at_ : Nat) {n i : Nat} (h : 2 ≤ n) (hi : i < split n) : steps at_ n i = (at_, split n, at_ + split n, n - split n) :: steps at_ (split n) i := by
  have h1 := split_lt h
  obtain ⟨m, rfl⟩ : ∃ m, n = m + 1 := ⟨n - 1, by omega⟩
  show stepsF (m + 1) at_ (m + 1) i = _
  rw [stepsF, if_neg (by omega), if_pos hi]
  unfold steps
  rw [stepsF_eq m (split (m + 1)) _ _ _ (by omega) (Nat.le_refl _)]
theorem steps_hi (at_ : Nat) {n i : Nat} (h : 2 ≤ n) (hi : ¬ i < split n) : steps at_ n i = (at_ + split n, n - split n, at_, split n) :: steps (at_ + split n) (n - split n) (i - split n) := by
  have h1 := split_lt h
  have h2 := split_pos n
  obtain ⟨m, rfl⟩ : ∃ m, n = m + 1 := ⟨n - 1, by omega⟩
  show stepsF (m + 1) at_ (m + 1) i = _
  rw [stepsF, if_neg (by omega), if_neg hi]
  unfold steps
  rw [stepsF_eq m (m + 1 - split (m + 1)) _ _ _ (by omega) (Nat.le_refl _)]
theorem split_half {n e : Nat} (h : 2 ≤ n) (hn : n ≤ 2 ^ (e + 1)) : split n ≤ 2 ^ e := by
  unfold split
  refine Nat.pow_le_pow_right (by decide) ?_
  have := (Nat.log2_lt (n := n - 1) (k := e + 1) (by omega)).2 (by omega)
  omega
theorem stepsF_pow : ∀ (f at_ n i e : Nat), n ≤ 2 ^ e → (stepsF f at_ n i).length ≤ e
  | 0, _, _, _, _, _ => by simp [stepsF]
  | f + 1, at_, n, i, e, h => by
    unfold stepsF
    by_cases h1 : n ≤ 1
    · rw [if_pos h1]; simp
    · cases e with
      | zero => simp at h; omega
      | succ e =>
        have h2 := split_half (n := n) (e := e) (by omega) h
        have h3 := split_two (n := n) (by omega)
        rw [if_neg h1]
        by_cases hlt : i < split n
        · rw [if_pos hlt, List.length_cons]
          have := stepsF_pow f at_ (split n) i e h2
          omega
        · rw [if_neg hlt, List.length_cons]
          have := stepsF_pow f (at_ + split n) (n - split n) (i - split n) e (by omega)
          omega
theorem steps_63 (at_ n i : Nat) (h : n ≤ 9223372036854775807) : (steps at_ n i).length ≤ 63 := stepsF_pow n at_ n i 63 (Nat.le_trans h (by decide))
end Mk
end
/-! The path of an index: a walk of digest's descend, for whatever function is called at each step. -/
section
open Go.RowKit
abbrev stepArgs (s : Mk.Step) : Array Value := #[.int .i64 (s.1 : Int), .int .i64 (s.2.1 : Int), .int .i64 (s.2.2.1 : Int), .int .i64 (s.2.2.2 : Int)]
set_option maxRecDepth 100000 in
set_option maxHeartbeats 1000000 in
theorem descend_any (n i : Nat) (hi : i < n) (hn : n ≤ 9223372036854775807) (f : FuncId) (heg : ∀ args w, (callFunc f args).run Tryd.prog w = .ok (.enter f args) w) (caps : Array Value) (J : List Mk.Step → World → Prop) (w : World)
    (hstep : ∀ (pre : List Mk.Step) (s : Mk.Step) (rest : List Mk.Step) (W : World), Mk.steps 0 n i = pre ++ s :: rest → J pre W → Calls Tryd.prog f (stepArgs s ++ caps) W fun e W' => (∃ v, e = .returned v) ∧ J (pre ++ [s]) W') (h0 : J [] w) :
    Calls Tryd.prog 39 #[.int .i64 (n : Int), .int .i64 (i : Int), .func (.func f) #[] caps] w fun e w' => (∃ v, e = .returned v) ∧ J (Mk.steps 0 n i) w' := by
  go_enter Tryd.func39, Tryd.ntmps39
  go_wp2
  have HS := Lib.hid hstep
  clear hstep
  go_loopw [0, 6] (fun u0 u6 wr => ∃ (m at_ j : Nat) (pre : List Mk.Step), u0 = .int .i64 m ∧ u6 = .int .i64 at_ ∧ at_ + j = i ∧ j < m ∧ at_ + m ≤ n ∧ Hid (pre ++ Mk.steps at_ m j = Mk.steps 0 n i) ∧ J pre wr)
    (fun u0 _ _ => (intOf u0).toNat)
  case atStart => exact ⟨n, 0, i, [], rfl, rfl, by omega, hi, by omega, rfl, h0⟩
  case round =>
    clear h0
    obtain ⟨m, at_, j, pre, rfl, rfl, hij, hjm, hle, HP, hJ⟩ := hrel
    by_cases h1 : 2 ≤ m
    · have hsp := split_any m h1 (by omega)
      have hs1 := Mk.split_pos m
      have hs2 := Mk.split_lt h1
      have HIJ := Lib.hid hij
      by_cases hlt : j < Mk.split m
      · have hst := Mk.steps_lo at_ h1 hlt
        generalize Mk.split m = k at *
        have HSP := Lib.hid hsp
        have e1 : ((at_ + k : Nat) : Int) = (at_ : Int) + (k : Int) := by push_cast; rfl
        have e2 : ((m - k : Nat) : Int) = (m : Int) - (k : Int) := by omega
        have hcall := HS.out pre (at_, k, at_ + k, m - k) _ wr (by rw [← HP.out, hst]) hJ
        simp only [stepArgs, e1, e2] at hcall
        have HST := Lib.hid hst
        have HC := Lib.hid hcall
        have hlt' : (i : Int) - (at_ : Int) < (k : Int) := by omega
        clear hsp hst hcall hij e1 e2
        go_wp2_with (first
          | (go_at_call 43; refine (HSP.out _).mono ?_; rintro e w' ⟨rfl, rfl⟩)
          | (refine HC.out.mono ?_; rintro e W2 ⟨⟨v, rfl⟩, hJ2⟩))
        go_roundw
        case rel => exact ⟨k, at_, j, pre ++ [(at_, k, at_ + k, m - k)], rfl, rfl, HIJ.out, hlt, by omega, (show _ = _ from by rw [← HP.out, HST.out, List.append_assoc]; rfl), hJ2⟩
        case measure => simp [intOf]; omega
      · have hst := Mk.steps_hi at_ h1 hlt
        generalize Mk.split m = k at *
        have HSP := Lib.hid hsp
        have e1 : ((at_ + k : Nat) : Int) = (at_ : Int) + (k : Int) := by push_cast; rfl
        have e2 : ((m - k : Nat) : Int) = (m : Int) - (k : Int) := by omega
        have hcall := HS.out pre (at_ + k, m - k, at_, k) _ wr (by rw [← HP.out, hst]) hJ
        simp only [stepArgs, e1, e2] at hcall
        have HST := Lib.hid hst
        have HC := Lib.hid hcall
        have hlt' : ¬ (i : Int) - (at_ : Int) < (k : Int) := by omega
        clear hsp hst hcall hij e1 e2
        go_wp2_with (first
          | (go_at_call 43; refine (HSP.out _).mono ?_; rintro e w' ⟨rfl, rfl⟩)
          | (refine HC.out.mono ?_; rintro e W2 ⟨⟨v, rfl⟩, hJ2⟩))
        go_roundw
        case rel => exact ⟨m - k, at_ + k, j - k, pre ++ [(at_ + k, m - k, at_, k)], by go_num, by go_num, by have := HIJ.out; omega, by omega, by omega, (show _ = _ from by rw [← HP.out, HST.out, List.append_assoc]; rfl), hJ2⟩
        case measure => simp [intOf]; omega
    · have hfin := HP.out
      rw [Mk.steps_one _ _ (by omega), List.append_nil] at hfin
      have HF := Lib.hid hfin
      clear hfin hij
      go_wp2
      go_end0
      exact ⟨⟨_, rfl⟩, by rw [← HF.out]; exact hJ⟩
end
/-! slices.Reverse of digests: a walk of its text. -/
section
open Go.RowKit
/-- what stands at place t when i rounds of the reversal are over -/
def revAt (l : List (List UInt8)) (i t : Nat) : List UInt8 := if t < i ∨ l.length - i ≤ t then l.getD (l.length - 1 - t) [] else l.getD t []
theorem revAt_len {l : List (List UInt8)} (h : D16 l) (i : Nat) {t : Nat} (ht : t < l.length) : (revAt l i t).length = 16 := by
  have key : ∀ k, k < l.length → (l.getD k []).length = 16 := fun k hk => by
    simp only [List.getD]
    rw [List.getElem?_eq_getElem hk]
    exact h _ (List.getElem_mem hk)
  unfold revAt
  split
  · exact key _ (by omega)
  · exact key _ ht
theorem revAt_zero (l : List (List UInt8)) {t : Nat} (ht : t < l.length) : revAt l 0 t = l.getD t [] := by unfold revAt; rw [if_neg (by omega)]
theorem revAt_mid (l : List (List UInt8)) {i t : Nat} (h1 : i ≤ t) (h2 : t < l.length - i) : revAt l i t = l.getD t [] := by unfold revAt; rw [if_neg (by omega)]
theorem revAt_end (l : List (List UInt8)) {i t : Nat} (h : l.length ≤ 2 * i + 1) (ht : t < l.length) : revAt l i t = l.reverse.getD t [] := by
  have hr : l.reverse.getD t [] = l.getD (l.length - 1 - t) [] := by
    simp only [List.getD]
    rw [List.getElem?_reverse (by omega)]
  rw [hr]
  unfold revAt
  split
  · rfl
  · congr 1; omega
theorem revAt_succ (l : List (List UInt8)) {i t : Nat} (h : 2 * i + 1 < l.length) : revAt l (i + 1) t = if t = i then l.getD (l.length - 1 - i) [] else if t = l.length - 1 - i then l.getD i [] else revAt l i t := by
  unfold revAt
  by_cases h1 : t = i
  · subst h1; rw [if_pos (by omega), if_pos rfl]
  · by_cases h2 : t = l.length - 1 - i
    · subst h2; rw [if_pos (by omega), if_neg h1, if_pos rfl]; congr 1; omega
    · rw [if_neg h1, if_neg h2]
      by_cases h3 : t < i ∨ l.length - i ≤ t
      · rw [if_pos h3, if_pos (by omega)]
      · rw [if_neg h3, if_neg (by omega)]
theorem run_loadFrom {P : Program} {w : World} {b o n : Nat} {cs : List Value} (hc : w.rangeAt b o cs) (hn : cs.length = n) : (loadCellsFrom ⟨b, o, none⟩ 0 n #[]).run P w = .ok cs.toArray w := by
  subst hn
  have := run_loadCells_list (P := P) w ⟨b, o, none⟩ cs (fun j v hv => by
    rw [Addr.add_mid]; exact hc j v hv)
  simpa [loadCells] using this
theorem run_storeMid {P : Program} {w : World} {b o : Nat} {cs : List Value} (ht : w.there b o cs.length) (h1 : cs.all (·.oneCell') = true) : (storeCells ⟨b, o, none⟩ cs).run P w = .ok () (w.setCells b o cs) := by
  have := run_storeCells_cells (P := P) b o cs 0 w (fun j hj => by simpa using (ht j (by simpa using hj)).1) (fun j hj => by simpa using (ht j (by simpa using hj)).2)
    (fun v hv => List.all_eq_true.1 h1 v hv)
  simpa using this
theorem there_sub {w : World} {b o n o' n' : Nat} (h : w.there b o n) (h1 : o ≤ o') (h2 : o' + n' ≤ o + n) : w.there b o' n' := fun j hj => by
  have := h (o' - o + j) (by omega)
  rwa [show o + (o' - o + j) = o' + j from by omega] at this
theorem AllReady.loadMid {P : Program} {md : Region.Mode} {ops : Array Oper} {Q : Exit → Act → World → Prop} {fuel : Nat} {listed : Array Bool} {a : Act} {w : World} {i : Nat} {o : Oper} {rs : List Nat} (ho : ops[i]? = some o)
    (hw : Region.wanted o (yielded ops a.tmps) = true) (ty : TypeId) (x : Operand) (hop : o.op = .load ty x) (b off : Nat) (hx : a.eval x = .pointer (some ⟨b, off, none⟩)) (cs : List Value) (d : TypeDesc) (hc : w.rangeAt b off cs)
    (hu : P.underlying ty = some d) (hd : d.isRow = true) (hi : (P.info? ty).map (·.size) = some cs.length)
    (h : wpAny P md ops Q fuel (listed.setIfInBounds i true) (a.put o.dst (.agg cs.toArray)) w) (hs : AllReady P md ops Q fuel listed a w rs) : AllReady P md ops Q fuel listed a w (i :: rs) :=
  AllReady.cons ho (fun K hK => by rw [if_pos hw]; exact wp_load_mid ty x hop b off hx cs d hc hu hd hi (hK _ _ h)) hs
theorem AllReady.storeMid {P : Program} {md : Region.Mode} {ops : Array Oper} {Q : Exit → Act → World → Prop} {fuel : Nat} {listed : Array Bool} {a : Act} {w : World} {i : Nat} {o : Oper} {rs : List Nat} (ho : ops[i]? = some o)
    (hw : Region.wanted o (yielded ops a.tmps) = true) (ty : TypeId) (x y : Operand) (hop : o.op = .store ty x y) (b off : Nat) (cells : Array Value) (hx : a.eval x = .pointer (some ⟨b, off, none⟩)) (hy : a.eval y = .agg cells) (ht : w.there b off cells.size)
    (hi : (P.info? ty).map (·.size) = some cells.size) (h1 : cells.all (·.oneCell') = true)
    (h : wpAny P md ops Q fuel (listed.setIfInBounds i true) (a.put o.dst undef) (w.setCells b off cells.toList)) (hs : AllReady P md ops Q fuel listed a w rs) : AllReady P md ops Q fuel listed a w (i :: rs) :=
  AllReady.cons ho (fun K hK => by rw [if_pos hw]; exact wp_store_mid ty x y hop b off cells hx hy ht hi h1 (hK _ _ h)) hs
theorem grown_setCell (w : World) (b o : Nat) (v : Value) : w.grownBy (w.setCell ⟨b, o, none⟩ v) (some b) := ⟨rfl, rfl, rfl, (KeepsWalks.setCell w _ v).size, fun k _ hk => Below.heap_setCell _ _ _ k (fun e => hk (by rw [e]))⟩
theorem grown_setCells (b : Nat) : ∀ (vs : List Value) (o : Nat) (w : World), w.grownBy (w.setCells b o vs) (some b)
  | [], _, w => World.grownBy.refl w _
  | v :: vs, o, w => World.grownBy.trans (grown_setCell w b o v) (grown_setCells b vs (o + 1) (w.setCell ⟨b, o, none⟩ v))
theorem grown_drew {a w : World} {row : Option Nat} (h : a.grownBy w row) : a.grownBy w.drew row := ⟨h.os, h.tape, h.output, h.size, h.block⟩
set_option maxRecDepth 100000 in
set_option maxHeartbeats 2000000 in
theorem reverseD_any (n c b off : Nat) (l : List (List UInt8)) (hl : l.length = n) (hn : 1 ≤ n) (hn2 : n ≤ 1099511627776) (hd : D16 l) (w : World)
    (hE : ∀ t, t < n → w.rangeAt b (off + t * 16) (bvs (l.getD t []))) (hF : w.there b off (n * 16)) :
    Calls Tryd.prog 41 #[.slice (some ⟨b, off, none⟩) n c] w fun e w' => (∃ v, e = .returned v) ∧ (∀ t, t < n → w'.rangeAt b (off + t * 16) (bvs (l.reverse.getD t []))) ∧ w'.there b off (n * 16) ∧ w.grownBy w' (some b) := by
  have HL := Lib.hid hl
  have HE := Lib.hid hE
  clear hl hE
  go_enter Tryd.func41, Tryd.ntmps41
  go_wp2
  go_loopw [2, 3] (fun u2 u3 wr => ∃ i : Nat, 2 * i ≤ n ∧ u2 = .int .i64 i ∧ u3 = .int .i64 ((n : Int) - 1 - i) ∧ Hid (∀ t, t < n → wr.rangeAt b (off + t * 16) (bvs (revAt l i t))) ∧ wr.there b off (n * 16) ∧ w.grownBy wr (some b))
    (fun u2 _ _ => n - (intOf u2).toNat)
  case atStart => exact ⟨0, by omega, rfl, by simp, fun t ht => by rw [revAt_zero l (by rw [HL.out]; exact ht)]; exact HE.out t ht, hF, World.grownBy.refl w _⟩
  case round =>
    clear hF
    obtain ⟨i, hi, rfl, rfl, HE, hF, hg⟩ := hrel
    by_cases hlt : 2 * i + 1 < n
    · obtain ⟨j, hj⟩ : ∃ j, j + 1 + i = n := ⟨n - 1 - i, by omega⟩
      have ej : (n : Int) - 1 - (i : Int) = (j : Int) := by omega
      rw [ej]
      have HJ := Lib.hid hj
      have hji : i < j := by omega
      have hjn : j < n := by omega
      clear ej
      have gi : revAt l i i = l.getD i [] := revAt_mid l (Nat.le_refl _) (by rw [HL.out]; omega)
      have gj : revAt l i j = l.getD j [] := revAt_mid l (by omega) (by rw [HL.out]; omega)
      have ri := HE.out i (by omega)
      have rj := HE.out j hjn
      have li := revAt_len hd i (t := i) (by rw [HL.out]; omega)
      have lj := revAt_len hd i (t := j) (by rw [HL.out]; omega)
      have hsucc : ∀ t, revAt l (i + 1) t = if t = i then revAt l i j else if t = j then revAt l i i else revAt l i t := fun t => by
        rw [revAt_succ l (by rw [HL.out]; exact hlt), HL.out, show n - 1 - i = j from by omega, gi, gj]
      have HSU := Lib.hid hsucc
      clear hsucc gi gj hj
      generalize revAt l i i = di at *
      generalize revAt l i j = dj at *
      have lenI : (bvs di).length = 16 := by rw [bvs_len, li]
      have lenJ : (bvs dj).length = 16 := by rw [bvs_len, lj]
      have tI := there_sub hF (o' := off + i * 16) (n' := 16) (by omega) (by omega)
      have tJ := there_sub hF (o' := off + j * 16) (n' := 16) (by omega) (by omega)
      have oI : ∀ v ∈ bvs di, v.oneCell' = true := List.all_eq_true.1 (bvs_all _)
      have oJ : ∀ v ∈ bvs dj, v.oneCell' = true := List.all_eq_true.1 (bvs_all _)
      have hu := Tryd.underlying30
      have zI : (Tryd.prog.info? 30).map (·.size) = some (bvs di).length := by rw [lenI]; exact size16
      have zJ : (Tryd.prog.info? 30).map (·.size) = some (bvs dj).length := by rw [lenJ]; exact size16
      have i0 : (0 : Int) ≤ (i : Int) := by omega
      have i1 : (i : Int) < (n : Int) := by omega
      have j0 : (0 : Int) ≤ (j : Int) := by omega
      have j1 : (j : Int) < (n : Int) := by omega
      have hij : (i : Int) < (j : Int) := by omega
      go_wp2
      have ri' : wr.drew.rangeAt b (off + i * 16) (bvs di) := by simpa using ri
      have rj' : wr.drew.rangeAt b (off + j * 16) (bvs dj) := by simpa using rj
      obtain ⟨W, hW⟩ : ∃ W, (wr.drew.setCells b (off + i * 16) (bvs dj)).setCells b (off + j * 16) (bvs di) = W := ⟨_, rfl⟩
      have hEW : ∀ t, t < n → W.rangeAt b (off + t * 16) (bvs (revAt l (i + 1) t)) := fun t ht => by
        rw [← hW, HSU.out]
        split
        · rename_i e; subst e
          exact World.rangeAt_setCells_apart (World.rangeAt_setCells_same _ _ _ _ (by rw [lenJ]; simpa using tI)) _ _ _ (.inr (.inl (by rw [lenJ]; omega)))
        · split
          · rename_i e; subst e
            exact World.rangeAt_setCells_same _ _ _ _ (by rw [lenI]; exact World.there_setCells (by simpa using tJ) _ _ _)
          · rename_i e1 e2
            have lt := revAt_len hd i (t := t) (by rw [HL.out]; exact ht)
            have := HE.out t ht
            refine World.rangeAt_setCells_apart (World.rangeAt_setCells_apart (by simpa using this) _ _ _ (.inr ?_)) _ _ _ (.inr ?_)
            · rw [bvs_len, lenJ, lt]; omega
            · rw [bvs_len, lenI, lt]; omega
      have hFW : W.there b off (n * 16) := by rw [← hW]; exact World.there_setCells (World.there_setCells (by simpa using hF) _ _ _) _ _ _
      have hgW : w.grownBy W (some b) := by rw [← hW]; exact (grown_drew hg).trans ((grown_setCells _ _ _ _).trans (grown_setCells _ _ _ _))
      have HEW := Lib.hid hEW
      have HW := Lib.hid hW
      clear hEW hW ri rj hF HSU
      refine wp_region_any (by kernel_rfl) ?_
      go_simp
      refine wpAny_take (i := 0) (oi := { dst := some 14, op := Op.move (Operand.tmp 0), type := 34, pos := "slices.go:485", after := #[], guard := none }) (v := ?v0_1) rfl (by kernel_rfl) (by kernel_rfl) (by kernel_rfl) (fun _ _ _ h => h) (Or.inl ⟨by rfl, ?h0_1⟩) ?r0_1
      case h0_1 =>
        intro w
        go_simp
        try with_reducible rfl
      try simp only [Act.put, List.setIfInBounds_toArray, List.set_cons_zero, List.set_cons_succ]
      refine wpAny_take (i := 1) (oi := { dst := some 15, op := Op.move (Operand.tmp 2), type := 3, pos := "slices.go:485", after := #[], guard := none }) (v := ?v1_2) rfl (by kernel_rfl) (by kernel_rfl) (by kernel_rfl) (fun _ _ _ h => h) (Or.inl ⟨by rfl, ?h1_2⟩) ?r1_2
      case h1_2 =>
        intro w
        go_simp
        try with_reducible rfl
      try simp only [Act.put, List.setIfInBounds_toArray, List.set_cons_zero, List.set_cons_succ]
      refine wpAny_take (i := 2) (oi := { dst := some 16, op := Op.move (Operand.tmp 0), type := 34, pos := "slices.go:485", after := #[{ on := 13, ground := Ground.gcOnly Departure.lateStores }], guard := none }) (v := ?v2_3) rfl (by kernel_rfl) (by kernel_rfl) (by kernel_rfl) (fun _ _ _ h => h) (Or.inl ⟨by rfl, ?h2_3⟩) ?r2_3
      case h2_3 =>
        intro w
        go_simp
        try with_reducible rfl
      try simp only [Act.put, List.setIfInBounds_toArray, List.set_cons_zero, List.set_cons_succ]
      refine wpAny_take (i := 3) (oi := { dst := some 17, op := Op.move (Operand.tmp 3), type := 3, pos := "slices.go:485", after := #[{ on := 13, ground := Ground.gcOnly Departure.lateStores }], guard := none }) (v := ?v3_4) rfl (by kernel_rfl) (by kernel_rfl) (by kernel_rfl) (fun _ _ _ h => h) (Or.inl ⟨by rfl, ?h3_4⟩) ?r3_4
      case h3_4 =>
        intro w
        go_simp
        try with_reducible rfl
      try simp only [Act.put, List.setIfInBounds_toArray, List.set_cons_zero, List.set_cons_succ]
      refine wpAny_take (i := 4) (oi := { dst := some 18, op := Op.move (Operand.tmp 0), type := 34, pos := "slices.go:485", after := #[], guard := none }) (v := ?v4_5) rfl (by kernel_rfl) (by kernel_rfl) (by kernel_rfl) (fun _ _ _ h => h) (Or.inl ⟨by rfl, ?h4_5⟩) ?r4_5
      case h4_5 =>
        intro w
        go_simp
        try with_reducible rfl
      try simp only [Act.put, List.setIfInBounds_toArray, List.set_cons_zero, List.set_cons_succ]
      refine wpAny_take (i := 5) (oi := { dst := some 19, op := Op.move (Operand.tmp 3), type := 3, pos := "slices.go:485", after := #[], guard := none }) (v := ?v5_6) rfl (by kernel_rfl) (by kernel_rfl) (by kernel_rfl) (fun _ _ _ h => h) (Or.inl ⟨by rfl, ?h5_6⟩) ?r5_6
      case h5_6 =>
        intro w
        go_simp
        try with_reducible rfl
      try simp only [Act.put, List.setIfInBounds_toArray, List.set_cons_zero, List.set_cons_succ]
      refine wpAny_take (i := 6) (oi := { dst := some 20, op := Op.indexAddr 34 (Operand.tmp 18) (Operand.tmp 19), type := 0, pos := "slices.go:485", after := #[{ on := 4, ground := Ground.data }, { on := 5, ground := Ground.data }], guard := none }) (v := ?v6_7) rfl (by kernel_rfl) (by kernel_rfl) (by kernel_rfl) (fun _ _ _ h => h) (Or.inl ⟨by rfl, ?h6_7⟩) ?r6_7
      case h6_7 =>
        intro w
        go_simp
        try with_reducible rfl
      try simp only [Act.put, List.setIfInBounds_toArray, List.set_cons_zero, List.set_cons_succ]
      refine wpAny_take (i := 8) (oi := { dst := some 22, op := Op.move (Operand.tmp 0), type := 34, pos := "slices.go:485", after := #[], guard := none }) (v := ?v8_8) rfl (by kernel_rfl) (by kernel_rfl) (by kernel_rfl) (fun _ _ _ h => h) (Or.inl ⟨by rfl, ?h8_8⟩) ?r8_8
      case h8_8 =>
        intro w
        go_simp
        try with_reducible rfl
      try simp only [Act.put, List.setIfInBounds_toArray, List.set_cons_zero, List.set_cons_succ]
      refine wpAny_take (i := 9) (oi := { dst := some 23, op := Op.move (Operand.tmp 2), type := 3, pos := "slices.go:485", after := #[], guard := none }) (v := ?v9_9) rfl (by kernel_rfl) (by kernel_rfl) (by kernel_rfl) (fun _ _ _ h => h) (Or.inl ⟨by rfl, ?h9_9⟩) ?r9_9
      case h9_9 =>
        intro w
        go_simp
        try with_reducible rfl
      try simp only [Act.put, List.setIfInBounds_toArray, List.set_cons_zero, List.set_cons_succ]
      refine wpAny_take (i := 10) (oi := { dst := some 24, op := Op.indexAddr 34 (Operand.tmp 22) (Operand.tmp 23), type := 0, pos := "slices.go:485", after := #[{ on := 8, ground := Ground.data }, { on := 9, ground := Ground.data }], guard := none }) (v := ?v10_10) rfl (by kernel_rfl) (by kernel_rfl) (by kernel_rfl) (fun _ _ _ h => h) (Or.inl ⟨by rfl, ?h10_10⟩) ?r10_10
      case h10_10 =>
        intro w
        go_simp
        try with_reducible rfl
      try simp only [Act.put, List.setIfInBounds_toArray, List.set_cons_zero, List.set_cons_succ]
      refine wpAny_ready (rs := [7, 11]) (by kernel_rfl) (by simp) ?_
      refine AllReady.loadMid (o := { dst := some 21, op := Op.load 30 (Operand.tmp 20), type := 30, pos := "slices.go:485", after := #[{ on := 6, ground := Ground.data }], guard := none }) rfl (by rfl) _ (.tmp 20) rfl b (off + j * 16) rfl (bvs dj) _ rj' hu rfl zJ ?_ ?_
      · try simp only [Act.put, List.setIfInBounds_toArray, List.set_cons_zero, List.set_cons_succ]
        refine wpAny_ready (rs := [11]) (by kernel_rfl) (by simp) ?_
        refine AllReady.loadMid (o := { dst := some 25, op := Op.load 30 (Operand.tmp 24), type := 30, pos := "slices.go:485", after := #[{ on := 10, ground := Ground.data }], guard := none }) rfl (by rfl) _ (.tmp 24) rfl b (off + i * 16) rfl (bvs di) _ ri' hu rfl zI ?_ ?_
        rotate_left; exact AllReady.nil
        try simp only [Act.put, List.setIfInBounds_toArray, List.set_cons_zero, List.set_cons_succ]
        refine wpAny_take (i := 12) (oi := { dst := some 26, op := Op.indexAddr 34 (Operand.tmp 14) (Operand.tmp 15), type := 0, pos := "slices.go:485", after := #[{ on := 0, ground := Ground.data }, { on := 1, ground := Ground.data }, { on := 0, ground := Ground.phase }, { on := 1, ground := Ground.phase }, { on := 2, ground := Ground.textOnly Departure.lateStores }, { on := 3, ground := Ground.textOnly Departure.lateStores }, { on := 4, ground := Ground.phase }, { on := 5, ground := Ground.phase }, { on := 6, ground := Ground.phase }, { on := 7, ground := Ground.phase }, { on := 8, ground := Ground.textOnly Departure.lateStores }, { on := 9, ground := Ground.textOnly Departure.lateStores }, { on := 10, ground := Ground.textOnly Departure.lateStoresUnsure }, { on := 11, ground := Ground.phase }], guard := none }) (v := ?v12_11) rfl (by kernel_rfl) (by kernel_rfl) (by kernel_rfl) (fun _ _ _ h => h) (Or.inl ⟨by rfl, ?h12_11⟩) ?r12_11
        case h12_11 =>
          intro w
          go_simp
          try with_reducible rfl
        try simp only [Act.put, List.setIfInBounds_toArray, List.set_cons_zero, List.set_cons_succ]
        refine wpAny_ready (rs := [13]) (by kernel_rfl) (by simp) ?_
        refine AllReady.storeMid (o := { dst := none, op := Op.store 30 (Operand.tmp 26) (Operand.tmp 21), type := 0, pos := "slices.go:485", after := #[{ on := 12, ground := Ground.data }, { on := 7, ground := Ground.data }, { on := 0, ground := Ground.phase }, { on := 1, ground := Ground.phase }, { on := 2, ground := Ground.textOnly Departure.lateStores }, { on := 3, ground := Ground.textOnly Departure.lateStores }, { on := 4, ground := Ground.phase }, { on := 5, ground := Ground.phase }, { on := 6, ground := Ground.phase }, { on := 7, ground := Ground.phase }, { on := 8, ground := Ground.textOnly Departure.lateStores }, { on := 9, ground := Ground.textOnly Departure.lateStores }, { on := 10, ground := Ground.textOnly Departure.lateStoresUnsure }, { on := 11, ground := Ground.phase }], guard := none }) rfl (by rfl) _ (.tmp 26) (.tmp 21) rfl b (off + i * 16) (bvs dj).toArray rfl rfl (by simpa [lenJ] using tI) (by simpa using zJ) (all_oneCell_toArray oJ) ?_ ?_
        rotate_left; exact AllReady.nil
        try simp only [Act.put, List.setIfInBounds_toArray, List.set_cons_zero, List.set_cons_succ]
        refine wpAny_take (i := 14) (oi := { dst := some 27, op := Op.indexAddr 34 (Operand.tmp 16) (Operand.tmp 17), type := 0, pos := "slices.go:485", after := #[{ on := 2, ground := Ground.data }, { on := 3, ground := Ground.data }, { on := 0, ground := Ground.phase }, { on := 1, ground := Ground.phase }, { on := 2, ground := Ground.phase }, { on := 3, ground := Ground.phase }, { on := 4, ground := Ground.phase }, { on := 5, ground := Ground.phase }, { on := 6, ground := Ground.phase }, { on := 7, ground := Ground.phase }, { on := 8, ground := Ground.phase }, { on := 9, ground := Ground.phase }, { on := 10, ground := Ground.phase }, { on := 11, ground := Ground.phase }, { on := 12, ground := Ground.phase }, { on := 13, ground := Ground.phase }], guard := none }) (v := ?v14_12) rfl (by kernel_rfl) (by kernel_rfl) (by kernel_rfl) (fun _ _ _ h => h) (Or.inl ⟨by rfl, ?h14_12⟩) ?r14_12
        case h14_12 =>
          intro w
          go_simp
          try with_reducible rfl
        try simp only [Act.put, List.setIfInBounds_toArray, List.set_cons_zero, List.set_cons_succ]
        refine wpAny_ready (rs := [15]) (by kernel_rfl) (by simp) ?_
        refine AllReady.storeMid (o := { dst := none, op := Op.store 30 (Operand.tmp 27) (Operand.tmp 25), type := 0, pos := "slices.go:485", after := #[{ on := 14, ground := Ground.data }, { on := 11, ground := Ground.data }, { on := 13, ground := Ground.chain }, { on := 0, ground := Ground.phase }, { on := 1, ground := Ground.phase }, { on := 2, ground := Ground.phase }, { on := 3, ground := Ground.phase }, { on := 4, ground := Ground.phase }, { on := 5, ground := Ground.phase }, { on := 6, ground := Ground.phase }, { on := 7, ground := Ground.phase }, { on := 8, ground := Ground.phase }, { on := 9, ground := Ground.phase }, { on := 10, ground := Ground.phase }, { on := 11, ground := Ground.phase }, { on := 12, ground := Ground.phase }, { on := 13, ground := Ground.phase }], guard := none }) rfl (by rfl) _ (.tmp 27) (.tmp 25) rfl b (off + j * 16) (bvs di).toArray rfl rfl (World.there_setCells (by simpa [lenI] using tJ) _ _ _) (by simpa using zI) (all_oneCell_toArray oI) ?_ ?_
        rotate_left; exact AllReady.nil
        try simp only [Act.put, List.setIfInBounds_toArray, List.set_cons_zero, List.set_cons_succ]
        refine wpAny_done (by kernel_rfl) ?_ _
        try simp only [List.toList_toArray]
        rw [HW.out]
        clear ri' rj' oI oJ zI zJ hu tI tJ
        go_wp2
        exact ⟨⟨i + 1, by omega, rfl, congrArg _ (by have := HJ.out; push_cast; omega), HEW, hFW, hgW⟩, by simp [intOf]; omega⟩
      · refine AllReady.loadMid (o := { dst := some 25, op := Op.load 30 (Operand.tmp 24), type := 30, pos := "slices.go:485", after := #[{ on := 10, ground := Ground.data }], guard := none }) rfl (by rfl) _ (.tmp 24) rfl b (off + i * 16) rfl (bvs di) _ ri' hu rfl zI ?_ ?_
        rotate_left; exact AllReady.nil
        try simp only [Act.put, List.setIfInBounds_toArray, List.set_cons_zero, List.set_cons_succ]
        refine wpAny_ready (rs := [7]) (by kernel_rfl) (by simp) ?_
        refine AllReady.loadMid (o := { dst := some 21, op := Op.load 30 (Operand.tmp 20), type := 30, pos := "slices.go:485", after := #[{ on := 6, ground := Ground.data }], guard := none }) rfl (by rfl) _ (.tmp 20) rfl b (off + j * 16) rfl (bvs dj) _ rj' hu rfl zJ ?_ ?_
        rotate_left; exact AllReady.nil
        try simp only [Act.put, List.setIfInBounds_toArray, List.set_cons_zero, List.set_cons_succ]
        refine wpAny_take (i := 12) (oi := { dst := some 26, op := Op.indexAddr 34 (Operand.tmp 14) (Operand.tmp 15), type := 0, pos := "slices.go:485", after := #[{ on := 0, ground := Ground.data }, { on := 1, ground := Ground.data }, { on := 0, ground := Ground.phase }, { on := 1, ground := Ground.phase }, { on := 2, ground := Ground.textOnly Departure.lateStores }, { on := 3, ground := Ground.textOnly Departure.lateStores }, { on := 4, ground := Ground.phase }, { on := 5, ground := Ground.phase }, { on := 6, ground := Ground.phase }, { on := 7, ground := Ground.phase }, { on := 8, ground := Ground.textOnly Departure.lateStores }, { on := 9, ground := Ground.textOnly Departure.lateStores }, { on := 10, ground := Ground.textOnly Departure.lateStoresUnsure }, { on := 11, ground := Ground.phase }], guard := none }) (v := ?v12_13) rfl (by kernel_rfl) (by kernel_rfl) (by kernel_rfl) (fun _ _ _ h => h) (Or.inl ⟨by rfl, ?h12_13⟩) ?r12_13
        case h12_13 =>
          intro w
          go_simp
          try with_reducible rfl
        try simp only [Act.put, List.setIfInBounds_toArray, List.set_cons_zero, List.set_cons_succ]
        refine wpAny_ready (rs := [13]) (by kernel_rfl) (by simp) ?_
        refine AllReady.storeMid (o := { dst := none, op := Op.store 30 (Operand.tmp 26) (Operand.tmp 21), type := 0, pos := "slices.go:485", after := #[{ on := 12, ground := Ground.data }, { on := 7, ground := Ground.data }, { on := 0, ground := Ground.phase }, { on := 1, ground := Ground.phase }, { on := 2, ground := Ground.textOnly Departure.lateStores }, { on := 3, ground := Ground.textOnly Departure.lateStores }, { on := 4, ground := Ground.phase }, { on := 5, ground := Ground.phase }, { on := 6, ground := Ground.phase }, { on := 7, ground := Ground.phase }, { on := 8, ground := Ground.textOnly Departure.lateStores }, { on := 9, ground := Ground.textOnly Departure.lateStores }, { on := 10, ground := Ground.textOnly Departure.lateStoresUnsure }, { on := 11, ground := Ground.phase }], guard := none }) rfl (by rfl) _ (.tmp 26) (.tmp 21) rfl b (off + i * 16) (bvs dj).toArray rfl rfl (by simpa [lenJ] using tI) (by simpa using zJ) (all_oneCell_toArray oJ) ?_ ?_
        rotate_left; exact AllReady.nil
        try simp only [Act.put, List.setIfInBounds_toArray, List.set_cons_zero, List.set_cons_succ]
        refine wpAny_take (i := 14) (oi := { dst := some 27, op := Op.indexAddr 34 (Operand.tmp 16) (Operand.tmp 17), type := 0, pos := "slices.go:485", after := #[{ on := 2, ground := Ground.data }, { on := 3, ground := Ground.data }, { on := 0, ground := Ground.phase }, { on := 1, ground := Ground.phase }, { on := 2, ground := Ground.phase }, { on := 3, ground := Ground.phase }, { on := 4, ground := Ground.phase }, { on := 5, ground := Ground.phase }, { on := 6, ground := Ground.phase }, { on := 7, ground := Ground.phase }, { on := 8, ground := Ground.phase }, { on := 9, ground := Ground.phase }, { on := 10, ground := Ground.phase }, { on := 11, ground := Ground.phase }, { on := 12, ground := Ground.phase }, { on := 13, ground := Ground.phase }], guard := none }) (v := ?v14_14) rfl (by kernel_rfl) (by kernel_rfl) (by kernel_rfl) (fun _ _ _ h => h) (Or.inl ⟨by rfl, ?h14_14⟩) ?r14_14
        case h14_14 =>
          intro w
          go_simp
          try with_reducible rfl
        try simp only [Act.put, List.setIfInBounds_toArray, List.set_cons_zero, List.set_cons_succ]
        refine wpAny_ready (rs := [15]) (by kernel_rfl) (by simp) ?_
        refine AllReady.storeMid (o := { dst := none, op := Op.store 30 (Operand.tmp 27) (Operand.tmp 25), type := 0, pos := "slices.go:485", after := #[{ on := 14, ground := Ground.data }, { on := 11, ground := Ground.data }, { on := 13, ground := Ground.chain }, { on := 0, ground := Ground.phase }, { on := 1, ground := Ground.phase }, { on := 2, ground := Ground.phase }, { on := 3, ground := Ground.phase }, { on := 4, ground := Ground.phase }, { on := 5, ground := Ground.phase }, { on := 6, ground := Ground.phase }, { on := 7, ground := Ground.phase }, { on := 8, ground := Ground.phase }, { on := 9, ground := Ground.phase }, { on := 10, ground := Ground.phase }, { on := 11, ground := Ground.phase }, { on := 12, ground := Ground.phase }, { on := 13, ground := Ground.phase }], guard := none }) rfl (by rfl) _ (.tmp 27) (.tmp 25) rfl b (off + j * 16) (bvs di).toArray rfl rfl (World.there_setCells (by simpa [lenI] using tJ) _ _ _) (by simpa using zI) (all_oneCell_toArray oI) ?_ ?_
        rotate_left; exact AllReady.nil
        try simp only [Act.put, List.setIfInBounds_toArray, List.set_cons_zero, List.set_cons_succ]
        refine wpAny_done (by kernel_rfl) ?_ _
        try simp only [List.toList_toArray]
        rw [HW.out]
        clear ri' rj' oI oJ zI zJ hu tI tJ
        go_wp2
        exact ⟨⟨i + 1, by omega, rfl, congrArg _ (by have := HJ.out; push_cast; omega), HEW, hFW, hgW⟩, by simp [intOf]; omega⟩
    · go_wp2
      go_end0
      refine ⟨⟨_, rfl⟩, fun t ht => ?_, hF, hg⟩
      have := HE.out t ht
      rwa [revAt_end l (by rw [HL.out]; omega) (by rw [HL.out]; exact ht)] at this
end
/-! A slice literal of one digest; steps of a region that draws, by hand. -/
section
open Go.RowKit
theorem list16 {α : Type} : ∀ (cs : List α), cs.length = 16 → ∃ a0 a1 a2 a3 a4 a5 a6 a7 a8 a9 a10 a11 a12 a13 a14 a15, cs = [a0, a1, a2, a3, a4, a5, a6, a7, a8, a9, a10, a11, a12, a13, a14, a15]
  | [a0, a1, a2, a3, a4, a5, a6, a7, a8, a9, a10, a11, a12, a13, a14, a15], _ => ⟨a0, a1, a2, a3, a4, a5, a6, a7, a8, a9, a10, a11, a12, a13, a14, a15, rfl⟩
theorem infoD : ∃ i, Tryd.prog.info? 30 = some i ∧ i.zero = some (.agg (List.replicate 16 (Value.int .u8 0)).toArray) ∧ i.size = 16 ∧ i.bytes = 16 := by
  have h : (Tryd.prog.info? 30).map (fun i => (i.zero, i.size, i.bytes)) = some (some (.agg (List.replicate 16 (Value.int .u8 0)).toArray), 16, 16) := by kernel_rfl
  cases hq : Tryd.prog.info? 30 with
  | none => rw [hq] at h; cases h
  | some i =>
    rw [hq] at h
    have h := Option.some.inj h
    exact ⟨i, rfl, congrArg (·.1) h, congrArg (·.2.1) h, congrArg (·.2.2) h⟩
theorem fill16 (cs : List Value) (h : cs.length = 16) : Instr.fill (fun i => some (i * 16, 16)) ((Array.range (1 * 16)).map ((Value.agg (List.replicate 16 (Value.int .u8 0)).toArray).cells[· % (Value.agg (List.replicate 16 (Value.int .u8 0)).toArray).cells.size]!)) [(0, .agg cs.toArray)] = some cs.toArray := by
  obtain ⟨a0, a1, a2, a3, a4, a5, a6, a7, a8, a9, a10, a11, a12, a13, a14, a15, rfl⟩ := list16 cs h
  have hz : ((Array.range (1 * 16)).map ((Value.agg (List.replicate 16 (Value.int .u8 0)).toArray).cells[· % (Value.agg (List.replicate 16 (Value.int .u8 0)).toArray).cells.size]!)) = (List.replicate 16 (Value.int .u8 0)).toArray := by kernel_rfl
  rw [hz]
  simp [Instr.fill, Value.cells, List.zipIdx, List.replicate]
theorem AllReady.go {P : Program} {md : Region.Mode} {ops : Array Oper} {Q : Exit → Act → World → Prop} {fuel : Nat} {listed : Array Bool} {a : Act} {w : World} {i : Nat} {o : Oper} {rs : List Nat} (ho : ops[i]? = some o)
    (hw : Region.wanted o (yielded ops a.tmps) = true) (h : ∀ K : Act → World → Prop, (∀ a w, wpAny P md ops Q fuel (listed.setIfInBounds i true) a w → K a w) → o.wp P a w K Q) (hs : AllReady P md ops Q fuel listed a w rs) : AllReady P md ops Q fuel listed a w (i :: rs) :=
  AllReady.cons ho (fun K hK => by rw [if_pos hw]; exact h K hK) hs
theorem wp_build16 {o : Oper} {a : Act} {w : World} {K : Act → World → Prop} {Q : Exit → Act → World → Prop} (x : Operand) (ho : o.op = .buildSlice 34 1 #[(0, x)]) (cs : List Value) (hl : cs.length = 16) (hx : a.eval x = .agg cs.toArray)
    (h : K (a.put o.dst (.slice (some ⟨w.heap.size, 0, none⟩) 1 1)) (w.alloc (.cells cs.toArray 30))) : o.wp Tryd.prog a w K Q := by
  obtain ⟨i, hi, hz, hs, _⟩ := infoD
  refine wp_buildSlice _ 30 1 _ ho cs.toArray i _ Tryd.underlying34 hi hz (by rw [hs]; decide) (by rw [hs]; decide) ?_ h
  rw [hs]
  simp only [List.map_toArray, List.map_cons, List.map_nil, hx]
  exact fill16 cs hl
theorem wp_app16 {o : Oper} {a : Act} {w : World} {K : Act → World → Prop} {Q : Exit → Act → World → Prop} (s x : Operand)
    (ho : o.op = .call { callee := .builtin .append, args := #[s, x], argTypes := #[34, 34] })
    (base : Nat) (v : Value) (n : Nat) (xs : List Value) (hs : a.eval s = v) (hown : w.ownsRow base 30 16 v n xs)
    (b : Nat) (c : Nat) (news : List Value) (hx : a.eval x = .slice (some ⟨b, 0, none⟩) 1 c) (hl : news.length = 16) (hnews : w.rangeAt b 0 news) (h1 : ∀ u ∈ news, u.oneCell' = true)
    (h63 : n ≤ 1099511627776) (hbase : base ≤ w.heap.size)
    (h : ∀ v' w', w'.ownsRow base 30 16 v' (n + 1) (xs ++ news) → w.grownBy w' v.ownBlock → K (a.put o.dst v') w') : o.wp Tryd.prog a w K Q := by
  obtain ⟨i, hi, hz, hsz, hb⟩ := infoD
  exact wp_append_lies w s x _ ho base 30 i _ 16 16 Tryd.underlying34 hi hz hsz hb rfl (by decide) v n xs hs hown ⟨b, 0, none⟩ 1 c news hx (by rw [hl]) (fun j u hu => by rw [Addr.add_mid]; exact hnews j u hu) h1 (by decide) (by unfold maxLen; omega) (by omega) hbase _ rfl (fun g cap w' h2 h3 _ _ => h _ w' h2 h3)
end
/-! One step of a proof: a walk of digest's Prove$1. -/
section
open Go.RowKit
theorem box_old {W W' : World} {B : Nat} {t : TypeId} {v : Value} (h : Boxed W B t v) (hb : Below W.heap.size W W') : Boxed W' B t v := (hb.block B h.lt).trans h
theorem range_new (w : World) (cs : List Value) (t : TypeId) : (w.alloc (.cells cs.toArray t)).rangeAt w.heap.size 0 cs := fun j v hv => by
  have := World.alloc_heap_new w (.cells cs.toArray t)
  rw [cell_of_row _ _ _ _ _ _ this]
  simpa using hv
set_option maxRecDepth 100000 in
set_option maxHeartbeats 2000000 in
theorem prove1_any (n c b off : Nat) (l : List (List UInt8)) (hl : l.length = n) (hn : n ≤ 1099511627776) (hd : D16 l) (hc : n ≤ c) (hcm : c ≤ maxLen) (a1 a2 sib oth : Nat) (hs : sib + oth ≤ n) (ho : 0 < oth) (B0 bo bl : Nat) (vo : Value) (k : Nat) (os : List (List UInt8)) (hkn : k ≤ 1099511627776)
    (w : World) (hT : Tabs w) (hr : Rd w B0 16 (some ⟨b, off, none⟩) n (dvs l)) (hB : B0 ≤ bo) (hbo : Boxed w bo 34 vo) (hbl : Boxed w bl 34 (.slice (some ⟨b, off, none⟩) n c)) (hne : bo ≠ bl) (how : w.ownsRow B0 30 16 vo k (dvs os)) :
    Calls Tryd.prog 40 #[.int .i64 (a1 : Int), .int .i64 (a2 : Int), .int .i64 (sib : Int), .int .i64 (oth : Int), .pointer (some ⟨bo, 0, none⟩), .pointer (some ⟨bl, 0, none⟩)] w fun e w' => (∃ v, e = .returned v) ∧ ∃ v', Boxed w' bo 34 v' ∧ Boxed w' bl 34 (.slice (some ⟨b, off, none⟩) n c) ∧ w'.ownsRow B0 30 16 v' (k + 1) (dvs os ++ bvs (Mk.root ((l.drop sib).take oth))) ∧ Below B0 w w' := by
  have hlt := hbo.lt
  have hBw : B0 ≤ w.heap.size := by omega
  have rd := (hr.rest hd (k := sib) (by omega)).first (hd.drop sib) (k := oth) (by omega)
  rw [Addr.add_mid] at rd
  have HRT := Lib.hid (fun (W : World) (h : Below w.heap.size w W) => root_any oth (c - sib) (some ⟨b, off + sib * 16, none⟩) ((l.drop sib).take oth) (by rw [List.length_take, List.length_drop, hl]; omega) (by omega) B0 W (rd.below (h.mono hBw)) ((hd.drop sib).take oth) (by have := h.size; omega) (by omega) (by omega) (hT.below h))
  have hlr := Mk.root_len ((l.drop sib).take oth)
  generalize Mk.root ((l.drop sib).take oth) = r at *
  have HRL := Lib.hid (show (bvs r).length = 16 by rw [bvs_len, hlr])
  have hw1 : IntKind.i64.wrap ((sib : Int) + (oth : Int)) = (sib : Int) + (oth : Int) := IntWalk.i64_in _ (by omega)
  have hp1 : (0 : Int) ≤ (sib : Int) + (oth : Int) := by omega
  have ht1 : ((sib : Int) + (oth : Int)).toNat = sib + oth := by omega
  have hp2 : (sib : Int) ≤ (sib : Int) + (oth : Int) := by omega
  have hp3 : (sib : Int) + (oth : Int) ≤ (c : Int) := by omega
  have hp4 : sib + oth ≤ c := by omega
  have hp5 : sib ≤ c := by omega
  have hp6 : ¬ c = sib := by omega
  have hp7 : sib + oth - sib = oth := by omega
  have hcell := hbo.cell
  have hcell2 := hbl.cell
  have hW : Below w.heap.size w w.drew := (Below.refl _ _).drew
  clear hl hd hr rd hlr hT
  go_enter Tryd.func40, Tryd.ntmps40
  go_wp2
  refine wp_region_any (by kernel_rfl) ?_
  go_simp
  refine wpAny_take (i := 2) (oi := { dst := some 12, op := Op.move (Operand.tmp 2), type := 3, pos := "digest.go:152", after := #[], guard := none }) (v := ?v2_1) rfl (by kernel_rfl) (by kernel_rfl) (by kernel_rfl) (fun _ _ _ h => h) (Or.inl ⟨by rfl, ?h2_1⟩) ?r2_1
  case h2_1 =>
    intro w
    go_simp
    try with_reducible rfl
  try simp only [Act.put, List.setIfInBounds_toArray, List.set_cons_zero, List.set_cons_succ]
  refine wpAny_take (i := 3) (oi := { dst := some 13, op := Op.move (Operand.tmp 2), type := 3, pos := "digest.go:152", after := #[], guard := none }) (v := ?v3_2) rfl (by kernel_rfl) (by kernel_rfl) (by kernel_rfl) (fun _ _ _ h => h) (Or.inl ⟨by rfl, ?h3_2⟩) ?r3_2
  case h3_2 =>
    intro w
    go_simp
    try with_reducible rfl
  try simp only [Act.put, List.setIfInBounds_toArray, List.set_cons_zero, List.set_cons_succ]
  refine wpAny_take (i := 4) (oi := { dst := some 14, op := Op.move (Operand.tmp 3), type := 3, pos := "digest.go:152", after := #[], guard := none }) (v := ?v4_3) rfl (by kernel_rfl) (by kernel_rfl) (by kernel_rfl) (fun _ _ _ h => h) (Or.inl ⟨by rfl, ?h4_3⟩) ?r4_3
  case h4_3 =>
    intro w
    go_simp
    try with_reducible rfl
  try simp only [Act.put, List.setIfInBounds_toArray, List.set_cons_zero, List.set_cons_succ]
  refine wpAny_take (i := 5) (oi := { dst := some 15, op := Op.binOp BinOp.add 3 (Operand.tmp 13) (Operand.tmp 14) 3, type := 3, pos := "digest.go:152", after := #[{ on := 3, ground := Ground.data }, { on := 4, ground := Ground.data }], guard := none }) (v := ?v5_4) rfl (by kernel_rfl) (by kernel_rfl) (by kernel_rfl) (fun _ _ _ h => h) (Or.inl ⟨by rfl, ?h5_4⟩) ?r5_4
  case h5_4 =>
    intro w
    go_simp
    try with_reducible rfl
  try simp only [Act.put, List.setIfInBounds_toArray, List.set_cons_zero, List.set_cons_succ]
  refine wpAny_ready (rs := [0, 1]) (by kernel_rfl) (by simp) ?_
  refine AllReady.go (o := { dst := some 10, op := Op.load 34 (Operand.tmp 4), type := 34, pos := "digest.go:152", after := #[], guard := none }) rfl (by rfl) (fun K hK => ?_) ?_
  · skip
    go_simp
    refine hK _ _ ?_
    clear hK K
    try simp only [Act.put, List.setIfInBounds_toArray, List.set_cons_zero, List.set_cons_succ]
    refine wpAny_ready (rs := [1]) (by kernel_rfl) (by simp) ?_
    refine AllReady.go (o := { dst := some 11, op := Op.load 34 (Operand.tmp 5), type := 34, pos := "digest.go:152", after := #[], guard := none }) rfl (by rfl) (fun K hK => ?_) ?_
    · skip
      go_simp
      refine hK _ _ ?_
      clear hK K
      try simp only [Act.put, List.setIfInBounds_toArray, List.set_cons_zero, List.set_cons_succ]
      refine wpAny_take (i := 6) (oi := { dst := some 16, op := Op.slice 34 (Operand.tmp 11) (some (Operand.tmp 12)) (some (Operand.tmp 15)) none, type := 34, pos := "digest.go:152", after := #[{ on := 1, ground := Ground.data }, { on := 2, ground := Ground.data }, { on := 5, ground := Ground.data }], guard := none }) (v := ?v6_5) rfl (by kernel_rfl) (by kernel_rfl) (by kernel_rfl) (fun _ _ _ h => h) (Or.inl ⟨by rfl, ?h6_5⟩) ?r6_5
      case h6_5 =>
        intro w
        go_simp
        try with_reducible rfl
      try simp only [Act.put, List.setIfInBounds_toArray, List.set_cons_zero, List.set_cons_succ]
      refine wpAny_ready (rs := [7]) (by kernel_rfl) (by simp) ?_
      refine AllReady.go (o := { dst := some 17, op := Op.call { callee := Callee.value (Operand.func 19), args := #[Operand.tmp 16], argTypes := #[34] }, type := 30, pos := "digest.go:152", after := #[{ on := 6, ground := Ground.data }], guard := none }) rfl (by rfl) (fun K hK => ?_) ?_
      · skip
        go_simp
        refine (HRT.out _ hW).mono ?_
        rintro e w7 ⟨rfl, b7⟩
        have hW7 := stepB hW hW.size b7
        clear hW
        have hW := hW7
        have xo := box_old hbo hW
        have xl := box_old hbl hW
        have xoc := xo.cell
        have xlc := xl.cell
        go_wp2_with fail
        try simp only [Act.put, List.setIfInBounds_toArray, List.set_cons_zero, List.set_cons_succ]
        refine wpAny_ready (rs := [8]) (by kernel_rfl) (by simp) ?_
        refine AllReady.go (o := { dst := some 18, op := Op.buildSlice 34 1 #[(0, Operand.tmp 17)], type := 34, pos := "digest.go:152", after := #[{ on := 7, ground := Ground.data }], guard := none }) rfl (by rfl) (fun K hK => ?_) ?_
        · skip
          refine wp_build16 (.tmp 17) rfl (bvs r) HRL.out rfl ?_
          have hrow := @World.alloc_heap_new
          obtain ⟨w8, h8⟩ : ∃ w8, w7.alloc (.cells (bvs r).toArray 30) = w8 := ⟨_, rfl⟩
          rw [h8]
          have hW8 : Below w.heap.size w w8 := by rw [← h8]; exact hW.alloc hW.size _
          have rg8 : w8.rangeAt w7.heap.size 0 (bvs r) := by rw [← h8]; exact range_new _ _ _
          clear hW
          have hW := hW8
          have xo := box_old hbo hW
          have xl := box_old hbl hW
          have xoc := xo.cell
          have xlc := xl.cell
          refine hK _ _ ?_
          clear hK K
          try simp only [Act.put, List.setIfInBounds_toArray, List.set_cons_zero, List.set_cons_succ]
          refine wpAny_ready (rs := [9]) (by kernel_rfl) (by simp) ?_
          refine AllReady.go (o := { dst := some 19, op := Op.call { callee := Callee.builtin Builtin.append, args := #[Operand.tmp 10, Operand.tmp 18], argTypes := #[34, 34] }, type := 34, pos := "digest.go:152", after := #[{ on := 0, ground := Ground.data }, { on := 8, ground := Ground.data }, { on := 7, ground := Ground.chain }], guard := none }) rfl (by rfl) (fun K hK => ?_) ?_
          · skip
            refine wp_app16 (.tmp 10) (.tmp 18) rfl B0 vo k (dvs os) rfl (own_below how hW) w7.heap.size 1 (bvs r) rfl HRL.out rg8 (List.all_eq_true.1 (bvs_all _)) hkn (by have := hW.size; omega) ?_
            intro v9 w9 own9 g9
            obtain ⟨A9, c9, rfl⟩ := own_slice own9
            have xo9 := xo.kept g9 (hbo.not_row (by decide) how)
            have xl9 := xl.kept g9 (hbl.not_row (by decide) how)
            have xoc9 := xo9.cell
            have xof9 := xo9.frozen
            refine hK _ _ ?_
            clear hK K
            try simp only [Act.put, List.setIfInBounds_toArray, List.set_cons_zero, List.set_cons_succ]
            refine wpAny_ready (rs := [10]) (by kernel_rfl) (by simp) ?_
            refine AllReady.go (o := { dst := none, op := Op.store 34 (Operand.tmp 4) (Operand.tmp 19), type := 0, pos := "digest.go:152", after := #[{ on := 9, ground := Ground.data }, { on := 9, ground := Ground.chain }, { on := 0, ground := Ground.phase }, { on := 1, ground := Ground.phase }, { on := 2, ground := Ground.phase }, { on := 3, ground := Ground.phase }, { on := 4, ground := Ground.phase }, { on := 5, ground := Ground.phase }, { on := 6, ground := Ground.phase }, { on := 7, ground := Ground.phase }, { on := 8, ground := Ground.phase }, { on := 9, ground := Ground.phase }], guard := none }) rfl (by rfl) (fun K hK => ?_) ?_
            · skip
              go_simp
              refine hK _ _ ?_
              clear hK K
              try simp only [Act.put, List.setIfInBounds_toArray, List.set_cons_zero, List.set_cons_succ]
              refine wpAny_done (by kernel_rfl) ?_ _
              go_wp2
              go_end0
              exact ⟨⟨_, rfl⟩, _, Boxed.set _ xo9, xl9.kept (grownBy_setCell' w9 bo _) (fun e => hne (Option.some.inj e).symm), own9.kept (grownBy_setCell' w9 bo _) (.inr (xo9.not_row (by decide) own9).symm), ((hW.mono hBw).grown g9 (by have := hW.size; omega) (fun j hj => (how.lt j hj).1)).grown (grownBy_setCell' w9 bo _) (by have := hW.size; have := g9.size; omega) (fun j hj => by have hj := Option.some.inj hj; omega)⟩
            · skip
              exact AllReady.nil
          · skip
            exact AllReady.nil
        · skip
          exact AllReady.nil
      · skip
        exact AllReady.nil
    · skip
      exact AllReady.nil
  · skip
    refine AllReady.go (o := { dst := some 11, op := Op.load 34 (Operand.tmp 5), type := 34, pos := "digest.go:152", after := #[], guard := none }) rfl (by rfl) (fun K hK => ?_) ?_
    · skip
      go_simp
      refine hK _ _ ?_
      clear hK K
      try simp only [Act.put, List.setIfInBounds_toArray, List.set_cons_zero, List.set_cons_succ]
      refine wpAny_take (i := 6) (oi := { dst := some 16, op := Op.slice 34 (Operand.tmp 11) (some (Operand.tmp 12)) (some (Operand.tmp 15)) none, type := 34, pos := "digest.go:152", after := #[{ on := 1, ground := Ground.data }, { on := 2, ground := Ground.data }, { on := 5, ground := Ground.data }], guard := none }) (v := ?v6_6) rfl (by kernel_rfl) (by kernel_rfl) (by kernel_rfl) (fun _ _ _ h => h) (Or.inl ⟨by rfl, ?h6_6⟩) ?r6_6
      case h6_6 =>
        intro w
        go_simp
        try with_reducible rfl
      try simp only [Act.put, List.setIfInBounds_toArray, List.set_cons_zero, List.set_cons_succ]
      refine wpAny_ready (rs := [0, 7]) (by kernel_rfl) (by simp) ?_
      refine AllReady.go (o := { dst := some 10, op := Op.load 34 (Operand.tmp 4), type := 34, pos := "digest.go:152", after := #[], guard := none }) rfl (by rfl) (fun K hK => ?_) ?_
      · skip
        go_simp
        refine hK _ _ ?_
        clear hK K
        try simp only [Act.put, List.setIfInBounds_toArray, List.set_cons_zero, List.set_cons_succ]
        refine wpAny_ready (rs := [7]) (by kernel_rfl) (by simp) ?_
        refine AllReady.go (o := { dst := some 17, op := Op.call { callee := Callee.value (Operand.func 19), args := #[Operand.tmp 16], argTypes := #[34] }, type := 30, pos := "digest.go:152", after := #[{ on := 6, ground := Ground.data }], guard := none }) rfl (by rfl) (fun K hK => ?_) ?_
        · skip
          go_simp
          refine (HRT.out _ hW).mono ?_
          rintro e w7 ⟨rfl, b7⟩
          have hW7 := stepB hW hW.size b7
          clear hW
          have hW := hW7
          have xo := box_old hbo hW
          have xl := box_old hbl hW
          have xoc := xo.cell
          have xlc := xl.cell
          go_wp2_with fail
          try simp only [Act.put, List.setIfInBounds_toArray, List.set_cons_zero, List.set_cons_succ]
          refine wpAny_ready (rs := [8]) (by kernel_rfl) (by simp) ?_
          refine AllReady.go (o := { dst := some 18, op := Op.buildSlice 34 1 #[(0, Operand.tmp 17)], type := 34, pos := "digest.go:152", after := #[{ on := 7, ground := Ground.data }], guard := none }) rfl (by rfl) (fun K hK => ?_) ?_
          · skip
            refine wp_build16 (.tmp 17) rfl (bvs r) HRL.out rfl ?_
            have hrow := @World.alloc_heap_new
            obtain ⟨w8, h8⟩ : ∃ w8, w7.alloc (.cells (bvs r).toArray 30) = w8 := ⟨_, rfl⟩
            rw [h8]
            have hW8 : Below w.heap.size w w8 := by rw [← h8]; exact hW.alloc hW.size _
            have rg8 : w8.rangeAt w7.heap.size 0 (bvs r) := by rw [← h8]; exact range_new _ _ _
            clear hW
            have hW := hW8
            have xo := box_old hbo hW
            have xl := box_old hbl hW
            have xoc := xo.cell
            have xlc := xl.cell
            refine hK _ _ ?_
            clear hK K
            try simp only [Act.put, List.setIfInBounds_toArray, List.set_cons_zero, List.set_cons_succ]
            refine wpAny_ready (rs := [9]) (by kernel_rfl) (by simp) ?_
            refine AllReady.go (o := { dst := some 19, op := Op.call { callee := Callee.builtin Builtin.append, args := #[Operand.tmp 10, Operand.tmp 18], argTypes := #[34, 34] }, type := 34, pos := "digest.go:152", after := #[{ on := 0, ground := Ground.data }, { on := 8, ground := Ground.data }, { on := 7, ground := Ground.chain }], guard := none }) rfl (by rfl) (fun K hK => ?_) ?_
            · skip
              refine wp_app16 (.tmp 10) (.tmp 18) rfl B0 vo k (dvs os) rfl (own_below how hW) w7.heap.size 1 (bvs r) rfl HRL.out rg8 (List.all_eq_true.1 (bvs_all _)) hkn (by have := hW.size; omega) ?_
              intro v9 w9 own9 g9
              obtain ⟨A9, c9, rfl⟩ := own_slice own9
              have xo9 := xo.kept g9 (hbo.not_row (by decide) how)
              have xl9 := xl.kept g9 (hbl.not_row (by decide) how)
              have xoc9 := xo9.cell
              have xof9 := xo9.frozen
              refine hK _ _ ?_
              clear hK K
              try simp only [Act.put, List.setIfInBounds_toArray, List.set_cons_zero, List.set_cons_succ]
              refine wpAny_ready (rs := [10]) (by kernel_rfl) (by simp) ?_
              refine AllReady.go (o := { dst := none, op := Op.store 34 (Operand.tmp 4) (Operand.tmp 19), type := 0, pos := "digest.go:152", after := #[{ on := 9, ground := Ground.data }, { on := 9, ground := Ground.chain }, { on := 0, ground := Ground.phase }, { on := 1, ground := Ground.phase }, { on := 2, ground := Ground.phase }, { on := 3, ground := Ground.phase }, { on := 4, ground := Ground.phase }, { on := 5, ground := Ground.phase }, { on := 6, ground := Ground.phase }, { on := 7, ground := Ground.phase }, { on := 8, ground := Ground.phase }, { on := 9, ground := Ground.phase }], guard := none }) rfl (by rfl) (fun K hK => ?_) ?_
              · skip
                go_simp
                refine hK _ _ ?_
                clear hK K
                try simp only [Act.put, List.setIfInBounds_toArray, List.set_cons_zero, List.set_cons_succ]
                refine wpAny_done (by kernel_rfl) ?_ _
                go_wp2
                go_end0
                exact ⟨⟨_, rfl⟩, _, Boxed.set _ xo9, xl9.kept (grownBy_setCell' w9 bo _) (fun e => hne (Option.some.inj e).symm), own9.kept (grownBy_setCell' w9 bo _) (.inr (xo9.not_row (by decide) own9).symm), ((hW.mono hBw).grown g9 (by have := hW.size; omega) (fun j hj => (how.lt j hj).1)).grown (grownBy_setCell' w9 bo _) (by have := hW.size; have := g9.size; omega) (fun j hj => by have hj := Option.some.inj hj; omega)⟩
              · skip
                exact AllReady.nil
            · skip
              exact AllReady.nil
          · skip
            exact AllReady.nil
        · skip
          exact AllReady.nil
      · skip
        refine AllReady.go (o := { dst := some 17, op := Op.call { callee := Callee.value (Operand.func 19), args := #[Operand.tmp 16], argTypes := #[34] }, type := 30, pos := "digest.go:152", after := #[{ on := 6, ground := Ground.data }], guard := none }) rfl (by rfl) (fun K hK => ?_) ?_
        · skip
          go_simp
          refine (HRT.out _ hW).mono ?_
          rintro e w7 ⟨rfl, b7⟩
          have hW7 := stepB hW hW.size b7
          clear hW
          have hW := hW7
          have xo := box_old hbo hW
          have xl := box_old hbl hW
          have xoc := xo.cell
          have xlc := xl.cell
          go_wp2_with fail
          try simp only [Act.put, List.setIfInBounds_toArray, List.set_cons_zero, List.set_cons_succ]
          refine wpAny_ready (rs := [0, 8]) (by kernel_rfl) (by simp) ?_
          refine AllReady.go (o := { dst := some 10, op := Op.load 34 (Operand.tmp 4), type := 34, pos := "digest.go:152", after := #[], guard := none }) rfl (by rfl) (fun K hK => ?_) ?_
          · skip
            go_simp
            refine hK _ _ ?_
            clear hK K
            try simp only [Act.put, List.setIfInBounds_toArray, List.set_cons_zero, List.set_cons_succ]
            refine wpAny_ready (rs := [8]) (by kernel_rfl) (by simp) ?_
            refine AllReady.go (o := { dst := some 18, op := Op.buildSlice 34 1 #[(0, Operand.tmp 17)], type := 34, pos := "digest.go:152", after := #[{ on := 7, ground := Ground.data }], guard := none }) rfl (by rfl) (fun K hK => ?_) ?_
            · skip
              refine wp_build16 (.tmp 17) rfl (bvs r) HRL.out rfl ?_
              have hrow := @World.alloc_heap_new
              obtain ⟨w8, h8⟩ : ∃ w8, w7.alloc (.cells (bvs r).toArray 30) = w8 := ⟨_, rfl⟩
              rw [h8]
              have hW8 : Below w.heap.size w w8 := by rw [← h8]; exact hW.alloc hW.size _
              have rg8 : w8.rangeAt w7.heap.size 0 (bvs r) := by rw [← h8]; exact range_new _ _ _
              clear hW
              have hW := hW8
              have xo := box_old hbo hW
              have xl := box_old hbl hW
              have xoc := xo.cell
              have xlc := xl.cell
              refine hK _ _ ?_
              clear hK K
              try simp only [Act.put, List.setIfInBounds_toArray, List.set_cons_zero, List.set_cons_succ]
              refine wpAny_ready (rs := [9]) (by kernel_rfl) (by simp) ?_
              refine AllReady.go (o := { dst := some 19, op := Op.call { callee := Callee.builtin Builtin.append, args := #[Operand.tmp 10, Operand.tmp 18], argTypes := #[34, 34] }, type := 34, pos := "digest.go:152", after := #[{ on := 0, ground := Ground.data }, { on := 8, ground := Ground.data }, { on := 7, ground := Ground.chain }], guard := none }) rfl (by rfl) (fun K hK => ?_) ?_
              · skip
                refine wp_app16 (.tmp 10) (.tmp 18) rfl B0 vo k (dvs os) rfl (own_below how hW) w7.heap.size 1 (bvs r) rfl HRL.out rg8 (List.all_eq_true.1 (bvs_all _)) hkn (by have := hW.size; omega) ?_
                intro v9 w9 own9 g9
                obtain ⟨A9, c9, rfl⟩ := own_slice own9
                have xo9 := xo.kept g9 (hbo.not_row (by decide) how)
                have xl9 := xl.kept g9 (hbl.not_row (by decide) how)
                have xoc9 := xo9.cell
                have xof9 := xo9.frozen
                refine hK _ _ ?_
                clear hK K
                try simp only [Act.put, List.setIfInBounds_toArray, List.set_cons_zero, List.set_cons_succ]
                refine wpAny_ready (rs := [10]) (by kernel_rfl) (by simp) ?_
                refine AllReady.go (o := { dst := none, op := Op.store 34 (Operand.tmp 4) (Operand.tmp 19), type := 0, pos := "digest.go:152", after := #[{ on := 9, ground := Ground.data }, { on := 9, ground := Ground.chain }, { on := 0, ground := Ground.phase }, { on := 1, ground := Ground.phase }, { on := 2, ground := Ground.phase }, { on := 3, ground := Ground.phase }, { on := 4, ground := Ground.phase }, { on := 5, ground := Ground.phase }, { on := 6, ground := Ground.phase }, { on := 7, ground := Ground.phase }, { on := 8, ground := Ground.phase }, { on := 9, ground := Ground.phase }], guard := none }) rfl (by rfl) (fun K hK => ?_) ?_
                · skip
                  go_simp
                  refine hK _ _ ?_
                  clear hK K
                  try simp only [Act.put, List.setIfInBounds_toArray, List.set_cons_zero, List.set_cons_succ]
                  refine wpAny_done (by kernel_rfl) ?_ _
                  go_wp2
                  go_end0
                  exact ⟨⟨_, rfl⟩, _, Boxed.set _ xo9, xl9.kept (grownBy_setCell' w9 bo _) (fun e => hne (Option.some.inj e).symm), own9.kept (grownBy_setCell' w9 bo _) (.inr (xo9.not_row (by decide) own9).symm), ((hW.mono hBw).grown g9 (by have := hW.size; omega) (fun j hj => (how.lt j hj).1)).grown (grownBy_setCell' w9 bo _) (by have := hW.size; have := g9.size; omega) (fun j hj => by have hj := Option.some.inj hj; omega)⟩
                · skip
                  exact AllReady.nil
              · skip
                exact AllReady.nil
            · skip
              exact AllReady.nil
          · skip
            refine AllReady.go (o := { dst := some 18, op := Op.buildSlice 34 1 #[(0, Operand.tmp 17)], type := 34, pos := "digest.go:152", after := #[{ on := 7, ground := Ground.data }], guard := none }) rfl (by rfl) (fun K hK => ?_) ?_
            · skip
              refine wp_build16 (.tmp 17) rfl (bvs r) HRL.out rfl ?_
              have hrow := @World.alloc_heap_new
              obtain ⟨w8, h8⟩ : ∃ w8, w7.alloc (.cells (bvs r).toArray 30) = w8 := ⟨_, rfl⟩
              rw [h8]
              have hW8 : Below w.heap.size w w8 := by rw [← h8]; exact hW.alloc hW.size _
              have rg8 : w8.rangeAt w7.heap.size 0 (bvs r) := by rw [← h8]; exact range_new _ _ _
              clear hW
              have hW := hW8
              have xo := box_old hbo hW
              have xl := box_old hbl hW
              have xoc := xo.cell
              have xlc := xl.cell
              refine hK _ _ ?_
              clear hK K
              try simp only [Act.put, List.setIfInBounds_toArray, List.set_cons_zero, List.set_cons_succ]
              refine wpAny_ready (rs := [0]) (by kernel_rfl) (by simp) ?_
              refine AllReady.go (o := { dst := some 10, op := Op.load 34 (Operand.tmp 4), type := 34, pos := "digest.go:152", after := #[], guard := none }) rfl (by rfl) (fun K hK => ?_) ?_
              · skip
                go_simp
                refine hK _ _ ?_
                clear hK K
                try simp only [Act.put, List.setIfInBounds_toArray, List.set_cons_zero, List.set_cons_succ]
                refine wpAny_ready (rs := [9]) (by kernel_rfl) (by simp) ?_
                refine AllReady.go (o := { dst := some 19, op := Op.call { callee := Callee.builtin Builtin.append, args := #[Operand.tmp 10, Operand.tmp 18], argTypes := #[34, 34] }, type := 34, pos := "digest.go:152", after := #[{ on := 0, ground := Ground.data }, { on := 8, ground := Ground.data }, { on := 7, ground := Ground.chain }], guard := none }) rfl (by rfl) (fun K hK => ?_) ?_
                · skip
                  refine wp_app16 (.tmp 10) (.tmp 18) rfl B0 vo k (dvs os) rfl (own_below how hW) w7.heap.size 1 (bvs r) rfl HRL.out rg8 (List.all_eq_true.1 (bvs_all _)) hkn (by have := hW.size; omega) ?_
                  intro v9 w9 own9 g9
                  obtain ⟨A9, c9, rfl⟩ := own_slice own9
                  have xo9 := xo.kept g9 (hbo.not_row (by decide) how)
                  have xl9 := xl.kept g9 (hbl.not_row (by decide) how)
                  have xoc9 := xo9.cell
                  have xof9 := xo9.frozen
                  refine hK _ _ ?_
                  clear hK K
                  try simp only [Act.put, List.setIfInBounds_toArray, List.set_cons_zero, List.set_cons_succ]
                  refine wpAny_ready (rs := [10]) (by kernel_rfl) (by simp) ?_
                  refine AllReady.go (o := { dst := none, op := Op.store 34 (Operand.tmp 4) (Operand.tmp 19), type := 0, pos := "digest.go:152", after := #[{ on := 9, ground := Ground.data }, { on := 9, ground := Ground.chain }, { on := 0, ground := Ground.phase }, { on := 1, ground := Ground.phase }, { on := 2, ground := Ground.phase }, { on := 3, ground := Ground.phase }, { on := 4, ground := Ground.phase }, { on := 5, ground := Ground.phase }, { on := 6, ground := Ground.phase }, { on := 7, ground := Ground.phase }, { on := 8, ground := Ground.phase }, { on := 9, ground := Ground.phase }], guard := none }) rfl (by rfl) (fun K hK => ?_) ?_
                  · skip
                    go_simp
                    refine hK _ _ ?_
                    clear hK K
                    try simp only [Act.put, List.setIfInBounds_toArray, List.set_cons_zero, List.set_cons_succ]
                    refine wpAny_done (by kernel_rfl) ?_ _
                    go_wp2
                    go_end0
                    exact ⟨⟨_, rfl⟩, _, Boxed.set _ xo9, xl9.kept (grownBy_setCell' w9 bo _) (fun e => hne (Option.some.inj e).symm), own9.kept (grownBy_setCell' w9 bo _) (.inr (xo9.not_row (by decide) own9).symm), ((hW.mono hBw).grown g9 (by have := hW.size; omega) (fun j hj => (how.lt j hj).1)).grown (grownBy_setCell' w9 bo _) (by have := hW.size; have := g9.size; omega) (fun j hj => by have hj := Option.some.inj hj; omega)⟩
                  · skip
                    exact AllReady.nil
                · skip
                  exact AllReady.nil
              · skip
                exact AllReady.nil
            · skip
              exact AllReady.nil
        · skip
          exact AllReady.nil
    · skip
      exact AllReady.nil
end
/-! The proof of an element in plain Lean; readers out of ranges. No condition. -/
section
open Go.RowKit
namespace Mk
theorem stepsF_in : ∀ (f at_ n i : Nat), i < n → ∀ s ∈ stepsF f at_ n i, s.2.2.1 + s.2.2.2 ≤ at_ + n ∧ 0 < s.2.2.2
  | 0, _, _, _, _, s, hs => by simp [stepsF] at hs
  | f + 1, at_, n, i, hi, s, hs => by
    unfold stepsF at hs
    by_cases h1 : n ≤ 1
    · rw [if_pos h1] at hs; simp at hs
    · have h2 := split_lt (n := n) (by omega)
      have h3 := split_pos n
      rw [if_neg h1] at hs
      by_cases hlt : i < split n
      · rw [if_pos hlt] at hs
        rcases List.mem_cons.1 hs with rfl | hs
        · exact ⟨by show at_ + split n + (n - split n) ≤ _; omega, by show 0 < n - split n; omega⟩
        · have := stepsF_in f at_ (split n) i hlt s hs; omega
      · rw [if_neg hlt] at hs
        rcases List.mem_cons.1 hs with rfl | hs
        · exact ⟨by show at_ + split n ≤ _; omega, h3⟩
        · have := stepsF_in f (at_ + split n) (n - split n) (i - split n) (by omega) s hs; omega
theorem stepsF_len : ∀ (f at_ n i : Nat), (stepsF f at_ n i).length ≤ n
  | 0, _, _, _ => by simp [stepsF]
  | f + 1, at_, n, i => by
    unfold stepsF
    by_cases h1 : n ≤ 1
    · rw [if_pos h1]; simp
    · have h2 := split_lt (n := n) (by omega)
      have h3 := split_pos n
      rw [if_neg h1]
      by_cases hlt : i < split n
      · rw [if_pos hlt]
        have := stepsF_len f at_ (split n) i
        rw [List.length_cons]; omega
      · rw [if_neg hlt]
        have := stepsF_len f (at_ + split n) (n - split n) (i - split n)
        rw [List.length_cons]; omega
/-- what a step hands on -/
def sib (l : List (List UInt8)) (s : Step) : List UInt8 := root ((l.drop s.2.2.1).take s.2.2.2)
/-- the proof of the element i -/
def prove (l : List (List UInt8)) (i : Nat) : List (List UInt8) := ((steps 0 l.length i).map (sib l)).reverse
theorem sibs_16 (l : List (List UInt8)) (p : List Step) : D16 (p.map (sib l)) := fun d hd => by
  obtain ⟨s, _, rfl⟩ := List.mem_map.1 hd
  exact root_len _
end Mk
/-- the cell j of a list of digests -/
theorem dvs_get : ∀ {l : List (List UInt8)} (_ : D16 l) (j : Nat), (dvs l)[j]? = (bvs (l.getD (j / 16) []))[j % 16]?
  | [], _, j => by simp [dvs]
  | d :: l, h, j => by
    have hd : (bvs d).length = 16 := h.cells d (by simp)
    have hl : D16 l := fun x hx => h x (by simp [hx])
    show (bvs d ++ dvs l)[j]? = _
    by_cases hj : j < 16
    · rw [List.getElem?_append_left (by omega), show j / 16 = 0 from by omega, show j % 16 = j from by omega]; rfl
    · rw [List.getElem?_append_right (by omega), hd, dvs_get hl, show j / 16 = (j - 16) / 16 + 1 from by omega, show (j - 16) % 16 = j % 16 from by omega]; rfl
/-- each digest where it lies: a reader -/
theorem Rd.of_ranges {w : World} {B b off n : Nat} {l : List (List UInt8)} (hd : D16 l) (hl : l.length = n) (hb : b < B) (h : ∀ t, t < n → w.rangeAt b (off + t * 16) (bvs (l.getD t []))) : Rd w B 16 (some ⟨b, off, none⟩) n (dvs l) :=
  ⟨by rw [dvs_len hd, hl], fun _ => ⟨b, off, rfl, hb, fun j u hj => by
    have hjl : j < (dvs l).length := by
      rcases Nat.lt_or_ge j (dvs l).length with h' | h'
      · exact h'
      · rw [List.getElem?_eq_none h'] at hj; cases hj
    rw [dvs_len hd, hl] at hjl
    rw [dvs_get hd] at hj
    have := h (j / 16) (by omega) (j % 16) u hj
    rwa [show off + j / 16 * 16 + j % 16 = off + j from by omega] at this⟩⟩
/-- and back -/
theorem Rd.ranges {w : World} {B b off n : Nat} {l : List (List UInt8)} (hd : D16 l) (hl : l.length = n) (h : Rd w B 16 (some ⟨b, off, none⟩) n (dvs l)) : ∀ t, t < n → w.rangeAt b (off + t * 16) (bvs (l.getD t [])) := fun t ht r u hr => by
  obtain ⟨b', off', e, _, hc⟩ := h.2 (by omega)
  have e := Option.some.inj e
  have eb : b = b' := congrArg (·.block) e
  have eo : off = off' := congrArg (·.off) e
  subst eb eo
  have hr16 : r < 16 := by
    have hlen : (bvs (l.getD t [])).length = 16 := by
      simp only [List.getD]
      rw [List.getElem?_eq_getElem (by omega)]
      exact hd.cells _ (List.getElem_mem (by omega))
    rcases Nat.lt_or_ge r 16 with h' | h'
    · exact h'
    · rw [List.getElem?_eq_none (by omega)] at hr; cases hr
  have := hc (t * 16 + r) u (by rw [dvs_get hd, show (t * 16 + r) / 16 = t from by omega, show (t * 16 + r) % 16 = r from by omega]; exact hr)
  rwa [← Nat.add_assoc] at this
set_option maxRecDepth 100000 in
theorem reverseD_nil (w : World) : Calls Tryd.prog 41 #[.slice none 0 0] w fun e w' => (∃ v, e = .returned v) ∧ w.grownBy w' none := by
  go_enter Tryd.func41, Tryd.ntmps41
  go_wp2
  go_loopw [2, 3] (fun u2 u3 wr => u2 = .int .i64 0 ∧ u3 = .int .i64 (-1) ∧ w.grownBy wr none) (fun _ _ _ => 0)
  case atStart => exact ⟨rfl, rfl, World.grownBy.refl w _⟩
  case round =>
    obtain ⟨rfl, rfl, hg⟩ := hrel
    go_wp2
    go_end0
    exact ⟨⟨_, rfl⟩, hg⟩
end
/-! digest.Prove: a walk of its text. -/
section
open Go.RowKit
theorem heg40 (args : Array Value) (w : World) : (callFunc 40 args).run Tryd.prog w = .ok (.enter 40 args) w := by
  have h1 : Tryd.f40.name = "runtime.NumGoroutine" ↔ False := by simp [Tryd.f40]
  have h2 : Tryd.f40.body = none ↔ False := by simp [Tryd.f40]
  simp [callFunc, h1, h2]
theorem alloc_size1 (w : World) (o : Obj) : (w.alloc o).heap.size = w.heap.size + 1 := Array.size_push _
theorem own_ranges {w : World} {base e g n cap : Nat} {l : List (List UInt8)} (hd : D16 l) (hl : l.length = n) (h : w.ownsRow base e 16 (.slice (some ⟨g, 0, none⟩) n cap) n (dvs l)) :
    (∀ t, t < n → w.rangeAt g (0 + t * 16) (bvs (l.getD t []))) ∧ w.there g 0 (n * 16) := by
  have rd := Rd.of_own h
  refine ⟨Rd.ranges hd hl rd, fun j hj => ⟨?_, ?_⟩⟩
  · obtain ⟨b', off', e', _, hc⟩ := rd.2 (by omega)
    have e' := Option.some.inj e'
    have eb : g = b' := congrArg (·.block) e'
    have eo : 0 = off' := congrArg (·.off) e'
    subst eb eo
    have hj' : j < (dvs l).length := by rw [dvs_len hd, hl]; exact hj
    rw [hc j _ (List.getElem?_eq_getElem hj')]; rfl
  · exact h.frozenAt _
theorem reverse_own (w : World) (vo : Value) (m : Nat) (L : List (List UInt8)) (hD : D16 L) (hm : L.length = m) (hm2 : m ≤ 1099511627776) (base : Nat) (how : w.ownsRow base 30 16 vo m (dvs L)) (hnil : m = 0 → vo = .slice none 0 0) :
    Calls Tryd.prog 41 #[vo] w fun e w' => (∃ v, e = .returned v) ∧ w.grownBy w' vo.ownBlock ∧ ∃ A' c', vo = .slice A' m c' ∧ m ≤ c' ∧ c' ≤ maxLen ∧ Rd w' w'.heap.size 16 A' m (dvs L.reverse) := by
  rcases Nat.eq_zero_or_pos m with h0 | h1
  · have hv := hnil h0
    subst hv h0
    have hL : L = [] := List.eq_nil_of_length_eq_zero hm
    subst hL
    refine (reverseD_nil w).mono ?_
    rintro e w' ⟨hv, hg⟩
    exact ⟨hv, hg, none, 0, rfl, Nat.le_refl _, by decide, Rd.nil_ _ _ _ _⟩
  · rcases how.2 with ⟨_, h⟩ | ⟨g, cap, cur, rfl, hb, hgb, hn, hcm, _⟩
    · omega
    · obtain ⟨hE, hF⟩ := own_ranges hD hm how
      have hlt := (Array.getElem?_eq_some_iff.1 hgb).1
      refine (reverseD_any m cap g 0 L hm h1 hm2 hD w hE hF).mono ?_
      rintro e w' ⟨hv, hE', _, hg⟩
      exact ⟨hv, hg, some ⟨g, 0, none⟩, cap, rfl, hn, hcm, Rd.of_ranges (fun d hd => hD d (List.mem_reverse.1 hd)) (by rw [List.length_reverse, hm]) (by have := hg.size; omega) hE'⟩
/-- what holds between two steps of a proof: out's variable, l's, the proof so far -/
def ProveJ (w : World) (b off n c : Nat) (l : List (List UInt8)) (pre : List Mk.Step) (W : World) : Prop :=
  ∃ vo, (pre = [] → vo = .slice none 0 0) ∧ Boxed W (w.heap.size + 1) 34 vo ∧ Boxed W w.heap.size 34 (.slice (some ⟨b, off, none⟩) n c) ∧ W.ownsRow w.heap.size 30 16 vo pre.length (dvs (pre.map (Mk.sib l))) ∧ Below w.heap.size w W
theorem prove_step (n c b off i : Nat) (l : List (List UInt8)) (hl : l.length = n) (hn : n ≤ 1099511627776) (hd : D16 l) (hc : n ≤ c) (hcm : c ≤ maxLen) (hi : i < n) (B : Nat) (w : World) (hT : Tabs w) (hr : Rd w B 16 (some ⟨b, off, none⟩) n (dvs l)) (hB : B ≤ w.heap.size)
    (pre : List Mk.Step) (s : Mk.Step) (rest : List Mk.Step) (W : World) (hs : Mk.steps 0 n i = pre ++ s :: rest) (hJ : ProveJ w b off n c l pre W) :
    Calls Tryd.prog 40 (stepArgs s ++ #[.pointer (some ⟨w.heap.size + 1, 0, none⟩), .pointer (some ⟨w.heap.size, 0, none⟩)]) W fun e W' => (∃ v, e = .returned v) ∧ ProveJ w b off n c l (pre ++ [s]) W' := by
  obtain ⟨vo, _, xo, xl, own, hv⟩ := hJ
  have hin := Mk.stepsF_in n 0 n i hi s (by show s ∈ Mk.steps 0 n i; rw [hs]; simp)
  have hlen := Mk.stepsF_len n 0 n i
  have hpl : pre.length < n + 1 := by
    have : (Mk.steps 0 n i).length ≤ n := hlen
    rw [hs, List.length_append, List.length_cons] at this; omega
  have hTW : Tabs W := hT.below hv
  have hrW : Rd W w.heap.size 16 (some ⟨b, off, none⟩) n (dvs l) := (hr.more hB).below hv
  refine (prove1_any n c b off l hl hn hd hc hcm s.1 s.2.1 s.2.2.1 s.2.2.2 (by omega) (by omega) w.heap.size (w.heap.size + 1) w.heap.size vo pre.length (pre.map (Mk.sib l)) (by omega) W hTW hrW (by omega) xo xl (by omega) own).mono ?_
  rintro e W' ⟨hv', v', xo', xl', own', b'⟩
  refine ⟨hv', v', fun h => by simp at h, xo', xl', ?_, hv.trans b'⟩
  have e1 : dvs ((pre ++ [s]).map (Mk.sib l)) = dvs (pre.map (Mk.sib l)) ++ bvs (Mk.root ((l.drop s.2.2.1).take s.2.2.2)) := by
    rw [List.map_append, dvs, List.flatMap_append]
    simp [Mk.sib]
  rw [e1, List.length_append]
  exact own'
set_option maxRecDepth 100000 in
set_option maxHeartbeats 2000000 in
theorem prove_ok (n c b off i : Nat) (l : List (List UInt8)) (hl : l.length = n) (hn : n ≤ 1099511627776) (hd : D16 l) (hc : n ≤ c) (hcm : c ≤ maxLen) (hi : i < n) (B : Nat) (w : World) (hT : Tabs w) (hr : Rd w B 16 (some ⟨b, off, none⟩) n (dvs l)) (hB : B ≤ w.heap.size) :
    Calls Tryd.prog 15 #[.slice (some ⟨b, off, none⟩) n c, .int .i64 (i : Int)] w fun e w' => ∃ A' m c', e = .returned (.tuple #[.slice A' m c', .int .i64 0]) ∧ m = (Mk.prove l i).length ∧ m ≤ c' ∧ c' ≤ maxLen ∧ Rd w' w'.heap.size 16 A' m (dvs (Mk.prove l i)) ∧ Below w.heap.size w w' := by
  have i0 : ¬ ((i : Int) < 0) := by omega
  have i1 : (i : Int) < (n : Int) := by omega
  have hstep := fun pre s rest W h1 h2 => prove_step n c b off i l hl hn hd hc hcm hi B w hT hr hB pre s rest W h1 h2
  have hlen : (Mk.steps 0 n i).length ≤ n := Mk.stepsF_len n 0 n i
  have hW1 : ProveJ w b off n c l [] ((w.alloc (.cells #[.slice (some ⟨b, off, none⟩) n c] 34)).alloc (.cells #[.slice none 0 0] 34)) :=
    ⟨_, fun _ => rfl, by have := Boxed.new (w.alloc (.cells #[.slice (some ⟨b, off, none⟩) n c] 34)) 34 (.slice none 0 0); rwa [alloc_size1] at this, (Boxed.new w _ _).alloc _, ⟨rfl, .inl ⟨rfl, rfl⟩⟩, ((Below.refl _ w).alloc (Nat.le_refl _) _).alloc (by rw [alloc_size1]; exact Nat.le_succ _) _⟩
  have HD := Lib.hid (fun W h => descend_any n i hi (by omega) 40 heg40 #[.pointer (some ⟨w.heap.size + 1, 0, none⟩), .pointer (some ⟨w.heap.size, 0, none⟩)] (ProveJ w b off n c l) W hstep h)
  have HP : Hid (Mk.prove l i = ((Mk.steps 0 n i).map (Mk.sib l)).reverse) := Lib.hid (by unfold Mk.prove; rw [hl])
  generalize Mk.steps 0 n i = ss at *
  have HLEN := Lib.hid hlen
  clear hstep hl hlen hd hr hT
  go_enter Tryd.func15, Tryd.ntmps15
  go_wp2_with (first
    | (go_at_call 39; refine (HD.out _ hW1).mono ?_; rintro e w2 ⟨⟨v2, rfl⟩, vo, hnil, xo, xl, own, b2⟩; have xoc := xo.cell; have xlc := xl.cell)
    | (go_at_call 41; refine (reverse_own w2 vo ss.length (ss.map (Mk.sib l)) (Mk.sibs_16 l ss) (by simp) (by have := HLEN.out; omega) w.heap.size own (fun h => hnil (List.eq_nil_of_length_eq_zero h))).mono ?_; rintro e w3 ⟨⟨v3, rfl⟩, g3, A', c', rfl, hc1, hc2, rd3⟩; have xo3 := xo.kept g3 (xo.not_row (by decide) own); have xoc3 := xo3.cell))
  have hb3 : Below w.heap.size w w3 := b2.grown g3 b2.size (fun j hj => (own.lt j hj).1)
  exact bodyPost_ret (results_tmp2 rfl _ _ _) rfl ⟨A', ss.length, c', rfl, by rw [HP.out, List.length_reverse, List.length_map], hc1, hc2, by rw [HP.out]; exact rd3, hb3⟩
end
/-! digest.Prove where there is no such element. -/
section
open Go.RowKit
set_option maxRecDepth 100000 in
set_option maxHeartbeats 1000000 in
theorem prove_err (A : Option Addr) (n c : Nat) (i : Int) (hi : i < 0 ∨ (n : Int) ≤ i) (w : World) :
    Calls Tryd.prog 15 #[.slice A n c, .int .i64 i] w fun e w' => e = .returned (.tuple #[.slice none 0 0, .int .i64 12]) ∧ Below w.heap.size w w' := by
  have hb1 : Below w.heap.size w (w.alloc (.cells #[.slice A n c] 34)) := (Below.refl _ w).alloc (Nat.le_refl _) _
  by_cases h0 : i < 0
  · go_enter Tryd.func15, Tryd.ntmps15
    go_wp2
    exact bodyPost_ret (results_tmp2 rfl _ _ _) rfl ⟨rfl, hb1⟩
  · have h1 : 0 ≤ i := by omega
    have h2 : (n : Int) ≤ i := by omega
    go_enter Tryd.func15, Tryd.ntmps15
    go_wp2
    exact bodyPost_ret (results_tmp2 rfl _ _ _) rfl ⟨rfl, hb1⟩
end
end Go.Proofs.YtfnbcchmembomaaDoor
