/- Layer 37's every, Valid, New and library functions at ints: Clone, IndexFunc, ContainsFunc. Conditions: at most 1000 elements. -/
import Derived.Test.YtfihdenapjmaeaaSch6
import Derived.Test.YtfihdenapjmaeaaSchQ
import Derived.Lib.SliceRun
namespace Go.Proofs.Ytfihdenapjmaeaa
set_option linter.unusedVariables false
set_option linter.unusedSimpArgs false
open Go.RowKit
theorem intsE : ElemT Try.prog 22 3 (.int .i64 0) 1 8 := ⟨Try.underlying22, by kernel_rfl, rfl, by decide, by decide⟩
theorem nvs_one (l : List Nat) : ∀ u ∈ nvs l, u.oneCell' = true := by
  intro u hu; simp only [nvs, List.mem_map] at hu; obtain ⟨x, _, rfl⟩ := hu; rfl
theorem nvs_ivs (l : List Nat) : nvs l = ivs (l.map fun k : Nat => (k : Int)) := by simp [nvs, ivs]
set_option maxHeartbeats 800000 in
theorem every_any (A : Option Addr) (n c : Nat) (hn : n ≤ 1000) (w : World) :
    Calls Try.prog 26 #[.slice A n c] w fun e w' => ∃ A' c', e = .returned (.slice A' n c') ∧ w'.ownsRow w.heap.size 3 1 (.slice A' n c') n (nvs (List.range n)) ∧ Below w.heap.size w w' := by
  go_enter Try.func26, Try.ntmps26
  go_wp2
  go_loopw [3, 7] (fun u3 u7 wr => ∃ (j : Nat) (A' : Option Addr) (c' : Nat), j ≤ n ∧ u3 = .slice A' j c' ∧ u7 = .int .i64 j ∧ wr.ownsRow w.heap.size 3 1 (.slice A' j c') j (nvs (List.range j)) ∧ Below w.heap.size w wr) (fun _ u7 _ => n - (intOf u7).toNat)
  case atStart => exact ⟨0, none, 0, Nat.zero_le _, rfl, rfl, World.ownsRow_nil _ _ _ _, Below.refl _ _⟩
  case round =>
    obtain ⟨j, A', c', hj, rfl, rfl, hown, hbel⟩ := hrel
    by_cases hlt : j < n
    · go_wp2_with (at_builtin; refine wpList_app1 rfl (.tmp 10) (.tmp 12) 22 rfl w.heap.size 3 _ 8 intsE A' j c' _ _ rfl rfl hown hbel rfl (by omega) (Nat.le_refl _) hbel.size ?_; intro g c1 w1 hown1 hbel1 _)
      go_roundw
      case rel => exact ⟨j + 1, some ⟨g, 0, none⟩, c1, by omega, rfl, by go_num, by rw [List.range_succ]; simpa [nvs] using hown1, hbel1⟩
      case measure => simp [intOf]; omega
    · obtain rfl : j = n := by omega
      go_wp2
      go_ret
      exact ⟨A', c', rfl, hown, hbel⟩
theorem cloneI (A : Option Addr) (n c : Nat) (l : List Int) (hl : l.length = n) (hn : n ≤ 1000) (B : Nat) (w : World) (hr : Rd w B 1 A n (ivs l)) (hB : B ≤ w.heap.size) :
    Calls Try.prog 24 #[.slice A n c] w fun e w' => ∃ A' c', e = .returned (.slice A' n c') ∧ w'.ownsRow w.heap.size 3 1 (.slice A' n c') n (ivs l) ∧ Below w.heap.size w w' := by
  have he := fun w => Lib.run_eql_slice_nil (P := Try.prog) w 22 3 A n c 0 0 Try.underlying22
  cases A with
  | none =>
    have h0 : n = 0 := by
      rcases Nat.eq_zero_or_pos n with h | h
      · exact h
      · obtain ⟨b, off, e, _⟩ := hr.2 h; cases e
    subst h0
    obtain rfl : l = [] := List.eq_nil_of_length_eq_zero hl
    go_enter Try.func24, Try.ntmps24
    go_wp2
    go_ret
    exact ⟨none, 0, rfl, World.ownsRow_nil _ _ _ _, Below.refl _ _⟩
  | some ad =>
    have he := fun w => (he w).trans (show _ = Result.ok (Value.bool false) w from rfl)
    clear hl
    go_enter Try.func24, Try.ntmps24
    go_wp2_with (at_builtin; refine wpList_appR rfl (.tmp 5) (.tmp 6) 22 rfl w.heap.size 3 _ 1 8 intsE (some ⟨w.heap.size, 0, none⟩) 0 0 [] (some ad) n c (ivs l) rfl rfl (own_zero w _ 1 _ (Nat.le_refl _)) ((hr.more hB).alloc (Nat.le_refl _) _) (ivs_one _) ((Below.refl _ _).alloc (Nat.le_refl _) _) (by omega) (Nat.le_refl _) (by simp) ?_; intro A1 c1 w1 own1 hb1; simp only [Nat.zero_add, List.nil_append] at own1)
    go_ret
    exact ⟨A1, c1, rfl, own1, hb1⟩
/-- a credit out of range -/
def badC (x : Int) : Bool := decide (x < -1000 ∨ 1000 < x)
theorem wrong_any (x : Int) (w : World) : Calls Try.prog 28 #[.int .i64 x] w fun e w' => e = .returned (.bool (badC x)) ∧ w' = w := by
  have HC := Lib.hid (show badC x = decide (x < -1000 ∨ 1000 < x) from rfl)
  generalize badC x = q at *
  by_cases h1 : x < -1000
  · have d1 : decide (x < -1000) = true := by simpa using h1
    go_enter Try.func28, Try.ntmps28
    go_wp2
    go_ret
    exact ⟨ret_bool (by rw [HC.out]; simp; omega), rfl⟩
  · have d1 : decide (x < -1000) = false := by simpa using h1
    go_enter Try.func28, Try.ntmps28
    go_wp2
    go_ret
    exact ⟨ret_bool (by rw [HC.out, Bool.eq_iff_iff]; simp; omega), rfl⟩
/-- the first index at which p holds, or -1 -/
def idxOf (p : Int → Bool) (l : List Int) : Int := match l.findIdx? p with | some i => i | none => -1
theorem idxOf_found {p : Int → Bool} {l : List Int} {k : Nat} (hk : k < l.length) (hp : p l[k] = true) (hb : ∀ x ∈ l.take k, p x = false) : idxOf p l = k := by
  have : l.findIdx? p = some k := by
    rw [List.findIdx?_eq_some_iff_getElem]
    refine ⟨hk, hp, fun j hj => ?_⟩
    have := hb l[j] (by rw [List.mem_take_iff_getElem]; exact ⟨j, by omega, rfl⟩)
    simp [this]
  simp [idxOf, this]
theorem idxOf_none {p : Int → Bool} {l : List Int} (hb : ∀ x ∈ l, p x = false) : idxOf p l = -1 := by
  have : l.findIdx? p = none := by rw [List.findIdx?_eq_none_iff]; exact hb
  simp [idxOf, this]
set_option maxHeartbeats 800000 in
theorem indexV (A : Option Addr) (n c : Nat) (l : List Int) (hl : l.length = n) (hn : n ≤ 1000) (B : Nat) (w : World) (hr : Rd w B 1 A n (ivs l)) :
    Calls Try.prog 36 #[.slice A n c, .func (.func 28) #[] #[]] w fun e w' => e = .returned (.int .i64 (idxOf badC l)) ∧ w' = w := by
  go_enter Try.func36, Try.ntmps36
  go_wp2
  go_loop [8] (fun u => ∃ k : Nat, k ≤ n ∧ u = .int .i64 k ∧ Hid (∀ x ∈ l.take k, badC x = false)) (fun u => n - (intOf u).toNat)
  case atStart => exact ⟨0, Nat.zero_le _, rfl, by intro x hx; simp at hx⟩
  case round =>
    obtain ⟨k, hk, rfl, HB⟩ := hrel
    by_cases hlt : k < n
    · have hkl : k < l.length := by omega
      obtain ⟨b, off, rfl, _, h1⟩ := hr.get hkl
      have HX := Lib.hid (fun W => wrong_any l[k] W)
      obtain ⟨q, hq⟩ : ∃ q, badC l[k] = q := ⟨_, rfl⟩
      rw [hq] at HX
      have HQ := Lib.hid hq
      clear hr hq
      cases q with
      | true =>
        have HI := Lib.hid (idxOf_found hkl HQ.out HB.out)
        go_wp2_with (go_at_call 28; refine (HX.out _).mono ?_; rintro e w' ⟨rfl, rfl⟩)
        go_ret
        exact ⟨ret_int HI.out.symm, rfl⟩
      | false =>
        have HI : Hid (∀ x ∈ l.take (k + 1), badC x = false) := Lib.hid (by
          intro x hx
          rw [List.take_succ_eq_append_getElem hkl] at hx
          simp only [List.mem_append, List.mem_singleton] at hx
          rcases hx with hx | rfl
          · exact HB.out x hx
          · exact HQ.out)
        go_wp2_with (go_at_call 28; refine (HX.out _).mono ?_; rintro e w' ⟨rfl, rfl⟩)
        go_round
        case rel => exact ⟨k + 1, by omega, by go_num, HI⟩
        case measure => simp [intOf]; omega
    · have HI := Lib.hid (idxOf_none (l := l) (fun x hx => HB.out x (by rw [List.take_of_length_le (by omega)]; exact hx)))
      go_wp2
      go_ret
      exact ⟨ret_int HI.out.symm, rfl⟩
theorem idxOf_any (p : Int → Bool) (l : List Int) : decide (0 ≤ idxOf p l) = l.any p := by
  unfold idxOf
  cases h : l.findIdx? p with
  | none =>
    rw [List.findIdx?_eq_none_iff] at h
    have : l.any p = false := by rw [List.any_eq_false]; intro x hx; simp [h x hx]
    rw [this]; rfl
  | some i =>
    rw [List.findIdx?_eq_some_iff_getElem] at h
    obtain ⟨h1, h2, _⟩ := h
    have : l.any p = true := List.any_eq_true.2 ⟨_, List.getElem_mem h1, h2⟩
    rw [this]; simp
theorem containsV (A : Option Addr) (n c : Nat) (l : List Int) (hl : l.length = n) (hn : n ≤ 1000) (B : Nat) (w : World) (hr : Rd w B 1 A n (ivs l)) :
    Calls Try.prog 29 #[.slice A n c, .func (.func 28) #[] #[]] w fun e w' => e = .returned (.bool (l.any badC)) ∧ w' = w := by
  have HI := Lib.hid (indexV A n c l hl hn B w hr)
  have HA := Lib.hid (idxOf_any badC l)
  generalize idxOf badC l = q at *
  clear hr
  go_enter Try.func29, Try.ntmps29
  go_wp2_with (go_at_call 36; refine HI.out.mono ?_; rintro e w' ⟨rfl, rfl⟩)
  go_ret
  exact ⟨ret_bool HA.out, rfl⟩
/-- valid credits -/
def vldB (l : List Int) : Bool := decide (l.length = 5) && !l.any badC
theorem vldB_iff (l : List Int) : vldB l = true ↔ Sc.Vld l := by
  unfold vldB Sc.Vld
  simp only [Bool.and_eq_true, decide_eq_true_eq, Bool.not_eq_true', List.any_eq_false, badC, decide_eq_true_eq]
  constructor
  · rintro ⟨h1, h2⟩; exact ⟨h1, fun x hx => by have := h2 x hx; omega⟩
  · rintro ⟨h1, h2⟩; exact ⟨h1, fun x hx => by have := h2 x hx; omega⟩
theorem valid_any (A : Option Addr) (n c : Nat) (l : List Int) (hl : l.length = n) (B : Nat) (w : World) (hr : Rd w B 1 A n (ivs l)) (hB : B ≤ w.heap.size) :
    Calls Try.prog 14 #[.agg #[.slice A n c]] w fun e w' => e = .returned (.bool (vldB l)) ∧ Below w.heap.size w w' := by
  have hb : Below w.heap.size w (w.alloc (.cells #[.slice A n c] 26)) := (Below.refl _ _).alloc (Nat.le_refl _) _
  by_cases h5 : n = 5
  · subst h5
    have HC := Lib.hid (containsV A 5 c l hl (by omega) B _ (hr.alloc hB (.cells #[.slice A 5 c] 26)))
    have HV := Lib.hid (show vldB l = !l.any badC by unfold vldB; rw [decide_eq_true hl]; rfl)
    generalize l.any badC = q at *
    clear hr hl
    go_enter Try.func14, Try.ntmps14
    go_wp2_with (go_at_call 29; refine HC.out.mono ?_; rintro e w' ⟨rfl, rfl⟩)
    go_ret
    exact ⟨ret_bool HV.out.symm, hb⟩
  · have hd : ((n : Int) == 5) = false := by rw [beq_eq_false_iff_ne]; omega
    have HV := Lib.hid (show vldB l = false by unfold vldB; rw [decide_eq_false (by omega)]; rfl)
    clear hr hl h5
    go_enter Try.func14, Try.ntmps14
    go_wp2
    go_ret
    exact ⟨ret_bool HV.out.symm, hb⟩
end Go.Proofs.Ytfihdenapjmaeaa
