/- An allocation as plain data: what it gives, that a release undoes it, that rows stay valid and few. No program in sight. -/
import Derived.Test.YtcmgnjdhjnclkaaStrR
import Derived.Test.YtcmgnjdhjnclkaaStrN
namespace Go.Proofs.Ytcmgnjdhjnclkaa.S
set_option linter.unusedVariables false
set_option linter.unusedSimpArgs false
namespace Str
/-- what Allocate may give -/
inductive AR where
  | arg : AR
  | full : AR
  | ok : List Rw → Nat → Nat → AR
def Alc (cf : Cfg) (l : List Rw) (code width e c : Int) : AR → Prop
  | .arg => ¬ (argsOk cf code width ∧ widthOk l code width)
  | .full => argsOk cf code width ∧ widthOk l code width ∧ alcAt (grp cf width) l code = none ∧ alcFree l = none
  | .ok l' r g => argsOk cf code width ∧ widthOk l code width ∧ ((∃ x, alcAt (grp cf width) l code = some r ∧ l[r]? = some x ∧ g = gap x.used 0 ∧ l' = l.set r { x with used := put x.used (gap x.used 0) e c }) ∨ (alcAt (grp cf width) l code = none ∧ alcFree l = some r ∧ g = 0 ∧ l' = l.set r ⟨code, width, [⟨0, e, c⟩]⟩))
section
variable {cf : Cfg} {l l' : List Rw} {code width e c G : Int} {k r g : Nat}
theorem alcAt_some (h : alcAt G l code = some k) : ∃ x, l[k]? = some x ∧ x.code = code ∧ (x.used.length : Int) ≠ G := by
  unfold alcAt at h
  obtain ⟨hk, h1, _⟩ := List.findIdx?_eq_some_iff_getElem.1 h
  refine ⟨l[k], List.getElem?_eq_getElem hk, ?_⟩
  simpa using h1
theorem alcAt_none (h : alcAt G l code = none) : ∀ x ∈ l, x.code = code → (x.used.length : Int) = G := by
  unfold alcAt at h
  rw [List.findIdx?_eq_none_iff] at h
  intro x hx hc
  have := h x hx
  simpa [hc] using this
theorem alcFree_some (h : alcFree l = some k) : ∃ x, l[k]? = some x ∧ x.code = -1 := by
  unfold alcFree at h
  obtain ⟨hk, h1, _⟩ := List.findIdx?_eq_some_iff_getElem.1 h
  exact ⟨l[k], List.getElem?_eq_getElem hk, by simpa using h1⟩
theorem grp_nonneg (cf : Cfg) (width : Int) : 0 ≤ grp cf width := by
  unfold grp
  split
  · rename_i hf
    unfold Cfg.fits at hf
    simp only [Bool.and_eq_true] at hf
    obtain ⟨⟨h1, h2⟩, h3⟩ := hf
    have h2 := of_decide_eq_true h2
    have := Cfg.ok_d h1
    exact Int.tdiv_nonneg (by omega) (by omega)
  · exact Int.le_refl 0
theorem Alc.valid (hv : Valid cf l) (h : Alc cf l code width e c (.ok l' r g)) : Valid cf l' := by
  obtain ⟨⟨a1, a2, a3, a4, a5⟩, hw, ⟨x, h1, h2, rfl, rfl⟩ | ⟨h1, h2, rfl, rfl⟩⟩ := h
  · obtain ⟨y, hy, hyc, hyl⟩ := alcAt_some h1
    obtain rfl : x = y := Option.some.inj (h2.symm.trans hy)
    have hwx := hw x (List.mem_of_getElem? h2) hyc
    exact hv.put h2 (by omega) (by rw [hwx]; exact hyl) e c
  · exact hv.take a1 a2 a3 a4 (by have := grp_nonneg cf width; omega) hw e c
theorem fnd_in {x : Rw} {g : Int} (h : l[k]? = some x) : fnd l (k : Int) g = (at? x.used g).bind (fun i => x.used[i]?) := by
  unfold fnd
  rw [ixr_in h]
  unfold idx
  have hd : l.getD ((k : Int).toNat) free = x := by simp [List.getD, h]
  rw [hd]
  cases at? x.used g with
  | none => rfl
  | some q => simp
theorem fnd_out {r g : Int} (h : ¬ (0 ≤ r ∧ r < (l.length : Int))) : fnd l r g = none := by
  unfold fnd; rw [ixr_out h]; rfl
theorem asc_of {x : Rw} (h : RowOk (grp cf) x) (hc : x.code ≠ -1) : Asc 0 x.used ∧ x.used ≠ [] := by
  rcases h.ok with rfl | ⟨_, _, _, _, h5, h6, _⟩
  · exact absurd rfl hc
  · exact ⟨h6, h5⟩
theorem set_same {α : Type} {l : List α} {k : Nat} {x : α} (h : l[k]? = some x) : l.set k x = l := by
  obtain ⟨hk, rfl⟩ := List.getElem?_eq_some_iff.1 h
  exact List.set_getElem_self hk
theorem getD_of {l : List Rw} {k : Nat} {x : Rw} (h : l[k]? = some x) : l.getD k free = x := by simp [List.getD, h]
/-- P24.6: the stripe was not used, is found with its generation, all others are as before, a release restores the rows -/
theorem Alc.undo (hv : Valid cf l) (h : Alc cf l code width e c (.ok l' r g)) :
    fnd l r g = none ∧ fnd l' r g = some ⟨g, e, c⟩ ∧ (∃ q : Nat, ixr l' r g = (q : Int) ∧ rel l' r q = l) ∧ ∀ r2 g2 : Int, ¬ (r2 = r ∧ g2 = g) → fnd l r2 g2 = fnd l' r2 g2 := by
  have hother : ∀ {y : Rw} {r2 g2 : Int}, r2 ≠ r → fnd l r2 g2 = fnd (l.set r y) r2 g2 := fun {y r2 g2} hne => by
    by_cases hr : 0 ≤ r2 ∧ r2 < (l.length : Int)
    · obtain ⟨k, rfl⟩ : ∃ k : Nat, r2 = (k : Int) := ⟨r2.toNat, by omega⟩
      have hk : k < l.length := by omega
      rw [fnd_in (List.getElem?_eq_getElem hk), fnd_in (x := l[k]) (by rw [List.getElem?_set_ne (by omega)]; exact List.getElem?_eq_getElem hk)]
    · rw [fnd_out hr, fnd_out (by rw [List.length_set]; exact hr)]
  obtain ⟨⟨a1, a2, a3, a4, a5⟩, hw, ⟨x, h1, h2, rfl, rfl⟩ | ⟨h1, h2, rfl, rfl⟩⟩ := h
  · obtain ⟨y, hy, hyc, hyl⟩ := alcAt_some h1
    obtain rfl : x = y := Option.some.inj (h2.symm.trans hy)
    obtain ⟨hasc, hne⟩ := asc_of (hv.rows x (List.mem_of_getElem? h2)) (by omega)
    have hk := (List.getElem?_eq_some_iff.1 h2).1
    obtain ⟨u1, u2, u3, u4⟩ := put_undo hasc e c
    have hs : (l.set r { x with used := put x.used (gap x.used 0) e c })[r]? = some { x with used := put x.used (gap x.used 0) e c } := List.getElem?_set_self hk
    refine ⟨?_, ?_, ⟨gap x.used 0, ?_, ?_⟩, fun r2 g2 hn => ?_⟩
    · rw [fnd_in h2, u1]; rfl
    · rw [fnd_in hs]; dsimp only; rw [u2, Option.bind_some, u3]
    · rw [ixr_in hs]; unfold idx; dsimp only; rw [u2]
    · unfold rel
      rw [getD_of hs]
      dsimp only
      rw [u4, if_neg (by rw [List.length_eq_zero_iff]; exact hne), List.set_set]
      exact set_same h2
    · by_cases hr : r2 = r
      · subst hr
        rw [fnd_in h2, fnd_in hs]
        exact (put_other hasc e c (fun e => hn ⟨rfl, e⟩)).symm
      · exact hother hr
  · obtain ⟨x, hx, hxc⟩ := alcFree_some h2
    have hk := (List.getElem?_eq_some_iff.1 hx).1
    have hf : x = free := by
      rcases (hv.rows x (List.mem_of_getElem? hx)).ok with h | h
      · exact h
      · omega
    subst hf
    have hs : (l.set r ⟨code, width, [⟨0, e, c⟩]⟩)[r]? = some ⟨code, width, [⟨0, e, c⟩]⟩ := List.getElem?_set_self hk
    refine ⟨?_, ?_, ⟨0, ?_, ?_⟩, fun r2 g2 hn => ?_⟩
    · rw [fnd_in hx]; rfl
    · rw [fnd_in hs]; rfl
    · rw [ixr_in hs]; rfl
    · unfold rel
      rw [getD_of hs]
      show (l.set r _).set r free = l
      rw [List.set_set]
      exact set_same hx
    · by_cases hr : r2 = r
      · subst hr
        rw [fnd_in hx, fnd_in hs]
        have hg : ¬ (0 : Int) = g2 := fun e => hn ⟨rfl, e.symm⟩
        simp [at?, free, List.findIdx?_cons, hg]
      · exact hother hr
theorem Alc.ixr_none (h : fnd l r g = none) : ixr l r g = -1 := by
  rcases ixr_cases l r g with h1 | ⟨k, q, x, h1, h2, h3, h4⟩
  · exact h1
  · exfalso
    unfold fnd at h
    rw [h4, if_pos (by omega)] at h
    have : l.getD (r : Int).toNat free = x := by
      have : (r : Int).toNat = k := by omega
      rw [this]; exact getD_of h2
    rw [this] at h
    have h5 : x.used[q]? = some x.used[q] := List.getElem?_eq_getElem h3
    have : ((q : Int)).toNat = q := by omega
    rw [this, h5] at h
    cases h
/-- used stripes of a code -/
def tot (l : List Rw) (code : Int) : Nat := ((l.filter fun r => decide (r.code = code)).map fun r => r.used.length).sum
theorem strs_len (c : Int) (l : List Rw) (j : Nat) : (strs c l j).length = tot l c := by
  induction l generalizing j with
  | nil => rfl
  | cons r l ih =>
    unfold strs tot
    rw [List.filter_cons]
    by_cases h : r.code = c
    · rw [if_pos h, if_pos (by simpa using h), List.length_append, ih, List.length_map, List.map_cons, List.sum_cons]; rfl
    · rw [if_neg h, if_neg (by simpa using h), ih]; rfl
theorem tot_cons (r : Rw) (l : List Rw) (c : Int) : tot (r :: l) c = (if r.code = c then r.used.length else 0) + tot l c := by
  unfold tot
  rw [List.filter_cons]
  by_cases h : r.code = c
  · rw [if_pos h, if_pos (by simpa using h), List.map_cons, List.sum_cons]
  · rw [if_neg h, if_neg (by simpa using h), Nat.zero_add]
theorem held_cons (r : Rw) (l : List Rw) (c : Int) : held (r :: l) c = (if r.code = c then 1 else 0) + held l c := by
  unfold held
  rw [List.countP_cons]
  by_cases h : r.code = c
  · rw [if_pos h]; simp [h]; omega
  · rw [if_neg h]; simp [h]
theorem tot_set {x y : Rw} : ∀ {l : List Rw} {k : Nat}, l[k]? = some x → tot (l.set k y) code + (if x.code = code then x.used.length else 0) = tot l code + (if y.code = code then y.used.length else 0) ∧ held (l.set k y) code + (if x.code = code then 1 else 0) = held l code + (if y.code = code then 1 else 0)
  | [], k, h => by simp at h
  | r :: l, 0, h => by
    obtain rfl : r = x := by simpa using h
    rw [List.set_cons_zero, tot_cons, tot_cons, held_cons, held_cons]
    omega
  | r :: l, k + 1, h => by
    have ih := tot_set (l := l) (k := k) (y := y) (by simpa using h)
    rw [List.set_cons_succ, tot_cons, tot_cons, held_cons, held_cons]
    omega
theorem tot_full : ∀ {l : List Rw}, (∀ x ∈ l, x.code = code → (x.used.length : Int) = G) → (tot l code : Int) = G * (held l code : Nat)
  | [], _ => by simp [tot, held]
  | r :: l, h => by
    have ih := tot_full (l := l) fun x hx => h x (List.mem_cons_of_mem _ hx)
    rw [tot_cons, held_cons]
    by_cases hc : r.code = code
    · have := h r (List.mem_cons_self ..) hc
      rw [if_pos hc, if_pos hc]; push_cast; rw [Int.mul_add, ih]; omega
    · rw [if_neg hc, if_neg hc, Nat.zero_add, Nat.zero_add]; exact ih
end
/-- the state of StripesBounded -/
structure Bnd (cf : Cfg) (code width : Int) (l : List Rw) (peak : Int) : Prop where
  valid : Valid cf l
  tops : (tot l code : Int) ≤ peak
  few : 0 ≤ code → 0 < held l code → 0 < grp cf width ∧ ((held l code : Int) - 1) * grp cf width < peak
theorem put_len (l : List Us) (k : Nat) (e c : Int) : (put l k e c).length = l.length + 1 := by
  unfold put
  simp only [List.length_append, List.length_cons, List.length_take, List.length_drop]
  omega
section
variable {cf : Cfg} {l l' : List Rw} {code width a b e c peak : Int} {r g k q : Nat}
/-- an allocation for this code has this width -/
theorem Bnd.alloc (h : Bnd cf code width l peak) (hab : a = code → b = width) (ha : Alc cf l a b e c (.ok l' r g)) : Bnd cf code width l' (max peak (tot l' code)) := by
  have hv := Alc.valid h.valid ha
  obtain ⟨⟨a1, a2, a3, a4, a5⟩, hw, ⟨x, h1, h2, rfl, rfl⟩ | ⟨h1, h2, rfl, rfl⟩⟩ := ha
  · obtain ⟨y, hy, hyc, hyl⟩ := alcAt_some h1
    obtain rfl : x = y := Option.some.inj (h2.symm.trans hy)
    obtain ⟨t1, t2⟩ := tot_set (code := code) (y := { x with used := put x.used (gap x.used 0) e c }) h2
    have t3 : held (l.set r { x with used := put x.used (gap x.used 0) e c }) code = held l code := by
      have : ({ x with used := put x.used (gap x.used 0) e c } : Rw).code = x.code := rfl
      rw [this] at t2
      omega
    refine ⟨hv, by omega, fun hc hp => ?_⟩
    rw [t3] at hp ⊢
    obtain ⟨f1, f2⟩ := h.few hc hp
    exact ⟨f1, by omega⟩
  · obtain ⟨x, hx, hxc⟩ := alcFree_some h2
    obtain ⟨t1, t2⟩ := tot_set (code := code) (y := ⟨a, b, [⟨0, e, c⟩]⟩) hx
    dsimp only at t1 t2
    refine ⟨hv, by omega, fun hc hp => ?_⟩
    rw [if_neg (by omega : ¬ x.code = code), Nat.add_zero] at t1 t2
    by_cases he : a = code
    · have hb := hab he
      subst he hb
      rw [if_pos rfl] at t1 t2
      have hG : 0 < grp cf b := by have := grp_nonneg cf b; omega
      refine ⟨hG, ?_⟩
      have hf := tot_full (alcAt_none h1)
      have e1 : ((held (l.set r ⟨a, b, [⟨0, e, c⟩]⟩) a : Int) - 1) * grp cf b = grp cf b * (held l a : Int) := by rw [t2, Int.mul_comm]; congr 1; omega
      rw [e1, ← hf, t1]
      simp only [List.length_cons, List.length_nil]
      omega
    · rw [if_neg he, Nat.add_zero] at t1 t2
      rw [t2] at hp ⊢
      obtain ⟨f1, f2⟩ := h.few hc hp
      exact ⟨f1, by omega⟩
theorem Bnd.rel {x : Rw} (h : Bnd cf code width l peak) (hx : l[k]? = some x) (hq : q < x.used.length) : Bnd cf code width (rel l k q) (max peak (tot (rel l k q) code)) := by
  have hv := h.valid.rel hx hq
  have hr : Str.rel l k q = l.set k (if (x.used.eraseIdx q).length = 0 then free else { x with used := x.used.eraseIdx q }) := by unfold Str.rel; rw [getD_of hx]
  rw [hr]
  obtain ⟨y, hy⟩ : ∃ y, (if (x.used.eraseIdx q).length = 0 then free else { x with used := x.used.eraseIdx q }) = y := ⟨_, rfl⟩
  have hyc : y.code = -1 ∨ y.code = x.code := by
    rw [← hy]; split
    · exact .inl rfl
    · exact .inr rfl
  rw [hy] at hv ⊢
  obtain ⟨_, t2⟩ := tot_set (code := code) (y := y) hx
  refine ⟨hv, by omega, fun hc hp => ?_⟩
  have hle : held (l.set k y) code ≤ held l code := by
    by_cases h1 : y.code = code
    · rw [if_pos h1, if_pos (by omega : x.code = code)] at t2; omega
    · rw [if_neg h1] at t2; omega
  obtain ⟨f1, f2⟩ := h.few hc (by omega)
  refine ⟨f1, ?_⟩
  have h3 : ((held (l.set k y) code : Int) - 1) * grp cf width ≤ ((held l code : Int) - 1) * grp cf width := Int.mul_le_mul_of_nonneg_right (by omega) (by omega)
  omega
theorem Bnd.bound (h : Bnd cf code width l peak) (hc : 0 ≤ code) (hp : 0 < held l code) : 0 < grp cf width ∧ (held l code : Int) ≤ (peak + grp cf width - 1) / grp cf width := by
  obtain ⟨f1, f2⟩ := h.few hc hp
  refine ⟨f1, (Int.le_ediv_iff_mul_le f1).2 ?_⟩
  have : ((held l code : Int) - 1) * grp cf width = (held l code : Int) * grp cf width - grp cf width := by rw [Int.sub_mul, Int.one_mul]
  omega
end
end Str
end Go.Proofs.Ytcmgnjdhjnclkaa.S
