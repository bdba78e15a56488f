/- What an allocation and a release keep of valid rows. No program in sight. -/
import Derived.Test.YtcmgnjdhjnclkaaStrQ
namespace Go.Proofs.Ytcmgnjdhjnclkaa.S
set_option linter.unusedVariables false
set_option linter.unusedSimpArgs false
namespace Str
theorem Valid.set {cf : Cfg} {l : List Rw} {k : Nat} {y : Rw} (h : Valid cf l) (hy : RowOk (grp cf) y) (hs : ∀ r ∈ l, r.code = y.code → r.width = y.width) : Valid cf (l.set k y) := by
  refine ⟨h.ok, by rw [List.length_set]; exact h.len, fun r hr => ?_, fun r hr s hs' e => ?_⟩
  · rcases List.mem_or_eq_of_mem_set hr with hr | rfl
    · exact h.rows r hr
    · exact hy
  · rcases List.mem_or_eq_of_mem_set hr with hr1 | e1
    · rcases List.mem_or_eq_of_mem_set hs' with hs1 | e2
      · exact h.same r hr1 s hs1 e
      · rw [e2] at e ⊢; exact hs r hr1 e
    · rcases List.mem_or_eq_of_mem_set hs' with hs1 | e2
      · rw [e1] at e ⊢; exact (hs s hs1 e.symm).symm
      · rw [e1, e2]
theorem Valid.free_width {cf : Cfg} {l : List Rw} (h : Valid cf l) : ∀ r ∈ l, r.code = free.code → r.width = free.width := fun r hr e => by
  rcases (h.rows r hr).ok with rfl | h1
  · rfl
  · have : r.code = -1 := e
    omega
/-- a used stripe more in a row -/
theorem Valid.put {cf : Cfg} {l : List Rw} {k : Nat} {x : Rw} (h : Valid cf l) (hx : l[k]? = some x) (hc : x.code ≠ -1) (hf : (x.used.length : Int) ≠ grp cf x.width) (e c : Int) : Valid cf (l.set k { x with used := Str.put x.used (gap x.used 0) e c }) :=
  h.set (row_put (h.rows x (List.mem_of_getElem? hx)) hc hf e c) fun r hr e => h.same r hr x (List.mem_of_getElem? hx) e
/-- a free row taken -/
theorem Valid.take {cf : Cfg} {l : List Rw} {k : Nat} {code width : Int} (h : Valid cf l) (h1 : 0 ≤ code) (h2 : code < 8) (h3 : 1 ≤ width) (h4 : width ≤ 32) (h5 : 0 < grp cf width) (hw : ∀ r ∈ l, r.code = code → r.width = width) (e c : Int) : Valid cf (l.set k ⟨code, width, [⟨0, e, c⟩]⟩) :=
  h.set ⟨.inr ⟨h1, h2, h3, h4, by simp, ⟨Int.le_refl 0, trivial⟩, fun u hu => by obtain rfl := List.mem_singleton.1 hu; exact h5⟩⟩ hw
theorem Asc.erase : ∀ {l : List Us} {lo : Int} (q : Nat), Asc lo l → Asc lo (l.eraseIdx q)
  | [], _, _, h => h
  | u :: l, lo, 0, h => h.2.mono (by have := h.1; omega)
  | u :: l, lo, q + 1, h => ⟨h.1, Asc.erase q h.2⟩
theorem RowOk.erase {G : Int → Int} {r : Rw} (h : RowOk G r) {q : Nat} (hq : q < r.used.length) : RowOk G (if (r.used.eraseIdx q).length = 0 then free else { r with used := r.used.eraseIdx q }) := by
  split
  · exact ⟨.inl rfl⟩
  · rename_i hne
    rcases h.ok with rfl | ⟨h1, h2, h3, h4, h5, h6, h7⟩
    · exact absurd hq (Nat.not_lt_zero _)
    · exact ⟨.inr ⟨h1, h2, h3, h4, fun e => hne (by show (r.used.eraseIdx q).length = 0; rw [show r.used.eraseIdx q = [] from e]; rfl), h6.erase q, fun u hu => h7 u ((List.eraseIdx_sublist _ _).subset hu)⟩⟩
theorem Valid.rel {cf : Cfg} {l : List Rw} {k q : Nat} {x : Rw} (h : Valid cf l) (hx : l[k]? = some x) (hq : q < x.used.length) : Valid cf (l.set k (if (x.used.eraseIdx q).length = 0 then free else { x with used := x.used.eraseIdx q })) := by
  have hm := List.mem_of_getElem? hx
  refine h.set ((h.rows x hm).erase hq) fun r hr e => ?_
  split at e
  · rename_i h0
    rw [if_pos h0]; exact h.free_width r hr e
  · rename_i h0
    rw [if_neg h0]; exact h.same r hr x hm e
end Str
end Go.Proofs.Ytcmgnjdhjnclkaa.S
