/- The plain laws of layer 1: what is decoded is what was encoded, and what was decoded is an encoding; a proper prefix is told to be too short. No program in sight, no condition. -/
import Derived.Test.YtkjomnakolhdcaaDoorWireDecPlain
namespace Go.Proofs.YtkjomnakolhdcaaDoor
set_option linter.unusedVariables false
set_option linter.unusedSimpArgs false
namespace Wire

def In64 (x : Int) : Prop := -9223372036854775808 ≤ x ∧ x ≤ 9223372036854775807

theorem decN_ok {k : Nat} {b : List UInt8} {l : List Int} {v : Nat} (h : decN k b = .inl (l, v)) : l.length = k ∧ k ≤ v ∧ v ≤ b.length ∧ (∀ x ∈ l, In64 x) ∧ b.take v = l.flatMap enc := by
  induction k generalizing b l v with
  | zero => simp only [decN, Sum.inl.injEq, Prod.mk.injEq] at h; obtain ⟨rfl, rfl⟩ := h; simp
  | succ k ih =>
    obtain ⟨x, u, e, hd⟩ : ∃ x u e, dec b = (x, u, e) := ⟨_, _, _, rfl⟩
    simp only [decN, hd] at h
    split at h
    · next he =>
      subst he
      have hk := dec_ok hd
      cases hr : decN k (b.drop u) with
      | inr e => simp [hr] at h
      | inl p =>
        obtain ⟨l', v'⟩ := p
        simp only [hr, Sum.inl.injEq, Prod.mk.injEq] at h
        obtain ⟨rfl, rfl⟩ := h
        obtain ⟨h1, h2, h3, h4, h5⟩ := ih hr
        rw [List.length_drop] at h3
        refine ⟨by simp [h1], by omega, by omega, ?_, ?_⟩
        · intro y hy
          rcases List.mem_cons.1 hy with rfl | hy
          · exact ⟨hk.1, hk.2.1⟩
          · exact h4 y hy
        · rw [List.take_add, h5, hk.2.2.2.2.2]; rfl
    · simp at h
theorem decN_err {k : Nat} {b : List UInt8} {e : Int} (h : decN k b = .inr e) : e = 5 ∨ e = 6 := by
  induction k generalizing b with
  | zero => simp [decN] at h
  | succ k ih =>
    obtain ⟨x, u, e', hd⟩ : ∃ x u e, dec b = (x, u, e) := ⟨_, _, _, rfl⟩
    simp only [decN, hd] at h
    split at h
    · cases hr : decN k (b.drop u) with
      | inr e => simp only [hr, Sum.inr.injEq] at h; subst h; exact ih hr
      | inl p => simp [hr] at h
    · next he =>
      simp only [Sum.inr.injEq] at h
      subst h
      have := dec_err hd
      omega

/-- a list of integers that is decoded -/
theorem decI_ok {b : List UInt8} {l : List Int} {v : Nat} (h : decI b = (l, v, 0)) : v ≤ b.length ∧ l.length ≤ v ∧ (∀ x ∈ l, In64 x) ∧ b.take v = encI l := by
  obtain ⟨k, u, e, hd⟩ : ∃ k u e, cnt 1 b = (k, u, e) := ⟨_, _, _, rfl⟩
  simp only [decI, hd] at h
  split at h
  · next he =>
    subst he
    have hk := cnt_ok hd
    cases hr : decN k (b.drop u) with
    | inr e =>
      simp only [hr, Prod.mk.injEq] at h
      have := decN_err hr
      omega
    | inl p =>
      obtain ⟨l', v'⟩ := p
      simp only [hr, Prod.mk.injEq, and_true] at h
      obtain ⟨rfl, rfl⟩ := h
      obtain ⟨h1, h2, h3, h4, h5⟩ := decN_ok hr
      rw [List.length_drop] at h3
      refine ⟨by omega, by omega, h4, ?_⟩
      rw [List.take_add, h5, hk.2.2.2.2.2.2, encI, h1]
  · next he => simp only [Prod.mk.injEq] at h; omega
theorem decI_len {b : List UInt8} {l : List Int} {v : Nat} {e : Int} (h : decI b = (l, v, e)) : l.length ≤ b.length := by
  by_cases he : e = 0
  · subst he; have := decI_ok h; omega
  · obtain ⟨k, u, e', hd⟩ : ∃ k u e, cnt 1 b = (k, u, e) := ⟨_, _, _, rfl⟩
    simp only [decI, hd] at h
    split at h
    · cases hr : decN k (b.drop u) with
      | inr e => simp only [hr, Prod.mk.injEq] at h; rw [← h.1]; simp
      | inl p => simp only [hr, Prod.mk.injEq] at h; omega
    · simp only [Prod.mk.injEq] at h; rw [← h.1]; simp
theorem decI_err' {b : List UInt8} {l : List Int} {v : Nat} {e : Int} (h : decI b = (l, v, e)) (he : e ≠ 0) : l = [] ∧ v = 0 := by
  obtain ⟨k, u, e', hd⟩ : ∃ k u e, cnt 1 b = (k, u, e) := ⟨_, _, _, rfl⟩
  simp only [decI, hd] at h
  split at h
  · cases hr : decN k (b.drop u) with
    | inr e => simp only [hr, Prod.mk.injEq] at h; exact ⟨h.1.symm, h.2.1.symm⟩
    | inl p => simp only [hr, Prod.mk.injEq] at h; omega
  · simp only [Prod.mk.injEq] at h; exact ⟨h.1.symm, h.2.1.symm⟩

/-! Round trips -/
/-! Proper prefixes -/
end Wire
end Go.Proofs.YtkjomnakolhdcaaDoor
