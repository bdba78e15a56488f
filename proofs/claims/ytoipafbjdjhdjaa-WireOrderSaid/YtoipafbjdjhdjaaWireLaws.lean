/- The plain laws of layer 1: what is decoded is what was encoded, and what was decoded is an encoding; a proper prefix is told to be too short. No program in sight, no condition. -/
import Derived.Test.YtoipafbjdjhdjaaWireDecPlain
namespace Go.Proofs.Ytoipafbjdjhdjaa
set_option linter.unusedVariables false
set_option linter.unusedSimpArgs false
namespace Wire

def In64 (x : Int) : Prop := -9223372036854775808 ≤ x ∧ x ≤ 9223372036854775807

theorem decN_ok {k : Nat} {b : List UInt8} {l : List Int} {v : Nat} (h : decN k b = .inl (l, v)) : l.length = k ∧ k ≤ v ∧ v ≤ b.length ∧ (∀ x ∈ l, In64 x) ∧ b.take v = l.flatMap enc := by
  induction k generalizing b l v with
  | zero => simp only [decN, Sum.inl.injEq, Prod.mk.injEq] at h; obtain ⟨rfl, rfl⟩ := h; simp
  | succ k ih =>
    obtain ⟨x, u, e, hd⟩ : ∃ x u e, dec b = (x, u, e) := ⟨_, _, _, rfl⟩
    simp only [decN, hd] at h
    split at h
    · next he =>
      subst he
      have hk := dec_ok hd
      cases hr : decN k (b.drop u) with
      | inr e => simp [hr] at h
      | inl p =>
        obtain ⟨l', v'⟩ := p
        simp only [hr, Sum.inl.injEq, Prod.mk.injEq] at h
        obtain ⟨rfl, rfl⟩ := h
        obtain ⟨h1, h2, h3, h4, h5⟩ := ih hr
        rw [List.length_drop] at h3
        refine ⟨by simp [h1], by omega, by omega, ?_, ?_⟩
        · intro y hy
          rcases List.mem_cons.1 hy with rfl | hy
          · exact ⟨hk.1, hk.2.1⟩
          · exact h4 y hy
        · rw [List.take_add, h5, hk.2.2.2.2.2]; rfl
    · simp at h
theorem decN_err {k : Nat} {b : List UInt8} {e : Int} (h : decN k b = .inr e) : e = 5 ∨ e = 6 := by
  induction k generalizing b with
  | zero => simp [decN] at h
  | succ k ih =>
    obtain ⟨x, u, e', hd⟩ : ∃ x u e, dec b = (x, u, e) := ⟨_, _, _, rfl⟩
    simp only [decN, hd] at h
    split at h
    · cases hr : decN k (b.drop u) with
      | inr e => simp only [hr, Sum.inr.injEq] at h; subst h; exact ih hr
      | inl p => simp [hr] at h
    · next he =>
      simp only [Sum.inr.injEq] at h
      subst h
      have := dec_err hd
      omega

/-- a list of integers that is decoded -/
theorem decI_ok {b : List UInt8} {l : List Int} {v : Nat} (h : decI b = (l, v, 0)) : v ≤ b.length ∧ l.length ≤ v ∧ (∀ x ∈ l, In64 x) ∧ b.take v = encI l := by
  obtain ⟨k, u, e, hd⟩ : ∃ k u e, cnt 1 b = (k, u, e) := ⟨_, _, _, rfl⟩
  simp only [decI, hd] at h
  split at h
  · next he =>
    subst he
    have hk := cnt_ok hd
    cases hr : decN k (b.drop u) with
    | inr e =>
      simp only [hr, Prod.mk.injEq] at h
      have := decN_err hr
      omega
    | inl p =>
      obtain ⟨l', v'⟩ := p
      simp only [hr, Prod.mk.injEq, and_true] at h
      obtain ⟨rfl, rfl⟩ := h
      obtain ⟨h1, h2, h3, h4, h5⟩ := decN_ok hr
      rw [List.length_drop] at h3
      refine ⟨by omega, by omega, h4, ?_⟩
      rw [List.take_add, h5, hk.2.2.2.2.2.2, encI, h1]
  · next he => simp only [Prod.mk.injEq] at h; omega
theorem decI_len {b : List UInt8} {l : List Int} {v : Nat} {e : Int} (h : decI b = (l, v, e)) : l.length ≤ b.length := by
  by_cases he : e = 0
  · subst he; have := decI_ok h; omega
  · obtain ⟨k, u, e', hd⟩ : ∃ k u e, cnt 1 b = (k, u, e) := ⟨_, _, _, rfl⟩
    simp only [decI, hd] at h
    split at h
    · cases hr : decN k (b.drop u) with
      | inr e => simp only [hr, Prod.mk.injEq] at h; rw [← h.1]; simp
      | inl p => simp only [hr, Prod.mk.injEq] at h; omega
    · simp only [Prod.mk.injEq] at h; rw [← h.1]; simp
theorem decI_err' {b : List UInt8} {l : List Int} {v : Nat} {e : Int} (h : decI b = (l, v, e)) (he : e ≠ 0) : l = [] ∧ v = 0 := by
  obtain ⟨k, u, e', hd⟩ : ∃ k u e, cnt 1 b = (k, u, e) := ⟨_, _, _, rfl⟩
  simp only [decI, hd] at h
  split at h
  · cases hr : decN k (b.drop u) with
    | inr e => simp only [hr, Prod.mk.injEq] at h; exact ⟨h.1.symm, h.2.1.symm⟩
    | inl p => simp only [hr, Prod.mk.injEq] at h; omega
  · simp only [Prod.mk.injEq] at h; exact ⟨h.1.symm, h.2.1.symm⟩

/-- a byte string that is decoded -/
theorem decB_okay {b : List UInt8} {l : List UInt8} {v : Nat} (h : decB b = (l, v, 0)) : v ≤ b.length ∧ l.length ≤ v ∧ b.take v = encB l := by
  obtain ⟨k, u, e, hd⟩ : ∃ k u e, cnt 1 b = (k, u, e) := ⟨_, _, _, rfl⟩
  simp only [decB, hd] at h
  split at h
  · next he =>
    subst he
    have hk := cnt_ok hd
    simp only [Prod.mk.injEq, and_true] at h
    obtain ⟨rfl, rfl⟩ := h
    have hl : ((b.drop u).take k).length = k := by rw [List.length_take, List.length_drop]; omega
    refine ⟨by omega, by omega, ?_⟩
    rw [encB, hl, List.take_add, hk.2.2.2.2.2.2]
  · next he => simp only [Prod.mk.injEq] at h; omega
theorem decB_len {b : List UInt8} {l : List UInt8} {v : Nat} {e : Int} (h : decB b = (l, v, e)) : l.length ≤ b.length := by
  by_cases he : e = 0
  · subst he; have := decB_okay h; omega
  · obtain ⟨k, u, e', hd⟩ : ∃ k u e, cnt 1 b = (k, u, e) := ⟨_, _, _, rfl⟩
    simp only [decB, hd] at h
    split at h
    · simp only [Prod.mk.injEq] at h; omega
    · simp only [Prod.mk.injEq] at h; rw [← h.1]; simp
theorem decB_err' {b : List UInt8} {l : List UInt8} {v : Nat} {e : Int} (h : decB b = (l, v, e)) (he : e ≠ 0) : l = [] ∧ v = 0 := by
  obtain ⟨k, u, e', hd⟩ : ∃ k u e, cnt 1 b = (k, u, e) := ⟨_, _, _, rfl⟩
  simp only [decB, hd] at h
  split at h
  · simp only [Prod.mk.injEq] at h; omega
  · simp only [Prod.mk.injEq] at h; exact ⟨h.1.symm, h.2.1.symm⟩

theorem chunks_length (k : Nat) (l : List UInt8) : (chunks k l).length = k := by
  induction k generalizing l with
  | zero => rfl
  | succ k ih => simp [chunks, ih]
theorem chunks_16 {k : Nat} {l : List UInt8} (h : 16 * k ≤ l.length) : ∀ x ∈ chunks k l, x.length = 16 := by
  induction k generalizing l with
  | zero => simp [chunks]
  | succ k ih =>
    intro x hx
    rcases List.mem_cons.1 hx with rfl | hx
    · rw [List.length_take]; omega
    · exact ih (by rw [List.length_drop]; omega) x hx
theorem chunks_flatten {k : Nat} {l : List UInt8} (h : 16 * k ≤ l.length) : (chunks k l).flatten = l.take (16 * k) := by
  induction k generalizing l with
  | zero => simp [chunks]
  | succ k ih =>
    rw [chunks, List.flatten_cons, ih (by rw [List.length_drop]; omega)]
    have e : 16 * (k + 1) = 16 + 16 * k := by omega
    rw [e, List.take_add]
theorem chunks_of_flatten {l : List (List UInt8)} (h : ∀ x ∈ l, x.length = 16) (r : List UInt8) : chunks l.length (l.flatten ++ r) = l := by
  induction l with
  | nil => rfl
  | cons x l ih =>
    have hx := h x (by simp)
    rw [List.length_cons, chunks, List.flatten_cons, List.append_assoc, List.take_append_of_le_length (by omega), List.take_of_length_le (by omega), List.drop_append_of_le_length (by omega),
      List.drop_of_length_le (by omega), List.nil_append, ih fun y hy => h y (by simp [hy])]
theorem flatten_len {l : List (List UInt8)} (h : ∀ x ∈ l, x.length = 16) : l.flatten.length = 16 * l.length := by
  induction l with
  | nil => rfl
  | cons x l ih =>
    have h1 := h x (by simp)
    have h2 := ih fun y hy => h y (by simp [hy])
    simp only [List.flatten_cons, List.length_append, List.length_cons]; omega

/-- a list of digests that is decoded -/
theorem decD_okay {b : List UInt8} {l : List (List UInt8)} {v : Nat} (h : decD b = (l, v, 0)) : v ≤ b.length ∧ l.length ≤ v ∧ (∀ x ∈ l, x.length = 16) ∧ b.take v = encD l := by
  obtain ⟨k, u, e, hd⟩ : ∃ k u e, cnt 16 b = (k, u, e) := ⟨_, _, _, rfl⟩
  simp only [decD, hd] at h
  split at h
  · next he =>
    subst he
    have hk := cnt_ok hd
    simp only [Prod.mk.injEq, and_true] at h
    obtain ⟨rfl, rfl⟩ := h
    have h16 : 16 * k ≤ (b.drop u).length := by rw [List.length_drop]; omega
    refine ⟨by omega, by rw [chunks_length]; omega, chunks_16 h16, ?_⟩
    rw [encD, chunks_length, chunks_flatten h16, List.take_add, hk.2.2.2.2.2.2]
  · next he => simp only [Prod.mk.injEq] at h; omega
theorem decD_err' {b : List UInt8} {l : List (List UInt8)} {v : Nat} {e : Int} (h : decD b = (l, v, e)) (he : e ≠ 0) : l = [] ∧ v = 0 := by
  obtain ⟨k, u, e', hd⟩ : ∃ k u e, cnt 16 b = (k, u, e) := ⟨_, _, _, rfl⟩
  simp only [decD, hd] at h
  split at h
  · simp only [Prod.mk.injEq] at h; omega
  · simp only [Prod.mk.injEq] at h; exact ⟨h.1.symm, h.2.1.symm⟩
theorem decD_len {b : List UInt8} {l : List (List UInt8)} {v : Nat} {e : Int} (h : decD b = (l, v, e)) : l.length ≤ b.length := by
  by_cases he : e = 0
  · subst he; have := decD_okay h; omega
  · rw [(decD_err' h he).1]; simp
theorem decD_16 {b : List UInt8} {l : List (List UInt8)} {v : Nat} {e : Int} (h : decD b = (l, v, e)) : ∀ x ∈ l, x.length = 16 := by
  by_cases he : e = 0
  · subst he; exact (decD_okay h).2.2.1
  · rw [(decD_err' h he).1]; simp

/-! Round trips -/
theorem decN_enc {l : List Int} (h : ∀ x ∈ l, In64 x) (r : List UInt8) : decN l.length (l.flatMap enc ++ r) = .inl (l, (l.flatMap enc).length) := by
  induction l with
  | nil => rfl
  | cons x l ih =>
    have hx := h x (by simp)
    rw [List.length_cons, decN, List.flatMap_cons, List.append_assoc, dec_enc hx.1 hx.2]
    simp only [if_true]
    rw [List.drop_append_of_le_length (Nat.le_refl _), List.drop_length, List.nil_append, ih fun y hy => h y (by simp [hy])]
    simp
theorem flatMap_ge {l : List Int} : l.length ≤ (l.flatMap enc).length := by
  induction l with
  | nil => simp
  | cons x l ih =>
    have := enc_length x
    simp only [List.flatMap_cons, List.length_append, List.length_cons]; omega
theorem decI_enc {l : List Int} (h : ∀ x ∈ l, In64 x) (hl : l.length ≤ 9223372036854775807) (r : List UInt8) : decI (encI l ++ r) = (l, (encI l).length, 0) := by
  have := flatMap_ge (l := l)
  rw [decI, encI, List.append_assoc, cnt_enc hl (by rw [List.length_append]; omega)]
  simp only [if_true]
  rw [List.drop_append_of_le_length (Nat.le_refl _), List.drop_length, List.nil_append, decN_enc h]
  simp
theorem decB_enc {l : List UInt8} (hl : l.length ≤ 9223372036854775807) (r : List UInt8) : decB (encB l ++ r) = (l, (encB l).length, 0) := by
  rw [decB, encB, List.append_assoc, cnt_enc hl (by rw [List.length_append]; omega)]
  simp only [if_true]
  rw [List.drop_append_of_le_length (Nat.le_refl _), List.drop_length, List.nil_append, List.take_append_of_le_length (Nat.le_refl _), List.take_length]
  simp
theorem decD_enc {l : List (List UInt8)} (h : ∀ x ∈ l, x.length = 16) (hl : l.length ≤ 9223372036854775807) (r : List UInt8) : decD (encD l ++ r) = (l, (encD l).length, 0) := by
  have := flatten_len h
  rw [decD, encD, List.append_assoc, cnt_enc hl (by rw [List.length_append]; omega)]
  simp only [if_true]
  rw [List.drop_append_of_le_length (Nat.le_refl _), List.drop_length, List.nil_append, chunks_of_flatten h, List.length_append, this]

/-! Proper prefixes -/
theorem dec_short {n : Int} (h1 : -9223372036854775808 ≤ n) (h2 : n ≤ 9223372036854775807) {i : Nat} (hi : i < (enc n).length) : dec ((enc n).take i) = (0, 0, 5) := by
  cases i with
  | zero => rfl
  | succ i =>
    rw [enc_length] at hi
    have hk := nb_le 8 (mag n)
    rw [enc, List.take_succ_cons, dec]
    simp only
    rw [head_lt _ _ hk, flp_flp]
    have e : (UInt8.ofNat (128 + nb 8 (mag n))).toNat - 128 = nb 8 (mag n) := by rw [toNat_ofNat]; omega
    rw [e, if_neg (by omega), if_pos]
    rw [List.length_take, List.length_map, bd_length]; omega
/-- a prefix of an encoding with what follows it: the length is there, or it is too short -/
theorem cnt_short {size k : Nat} {r : List UInt8} (hk : k ≤ 9223372036854775807) {i : Nat} (hi : i < (enc k).length + k * size) : cnt size ((enc k ++ r).take i) = (0, 0, 5) := by
  have b1 : -9223372036854775808 ≤ (k : Int) := by omega
  have b2 : (k : Int) ≤ 9223372036854775807 := by omega
  by_cases h : i < (enc k).length
  · rw [List.take_append_of_le_length (by omega), cnt, dec_short b1 b2 h]
    rfl
  · have e : i = (enc k).length + (i - (enc k).length) := by omega
    rw [e, List.take_append, List.take_of_length_le (by omega)]
    have e2 : (enc k).length + (i - (enc k).length) - (enc k).length = i - (enc k).length := by omega
    rw [e2, cnt, dec_enc b1 b2]
    simp only
    rw [if_neg (by simp), if_neg (by omega), if_pos]
    rw [List.length_append, List.length_take]
    simp only [Int.toNat_natCast]
    omega
theorem decB_short {l : List UInt8} (hl : l.length ≤ 9223372036854775807) {i : Nat} (hi : i < (encB l).length) : decB ((encB l).take i) = ([], 0, 5) := by
  rw [encB, List.length_append] at hi
  rw [decB, encB, cnt_short hl (by omega)]
  rfl
theorem decD_short {l : List (List UInt8)} (h : ∀ x ∈ l, x.length = 16) (hl : l.length ≤ 9223372036854775807) {i : Nat} (hi : i < (encD l).length) : decD ((encD l).take i) = ([], 0, 5) := by
  have := flatten_len h
  rw [encD, List.length_append] at hi
  rw [decD, encD, cnt_short hl (by omega)]
  rfl
theorem decN_short {l : List Int} (h : ∀ x ∈ l, In64 x) {i : Nat} (hi : i < (l.flatMap enc).length) : decN l.length ((l.flatMap enc).take i) = .inr 5 := by
  induction l generalizing i with
  | nil => simp at hi
  | cons x l ih =>
    have hx := h x (by simp)
    rw [List.length_cons, decN, List.flatMap_cons]
    rw [List.flatMap_cons, List.length_append] at hi
    by_cases h0 : i < (enc x).length
    · rw [List.take_append_of_le_length (by omega), dec_short hx.1 hx.2 h0]
      rfl
    · have e : i = (enc x).length + (i - (enc x).length) := by omega
      rw [e, List.take_append, List.take_of_length_le (by omega)]
      have e2 : (enc x).length + (i - (enc x).length) - (enc x).length = i - (enc x).length := by omega
      rw [e2, dec_enc hx.1 hx.2]
      simp only [if_true]
      rw [List.drop_append_of_le_length (Nat.le_refl _), List.drop_length, List.nil_append, ih (fun y hy => h y (by simp [hy])) (by omega)]
theorem decI_short {l : List Int} (h : ∀ x ∈ l, In64 x) (hl : l.length ≤ 9223372036854775807) {i : Nat} (hi : i < (encI l).length) : decI ((encI l).take i) = ([], 0, 5) := by
  have hge := flatMap_ge (l := l)
  rw [encI, List.length_append] at hi
  by_cases h0 : i < (enc l.length).length + l.length * 1
  · rw [decI, encI, cnt_short hl h0]
    rfl
  · have e : i = (enc l.length).length + (i - (enc l.length).length) := by omega
    rw [encI, e, List.take_append, List.take_of_length_le (by omega)]
    have e2 : (enc l.length).length + (i - (enc l.length).length) - (enc l.length).length = i - (enc l.length).length := by omega
    rw [e2, decI, cnt_enc hl (by rw [List.length_take]; omega)]
    simp only [if_true]
    rw [List.drop_append_of_le_length (Nat.le_refl _), List.drop_length, List.nil_append, decN_short h (by omega)]

end Wire
end Go.Proofs.Ytoipafbjdjhdjaa
