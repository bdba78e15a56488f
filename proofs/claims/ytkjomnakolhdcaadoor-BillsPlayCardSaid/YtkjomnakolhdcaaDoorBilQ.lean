/- Layer 35's laws in plain: what a booking keeps. Condition: the ledger keeps what it keeps (Ok). -/
import Derived.Test.YtkjomnakolhdcaaDoorBilD
namespace Go.Proofs.YtkjomnakolhdcaaDoor
set_option linter.unusedVariables false
set_option linter.unusedSimpArgs false
namespace Bil
theorem getD_le {l : List Int} {lo hi : Int} (h0 : lo ≤ 0 ∧ 0 ≤ hi) (h : ∀ t, t < l.length → lo ≤ l.getD t 0 ∧ l.getD t 0 ≤ hi) (t : Nat) : lo ≤ l.getD t 0 ∧ l.getD t 0 ≤ hi := by
  rcases Nat.lt_or_ge t l.length with ht | ht
  · exact h t ht
  · have : l.getD t 0 = 0 := by simp [List.getD, List.getElem?_eq_none ht]
    omega
theorem closeE_zero {l : Lg} {md hs : Int} {C : List Int} (h : closeE l md hs C = 0) : CloseOk l md hs C ∧ l.periods < 65536 := by
  unfold closeE at h
  split at h
  · rename_i hc
    split at h
    · cases h
    · exact ⟨hc, by omega⟩
  · cases h
theorem i64s_of {l : List Int} (h : ∀ t : Nat, -9223372036854775808 ≤ l.getD t 0 ∧ l.getD t 0 ≤ 9223372036854775807) : I64s l := fun x hx => by
  obtain ⟨j, hj, rfl⟩ := List.mem_iff_getElem.1 hx
  have := h j
  simpa [List.getD, hj] using this
theorem fits_i64s {C : List Int} (h : ∀ c ∈ C, fits c = true) : I64s C := fun x hx => by
  have := h x hx
  simp [fits] at this
  omega
structure Inv (l : Lg) (K : Int) : Prop where
  ok : Ok l
  sm : Sm l K
  ke : KEnc l
theorem sm_close {l : Lg} (hl : Ok l) {K : Int} (hs : Sm l K) {md hh : Int} {C : List Int} (h : CloseOk l md hh C) (hd : List UInt8) : Sm (closeOf hd l md hh C) (K + 1099511627776) := by
  have hlen : C.length = l.pending.length := by rw [h.1, hl.p]
  have hcn := charges_nonneg h.2.2.2.1
  have hK : 0 ≤ K := by have := hs 0; omega
  intro t
  rcases Nat.lt_or_ge t l.n with ht | ht
  · have e1 : (closeOf hd l md hh C).pending.getD t 0 = l.pending.getD t 0 - (usedL C l.pending).getD t 0 := zip_get _ (by rw [used_len hlen, hlen]) (by rw [hl.p]; exact ht)
    have e2 : (closeOf hd l md hh C).paid.getD t 0 = l.paid.getD t 0 + (netL C (usedL C l.pending)).getD t 0 := zip_get _ (by rw [net_len hlen, h.1, hl.q]) (by rw [hl.q]; exact ht)
    have hcl := h.1
    rw [used_get hlen (by omega)] at e1
    rw [net_get hlen (by omega)] at e2
    have h1 := hs t
    have h2 := hcn t
    rw [e1, e2]
    omega
  · have e1 : (closeOf hd l md hh C).pending.getD t 0 = 0 := by
      show (List.zipWith _ l.pending (usedL C l.pending)).getD t 0 = 0
      simp only [List.getD]; rw [List.getElem?_eq_none (by rw [List.length_zipWith, hl.p]; omega)]; rfl
    have e2 : (closeOf hd l md hh C).paid.getD t 0 = 0 := by
      show (List.zipWith _ l.paid (netL C (usedL C l.pending))).getD t 0 = 0
      simp only [List.getD]; rw [List.getElem?_eq_none (by rw [List.length_zipWith, hl.q]; omega)]; rfl
    rw [e1, e2]; omega
theorem sm_credit {l : Lg} (hl : Ok l) {K : Int} (hs : Sm l K) {i t : Nat} {u : Int} (ht : t < l.n) (h1 : 1 ≤ u) (h2 : u ≤ 1099511627776) (hd : List UInt8) : Sm (creditOf hd l i t u) (K + 1099511627776) := by
  intro s
  have h := hs s
  have e : (creditOf hd l i t u).pending.getD s 0 = l.pending.getD s 0 + if s = t then u else 0 := pending_credit hl hd i ht u s
  show 0 ≤ (creditOf hd l i t u).pending.getD s 0 ∧ (creditOf hd l i t u).pending.getD s 0 ≤ _ ∧ 0 ≤ l.paid.getD s 0 ∧ l.paid.getD s 0 ≤ _
  rw [e]
  split <;> omega
theorem aenc_bill {l : Lg} (hl : Ok l) {md hh : Int} {C : List Int} (h : CloseOk l md hh C) : AEnc ⟨billOf l md hh C, List.replicate l.n 0⟩ := by
  have hlen : C.length = l.pending.length := by rw [h.1, hl.p]
  obtain ⟨b1, b2, b3⟩ := bill_adds hl h
  have hmd := h.2.1
  have hnn : ∀ L : List Int, (∀ t : Nat, 0 ≤ L.getD t 0) → 0 ≤ L.sum := by
    intro L
    induction L with
    | nil => intro _; simp
    | cons a L ih =>
      intro hL
      have h0 := hL 0
      have := ih (fun t => by have := hL (t + 1); simpa using this)
      simp only [List.sum_cons, List.getD_cons_zero] at *
      omega
  have hns : 0 ≤ (billOf l md hh C).nets.sum := hnn _ fun t => by
    rcases Nat.lt_or_ge t l.n with ht | ht
    · exact (b3 t ht).2.1
    · have : (billOf l md hh C).nets.getD t 0 = 0 := by
        show (netL C (usedL C l.pending)).getD t 0 = 0
        simp only [List.getD]; rw [List.getElem?_eq_none (by rw [net_len hlen, h.1]; omega)]; rfl
      omega
  simp [fits] at hmd
  refine ⟨?_, ?_, fits_i64s h.2.2.2.1, i64s_of fun t => ?_, i64s_of fun t => ?_⟩
  · show -9223372036854775808 ≤ md ∧ md ≤ 9223372036854775807; omega
  · show -9223372036854775808 ≤ (billOf l md hh C).house ∧ (billOf l md hh C).house ≤ 9223372036854775807; omega
  · refine getD_le (by omega) (fun t ht => ?_) t
    have ht : t < (usedL C l.pending).length := ht
    rw [used_len hlen] at ht
    show -9223372036854775808 ≤ (usedL C l.pending).getD t 0 ∧ (usedL C l.pending).getD t 0 ≤ 9223372036854775807
    rw [used_get hlen ht]
    have := charges_nonneg h.2.2.2.1 t
    have := hl.nn t
    omega
  · show -9223372036854775808 ≤ (List.replicate l.n (0 : Int)).getD t 0 ∧ (List.replicate l.n (0 : Int)).getD t 0 ≤ _
    rw [rep_zero]; omega
theorem inv_do {l : Lg} {K : Int} (h : Inv l K) (x : Bk) : Inv (doSt l x) (K + 1099511627776) := by
  have hmono : Inv l (K + 1099511627776) := ⟨h.ok, fun t => by have := h.sm t; omega, h.ke⟩
  unfold doSt
  split
  · unfold closeS
    split
    · rename_i he
      obtain ⟨hc, hp⟩ := closeE_zero he
      refine ⟨ok_close h.ok hc _, sm_close h.ok h.sm hc _, fun a ha => ?_⟩
      have ha2 := List.mem_of_mem_drop (show a ∈ (l.kept ++ [(⟨billOf l x.a x.b x.ch, List.replicate l.n 0⟩ : Acc)]).drop _ from ha)
      rcases List.mem_append.1 ha2 with h1 | h1
      · exact h.ke a h1
      · obtain rfl := List.mem_singleton.1 h1; exact aenc_bill h.ok hc
    · exact hmono
  · unfold creditSt
    split
    · rename_i he
      obtain ⟨i, t, hi, ht, htl, hu, hm⟩ := creditErr_zero he
      have hil := (idx_some hi).2.2.1
      rw [hi, ht]
      simp only [Option.getD_some, Int.toNat_natCast]
      obtain ⟨a1, _⟩ := h.ok.a i hil
      have hcf := charges_nonneg a1.f t
      have had := a1.d t
      refine ⟨ok_credit h.ok hil htl hu hm _, sm_credit h.ok h.sm htl hu (by omega) _, fun a ha => ?_⟩
      have ha : a ∈ l.kept.set i ⟨(accAt l i).bill, addAt (accAt l i).granted t x.c⟩ := ha
      rcases List.mem_or_eq_of_mem_set ha with h1 | h1
      · exact h.ke a h1
      · subst h1
        have hmem : accAt l i ∈ l.kept := by simp [accAt, List.getD, hil]
        have hk := h.ke _ hmem
        refine ⟨hk.md, hk.hs, hk.c, hk.r, i64s_of fun s => ?_⟩
        show -9223372036854775808 ≤ (addAt (accAt l i).granted t x.c).getD s 0 ∧ _
        rw [addAt_get (by rw [a1.g]; exact htl)]
        have h1 := a1.d s
        have h2 := charges_nonneg a1.f s
        split <;> omega
    · exact hmono
theorem inv_new (n : Nat) (hd : List UInt8) (K : Int) (hK : 0 ≤ K) : Inv (newOf n hd) K := ⟨ok_new n hd, fun t => by
  show 0 ≤ (List.replicate n (0 : Int)).getD t 0 ∧ (List.replicate n (0 : Int)).getD t 0 ≤ K ∧ 0 ≤ (List.replicate n (0 : Int)).getD t 0 ∧ (List.replicate n (0 : Int)).getD t 0 ≤ K
  rw [rep_zero]; omega, fun a ha => by simp [newOf] at ha⟩
/-- the ledger of the first k bookings -/
def run (l : Lg) : List Bk → Lg
  | [] => l
  | x :: xs => run (doSt l x) xs
theorem sm_big {l : Lg} {K : Int} (h : Sm l K) (hK : K ≤ 1152921504606846976) : Sm l 1152921504606846976 := fun t => by have := h t; omega
theorem closing {l : Lg} {x : Bk} (h0 : doErr l x = 0) (h1 : x.kind = 1) : CloseOk l x.a x.b x.ch ∧ doSt l x = closeOf (bookHead l.head ⟨(encClose x.a x.b x.ch).toArray⟩) l x.a x.b x.ch := by
  unfold doErr at h0
  rw [if_pos h1] at h0
  refine ⟨(closeE_zero h0).1, ?_⟩
  unfold doSt closeS
  rw [if_pos h1, if_pos h0]
end Bil
end Go.Proofs.YtkjomnakolhdcaaDoor
