/- The plain laws of the index: inclusion, the latest entries. No program in sight. -/
import Derived.Test.YtnehbcopbioenaaIPlayP
namespace Go.Proofs.Ytnehbcopbioenaa
set_option linter.unusedVariables false
set_option linter.unusedSimpArgs false

theorem del_prefix {A B : List (Int × Int)} (h : A <+: B) (c : Int) : del c A <+: del c B := h.filter _
theorem del_notin {c : Int} {A B : List (Int × Int)} (h : A <+: B) (hm : c ∉ A.map (·.2)) : A <+: del c B := by
  have := del_prefix h c
  rwa [del_none hm] at this
theorem dropLast_prefix_of {A B : List (Int × Int)} (h : A <+: B) (hl : A.length < B.length) : A <+: B.dropLast := by
  rw [List.dropLast_eq_take]
  rw [List.prefix_iff_eq_take] at h
  rw [h]
  have : A.length ≤ B.length - 1 := by omega
  exact ⟨_, List.take_append_drop A.length (B.take (B.length - 1)) |> fun e => by rw [List.take_take, Nat.min_eq_left this] at e; exact e⟩
theorem mem_prefix {c : Int} {A B : List (Int × Int)} (h : A <+: B) (hm : c ∈ A.map (·.2)) : c ∈ B.map (·.2) := (h.map (·.2)).subset hm

theorem put_prefix {a b : Int} (hab : a ≤ b) {L1 L2 : List (Int × Int)} (h : L1 <+: L2) (h1 : (L1.length : Int) ≤ a) (p c : Int) : (lput a L1 p c).1 <+: (lput b L2 p c).1 := by
  have hll : L1.length ≤ L2.length := h.length_le
  unfold lput
  by_cases hc1 : c ∈ L1.map (·.2)
  · have hc2 := mem_prefix h hc1
    rw [if_neg (fun h => h.1 hc1), if_neg (fun h => h.1 hc2)]
    exact List.prefix_cons_inj _ |>.2 (del_prefix h c)
  · by_cases hf1 : (L1.length : Int) = a
    · rw [if_pos ⟨hc1, hf1⟩]
      split
      · next h2 =>
        refine List.prefix_cons_inj _ |>.2 ?_
        rcases Nat.lt_or_ge L1.length L2.length with hlt | hge
        · exact (List.dropLast_prefix L1).trans (dropLast_prefix_of h hlt)
        · rw [h.eq_of_length (by omega)]; exact List.prefix_rfl
      · exact List.prefix_cons_inj _ |>.2 ((List.dropLast_prefix L1).trans (del_notin h hc1))
    · rw [if_neg (fun h => hf1 h.2), del_none hc1]
      split
      · next h2 => exact List.prefix_cons_inj _ |>.2 (dropLast_prefix_of h (by omega))
      · exact List.prefix_cons_inj _ |>.2 (del_notin h hc1)
theorem step_prefix {a b : Int} (hab : a ≤ b) {L1 L2 : List (Int × Int)} (h : L1 <+: L2) (h1 : (L1.length : Int) ≤ a) (o : IOp) : stepL a L1 o <+: stepL b L2 o := by
  unfold stepL
  split
  · exact del_prefix h _
  · unfold putR
    split
    · exact put_prefix hab h h1 _ _
    · exact h
theorem play_prefix {a b : Int} (ha : 1 ≤ a) (hab : a ≤ b) {os : List IOp} (hok : OpsOk os) : playL a os <+: playL b os := by
  have key : ∀ (os : List IOp) (L1 L2 : List (Int × Int)), OpsOk os → Inv a L1 → L1 <+: L2 → os.foldl (stepL a) L1 <+: os.foldl (stepL b) L2 := by
    intro os
    induction os with
    | nil => intro L1 L2 _ _ h; exact h
    | cons o os ih =>
      intro L1 L2 ho hI h
      have h1 := ho o (by simp)
      exact ih _ _ (fun o' h' => ho o' (by simp [h'])) (hI.step ha ⟨h1.1, h1.2.1⟩) (step_prefix hab h hI.len o)
  exact key os [] [] hok (Inv.nil (by omega)) List.prefix_rfl
/-- the first elements of a longer list -/
theorem prefix_take {α : Type} {A B : List α} (h : A <+: B) : B.take A.length = A := (List.prefix_iff_eq_take.1 h).symm

/-! The latest entries. The operations come in reversed order. -/
def bad (c : Int) : Bool := decide (c < 1) || decide (65536 < c)
def wantR : List IOp → List (Int × Int)
  | [] => []
  | o :: r => if bad o.2.2 then wantR r else if o.1 then del o.2.2 (wantR r) else (o.2.1, o.2.2) :: del o.2.2 (wantR r)
/-- of those alone whose chunks were not seen -/
def unseen (seen : List Int) (L : List (Int × Int)) : List (Int × Int) := L.filter fun e => !seen.contains e.2
theorem unseen_del {seen : List Int} {c : Int} (h : c ∈ seen) (L : List (Int × Int)) : unseen seen (del c L) = unseen seen L := by
  unfold unseen del
  rw [List.filter_filter]
  refine List.filter_congr fun e _ => ?_
  by_cases he : e.2 = c
  · simp [he, h]
  · simp [he]
theorem unseen_snoc (seen : List Int) (c : Int) (L : List (Int × Int)) : unseen (seen ++ [c]) L = unseen seen (del c L) := by
  unfold unseen del
  rw [List.filter_filter]
  refine List.filter_congr fun e _ => ?_
  by_cases he : e.2 = c
  · simp [he]
  · simp [he]
theorem want_skip {seen : List Int} {o : IOp} {r : List IOp} (h : (seen.contains o.2.2 || bad o.2.2) = true) : unseen seen (wantR (o :: r)) = unseen seen (wantR r) := by
  rw [wantR]
  split
  · rfl
  · next hb =>
    have hm : o.2.2 ∈ seen := by simpa [hb] using h
    split
    · exact unseen_del hm _
    · unfold unseen
      rw [List.filter_cons_of_neg (by simp [hm])]
      exact unseen_del hm _
theorem want_take {seen : List Int} {o : IOp} {r : List IOp} (h : (seen.contains o.2.2 || bad o.2.2) = false) : unseen seen (wantR (o :: r)) = (if o.1 then [] else [(o.2.1, o.2.2)]) ++ unseen (seen ++ [o.2.2]) (wantR r) := by
  rw [Bool.or_eq_false_iff] at h
  have hm : o.2.2 ∉ seen := by simpa using h.1
  rw [wantR, if_neg (by simp [h.2]), unseen_snoc]
  split
  · rfl
  · unfold unseen
    rw [List.filter_cons_of_pos (by simp [hm])]; rfl
theorem wantR_nodup (r : List IOp) : ((wantR r).map (·.2)).Nodup := by
  induction r with
  | nil => simp [wantR]
  | cons o r ih =>
    rw [wantR]
    have h1 : ((del o.2.2 (wantR r)).map (·.2)).Nodup := List.Nodup.sublist (List.Sublist.map _ List.filter_sublist) ih
    split
    · exact ih
    · split
      · exact h1
      · rw [List.map_cons, List.nodup_cons]; exact ⟨not_mem_del _ _, h1⟩
theorem wantR_len (r : List IOp) : (wantR r).length ≤ r.length := by
  induction r with
  | nil => simp [wantR]
  | cons o r ih =>
    rw [wantR]
    have h1 : (del o.2.2 (wantR r)).length ≤ (wantR r).length := List.length_filter_le _ _
    split
    · simp only [List.length_cons]; omega
    · split
      · simp only [List.length_cons]; omega
      · simp only [List.length_cons]; omega
theorem del_len_of {c : Int} {L : List (Int × Int)} (hn : (L.map (·.2)).Nodup) (hm : c ∈ L.map (·.2)) : (del c L).length + 1 = L.length := by
  obtain ⟨A, q, B, rfl⟩ := split_at hm
  rw [List.map_append, List.map_cons, List.nodup_append] at hn
  have hA : c ∉ A.map (·.2) := fun h => hn.2.2 c h c (by simp) rfl
  have hB : c ∉ B.map (·.2) := (List.nodup_cons.1 hn.2.1).1
  rw [del_split hA hB]
  simp only [List.length_append, List.length_cons]; omega
theorem not_bad {c : Int} (h : ¬ bad c = true) : 1 ≤ c ∧ c ≤ 65536 := by
  simp only [bad, Bool.or_eq_true, decide_eq_true_eq] at h; omega
theorem is_bad {c : Int} (h : bad c = true) : ¬ (1 ≤ c ∧ c ≤ 65536) := by
  simp only [bad, Bool.or_eq_true, decide_eq_true_eq] at h; omega

/-- the list that a script leaves is a beginning of the wanted entries; without drops it is as long as it can be -/
theorem play_want {cap : Int} (hcap : 1 ≤ cap) (r : List IOp) (hok : OpsOk r) : playL cap r.reverse <+: wantR r ∧ ((∀ o ∈ r, o.1 = false) → ((playL cap r.reverse).length : Int) = min ((wantR r).length : Int) cap) := by
  induction r with
  | nil => exact ⟨List.prefix_rfl, fun _ => by simp [playL, wantR]; omega⟩
  | cons o r ih =>
    obtain ⟨h1, h2⟩ := ih (fun o' h' => hok o' (by simp [h']))
    have hI : Inv cap (playL cap r.reverse) := Inv.play hcap (fun o' h' => hok o' (by simp at h'; simp [h']))
    have hlen := hI.len
    have hW := wantR_nodup r
    rw [List.reverse_cons, playL_snoc]
    generalize playL cap r.reverse = L at *
    rw [wantR]
    unfold stepL
    by_cases hb : bad o.2.2 = true
    · rw [if_pos hb]
      have e : (putR cap L o.2.1 o.2.2).1 = L := by unfold putR; rw [if_neg (is_bad hb)]
      have hnb : o.2.2 ∉ L.map (·.2) := by
        intro hm
        rw [List.mem_map] at hm
        obtain ⟨x, hx, h0⟩ := hm
        have := hI.chunk x hx
        exact is_bad hb (by omega)
      rw [e, del_none hnb]
      split
      · exact ⟨h1, fun h => h2 fun o' h' => h o' (by simp [h'])⟩
      · exact ⟨h1, fun h => h2 fun o' h' => h o' (by simp [h'])⟩
    · rw [if_neg hb]
      have hc := not_bad hb
      cases hd : o.1 with
      | true =>
        simp only [if_true]
        exact ⟨del_prefix h1 _, fun h => by have := h o (by simp); rw [hd] at this; cases this⟩
      | false =>
        simp only [Bool.false_eq_true, if_false]
        have e : (putR cap L o.2.1 o.2.2).1 = (lput cap L o.2.1 o.2.2).1 := by unfold putR; rw [if_pos hc]
        rw [e]
        generalize o.2.2 = c at *
        generalize o.2.1 = p at *
        generalize wantR r = W at *
        have h2' : (∀ o' ∈ r, o'.1 = false) → (L.length : Int) = min (W.length : Int) cap := h2
        have hll := h1.length_le
        unfold lput
        by_cases hcL : c ∈ L.map (·.2)
        · have hcW := mem_prefix h1 hcL
          have l1 := del_len_of hI.good.1 hcL
          have l2 := del_len_of hW hcW
          rw [if_neg (fun h => h.1 hcL)]
          refine ⟨List.prefix_cons_inj _ |>.2 (del_prefix h1 c), fun h => ?_⟩
          have := h2' fun o' h' => h o' (by simp [h'])
          simp only [List.length_cons]; omega
        · have hLd := del_notin h1 hcL
          have hLdl := hLd.length_le
          by_cases hf : (L.length : Int) = cap
          · rw [if_pos ⟨hcL, hf⟩]
            refine ⟨List.prefix_cons_inj _ |>.2 ((List.dropLast_prefix L).trans hLd), fun h => ?_⟩
            simp only [List.length_cons, List.length_dropLast]; omega
          · rw [if_neg (fun h => hf h.2), del_none hcL]
            refine ⟨List.prefix_cons_inj _ |>.2 hLd, fun h => ?_⟩
            have h3 := h2' fun o' h' => h o' (by simp [h'])
            have h4 : L = W := h1.eq_of_length (by omega)
            subst h4
            rw [del_none hcL]
            simp only [List.length_cons]; omega
end Go.Proofs.Ytnehbcopbioenaa
