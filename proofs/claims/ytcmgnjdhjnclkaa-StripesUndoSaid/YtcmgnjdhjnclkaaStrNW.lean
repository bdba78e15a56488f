/- stripes.New. No condition. -/
import Derived.Test.YtcmgnjdhjnclkaaStrZ
namespace Go.Proofs.Ytcmgnjdhjnclkaa.S
set_option linter.unusedVariables false
set_option linter.unusedSimpArgs false
open Go.RowKit
/-- New has given its rows -/
def NewIs (w : World) (cf : Str.Cfg) (e : Ending) (w' : World) : Prop :=
  if cf.ok = true then ∃ A c E, e = .returned (.tuple #[.slice A cf.rows.toNat c, .int .i64 0]) ∧ OwnRows w' w.heap.size A cf.rows.toNat c E (List.replicate cf.rows.toNat Str.free) ∧ Below w.heap.size w w'
  else e = .returned (.tuple #[.slice none 0 0, .int .i64 1]) ∧ Below w.heap.size w w'
set_option maxRecDepth 100000 in
set_option maxHeartbeats 3200000 in
theorem new_no (cf : Str.Cfg) (w : World) (h : cf.ok = false) : Calls Try.prog 13 #[cfV cf] w fun e w' => e = .returned (.tuple #[.slice none 0 0, .int .i64 1]) ∧ Below w.heap.size w w' := by
  have HCK := Lib.hid (fun W => check_any cf W)
  rw [h] at HCK
  have HCV : Hid (cfV cf = .agg (cfL cf).toArray) := Lib.hid rfl
  have HCL : Hid ((cfL cf).length = 6) := Lib.hid rfl
  rw [HCV.out] at HCK ⊢
  obtain ⟨cl, hcl⟩ : ∃ y, cfL cf = y := ⟨_, rfl⟩
  rw [hcl] at HCK HCL ⊢
  clear hcl h
  go_enter Try.func13, Try.ntmps13
  go_wp2_with (first
    | (refine wpList_boxRow rfl _ (.tmp 0) rfl cl rfl rfl ?_; intro w1 r1 b1 z1; clear z1; simp only [put_some, List.setIfInBounds_toArray, List.set_cons_succ, List.set_cons_zero])
    | (refine wpList_load_rg rfl _ (.tmp 1) rfl w.heap.size 0 rfl cl _ (fun j v hv => by rw [Nat.zero_add, r1.cell]; exact hv) Try.underlying23 rfl (by rw [HCL.out]; exact sizeCf) ?_)
    | (go_at_call 28; refine (HCK.out _).mono ?_; rintro e w2 ⟨rfl, b2⟩))
  go_ret2
  exact ⟨rfl, b1.trans (b2.mono b1.size)⟩
set_option maxRecDepth 100000 in
set_option maxHeartbeats 3200000 in
theorem new_yes (cf : Str.Cfg) (w : World) (h : cf.ok = true) : Calls Try.prog 13 #[cfV cf] w fun e w' => ∃ g, e = .returned (.tuple #[.slice (some ⟨g, 0, none⟩) cf.rows.toNat cf.rows.toNat, .int .i64 0]) ∧ IsRow w' g 59 (frs cf.rows.toNat) ∧ w.heap.size ≤ g ∧ Below w.heap.size w w' := by
  have HCK := Lib.hid (fun W => check_any cf W)
  rw [h] at HCK
  have HCV : Hid (cfV cf = .agg (cfL cf).toArray) := Lib.hid rfl
  have hd := (Str.Cfg.ok_d h).2.2
  obtain ⟨n, hn⟩ : ∃ n, cf.rows.toNat = n := ⟨_, rfl⟩
  have hnr : cf.rows = (n : Int) := by omega
  have HCL : Hid ((cfL cf).length = 6 ∧ (cfL cf)[2]? = some (.int .i64 (n : Int))) := Lib.hid ⟨rfl, by rw [← hnr]; rfl⟩
  rw [HCV.out] at HCK ⊢
  obtain ⟨cl, hcl⟩ : ∃ y, cfL cf = y := ⟨_, rfl⟩
  rw [hcl] at HCK HCL ⊢
  rw [hn]
  have h0 : 0 < n := by omega
  have hn4 : n ≤ 4096 := by omega
  have HRP := Lib.hid (fun (W : World) => repeat_rows W.heap.size n h0 hn4 (W.alloc (.cells frL.toArray 59)) (by simp) (IsRow.new W 59 frL))
  have HFR : Hid (frL.toArray = #[.int .i64 (-1), .int .i64 0, .slice none 0 0]) := Lib.hid rfl
  rw [HFR.out] at HRP
  clear hcl h hd hn hnr
  go_enter Try.func13, Try.ntmps13
  go_wp2_with (first
    | (refine wpList_boxRow rfl _ (.tmp 0) rfl cl rfl rfl ?_; intro w1 r1 b1 z1; clear z1; simp only [put_some, List.setIfInBounds_toArray, List.set_cons_succ, List.set_cons_zero])
    | (refine wpList_load_rg rfl _ (.tmp 1) rfl w.heap.size 0 rfl cl _ (fun j v hv => by rw [Nat.zero_add, r1.cell]; exact hv) Try.underlying23 rfl (by rw [HCL.out.1]; exact sizeCf) ?_)
    | (go_at_call 28; refine (HCK.out _).mono ?_; rintro e w2 ⟨rfl, b2⟩; have k2 : w2.cell? ⟨w.heap.size, 2, none⟩ = some (.int .i64 (n : Int)) := ((r1.below' b2).cell 2).trans HCL.out.2; have hw : w.heap.size < w2.heap.size := Nat.lt_of_lt_of_le r1.lt b2.size)
    | (go_at_call 29; refine (HRP.out w2).mono ?_; rintro e w3 ⟨g, rfl, hg, hgl, b3⟩))
  go_ret2
  have hb := b1.trans (b2.mono b1.size)
  have hb2 : Below w2.heap.size w2 (w2.alloc (.cells #[.int .i64 (-1), .int .i64 0, .slice none 0 0] 59)) := (Below.refl _ _).alloc (Nat.le_refl _) _
  have hb3 := hb.trans (hb2.mono hb.size)
  exact ⟨g, rfl, hg, Nat.le_trans hb3.size hgl, hb3.trans (b3.mono hb3.size)⟩
theorem own_free {w : World} {g n base : Nat} (h : IsRow w g 59 (frs n)) (hb : base ≤ g) (hn : n ≤ 4096) : OwnRows w base (some ⟨g, 0, none⟩) n n (List.replicate n ⟨Str.free, none, 0⟩) (List.replicate n Str.free) := by
  refine ⟨⟨?_, .inr ⟨g, n, (frs n).toArray, rfl, hb, h, Nat.le_refl _, by unfold maxLen; omega, by rw [List.size_toArray, frs_len], ?_⟩⟩, ?_, ?_, ?_, by omega, ?_⟩
  · rw [← frs_eq, frs_len]
  · rw [← frs_eq, List.take_of_length_le (by rw [frs_len]; exact Nat.le_refl _)]
  · rw [List.map_replicate]
  · intro x hx
    rw [List.eq_of_mem_replicate hx]
    exact World.ownsRow_nil _ _ _ _
  · rw [List.pairwise_replicate]
    right
    intro a b ha
    cases ha
  · intro x hx
    rw [List.eq_of_mem_replicate hx]
    exact Nat.zero_le _
theorem new_any (cf : Str.Cfg) (w : World) : Calls Try.prog 13 #[cfV cf] w (NewIs w cf) := by
  by_cases h : cf.ok = true
  · have hd := (Str.Cfg.ok_d h).2.2
    refine (new_yes cf w h).mono fun e w' ⟨g, he, hr, hg, hb⟩ => ?_
    unfold NewIs
    rw [if_pos h]
    exact ⟨_, _, _, he, own_free hr hg (by omega), hb⟩
  · refine (new_no cf w (by simpa using h)).mono fun e w' h' => ?_
    unfold NewIs
    rw [if_neg h]
    exact h'
end Go.Proofs.Ytcmgnjdhjnclkaa.S
