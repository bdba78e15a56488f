/- slices.DeleteFunc at ints with layer 37's closure: the elements that are not k stay. Conditions: a row of its own; k is among the elements. -/
import Derived.Test.YtfihdenapjmaeaaSch12
namespace Go.Proofs.Ytfihdenapjmaeaa
set_option linter.unusedVariables false
set_option linter.unusedSimpArgs false
open Go.RowKit
theorem frozen_setCells (b : Nat) : ∀ (vs : List Value) (o : Nat) (w : World) (x : Addr), (w.setCells b o vs).frozen? x = w.frozen? x
  | [], _, _, _ => rfl
  | v :: vs, o, w, x => by rw [World.setCells, frozen_setCells b vs (o + 1) _ x]; simp
theorem grown_setCells (b : Nat) : ∀ (vs : List Value) (o : Nat) (w : World), w.grownBy (w.setCells b o vs) (some b)
  | [], _, w => World.grownBy.refl w _
  | v :: vs, o, w => World.grownBy.trans (grown_setCell w b o v) (grown_setCells b vs (o + 1) (w.setCell ⟨b, o, none⟩ v))
abbrev delF (bk : Nat) : Value := .func (.func 34) #[] #[.pointer (some ⟨bk, 0, none⟩)]
theorem isK_any (x k : Int) (bk : Nat) (w : World) (hk : w.cell? ⟨bk, 0, none⟩ = some (.int .i64 k)) : Calls Try.prog 34 #[.int .i64 x, .pointer (some ⟨bk, 0, none⟩)] w fun e w' => e = .returned (.bool (x == k)) ∧ w' = w := by
  go_enter Try.func34, Try.ntmps34
  go_wp2
  go_ret
  exact ⟨rfl, rfl⟩
set_option maxHeartbeats 800000 in
theorem indexK (A : Option Addr) (n c : Nat) (l : List Int) (hl : l.length = n) (hn : n ≤ 1000) (k : Int) (bk : Nat) (B : Nat) (w : World) (hr : Rd w B 1 A n (ivs l)) (hk : w.cell? ⟨bk, 0, none⟩ = some (.int .i64 k)) :
    Calls Try.prog 36 #[.slice A n c, delF bk] w fun e w' => e = .returned (.int .i64 (idxOf (fun x => x == k) l)) ∧ w' = w := by
  have HKC := Lib.hid hk
  clear hk
  go_enter Try.func36, Try.ntmps36
  go_wp2
  go_loop [8] (fun u => ∃ j : Nat, j ≤ n ∧ u = .int .i64 j ∧ Hid (∀ x ∈ l.take j, (x == k) = false)) (fun u => n - (intOf u).toNat)
  case atStart => exact ⟨0, Nat.zero_le _, rfl, by intro x hx; simp at hx⟩
  case round =>
    obtain ⟨j, hj, rfl, HB⟩ := hrel
    by_cases hlt : j < n
    · have hjl : j < l.length := by omega
      obtain ⟨b, off, rfl, _, h1⟩ := hr.get hjl
      have HX := Lib.hid (isK_any l[j] k bk w HKC.out)
      obtain ⟨q, hq⟩ : ∃ q, (l[j] == k) = q := ⟨_, rfl⟩
      rw [hq] at HX
      have HQ := Lib.hid hq
      clear hr hq
      cases q with
      | true =>
        have HI := Lib.hid (idxOf_found (p := fun x => x == k) hjl HQ.out HB.out)
        go_wp2_with (go_at_call 34; refine HX.out.mono ?_; rintro e w' ⟨rfl, rfl⟩)
        go_ret
        exact ⟨ret_int HI.out.symm, rfl⟩
      | false =>
        have HI : Hid (∀ x ∈ l.take (j + 1), (x == k) = false) := Lib.hid (by
          intro x hx
          rw [List.take_succ_eq_append_getElem hjl] at hx
          simp only [List.mem_append, List.mem_singleton] at hx
          rcases hx with hx | rfl
          · exact HB.out x hx
          · exact HQ.out)
        go_wp2_with (go_at_call 34; refine HX.out.mono ?_; rintro e w' ⟨rfl, rfl⟩)
        go_round
        case rel => exact ⟨j + 1, by omega, by go_num, HI⟩
        case measure => simp [intOf]; omega
    · have HI := Lib.hid (idxOf_none (p := fun x => x == k) (l := l) (fun x hx => HB.out x (by rw [List.take_of_length_le (by omega)]; exact hx)))
      go_wp2
      go_ret
      exact ⟨ret_int HI.out.symm, rfl⟩
/-- block g holds the ints l in its first cells, which may be written -/
structure IRow (w : World) (g : Nat) (l : List Int) : Prop where
  lt : g < w.heap.size
  cell : ∀ t, t < l.length → w.cell? ⟨g, t, none⟩ = some (.int .i64 (l.getD t 0))
  free : ∀ t, t < l.length → w.frozen? ⟨g, t, none⟩ = false
theorem IRow.rd {w : World} {g n : Nat} {l : List Int} (h : IRow w g l) (hn : l.length = n) : Rd w w.heap.size 1 (some ⟨g, 0, none⟩) n (ivs l) := by
  refine ⟨by simp [hn], fun _ => ⟨g, 0, rfl, h.lt, fun j u hu => ?_⟩⟩
  have hj : j < l.length := by have := (List.getElem?_eq_some_iff.1 hu).1; simpa using this
  rw [Nat.zero_add, h.cell j hj]
  simp [hj] at hu
  rw [← hu]; simp [List.getD, hj]
theorem mem_idx {k : Int} {l : List Int} (h : k ∈ l) : ∃ i, i < l.length ∧ idxOf (fun x => x == k) l = (i : Int) ∧ l.getD i 0 = k ∧ (l.take i).filter (fun x => !(x == k)) = l.take i := by
  unfold idxOf
  cases hf : l.findIdx? (fun x => x == k) with
  | none => rw [List.findIdx?_eq_none_iff] at hf; have := hf k h; simp at this
  | some i =>
    rw [List.findIdx?_eq_some_iff_getElem] at hf
    obtain ⟨h1, h2, h3⟩ := hf
    refine ⟨i, h1, rfl, by simp [List.getD, h1]; simpa using h2, ?_⟩
    rw [List.filter_eq_self]
    intro x hx
    rw [List.mem_take_iff_getElem] at hx
    obtain ⟨j, hj, rfl⟩ := hx
    have := h3 j (by omega)
    simpa using this
def DelRes (g c : Nat) (l : List Int) (k : Int) (w : World) (e : Ending) (w' : World) : Prop := e = .returned (.slice (some ⟨g, 0, none⟩) (l.filter fun x => !(x == k)).length c) ∧ IRow w' g (l.filter fun x => !(x == k)) ∧ w.grownBy w' (some g)
set_option maxRecDepth 100000 in
set_option maxHeartbeats 1600000 in
theorem deleteK (g m c : Nat) (l : List Int) (hl : l.length = m) (hm : m ≤ 1000) (hmc : m ≤ c) (hc : c ≤ 9223372036854775807) (k : Int) (hk : k ∈ l) (bk : Nat) (w : World) (hr : IRow w g l) (hbk : bk < w.heap.size) (hne : bk ≠ g) (hcell : w.cell? ⟨bk, 0, none⟩ = some (.int .i64 k)) :
    Calls Try.prog 33 #[.slice (some ⟨g, 0, none⟩) m c, delF bk] w (DelRes g c l k w) := by
  have HI := Lib.hid (indexK (some ⟨g, 0, none⟩) m c l hl hm k bk w.heap.size w (hr.rd hl) hcell)
  obtain ⟨i0, hi0, hidx, hget, hflt⟩ := mem_idx hk
  rw [hidx] at HI
  have HC := Lib.hid hcell
  have HR := Lib.hid hr
  have HL := Lib.hid hl
  have HF0 := Lib.hid hflt
  have HG0 := Lib.hid hget
  have hi0m : i0 < m := by omega
  clear hcell hr hidx hk hget hflt
  go_enter Try.func33, Try.ntmps33
  have hn1 : ((i0 : Int) == -1) = false := by rw [beq_eq_false_iff_ne]; omega
  go_wp2_with (go_at_call 36; refine HI.out.mono ?_; rintro e w' ⟨rfl, rfl⟩)
  go_loopw [5, 6] (fun u5 u6 wx => ∃ (wr : World) (i j : Nat) (d : Nat → Int), wr = wx ∧ i < j ∧ j ≤ m ∧ u5 = .int .i64 i ∧ u6 = .int .i64 j ∧ Hid (∀ t, t < m → wr.cell? ⟨g, t, none⟩ = some (.int .i64 (d t))) ∧ Hid (∀ t, t < m → wr.frozen? ⟨g, t, none⟩ = false) ∧ Hid (∀ t, j ≤ t → t < m → d t = l.getD t 0) ∧ Hid ((List.range i).map d = (l.take j).filter (fun x => !(x == k))) ∧ w'.grownBy wr (some g)) (fun _ u6 _ => m - (intOf u6).toNat)
  case atStart =>
    refine ⟨_, i0, i0 + 1, fun t => l.getD t 0, rfl, by omega, by omega, rfl, by go_num, fun t ht => HR.out.cell t (by rw [HL.out]; exact ht), fun t ht => HR.out.free t (by rw [HL.out]; exact ht), fun t _ _ => rfl, ?_, World.grownBy.refl _ _⟩
    have hlt : i0 < l.length := by rw [HL.out]; exact hi0m
    show _ = _
    rw [List.take_succ_eq_append_getElem hlt, List.filter_append, HF0.out]
    have e : l[i0] = k := by have := HG0.out; simpa [List.getD, hlt] using this
    rw [e]
    simp only [List.filter_cons, beq_self_eq_true, Bool.not_true, Bool.false_eq_true, if_false, List.filter_nil, List.append_nil]
    apply List.ext_getElem (by simp; omega)
    intro t h1 h2
    simp at h1
    simp [List.getD, show t < l.length by omega]
  case round =>
    obtain ⟨wr, i, j, d, rfl, hij, hjm, rfl, rfl, HE, HF, HD, HS, hg⟩ := hrel
    have HG := Lib.hid hg
    by_cases hlt : j < m
    · have hjl : j < l.length := by rw [HL.out]; exact hlt
      have r1 := HE.out j hlt
      rw [HD.out j (Nat.le_refl _) hlt] at r1
      have f1 := HF.out i (by omega)
      have e1 := HE.out i (by omega)
      have HX := Lib.hid (isK_any (l.getD j 0) k bk wr (far_grown hg HC.out hbk hne))
      obtain ⟨q, hq⟩ : ∃ q, (l.getD j 0 == k) = q := ⟨_, rfl⟩
      have hd : l.getD j 0 = l[j] := by simp [List.getD, hjl]
      have hst : (l.take (j + 1)).filter (fun x => !(x == k)) = (l.take j).filter (fun x => !(x == k)) ++ (if q then [] else [l.getD j 0]) := by
        rw [List.take_succ_eq_append_getElem hjl, List.filter_append, hd, ← hq, hd]
        cases h : (l[j] == k) <;> simp [List.filter_cons, h]
      rw [hq] at HX
      have HST := Lib.hid hst
      have i0' : (0 : Int) ≤ (i : Int) := by omega
      have i1' : (i : Int) < (m : Int) := by omega
      obtain ⟨v, hv⟩ : ∃ v, l.getD j 0 = v := ⟨_, rfl⟩
      rw [hv] at r1 HX HST
      have HV := Lib.hid hv
      clear hq hd hst hg hv hjl
      cases q with
      | true =>
        go_wp2_with (go_at_call 34; refine HX.out.mono ?_; rintro e w' ⟨rfl, rfl⟩)
        go_roundw
        case rel => exact ⟨_, i, j + 1, d, rfl, by omega, by omega, rfl, by go_num, HE.out, HF.out, fun t ht ht' => HD.out t (by omega) ht', by show _ = _; rw [HST.out]; simpa using HS.out, HG.out⟩
        case measure => simp [intOf]; omega
      | false =>
        go_wp2_with (go_at_call 34; refine HX.out.mono ?_; rintro e w' ⟨rfl, rfl⟩)
        go_roundw
        case rel =>
          refine ⟨_, i + 1, j + 1, fun t => if t = i then v else d t, rfl, by omega, by omega, by go_num, by go_num, fun t ht => ?_, fun t ht => ?_, fun t ht ht' => ?_, ?_, HG.out.trans (grown_setCell _ _ _ _)⟩
          · dsimp only
            by_cases e : i = t
            · subst e; rw [if_pos rfl]; exact cell_set_eq _ _ e1
            · rw [cell_set_ne _ _ e, if_neg (fun h => e h.symm)]; exact HE.out t ht
          · have := HF.out t ht; simpa using this
          · dsimp only
            rw [if_neg (by omega)]; exact HD.out t (by omega) ht'
          · show _ = _
            rw [HST.out, ← HS.out, List.range_succ, List.map_append]
            congr 1
            · apply List.map_congr_left
              intro t ht
              rw [if_neg (by have := List.mem_range.1 ht; omega)]
            · simp
        case measure => simp [intOf]; omega
    · obtain rfl : j = m := by omega
      have him : i < j := by omega
      have hic : ¬ c = i := by omega
      have hle : (i : Int) ≤ (j : Int) := by omega
      have hle2 : (j : Int) ≤ (c : Int) := by omega
      have hle3 : (i : Int) ≤ (c : Int) := by omega
      have i0' : (0 : Int) ≤ (i : Int) := by omega
      have hcl : ∀ ty, (Builtin.clear_ #[22] ty #[.slice (some ⟨g, i, none⟩) (j - i) (c - i)]).run Try.prog wr = .ok (.tuple #[]) (wr.setCells g i (List.replicate (j - i) (.int .i64 0))) :=
        fun ty => Lib.run_clear_slice wr 22 3 ty (.int .i64 0) Try.underlying22 zeroI rfl rfl g i (j - i) (c - i) (by omega) (fun t ht => by rw [HE.out (i + t) (by omega)]; rfl) (fun t ht => HF.out (i + t) (by omega))
      have hfl : (l.filter fun x => !(x == k)) = (List.range i).map d := by rw [HS.out, List.take_of_length_le (by rw [HL.out]; omega)]
      have HFL := Lib.hid hfl
      clear hfl hg
      go_wp2_with (simp only [hcl])
      go_ret
      have hlen : (l.filter fun x => !(x == k)).length = i := by rw [HFL.out]; simp
      refine ⟨by rw [hlen]; simp, ⟨by have := HG.out.trans (grown_setCells g (List.replicate (j - i) (Value.int .i64 0)) i wr); exact Nat.lt_of_lt_of_le HR.out.lt this.size, fun t ht => ?_, fun t ht => ?_⟩, HG.out.trans (grown_setCells _ _ _ _)⟩
      · rw [hlen] at ht
        have h1 : wr.rangeAt g t [.int .i64 (d t)] := fun q v hq => by
          match q, hq with
          | 0, hq => cases hq; exact HE.out t (by omega)
        have h2 := World.rangeAt_setCells_apart h1 g i (List.replicate (j - i) (.int .i64 0)) (Or.inr (Or.inl (by simp; omega)))
        have h3 := h2 0 _ rfl
        rw [Nat.add_zero] at h3
        rw [h3, HFL.out]
        simp [List.getD, ht]
      · rw [hlen] at ht
        rw [frozen_setCells]; exact HF.out t (by omega)
end Go.Proofs.Ytfihdenapjmaeaa
