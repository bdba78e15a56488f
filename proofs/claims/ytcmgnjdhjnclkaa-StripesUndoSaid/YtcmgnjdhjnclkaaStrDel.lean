/- slices.Delete of one used stripe. Conditions: the row is the call's own to write; at most 65536 elements. -/
import Derived.Test.YtcmgnjdhjnclkaaStrK
import Derived.Test.YtcmgnjdhjnclkaaStrD
import Derived.Deep.RegionLaw
namespace Go.Proofs.Ytcmgnjdhjnclkaa.S
set_option linter.unusedVariables false
set_option linter.unusedSimpArgs false
open Go.RowKit
theorem grown_set_ (w : World) (b o : Nat) (v : Value) : w.grownBy (w.setCell ⟨b, o, none⟩ v) (some b) := ⟨rfl, rfl, rfl, by simp, fun k _ hk => Below.heap_setCell _ _ _ k (fun e => hk (by rw [e]))⟩
/-- vs put into xs from o on -/
def setsL : List Value → Nat → List Value → List Value
  | xs, _, [] => xs
  | xs, o, v :: vs => setsL (xs.set o v) (o + 1) vs
theorem setsL_eq : ∀ (vs xs : List Value) (o : Nat), o + vs.length ≤ xs.length → setsL xs o vs = xs.take o ++ vs ++ xs.drop (o + vs.length)
  | [], xs, o, _ => by simp [setsL]
  | v :: vs, xs, o, h => by
    rw [List.length_cons] at h
    rw [setsL, setsL_eq vs (xs.set o v) (o + 1) (by rw [List.length_set]; omega)]
    have h1 : (xs.set o v).take (o + 1) = xs.take o ++ [v] := by
      rw [List.take_succ_eq_append_getElem (by rw [List.length_set]; omega), List.take_set_of_le (Nat.le_refl _)]; simp
    have h2 : (xs.set o v).drop (o + 1 + vs.length) = xs.drop (o + (v :: vs).length) := by
      rw [List.drop_set_of_lt (by omega), List.length_cons]; congr 1; omega
    rw [h1, h2]; simp
theorem own_sets {base n c size g : Nat} {e : TypeId} : ∀ (vs xs : List Value) (o : Nat) (w : World), w.ownsRow base e size (.slice (some ⟨g, 0, none⟩) n c) n xs → o + vs.length ≤ xs.length → (w.setCells g o vs).ownsRow base e size (.slice (some ⟨g, 0, none⟩) n c) n (setsL xs o vs)
  | [], _, _, _, h, _ => h
  | v :: vs, xs, o, w, h, hl => by
    rw [List.length_cons] at hl
    exact own_sets vs (xs.set o v) (o + 1) _ (own_set h (by omega) v) (by rw [List.length_set]; omega)
theorem grown_sets (b : Nat) : ∀ (vs : List Value) (o : Nat) (w : World), w.grownBy (w.setCells b o vs) (some b)
  | [], _, w => World.grownBy.refl w _
  | v :: vs, o, w => World.grownBy.trans (grown_set_ w b o v) (grown_sets b vs (o + 1) (w.setCell ⟨b, o, none⟩ v))
theorem own_less {w : World} {base sz n m c : Nat} {A : Option Addr} {e : TypeId} {xs : List Value} (h : w.ownsRow base e sz (.slice A n c) n xs) (hm : m ≤ n) : w.ownsRow base e sz (.slice A m c) m (xs.take (m * sz)) := by
  have hmm := Nat.mul_le_mul_right sz hm
  refine ⟨by rw [List.length_take, h.1]; exact Nat.min_eq_left hmm, ?_⟩
  rcases h.2 with ⟨h1, h2⟩ | ⟨g, cap, cur, hv, hg, hh, h1, h2, h3, h4⟩
  · obtain ⟨rfl, rfl, rfl⟩ : A = none ∧ n = 0 ∧ c = 0 := by injection h1 with a b c; exact ⟨a, b, c⟩
    obtain rfl : m = 0 := by omega
    exact .inl ⟨rfl, by simp⟩
  · injection hv with a b d
    subst a d
    exact .inr ⟨g, c, cur, rfl, hg, hh, Nat.le_trans hm h1, h2, h3, by rw [← h4, List.take_take, Nat.min_eq_left hmm]⟩
theorem flat_take {α : Type} {f : α → List Value} {sz : Nat} {D : List α} (hf : ∀ d ∈ D, (f d).length = sz) (k : Nat) : (D.flatMap f).take (k * sz) = (D.take k).flatMap f := by
  induction D generalizing k with
  | nil => simp
  | cons d D ih =>
    cases k with
    | zero => simp
    | succ k =>
      have hd := hf d (List.mem_cons_self ..)
      rw [List.flatMap_cons, List.take_succ_cons, List.flatMap_cons, Nat.succ_mul, Nat.add_comm, List.take_append, hd, Nat.add_sub_cancel_left, ih (fun x hx => hf x (List.mem_cons_of_mem _ hx)), List.take_of_length_le (by omega)]
theorem flat_drop {α : Type} {f : α → List Value} {sz : Nat} {D : List α} (hf : ∀ d ∈ D, (f d).length = sz) (k : Nat) : (D.flatMap f).drop (k * sz) = (D.drop k).flatMap f := by
  induction D generalizing k with
  | nil => simp
  | cons d D ih =>
    cases k with
    | zero => simp
    | succ k =>
      have hd := hf d (List.mem_cons_self ..)
      rw [List.flatMap_cons, List.drop_succ_cons, Nat.succ_mul, Nat.add_comm, List.drop_append, hd, Nat.add_sub_cancel_left, ih (fun x hx => hf x (List.mem_cons_of_mem _ hx)), List.drop_of_length_le (by omega), List.nil_append]
theorem zeroUs (w : World) : (zeroValue 37).run Try.prog w = .ok (.agg zUs.toArray) w := by kernel_rfl
theorem run_clearU (w : World) (ty : TypeId) (b o c : Nat) (h : w.there b o 3) : (Builtin.clear_ #[57] ty #[.slice (some ⟨b, o, none⟩) 1 c]).run Try.prog w = .ok (.tuple #[]) (w.setCells b o zUs) := by
  have hzc : (Builtin.zeroCells (Value.agg zUs.toArray).cells 1).toList = zUs := by kernel_rfl
  have hst := run_storeCells_cells (P := Try.prog) b o zUs 0 w (fun j hj => (h j hj).1) (fun j hj => (h j hj).2) (usL_one _)
  simp only [Nat.add_zero] at hst
  have key : ∀ (Z : Value) (zs : List Value), (∀ w, (zeroValue 37).run Try.prog w = .ok Z w) → (Builtin.zeroCells Z.cells 1).toList = zs → (storeCells ⟨b, o, none⟩ zs).run Try.prog w = .ok () (w.setCells b o zs) → (Builtin.clear_ #[57] ty #[.slice (some ⟨b, o, none⟩) 1 c]).run Try.prog w = .ok (.tuple #[]) (w.setCells b o zs) := fun Z zs hv hz hs => by
    simp [Builtin.clear_, run_underlying Try.underlying57, hv, hz, hs]
  exact key _ zUs zeroUs hzc hst
theorem own_there {w : World} {base n c g : Nat} {e : TypeId} {xs : List Value} (h : w.ownsRow base e 3 (.slice (some ⟨g, 0, none⟩) n c) n xs) {o m : Nat} (ho : o + m ≤ n * 3) : w.there g o m := fun q hq => by
  refine ⟨?_, h.frozenAt _⟩
  have := h.cells (g := g) rfl (o + q) _ (List.getElem?_eq_getElem (by rw [h.1]; omega))
  rw [Addr.add_lit, Nat.zero_add] at this
  rw [this]; rfl
set_option maxRecDepth 100000 in
set_option maxHeartbeats 1600000 in
theorem deleteU (g n c : Nat) (l : List Str.Us) (hl : l.length = n) (hn : n ≤ 65536) (k : Nat) (hk : k < n) (base : Nat) (w : World) (ho : w.ownsRow base 37 3 (.slice (some ⟨g, 0, none⟩) n c) n (l.flatMap usL)) :
    Calls Try.prog 27 #[.slice (some ⟨g, 0, none⟩) n c, .int .i64 (k : Int), .int .i64 ((k : Int) + 1)] w fun e w' => e = .returned (.slice (some ⟨g, 0, none⟩) (n - 1) c) ∧ w'.ownsRow base 37 3 (.slice (some ⟨g, 0, none⟩) (n - 1) c) (n - 1) ((l.eraseIdx k).flatMap usL) ∧ w.grownBy w' (some g) := by
  have hcap := own_cap ho
  have hnc := hcap.1
  have hcm : c ≤ 9223372036854775807 := hcap.2
  obtain ⟨i0, hi0, hz0, hz1, hz2⟩ := info_parts usT.info
  obtain ⟨news, hnews⟩ : ∃ news, news = (l.drop (k + 1)).flatMap usL := ⟨_, rfl⟩
  have hnl : news.length = (n - (k + 1)) * 3 := by rw [hnews, flatMap_len fun x _ => usL_len x, List.length_drop, hl]
  have hxl : (l.flatMap usL).length = n * 3 := ho.1
  have hcell : ∀ j u, (l.flatMap usL)[j]? = some u → w.drew.cell? ⟨g, j, none⟩ = some u := fun j u hu => by
    have := ho.cells (g := g) rfl j u hu
    rw [Addr.add_lit, Nat.zero_add] at this
    exact this
  obtain ⟨A, hA, hsrc⟩ : ∃ A : Addr, (if c = k + 1 then some (⟨g, 0, none⟩ : Addr) else some ⟨g, (k + 1) * 3, none⟩) = some A ∧ Hid (∀ t u, news[t]? = some u → w.drew.cell? (A.add t) = some u) := by
    by_cases h : c = k + 1
    · refine ⟨⟨g, 0, none⟩, by simp [h], Lib.hid fun t u hu => ?_⟩
      have h0 : news.length = 0 := by rw [hnl]; omega
      rw [List.length_eq_zero_iff.1 h0] at hu
      simp at hu
    · refine ⟨⟨g, (k + 1) * 3, none⟩, by simp [h], Lib.hid fun t u hu => ?_⟩
      rw [Addr.add_lit]
      refine hcell _ u ?_
      rw [hnews, ← flat_drop (fun x _ => usL_len x), List.getElem?_drop] at hu
      exact hu
  have hcut1 : ∀ W : World, (Instr.sliceAt 57 (.slice (some ⟨g, 0, none⟩) n c) (some (.int .i64 ((k : Int) + 1))) none none).run Try.prog W = .ok (.slice (some A) (n - (k + 1)) (c - (k + 1))) W := fun W => by
    have h := run_cutFrom (P := Try.prog) W usT (some ⟨g, 0, none⟩) n c (k + 1) .i64 (by omega)
    simp only [Option.map_some, Addr.add_lit, Nat.zero_add, Int.natCast_add, Int.cast_ofNat_Int] at h
    rw [hA] at h
    exact h
  have hcut2 := fun W => run_cutHi (P := Try.prog) W usT g n c k .i64 (by omega) (by omega)
  have s1 : Hid (news.length = (n - (k + 1)) * 3) := Lib.hid hnl
  have s2 : Hid (∀ u ∈ news, u.oneCell' = true) := Lib.hid fun u hu => by rw [hnews] at hu; obtain ⟨y, _, hy⟩ := List.mem_flatMap.1 hu; exact usL_one y u hy
  have hko : 0 + k * 3 + news.length ≤ n * 3 := by rw [hnl]; omega
  have s3 : Hid (∀ t, t < news.length → (w.drew.cell? ⟨g, 0 + k * 3 + t, none⟩).isSome = true ∧ w.drew.frozen? ⟨g, 0 + k * 3 + t, none⟩ = false) := Lib.hid fun t ht => own_there ho hko t ht
  obtain ⟨W1, hW1⟩ : ∃ W1, W1 = w.drew.setCells g (0 + k * 3) news := ⟨_, rfl⟩
  have o1 : W1.ownsRow base 37 3 (.slice (some ⟨g, 0, none⟩) n c) n (((l.eraseIdx k) ++ l.drop (n - 1)).flatMap usL) := by
    have h1 := own_sets news _ (0 + k * 3) w.drew ho.drew (by rw [hxl]; exact hko)
    rw [setsL_eq _ _ _ (by rw [hxl]; exact hko), ← hW1, hnl, Nat.zero_add, flat_take (fun x _ => usL_len x), ← Nat.add_mul, show k + (n - (k + 1)) = n - 1 by omega, flat_drop (fun x _ => usL_len x), hnews, ← List.flatMap_append, ← List.flatMap_append] at h1
    rwa [List.eraseIdx_eq_take_drop_succ]
  have hel : (l.eraseIdx k).length = n - 1 := by rw [List.length_eraseIdx_of_lt (by omega), hl]
  have hcl := fun ty c' => run_clearU W1 ty g ((n - 1) * 3) c' (own_there o1 (by omega))
  have HE : Hid ((W1.setCells g ((n - 1) * 3) zUs).ownsRow base 37 3 (.slice (some ⟨g, 0, none⟩) (n - 1) c) (n - 1) ((l.eraseIdx k).flatMap usL)) := Lib.hid (by
    have h1 := own_sets zUs _ ((n - 1) * 3) W1 o1 (by rw [o1.1]; show (n - 1) * 3 + 3 ≤ n * 3; omega)
    have h2 := own_less h1 (m := n - 1) (by omega)
    rw [setsL_eq _ _ _ (by rw [o1.1]; show (n - 1) * 3 + 3 ≤ n * 3; omega), List.append_assoc, List.take_append_of_le_length (by rw [List.length_take, o1.1]; omega), List.take_take, Nat.min_self, flat_take (fun x _ => usL_len x), List.take_append_of_le_length (by omega), List.take_of_length_le (by omega)] at h2
    exact h2)
  have HG : Hid (w.grownBy (W1.setCells g ((n - 1) * 3) zUs) (some g)) := Lib.hid (by
    rw [hW1]
    exact World.grownBy.trans (World.grownBy.trans (show w.grownBy w.drew (some g) from ⟨rfl, rfl, rfl, Nat.le_refl _, fun _ _ _ => rfl⟩) (grown_sets g news _ w.drew)) (grown_sets g _ _ _))
  have hW : Hid (W1 = w.drew.setCells g (0 + k * 3) news) := Lib.hid hW1
  have e1 : k + (n - (k + 1)) = n - 1 := by omega
  have e2 : n - (n - 1) = 1 := by omega
  have e3 : ¬ c = n - 1 := by omega
  have e4 : k ≤ c := by omega
  have e5 : k + 1 ≤ c := by omega
  have hcut3 := fun W => run_cut (P := Try.prog) W usT (some ⟨g, 0, none⟩) (n - 1) c (n - 1) n .i64 .i64 (by omega) (by omega)
  simp only [if_neg e3, Option.map_some, Addr.add_lit, Nat.zero_add, e2] at hcut3
  clear hW1 hcell hnews hnl hxl hko ho o1 hel hcap hz0 hz2
  go_enter Try.func27, Try.ntmps27
  go_wp2_with fail
  go_region_law (refine step_append_room rfl (.tmp 22) (.tmp 25) 57 rfl 37 i0 3 Try.underlying57 hi0 hz1 g 0 k c (by simp [Act.eval, Act.put]) A (n - (k + 1)) (c - (k + 1)) news (by simp [Act.eval, Act.put]) s1.out hsrc.out s2.out (by omega) s3.out ?_; rw [← hW.out])
  go_wp2_with (simp only [hcl])
  go_ret
  exact ⟨rfl, HE.out, HG.out⟩
end Go.Proofs.Ytcmgnjdhjnclkaa.S
