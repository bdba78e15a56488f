/- slices.Clone of rows and of used stripes; stripes.copied. Conditions: the rows are kept. -/
import Derived.Test.YtcmgnjdhjnclkaaStrIns
namespace Go.Proofs.Ytcmgnjdhjnclkaa.S
set_option linter.unusedVariables false
set_option linter.unusedSimpArgs false
open Go.RowKit
theorem rowsT : ElemT Try.prog 25 59 (.agg #[.int .i64 0, .int .i64 0, .slice none 0 0]) 3 40 := ⟨Try.underlying25, by kernel_rfl, by kernel_rfl, by decide, by decide⟩
theorem own_zeroK (w : World) (e : TypeId) (size : Nat) : (w.alloc (.cells #[] e)).ownsRow w.heap.size e size (.slice (some ⟨w.heap.size, 0, none⟩) 0 0) 0 [] :=
  ⟨by simp, .inr ⟨w.heap.size, 0, #[], rfl, Nat.le_refl _, heap_alloc_new w _, Nat.le_refl _, by unfold maxLen; omega, by simp, by simp⟩⟩
set_option maxHeartbeats 800000 in
theorem cloneU {x : RR} {B : Nat} {w : World} (hx : x.Ok w B) (hB : B ≤ w.heap.size) :
    Calls Try.prog 36 #[x.v] w fun e w' => ∃ A' c', e = .returned (.slice A' x.r.used.length c') ∧ w'.ownsRow w.heap.size 37 3 (.slice A' x.r.used.length c') x.r.used.length (x.r.used.flatMap usL) ∧ Below w.heap.size w w' := by
  unfold RR.v
  have hr := hx.rd
  have hn := hx.mx
  have h1 : ∀ u ∈ x.r.used.flatMap usL, u.oneCell' = true := fun u hu => by obtain ⟨y, _, hy⟩ := List.mem_flatMap.1 hu; exact usL_one y u hy
  have hl : (x.r.used.flatMap usL).length = x.r.used.length * 3 := flatMap_len fun u _ => usL_len u
  generalize x.r.used.flatMap usL = xs at *
  generalize x.r.used.length = n at *
  generalize x.A = A at *
  generalize x.k = c at *
  have he := fun w => Lib.run_eql_slice_nil (P := Try.prog) w 57 37 A n c 0 0 Try.underlying57
  cases A with
  | none =>
    have h0 : n = 0 := by
      rcases Nat.eq_zero_or_pos n with h | h
      · exact h
      · obtain ⟨b, off, e, _⟩ := hr.2 h; cases e
    subst h0
    obtain rfl : xs = [] := List.eq_nil_of_length_eq_zero (by omega)
    go_enter Try.func36, Try.ntmps36
    go_wp2
    go_ret
    exact ⟨none, 0, rfl, World.ownsRow_nil _ _ _ _, Below.refl _ _⟩
  | some ad =>
    have he := fun w => (he w).trans (show _ = Result.ok (Value.bool false) w from rfl)
    clear hl
    go_enter Try.func36, Try.ntmps36
    go_wp2_with (at_builtin; refine wpList_appR rfl (.tmp 5) (.tmp 6) 57 rfl w.heap.size 37 _ 3 24 usT (some ⟨w.heap.size, 0, none⟩) 0 0 [] (some ad) n c xs rfl rfl (own_zeroK w _ 3) ((hr.more hB).alloc (Nat.le_refl _) _) h1 ((Below.refl _ _).alloc (Nat.le_refl _) _) (by omega) (Nat.le_refl _) (by simp) ?_; intro A1 c1 w1 own1 hb1; simp only [Nat.zero_add, List.nil_append] at own1; simp only [Nat.zero_add])
    go_ret
    exact ⟨A1, c1, rfl, own1, hb1⟩
set_option maxHeartbeats 800000 in
theorem cloneRws {w : World} {B n c : Nat} {A : Option Addr} {D : List RR} {l : List Str.Rw} (h : RowsAt w B A n D l) (hB : B ≤ w.heap.size) :
    Calls Try.prog 35 #[.slice A n c] w fun e w' => ∃ A' c', e = .returned (.slice A' n c') ∧ w'.ownsRow w.heap.size 59 3 (.slice A' n c') n (D.flatMap rwL) ∧ Below w.heap.size w w' := by
  have hr := h.rd
  have hn := h.mx
  have h1 : ∀ u ∈ D.flatMap rwL, u.oneCell' = true := fun u hu => by obtain ⟨y, _, hy⟩ := List.mem_flatMap.1 hu; exact rwL_one y u hy
  have hl : (D.flatMap rwL).length = n * 3 := by have := (flatMap_len (D := D) fun u _ => rwL_len u); rw [this, h.len.1]
  generalize D.flatMap rwL = xs at *
  clear h
  have he := fun w => Lib.run_eql_slice_nil (P := Try.prog) w 25 59 A n c 0 0 Try.underlying25
  cases A with
  | none =>
    have h0 : n = 0 := by
      rcases Nat.eq_zero_or_pos n with h | h
      · exact h
      · obtain ⟨b, off, e, _⟩ := hr.2 h; cases e
    subst h0
    obtain rfl : xs = [] := List.eq_nil_of_length_eq_zero (by omega)
    go_enter Try.func35, Try.ntmps35
    go_wp2
    go_ret
    exact ⟨none, 0, rfl, World.ownsRow_nil _ _ _ _, Below.refl _ _⟩
  | some ad =>
    have he := fun w => (he w).trans (show _ = Result.ok (Value.bool false) w from rfl)
    clear hl
    go_enter Try.func35, Try.ntmps35
    go_wp2_with (at_builtin; refine wpList_appR rfl (.tmp 5) (.tmp 6) 25 rfl w.heap.size 59 _ 3 40 rowsT (some ⟨w.heap.size, 0, none⟩) 0 0 [] (some ad) n c xs rfl rfl (own_zeroK w _ 3) ((hr.more hB).alloc (Nat.le_refl _) _) h1 ((Below.refl _ _).alloc (Nat.le_refl _) _) (by omega) (Nat.le_refl _) (by simp) ?_; intro A1 c1 w1 own1 hb1; simp only [Nat.zero_add, List.nil_append] at own1; simp only [Nat.zero_add])
    go_ret
    exact ⟨A1, c1, rfl, own1, hb1⟩
theorem own_set {w : World} {base n c size g j : Nat} {e : TypeId} {xs : List Value} (h : w.ownsRow base e size (.slice (some ⟨g, 0, none⟩) n c) n xs) (hj : j < xs.length) (v : Value) :
    (w.setCell ⟨g, j, none⟩ v).ownsRow base e size (.slice (some ⟨g, 0, none⟩) n c) n (xs.set j v) := by
  refine ⟨by rw [List.length_set]; exact h.1, ?_⟩
  rcases h.2 with ⟨h0, _⟩ | ⟨g', cap, cur, he, hb, hh, h1, h2, h3, h4⟩
  · cases h0
  · injection he with he1 _ he3
    obtain rfl : g = g' := congrArg Addr.block (Option.some.inj he1)
    subst he3
    refine .inr ⟨g, c, cur.setIfInBounds j v, rfl, hb, ?_, h1, h2, by simpa using h3, ?_⟩
    · unfold World.setCell
      simp only [Array.getElem?_modify, if_true, hh, Option.map_some]
      simp
    · rw [Array.toList_setIfInBounds, ← h4, List.take_set]
theorem flat_set {α : Type} {f : α → List Value} {sz : Nat} : ∀ {D : List α}, (∀ d ∈ D, (f d).length = sz) → ∀ {k j : Nat} {x y : α} {v : Value}, D[k]? = some x → j < sz → f y = (f x).set j v → (D.flatMap f).set (k * sz + j) v = (D.set k y).flatMap f
  | [], _, k, j, x, y, v, hk, _, _ => by simp at hk
  | d :: D, hf, 0, j, x, y, v, hk, hj, hy => by
    have : d = x := by simpa using hk
    subst this
    have hd := hf d (List.mem_cons_self ..)
    rw [Nat.zero_mul, Nat.zero_add, List.flatMap_cons, List.set_cons_zero, List.flatMap_cons, hy, List.set_append_left _ _ (by omega)]
  | d :: D, hf, k + 1, j, x, y, v, hk, hj, hy => by
    have hd := hf d (List.mem_cons_self ..)
    have ih := flat_set (fun e he => hf e (List.mem_cons_of_mem _ he)) (by simpa using hk) hj hy
    rw [List.flatMap_cons, List.set_cons_succ, List.flatMap_cons, Nat.succ_mul, List.set_append_right _ _ (by omega), hd, show k * sz + sz + j - sz = k * sz + j by omega, ih]
/-- rows of different types lie in different blocks -/
theorem own_apart {w : World} {b1 b2 s1 s2 n1 n2 : Nat} {e1 e2 : TypeId} {v1 v2 : Value} {x1 x2 : List Value} (h1 : w.ownsRow b1 e1 s1 v1 n1 x1) (h2 : w.ownsRow b2 e2 s2 v2 n2 x2) (he : e1 ≠ e2) {g : Nat} (hg : v1.ownBlock = some g) : v2.ownBlock ≠ some g := by
  intro h
  rcases h1.2 with ⟨rfl, _⟩ | ⟨g1, _, c1, rfl, _, hh1, _⟩
  · cases hg
  · rcases h2.2 with ⟨rfl, _⟩ | ⟨g2, _, c2, rfl, _, hh2, _⟩
    · cases h
    · obtain rfl : g1 = g := by simpa [Value.ownBlock] using hg
      obtain rfl : g2 = g1 := by simpa [Value.ownBlock] using h
      rw [hh1] at hh2
      have := Option.some.inj hh2
      injection this with _ ht
      exact he ht
theorem own_setOther {w : World} {base size n : Nat} {e : TypeId} {v : Value} {xs : List Value} (h : w.ownsRow base e size v n xs) {g : Nat} (hg : v.ownBlock ≠ some g) (o : Nat) (u : Value) : (w.setCell ⟨g, o, none⟩ u).ownsRow base e size v n xs := by
  refine ⟨h.1, ?_⟩
  rcases h.2 with h0 | ⟨g1, cap, cur, rfl, hb, hh, r⟩
  · exact .inl h0
  · exact .inr ⟨g1, cap, cur, rfl, hb, (Below.heap_setCell _ _ _ g1 (fun e => hg (congrArg some e))).trans hh, r⟩
def RR.Apart (x y : RR) : Prop := ∀ a b, x.A = some a → y.A = some b → a.block ≠ b.block
def UsOwn (w : World) (base : Nat) (x : RR) : Prop := w.ownsRow base 37 3 x.v x.r.used.length (x.r.used.flatMap usL)
/-- rows in new memory -/
structure OwnRows (w : World) (base : Nat) (A : Option Addr) (n c : Nat) (D : List RR) (l : List Str.Rw) : Prop where
  own : w.ownsRow base 59 3 (.slice A n c) n (D.flatMap rwL)
  rs : D.map RR.r = l
  us : ∀ x ∈ D, UsOwn w base x
  sep : D.Pairwise RR.Apart
  mx : n ≤ 65536
  mu : ∀ x ∈ D, x.r.used.length ≤ 65536
theorem OwnRows.rows {w : World} {base n c : Nat} {A : Option Addr} {D : List RR} {l : List Str.Rw} (h : OwnRows w base A n c D l) : RowsAt w w.heap.size A n D l :=
  ⟨Rd.of_own h.own, h.rs, fun x hx => ⟨Rd.of_own (h.us x hx), (own_cap (h.us x hx)).1, h.mu x hx⟩, h.mx⟩
/-- the copy while it is made: its first j rows have used stripes of their own -/
structure CpSt (w0 : World) (A : Option Addr) (n c : Nat) (D : List RR) (j : Nat) (E : List RR) (w : World) : Prop where
  len : E.length = j
  rs : E.map RR.r = (D.take j).map RR.r
  own : w.ownsRow w0.heap.size 59 3 (.slice A n c) n ((E ++ D.drop j).flatMap rwL)
  us : ∀ x ∈ E, UsOwn w w0.heap.size x
  sep : E.Pairwise RR.Apart
  bel : Below w0.heap.size w0 w
section
variable {w0 w w1 : World} {A : Option Addr} {n c j : Nat} {D E : List RR} {x : RR}
theorem CpSt.at (h : CpSt w0 A n c D j E w) (hx : D[j]? = some x) (hj : j < n) : ∃ g, A = some ⟨g, 0, none⟩ ∧ (E ++ D.drop j)[j]? = some x ∧ (∀ W : World, Below w.heap.size w W → W.cell? ⟨g, j * 3 + 2, none⟩ = some x.v ∧ W.frozen? ⟨g, j * 3 + 2, none⟩ = false) := by
  have hxE : (E ++ D.drop j)[j]? = some x := by
    rw [List.getElem?_append_right (by rw [h.len]; exact Nat.le_refl _), h.len, Nat.sub_self, List.getElem?_drop, Nat.add_zero]; exact hx
  obtain ⟨g, cap, hv, hg, hlt⟩ := h.own.form (by omega)
  have hA : A = some ⟨g, 0, none⟩ := by injection hv
  refine ⟨g, hA, hxE, fun W hW => ?_⟩
  have ho := own_below h.own hW
  subst hA
  have hc := ho.cells (g := g) rfl (j * 3 + 2) x.v (by
    rw [flatMap_get? (f := rwL) (fun x _ => rwL_len x) (by have := (List.getElem?_eq_some_iff.1 hxE).1; exact this) (by decide : 2 < 3)]
    obtain ⟨h1, h2⟩ := List.getElem?_eq_some_iff.1 hxE
    rw [h2]; rfl)
  rw [Addr.add_lit, Nat.zero_add] at hc
  refine ⟨hc, ?_⟩
  rcases ho.2 with ⟨h0, _⟩ | ⟨g', cap', cur, he, _, hh, _⟩
  · cases h0
  · injection he with he1
    obtain rfl : g = g' := congrArg Addr.block (Option.some.inj he1)
    simp [World.frozen?, hh]
theorem CpSt.step (h : CpSt w0 A n c D j E w) (hx : D[j]? = some x) (hj : j < n) (hxE : (E ++ D.drop j)[j]? = some x) {A2 : Option Addr} {c2 : Nat} (hw1 : Below w.heap.size w w1) (ho : w1.ownsRow w.heap.size 37 3 (.slice A2 x.r.used.length c2) x.r.used.length (x.r.used.flatMap usL)) {g : Nat} (hA : A = some ⟨g, 0, none⟩) :
    CpSt w0 A n c D (j + 1) (E ++ [⟨x.r, A2, c2⟩]) (w1.setCell ⟨g, j * 3 + 2, none⟩ (.slice A2 x.r.used.length c2)) := by
  subst hA
  have hjD := (List.getElem?_eq_some_iff.1 hx).1
  have hown := own_below h.own hw1
  have hgb := own_block_lt h.own ⟨g, 0, none⟩ rfl
  have hobR : (Value.slice (some (⟨g, 0, none⟩ : Addr)) n c).ownBlock = some g := rfl
  refine ⟨by rw [List.length_append, h.len]; rfl, ?_, ?_, ?_, ?_, ?_⟩
  · rw [List.map_append, h.rs, List.take_add_one, hx, List.map_append]; rfl
  · have hlen : ((E ++ D.drop j).flatMap rwL).length = (E ++ D.drop j).length * 3 := flatMap_len fun x _ => rwL_len x
    have hjE := (List.getElem?_eq_some_iff.1 hxE).1
    have h1 := own_set hown (j := j * 3 + 2) (by rw [hlen]; omega) (.slice A2 x.r.used.length c2)
    rw [flat_set (y := ⟨x.r, A2, c2⟩) (fun x _ => rwL_len x) hxE (by decide) rfl] at h1
    have e : (E ++ D.drop j).set j ⟨x.r, A2, c2⟩ = E ++ [⟨x.r, A2, c2⟩] ++ D.drop (j + 1) := by
      rw [List.set_append_right _ _ (by rw [h.len]; exact Nat.le_refl _), h.len, Nat.sub_self, List.drop_eq_getElem_cons hjD, List.set_cons_zero, List.append_assoc]; rfl
    rwa [e] at h1
  · intro y hy
    rcases List.mem_append.1 hy with hy | hy
    · have hu := own_below (h.us y hy) hw1
      exact own_setOther hu (own_apart hown hu (by decide) hobR) _ _
    · obtain rfl := List.mem_singleton.1 hy
      have hu : w1.ownsRow w0.heap.size 37 3 (.slice A2 x.r.used.length c2) x.r.used.length (x.r.used.flatMap usL) := own_base ho h.bel.size
      exact own_setOther hu (own_apart hown hu (by decide) hobR) _ _
  · rw [List.pairwise_append]
    refine ⟨h.sep, List.pairwise_singleton _ _, fun y hy z hz a b ha hb => ?_⟩
    obtain rfl := List.mem_singleton.1 hz
    have h1 := own_block_lt (A := y.A) (h.us y hy) a ha
    have h2 := own_block_lt ho b hb
    omega
  · exact (h.bel.trans (hw1.mono h.bel.size)).setCell (p := ⟨g, j * 3 + 2, none⟩) hgb.1 _
theorem CpSt.fin {l : List Str.Rw} {B : Nat} {A0 : Option Addr} (h : CpSt w0 A n c D n E w) (hR : RowsAt w0 B A0 n D l) : OwnRows w w0.heap.size A n c E l := by
  have hl := hR.len.1
  have e : D.drop n = [] := by rw [← hl]; exact List.drop_length
  have e2 : D.take n = D := by rw [← hl]; exact List.take_length
  have ho := h.own
  rw [e, List.append_nil] at ho
  have hrs := h.rs
  rw [e2] at hrs
  refine ⟨ho, by rw [hrs, hR.rs], h.us, h.sep, hR.mx, fun x hx => ?_⟩
  have : x.r ∈ D.map RR.r := by rw [← hrs]; exact List.mem_map_of_mem hx
  obtain ⟨y, hy, e⟩ := List.mem_map.1 this
  rw [← e]; exact (hR.us y hy).mx
end
set_option maxRecDepth 100000 in
set_option maxHeartbeats 1600000 in
theorem copied_any {w : World} {B n c : Nat} {A : Option Addr} {D : List RR} {l : List Str.Rw} (h : RowsAt w B A n D l) (hB : B ≤ w.heap.size) :
    Calls Try.prog 24 #[.slice A n c] w fun e w' => ∃ A' c' E, e = .returned (.slice A' n c') ∧ OwnRows w' w.heap.size A' n c' E l ∧ Below w.heap.size w w' := by
  have HR := Lib.hid h
  have HC := Lib.hid (cloneRws (c := c) h hB)
  have HHB := Lib.hid hB
  have hmx := h.mx
  have HLN := Lib.hid h.len
  clear h hB
  go_enter Try.func24, Try.ntmps24
  go_upto_region 3 with (go_at_call 35; refine HC.out.mono ?_; rintro e w1 ⟨A1, c1, rfl, o1, b1⟩)
  have hnc := own_cap o1
  have hnc1 := hnc.1
  have HS0 : Hid (CpSt w A1 n c1 D 0 [] w1) := Lib.hid ⟨rfl, by simp, by simpa using o1, by simp, List.Pairwise.nil, b1⟩
  clear o1 b1 hnc
  go_loopw [8] (fun u wr => ∃ (j : Nat) (E : List RR), j ≤ n ∧ u = .int .i64 (j : Int) ∧ Hid (CpSt w A1 n c1 D j E wr)) (fun u _ => n - (intOf u).toNat)
  case atStart => exact ⟨0, [], Nat.zero_le _, rfl, HS0⟩
  case round =>
    obtain ⟨j, E, hj, rfl, HS⟩ := hrel
    by_cases hlt : j < n
    · have hjD : j < D.length := by rw [HLN.out.1]; exact hlt
      obtain ⟨x, hx⟩ : ∃ x, D[j]? = some x := ⟨_, List.getElem?_eq_getElem hjD⟩
      obtain ⟨g, rfl, hxE, hce⟩ := HS.out.at hx hlt
      have HXX := Lib.hid (And.intro hx hxE)
      have HCE := Lib.hid hce
      have HCL := Lib.hid (cloneU ((HR.out.us x (List.mem_of_getElem? hx)).below (HS.out.bel.mono HHB.out)) (Nat.le_trans HHB.out HS.out.bel.size))
      have kc := (hce wr (Below.refl _ _)).1
      obtain ⟨xv, hxv⟩ : ∃ y, x.v = y := ⟨_, rfl⟩
      rw [hxv] at kc HCL
      have e1 : (0 : Int) ≤ (j : Int) := by omega
      have e2 : (j : Int) < (n : Int) := by omega
      clear hx hxE hce hjD
      go_wp2_with (go_at_call 36; refine HCL.out.mono ?_; rintro e w2 ⟨A2, c2, rfl, o2, b2⟩; obtain ⟨kc2, kf2⟩ := HCE.out w2 b2; have HO2 := Lib.hid o2; have HB2 := Lib.hid b2; clear o2 b2)
      go_roundw
      case rel => exact ⟨j + 1, _, by omega, by go_num, Lib.hid (HS.out.step HXX.out.1 hlt HXX.out.2 HB2.out HO2.out rfl)⟩
      case measure => simp [intOf]; omega
    · obtain rfl : j = n := by omega
      go_wp2_with fail
      go_ret
      exact ⟨A1, c1, E, rfl, HS.out.fin HR.out, HS.out.bel⟩
end Go.Proofs.Ytcmgnjdhjnclkaa.S
