/- Rows of one's own changed at one place; Release. Conditions: the rows are kept. -/
import Derived.Test.YtcmgnjdhjnclkaaStrDel
namespace Go.Proofs.Ytcmgnjdhjnclkaa.S
set_option linter.unusedVariables false
set_option linter.unusedSimpArgs false
open Go.RowKit
theorem own_same {w w' : World} {base size n : Nat} {e : TypeId} {v : Value} {xs : List Value} (h : w.ownsRow base e size v n xs) (hk : ∀ g, v.ownBlock = some g → w'.heap[g]? = w.heap[g]?) : w'.ownsRow base e size v n xs := by
  refine ⟨h.1, ?_⟩
  rcases h.2 with h0 | ⟨g, cap, cur, rfl, hg, hh, r⟩
  · exact .inl h0
  · exact .inr ⟨g, cap, cur, rfl, hg, (hk g rfl).trans hh, r⟩
theorem OwnRows.put {w w2 : World} {base n c g k : Nat} {D : List RR} {l : List Str.Rw} {x y : RR} (h : OwnRows w base (some ⟨g, 0, none⟩) n c D l) (hx : D[k]? = some x)
    (hrow : w2.ownsRow base 59 3 (.slice (some ⟨g, 0, none⟩) n c) n ((D.set k y).flatMap rwL)) (hus : UsOwn w2 base y) (hmu : y.r.used.length ≤ 65536)
    (hkeep : ∀ b, b < w.heap.size → b ≠ g → (∀ a, x.A = some a → b ≠ a.block) → w2.heap[b]? = w.heap[b]?) (hyA : ∀ a, y.A = some a → (∃ a', x.A = some a' ∧ a.block = a'.block) ∨ w.heap.size ≤ a.block) :
    OwnRows w2 base (some ⟨g, 0, none⟩) n c (D.set k y) (l.set k y.r) := by
  have hk := (List.getElem?_eq_some_iff.1 hx).1
  have hxk : D[k] = x := (List.getElem?_eq_some_iff.1 hx).2
  have hsep := List.pairwise_iff_getElem.1 h.sep
  have hother : ∀ i (hi : i < D.length), i ≠ k → ∀ a a', D[i].A = some a → x.A = some a' → a.block ≠ a'.block := fun i hi hik a a' ha ha' => by
    rcases Nat.lt_or_ge i k with e | e
    · exact hsep i k hi hk e a a' ha (by rw [hxk]; exact ha')
    · exact fun e2 => hsep k i hk hi (by omega) a' a (by rw [hxk]; exact ha') ha e2.symm
  have hlt : ∀ i (hi : i < D.length), ∀ a, D[i].A = some a → a.block < w.heap.size := fun i hi a ha => (own_block_lt (A := D[i].A) (h.us _ (List.getElem_mem hi)) a ha).2
  refine ⟨hrow, by rw [List.map_set, h.rs], fun z hz => ?_, ?_, h.mx, fun z hz => ?_⟩
  · obtain ⟨i, hi, rfl⟩ := List.getElem_of_mem hz
    rw [List.length_set] at hi
    by_cases e : k = i
    · subst e; rw [List.getElem_set_self]; exact hus
    · rw [List.getElem_set_ne e]
      have hu := h.us _ (List.getElem_mem hi)
      refine own_same hu fun b hb => ?_
      have hA : ∃ a, D[i].A = some a ∧ a.block = b := by
        unfold RR.v at hb
        cases hA : D[i].A with
        | none => rw [hA] at hb; cases hb
        | some a => rw [hA] at hb; exact ⟨a, rfl, by simpa [Value.ownBlock] using hb⟩
      obtain ⟨a, ha, rfl⟩ := hA
      exact hkeep _ (hlt i hi a ha) (fun e2 => own_apart h.own hu (by decide) (g := g) rfl (by rw [hb, e2])) (fun a' ha' => hother i hi (fun e2 => e e2.symm) a a' ha ha')
  · rw [List.pairwise_iff_getElem]
    intro i j hi hj hij a b ha hb
    rw [List.length_set] at hi hj
    rw [List.getElem_set] at ha hb
    by_cases e1 : k = i
    · rw [if_pos e1] at ha
      rw [if_neg (by omega)] at hb
      rcases hyA a ha with ⟨a', ha', e⟩ | hf
      · rw [e]; exact fun e2 => hother j hj (by omega) b a' hb ha' e2.symm
      · have := hlt j hj b hb; omega
    · rw [if_neg e1] at ha
      by_cases e2 : k = j
      · rw [if_pos e2] at hb
        rcases hyA b hb with ⟨a', ha', e⟩ | hf
        · rw [e]; exact hother i hi (by omega) a a' ha ha'
        · have := hlt i hi a ha; omega
      · rw [if_neg e2] at hb
        exact hsep i j hi hj hij a b ha hb
  · rcases List.mem_or_eq_of_mem_set hz with hz | rfl
    · exact h.mu z hz
    · exact hmu
theorem OwnRows.base {w : World} {base base' n c : Nat} {A : Option Addr} {D : List RR} {l : List Str.Rw} (h : OwnRows w base A n c D l) (hb : base' ≤ base) : OwnRows w base' A n c D l :=
  ⟨own_base h.own hb, h.rs, fun x hx => own_base (h.us x hx) hb, h.sep, h.mx, h.mu⟩
/-- other used stripes in a row -/
theorem OwnRows.stored {w w1 : World} {base n c d k : Nat} {D : List RR} {l : List Str.Rw} {x : RR} (h : OwnRows w base (some ⟨d, 0, none⟩) n c D l) (hx : D[k]? = some x)
    (hg : w.grownBy w1 x.v.ownBlock) {us : List Str.Us} {A2 : Option Addr} {c2 : Nat} (ho : w1.ownsRow base 37 3 (.slice A2 us.length c2) us.length (us.flatMap usL)) (hmu : us.length ≤ 65536) (hA2 : A2 = x.A ∨ ∃ a, A2 = some a ∧ w.heap.size ≤ a.block) :
    OwnRows (w1.setCell ⟨d, k * 3 + 2, none⟩ (.slice A2 us.length c2)) base (some ⟨d, 0, none⟩) n c (D.set k ⟨{ x.r with used := us }, A2, c2⟩) (l.set k { x.r with used := us }) ∧ w1.cell? ⟨d, k * 3 + 2, none⟩ = some x.v ∧ w1.frozen? ⟨d, k * 3 + 2, none⟩ = false := by
  have hk := (List.getElem?_eq_some_iff.1 hx).1
  have hdl := (own_block_lt h.own ⟨d, 0, none⟩ rfl).2
  have hxd : x.v.ownBlock ≠ some d := own_apart h.own (h.us x (List.mem_of_getElem? hx)) (by decide) rfl
  have hd1 : w1.heap[d]? = w.heap[d]? := hg.block d hdl (fun e => hxd e.symm)
  have ho1 : w1.ownsRow base 59 3 (.slice (some ⟨d, 0, none⟩) n c) n (D.flatMap rwL) := own_same h.own fun g hg' => by
    obtain rfl : d = g := by simpa [Value.ownBlock] using hg'
    exact hd1
  have hxl := flatMap_len (D := D) fun x _ => rwL_len x
  have hcell := ho1.cells (g := d) rfl (k * 3 + 2) x.v (by
    rw [flatMap_get? (f := rwL) (fun x _ => rwL_len x) hk (by decide : 2 < 3), (List.getElem?_eq_some_iff.1 hx).2]; rfl)
  rw [Addr.add_lit, Nat.zero_add] at hcell
  refine ⟨?_, hcell, ho1.frozenAt _⟩
  have h1 := own_set ho1 (j := k * 3 + 2) (by rw [hxl]; omega) (.slice A2 us.length c2)
  rw [flat_set (y := ⟨{ x.r with used := us }, A2, c2⟩) (fun x _ => rwL_len x) hx (by decide) rfl] at h1
  have hus : UsOwn (w1.setCell ⟨d, k * 3 + 2, none⟩ (.slice A2 us.length c2)) base ⟨{ x.r with used := us }, A2, c2⟩ := own_setOther ho (own_apart ho1 ho (by decide) rfl) _ _
  refine h.put hx h1 hus hmu (fun b hb hbd hbx => ?_) (fun a ha => ?_)
  · rw [Below.heap_setCell _ _ _ b (fun e => hbd e)]
    refine hg.block b hb (fun e => ?_)
    cases hA : x.A with
    | none => unfold RR.v at e; rw [hA] at e; cases e
    | some a => unfold RR.v at e; rw [hA] at e; exact hbx a hA (by simpa [Value.ownBlock] using e)
  · rcases hA2 with e | ⟨a', ha', hl'⟩
    · exact .inl ⟨a, e ▸ ha, rfl⟩
    · obtain rfl : a' = a := Option.some.inj (ha'.symm.trans ha)
      exact .inr hl'
/-- a whole row stored -/
theorem OwnRows.whole {w w1 : World} {base n c d k : Nat} {D : List RR} {l : List Str.Rw} {x y : RR} (h : OwnRows w base (some ⟨d, 0, none⟩) n c D l) (hx : D[k]? = some x) (hb : Below w.heap.size w w1) (hu : UsOwn w1 base y) (hmu : y.r.used.length ≤ 65536) (hyA : ∀ a, y.A = some a → w.heap.size ≤ a.block) :
    OwnRows (w1.setCells d (k * 3) (rwL y)) base (some ⟨d, 0, none⟩) n c (D.set k y) (l.set k y.r) ∧ w1.there d (k * 3) 3 := by
  have hk := (List.getElem?_eq_some_iff.1 hx).1
  have hxl := flatMap_len (D := D) fun x _ => rwL_len x
  have ho1 := own_below h.own hb
  have hkn : k * 3 + 3 ≤ n * 3 := by rw [← ho1.1, hxl]; omega
  refine ⟨?_, own_there ho1 hkn⟩
  have h1 := own_sets (rwL y) _ (k * 3) w1 ho1 (by rw [hxl]; show k * 3 + 3 ≤ _; omega)
  rw [setsL_eq _ _ _ (by rw [hxl]; show k * 3 + 3 ≤ _; omega), flat_take (fun x _ => rwL_len x), rwL_len, show k * 3 + 3 = (k + 1) * 3 by omega, flat_drop (fun x _ => rwL_len x)] at h1
  have e : (D.take k).flatMap rwL ++ rwL y ++ (D.drop (k + 1)).flatMap rwL = (D.set k y).flatMap rwL := by
    rw [List.set_eq_take_append_cons_drop, if_pos hk, List.flatMap_append, List.flatMap_cons, List.append_assoc]
  rw [e] at h1
  have hgs := grown_sets d (rwL y) (k * 3) w1
  refine h.put hx h1 (own_same hu fun b hb' => ?_) hmu (fun b hbl hbd hbx => ?_) (fun a ha => .inr (hyA a ha))
  · have hne : b ≠ d := fun e => own_apart ho1 hu (by decide) (g := d) rfl (by rw [hb', e])
    have hbl : b < w1.heap.size := (hu.lt b hb').2
    exact hgs.block b hbl (fun e => hne (Option.some.inj e))
  · exact (hgs.block b (Nat.lt_of_lt_of_le hbl hb.size) (fun e => hbd (Option.some.inj e))).trans (hb.block b hbl)
/-- the cells of a row of one's own -/
theorem OwnRows.at {w : World} {base n c k : Nat} {A : Option Addr} {D : List RR} {l : List Str.Rw} (h : OwnRows w base A n c D l) (hk : k < n) : ∃ g x, A = some ⟨g, 0, none⟩ ∧ D[k]? = some x ∧ l[k]? = some x.r ∧ base ≤ g ∧ g < w.heap.size ∧ (∀ W : World, Below w.heap.size w W → W.cell? ⟨g, k * 3 + 2, none⟩ = some x.v) ∧ UsOwn w base x ∧ x.r.used.length ≤ 65536 := by
  have hD : k < D.length := by rw [h.rows.len.1]; exact hk
  obtain ⟨g, cap, hv, hg, hlt⟩ := h.own.form (by omega)
  have hA : A = some ⟨g, 0, none⟩ := by injection hv
  refine ⟨g, D[k], hA, List.getElem?_eq_getElem hD, by rw [← h.rs, List.getElem?_map, List.getElem?_eq_getElem hD]; rfl, hg, hlt, fun W hW => ?_, h.us _ (List.getElem_mem hD), h.mu _ (List.getElem_mem hD)⟩
  have ho := own_below h.own hW
  subst hA
  have hc := ho.cells (g := g) rfl (k * 3 + 2) D[k].v (by
    rw [flatMap_get? (f := rwL) (fun x _ => rwL_len x) hD (by decide : 2 < 3)]; rfl)
  rw [Addr.add_lit, Nat.zero_add] at hc
  exact hc
namespace Str
/-- rows without the used stripe q of row k -/
def rel (l : List Rw) (k q : Nat) : List Rw := l.set k (if ((l.getD k free).used.eraseIdx q).length = 0 then free else { l.getD k free with used := (l.getD k free).used.eraseIdx q })
end Str
def RelRes (w : World) (n : Nat) (l : List Str.Rw) (r V : Int) (e : Ending) (w' : World) : Prop :=
  (V = -1 → e = .returned (.tuple #[.slice none 0 0, .int .i64 12])) ∧ (∀ (k q : Nat), r = (k : Int) → V = (q : Int) → ∃ A' c' E, e = .returned (.tuple #[.slice A' n c', .int .i64 0]) ∧ OwnRows w' w.heap.size A' n c' E (Str.rel l k q)) ∧ Below w.heap.size w w'
set_option maxRecDepth 100000 in
set_option maxHeartbeats 1600000 in
theorem release_any {w : World} {B n c : Nat} {A : Option Addr} {D : List RR} {l : List Str.Rw} (h : RowsAt w B A n D l) (hB : B ≤ w.heap.size) (hnc : n ≤ c) (r g : Int) :
    Calls Try.prog 11 #[.slice A n c, stV r g] w (RelRes w n l r (Str.ixr l r g)) := by
  have H := Lib.hid h
  have HI := Lib.hid (fun (W : World) (hW : Below w.heap.size w W) => index_any ((h.below (hW.mono hB))) (Nat.le_trans hB hW.size) hnc r g)
  have HC := Lib.hid (fun (W : World) (hW : Below w.heap.size w W) => copied_any (c := c) ((h.below (hW.mono hB))) (Nat.le_trans hB hW.size))
  have HE := Lib.hid (Str.ixr_cases l r g)
  have HHB := Lib.hid hB
  have hmx := h.mx
  have HLN := Lib.hid h.len
  obtain ⟨V, hV⟩ : ∃ V, Str.ixr l r g = V := ⟨_, rfl⟩
  rw [hV] at HI HE ⊢
  clear h hB hV
  rcases HE.out with rfl | ⟨k, q, x, rfl, hl, hq, rfl⟩
  · go_enter Try.func11, Try.ntmps11
    go_wp2_with (first
      | (refine wpList_boxRow rfl _ _ rfl [.int .i64 r, .int .i64 g] rfl rfl ?_; intro w1 rs1 b1 z1; clear z1)
      | (refine wpList_load_rg rfl _ (.tmp 3) rfl w.heap.size 0 rfl [.int .i64 r, .int .i64 g] _ (fun j v hv => by rw [Nat.zero_add, rs1.cell]; exact hv) Try.underlying29 rfl sizeSt ?_)
      | (go_at_call 26; refine (HI.out _ b1).mono ?_; rintro e w3 ⟨rfl, b3⟩; have hb3 := b1.trans (b3.mono b1.size)))
    go_ret2
    unfold RelRes
    exact ⟨fun _ => rfl, fun k q _ h => by omega, hb3⟩
  · have hkn : k < n := by have := (List.getElem?_eq_some_iff.1 hl).1; rw [HLN.out.2] at this; exact this
    have HX := Lib.hid (And.intro hl hq)
    have e1 : (0 : Int) ≤ (k : Int) := by omega
    have e2 : (k : Int) < (n : Int) := by omega
    clear hl hq
    go_enter Try.func11, Try.ntmps11
    go_upto_region 5 with (first
      | (refine wpList_boxRow rfl _ _ rfl [.int .i64 (k : Int), .int .i64 g] rfl rfl ?_; intro w1 rs1 b1 z1; clear z1)
      | (refine wpList_load_rg rfl _ (.tmp 3) rfl w.heap.size 0 rfl [.int .i64 (k : Int), .int .i64 g] _ (fun j v hv => by rw [Nat.zero_add, rs1.cell]; exact hv) Try.underlying29 rfl sizeSt ?_)
      | (go_at_call 26; refine (HI.out _ b1).mono ?_; rintro e w3 ⟨rfl, b3⟩; have hb3 := b1.trans (b3.mono b1.size); have rs3 := rs1.below' b3; clear rs1)
      | (go_at_call 24; refine (HC.out _ hb3).mono ?_; rintro e w4 ⟨A4, c4, E, rfl, o4, b4⟩; have hb4 := hb3.trans (b4.mono hb3.size); have rs4 := rs3.below' b4; clear rs3))
    obtain ⟨d, y, rfl, hy, hly, hd0, hdl, hcy, hyu, hym⟩ := o4.at hkn
    have hyx : y.r = x := Option.some.inj (hly.symm.trans HX.out.1)
    have hqy : q < y.r.used.length := by rw [hyx]; exact HX.out.2
    obtain ⟨g2, cap2, hv2, -, hg2l⟩ := hyu.form (by omega)
    have hyA : y.A = some ⟨g2, 0, none⟩ := by unfold RR.v at hv2; injection hv2
    have cy := hcy w4 (Below.refl _ _)
    have s0 := rs4.cell 0
    dsimp only [List.getElem?_cons_zero] at s0
    have hyv : y.v = .slice (some ⟨g2, 0, none⟩) y.r.used.length y.k := by unfold RR.v; rw [hyA]
    have hyu2 : w4.ownsRow w3.heap.size 37 3 (.slice (some ⟨g2, 0, none⟩) y.r.used.length y.k) y.r.used.length (y.r.used.flatMap usL) := by have := hyu; unfold UsOwn at this; rwa [hyv] at this
    rw [hyv] at cy
    have HD := Lib.hid (deleteU g2 y.r.used.length y.k y.r.used rfl hym q hqy w3.heap.size w4 hyu2)
    obtain ⟨us, hus⟩ : ∃ us, y.r.used.eraseIdx q = us := ⟨_, rfl⟩
    have husl : us.length = y.r.used.length - 1 := by rw [← hus, List.length_eraseIdx_of_lt hqy]
    have HST : Hid (∀ w5 : World, w5.ownsRow w3.heap.size 37 3 (.slice (some ⟨g2, 0, none⟩) (y.r.used.length - 1) y.k) (y.r.used.length - 1) (us.flatMap usL) → w4.grownBy w5 (some g2) →
        OwnRows (w5.setCell ⟨d, k * 3 + 2, none⟩ (.slice (some ⟨g2, 0, none⟩) us.length y.k)) w3.heap.size (some ⟨d, 0, none⟩) n c4 (E.set k ⟨{ y.r with used := us }, some ⟨g2, 0, none⟩, y.k⟩) (l.set k { y.r with used := us }) ∧ w5.cell? ⟨d, k * 3 + 2, none⟩ = some y.v ∧ w5.frozen? ⟨d, k * 3 + 2, none⟩ = false) := Lib.hid fun w5 ho hg => o4.stored hy (by rw [hyv]; exact hg) (by rw [← husl] at ho; exact ho) (by omega) (.inl hyA.symm)
    rw [hus] at HD
    obtain ⟨m, hm⟩ : ∃ m, y.r.used.length = m := ⟨_, rfl⟩
    rw [hm] at cy HD HST hyv
    have hm0 : 0 < m := by omega
    have HUS := Lib.hid (husl.trans (by rw [hm]))
    have HB4 := Lib.hid hb4
    have HB3 := Lib.hid (And.intro hb3.size (And.intro hd0 hdl))
    have hmm : m ≤ 65536 := by omega
    have hcap4 := Lib.hid (And.intro (own_cap o4.own) (own_cap hyu2).1)
    have HW4 := Lib.hid (And.intro hg2l (own_block_lt hyu2 ⟨g2, 0, none⟩ rfl).1)
    have HSR : Hid (l.set k (if us.length = 0 then Str.free else { y.r with used := us }) = Str.rel l k q) := Lib.hid (by
      unfold Str.rel
      have : l.getD k Str.free = y.r := by simp [List.getD, hly]
      rw [this, hus])
    have e4 : (0 : Int) ≤ (q : Int) := by omega
    have e5 : (q : Int) < (m : Int) := by omega
    have e6 : ((m - 1 : Nat) : Int) = (m : Int) - 1 := by omega
    have HEK := Lib.hid (List.getElem?_eq_some_iff.1 hy).1
    clear hyx hqy hv2 hg2l hyA hyu2 hyu hym hcy hy hly o4 hb4 hb3 b4 b3 b1 hd0 hdl husl hm hus
    go_upto_region 7 with (go_at_call 27; refine HD.out.mono ?_; rintro e w5 ⟨rfl, o5, g5⟩; have HO5 := Lib.hid (And.intro o5 g5); obtain ⟨-, c5, f5⟩ := HST.out w5 o5 g5; clear o5 g5)
    have HO6 := Lib.hid (HST.out w5 HO5.out.1 HO5.out.2).1
    rw [HUS.out] at HO6
    have c6 := World.cell?_setCell_same w5 ⟨d, k * 3 + 2, none⟩ (.slice (some ⟨g2, 0, none⟩) (m - 1) y.k) c5
    have HB6 : Hid (Below w.heap.size w (w5.setCell ⟨d, k * 3 + 2, none⟩ (.slice (some ⟨g2, 0, none⟩) (m - 1) y.k))) := Lib.hid (by
      have h3 := HB3.out
      have h4 := HW4.out
      exact (HB4.out.grown HO5.out.2 HB4.out.size (fun k e => by have := Option.some.inj e; omega)).setCell (p := ⟨d, k * 3 + 2, none⟩) (by show w.heap.size ≤ d; omega) _)
    obtain ⟨w6, hw6⟩ : ∃ w6, w5.setCell ⟨d, k * 3 + 2, none⟩ (.slice (some ⟨g2, 0, none⟩) (m - 1) y.k) = w6 := ⟨_, rfl⟩
    rw [hw6] at HO6 c6 HB6 ⊢
    clear hw6 c5 f5
    obtain ⟨t, ht⟩ : ∃ t, m - 1 = t := ⟨_, rfl⟩
    rw [ht] at c6 HUS ⊢
    have HSH : Hid (Below w3.heap.size w3 w3 ∧ w.heap.size ≤ w3.heap.size) := Lib.hid ⟨Below.refl _ _, HB3.out.1⟩
    have htm : t ≤ 65536 := by omega
    clear e6 HO5 HD HST hyv ht hm0 hmm
    by_cases h0 : t = 0
    · subst h0
      obtain ⟨HF, HTH⟩ := HO6.out.whole (y := ⟨Str.free, none, 0⟩) (by rw [List.getElem?_set_self HEK.out]) (Below.refl _ w6) (World.ownsRow_nil _ _ _ _) (by decide) (fun a e => by cases e)
      have HF := Lib.hid HF
      have HTH := Lib.hid HTH
      go_wp2_with (refine wpList_store_mid rfl _ (.tmp 39) (.tmp 38) rfl d (k * 3) (rwL ⟨Str.free, none, 0⟩).toArray rfl rfl HTH.out sizeRw (all_oneCell_toArray (rwL_one _)) ?_)
      go_ret2
      unfold RelRes
      refine ⟨fun h => by omega, fun k' q' hk' hq' => ?_, HB6.out.grown (grown_sets d _ _ w6) HB6.out.size (fun j e => by have := Option.some.inj e; have h3 := HB3.out; omega)⟩
      obtain rfl : k = k' := by omega
      obtain rfl : q = q' := by omega
      have h1 := HF.out
      rw [List.set_set, List.set_set] at h1
      have h2 := HSR.out
      rw [if_pos HUS.out] at h2
      have h3 : OwnRows (w6.setCells d (k * 3) (rwL ⟨Str.free, none, 0⟩)) w3.heap.size (some ⟨d, 0, none⟩) n c4 (E.set k ⟨Str.free, none, 0⟩) (l.set k Str.free) := h1
      rw [h2] at h3
      exact ⟨_, _, _, rfl, h3.base HSH.out.2⟩
    · have h0' : ¬ ((t : Int) = 0) := by omega
      have h0b : ((t : Int) == 0) = false := by simpa using h0
      have h0c : ¬ us.length = 0 := by rw [HUS.out]; exact h0
      have HN := Lib.hid h0c
      clear h0c
      go_wp2_with fail
      go_ret2
      unfold RelRes
      refine ⟨fun h => by omega, fun k' q' hk' hq' => ?_, HB6.out⟩
      obtain rfl : k = k' := by omega
      obtain rfl : q = q' := by omega
      have h2 := HSR.out
      rw [if_neg HN.out] at h2
      rw [← h2]
      exact ⟨_, _, _, rfl, HO6.out.base HSH.out.2⟩
end Go.Proofs.Ytcmgnjdhjnclkaa.S
