/- The program's decoder: a table with one chunk more. Conditions: as each says. -/
import Derived.Test.YtcicfneekmbamaaChkSG
namespace Go.Proofs.Ytcicfneekmbamaa
set_option linter.unusedVariables false
set_option linter.unusedSimpArgs false
open Go.RowKit
theorem unitAt_snoc (l : List Chk.Ck) (c : Chk.Ck) (y : Chk.Un) : Chk.unitAt (l ++ [c]) y = (Chk.unitAt l y).or (if c.lost = false ∧ c.at_ = y then some c.id else none) := by
  unfold Chk.unitAt
  rw [List.find?_append]
  cases h : l.find? (fun c => !c.lost && decide (c.at_ = y)) with
  | some x => simp
  | none =>
    simp only [Option.none_or, Option.map_none]
    rw [List.find?_cons]
    by_cases h1 : c.lost = false
    · by_cases h2 : c.at_ = y
      · simp [h1, h2]
      · simp [h2]
    · simp [h1]
theorem unM_snoc {l : List Chk.Ck} {c : Chk.Ck} {S : Bool} (hS : c.lost = false → S = true) (hun : c.lost = false → Chk.unitAt l c.at_ = none) : mpU (unM l) S c.lost c.at_ c.id = unM (l ++ [c]) := by
  funext y
  unfold mpU unM
  rw [unitAt_snoc]
  cases hlo : c.lost with
  | true => simp
  | false =>
    rw [hS hlo]
    by_cases hy : y = c.at_
    · subst hy; rw [hun hlo]; simp
    · have : ¬ c.at_ = y := fun e => hy e.symm
      simp [hy, this]
theorem TAt.snoc {w W W6 : World} {F S : Nat → Prop} {a : Nat} {t : TM} {l : List Chk.Ck} (h : TAt w F S a t l) (hb : ∀ b, F b ∨ S b → b < w.heap.size) {rb k c' N' : Nat} {c : Chk.Ck} {A A' : Option Addr} (hrS : ¬ S rb) (hrF : ¬ F rb)
    (hK : Keep (fun q => q = rb ∨ q = t.m) w W) (href : W.ownsRow w.heap.size 83 2 (.slice A c.refs.length k) c.refs.length (rfs c.refs)) (hm : MapIs W t.m unV (unM (l ++ [c])) N')
    (ho : W6.ownsRow 0 45 23 (.slice A' (t.n + 1) c') (t.n + 1) (crs t.D ++ ckCells c (.slice A c.refs.length k)))
    (hg : W.grownBy W6 (Value.slice t.A t.n t.c).ownBlock) (hA : A' = t.A ∨ ∃ p, A' = some p ∧ p.block = W.heap.size) (hi : Chk.Inv (l ++ [c])) :
    ∃ F' S' : Nat → Prop, (∃ t', TAt (W6.setCell ⟨a, 0, none⟩ (.slice A' (t.n + 1) c')) F' S' a t' (l ++ [c])) ∧ Keep (fun q => S q ∨ q = rb) w (W6.setCell ⟨a, 0, none⟩ (.slice A' (t.n + 1) c')) ∧ (∀ b, F' b ∨ S' b → b < (W6.setCell ⟨a, 0, none⟩ (.slice A' (t.n + 1) c')).heap.size) ∧ (∀ b, S' b → S b ∨ w.heap.size ≤ b) ∧ (∀ b, F' b → F b ∨ w.heap.size ≤ b) := by
  have halt := h.row.lt
  have hmlt := h.map.lt
  have hsW := hK.size
  have hKg : Keep (fun q => ∃ g, t.A = some g ∧ q = g.block) W W6 := Keep.of_grown hg fun k e => ownB_any e
  have hs6 := hKg.size
  have hs8 : (W6.setCell ⟨a, 0, none⟩ (.slice A' (t.n + 1) c')).heap.size = W6.heap.size := by simp [World.setCell]
  have hAlt : ∀ g, t.A = some g → g.block < w.heap.size := fun g hg => hb _ (.inr (h.sg g hg))
  have hAb : ∀ p, A' = some p → (t.A = some p ∧ p.block < w.heap.size) ∨ (p.block = W.heap.size ∧ p.block < W6.heap.size) := fun p hp => by
    rcases hA with e | ⟨q, hq, hql⟩
    · exact .inl ⟨e.symm.trans hp, hAlt p (e.symm.trans hp)⟩
    · obtain rfl : p = q := Option.some.inj (hp.symm.trans hq)
      exact .inr ⟨hql, (own_block_lt ho p hp).2⟩
  have hra : rb ≠ a := fun e => hrS (e ▸ h.sa)
  have hrm : rb ≠ t.m := fun e => hrS (e ▸ h.sm)
  have hKS : Keep (fun q => S q ∨ q = rb) w (W6.setCell ⟨a, 0, none⟩ (.slice A' (t.n + 1) c')) :=
    ((hK.mono fun b _ e => e.elim (fun e => .inr e) (fun e => .inl (e ▸ h.sm))).trans (hKg.mono fun b _ e => by obtain ⟨g, hg, e⟩ := e; exact .inl (e ▸ h.sg g hg))).setCell (a := ⟨a, 0, none⟩) (.inl (.inl h.sa)) _
  have hsetc : Keep (fun q => q = a) W6 (W6.setCell ⟨a, 0, none⟩ (.slice A' (t.n + 1) c')) := setE_keep W6 a 0 _
  have hrefb := own_block_lt href
  have hag : ∀ g, t.A = some g → g.block ≠ a ∧ g.block ≠ t.m := h.ag
  have hA'ne : ∀ p, A' = some p → p.block ≠ a ∧ p.block ≠ t.m := fun p hp => by
    rcases hAb p hp with ⟨e, _⟩ | ⟨e, _⟩
    · exact h.ag p e
    · exact ⟨by omega, by omega⟩
  refine ⟨fun b => F b ∨ (∃ p, A = some p ∧ b = p.block), fun b => b = a ∨ b = t.m ∨ ∃ g, A' = some g ∧ b = g.block, ⟨⟨A', t.n + 1, c', t.m, N', t.D ++ [⟨c, A, c.refs.length, k⟩]⟩, ?_, ?_, ?_, ?_, fun x hx => ?_, .inl rfl, .inr (.inl rfl), fun g hg => .inr (.inr ⟨g, hg, rfl⟩), h.am, fun g hg => hA'ne g hg, fun b hF hS => ?_, hi⟩, hKS, fun b e => ?_, fun b e => ?_, fun b e => ?_⟩
  · have h5 := h.row.keep (hK.block a halt (fun e => e.elim (fun e => hra e.symm) h.am))
    have h6 := h5.keep (hKg.block a (by omega) (fun ⟨g, hg, e⟩ => (h.ag g hg).1 e.symm))
    exact h6.set 0 (.slice A' (t.n + 1) c')
  · show World.ownsRow _ 0 _ 23 (.slice A' (t.n + 1) c') (t.n + 1) (crs (t.D ++ [⟨c, A, c.refs.length, k⟩]))
    have e : crs (t.D ++ [⟨c, A, c.refs.length, k⟩]) = crs t.D ++ ckCells c (.slice A c.refs.length k) := by unfold crs; rw [List.flatMap_append]; simp [CR.cells]
    rw [e]
    obtain ⟨g, cap, hv, _, hlt⟩ := ho.form (by omega)
    have hA' : A' = some ⟨g, 0, none⟩ := by injection hv
    have hga := (hA'ne _ hA').1
    rw [hA'] at ho ⊢
    exact own_kb ho fun _ => Below.heap_setCell _ _ _ _ hga
  · show List.map CR.c _ = _
    rw [List.map_append, h.d]; rfl
  · exact (hm.keep hKg (fun ⟨g, hg, e⟩ => (h.ag g hg).2 e.symm)).keep hsetc (fun e => h.am e.symm)
  · rcases List.mem_append.1 hx with hx | hx
    · exact ((h.ok x hx).keep hKS (fun b hF hS => hS.elim (h.fs b hF) (fun e => hrF (e ▸ hF)))).mono fun b e => .inl e
    · rw [List.mem_singleton] at hx; subst hx
      have hcap := own_cap href
      refine ⟨?_, rfl, hcap.1, hcap.2, fun p hp => .inr ⟨p, hp, rfl⟩⟩
      show Rd _ _ 2 A c.refs.length (rfs c.refs)
      exact Rd.of_own (own_keepS (own_keepS href hKg (fun g ⟨q, hq, e⟩ => by have := hAlt q hq; omega)) hsetc (fun g e => by omega))
  · rcases hF with hF | ⟨p, hp, rfl⟩
    · have hl := hb b (.inl hF)
      rcases hS with rfl | rfl | ⟨g, hg, rfl⟩
      · exact h.fs _ hF h.sa
      · exact h.fs _ hF h.sm
      · rcases hAb g hg with ⟨e, _⟩ | ⟨e, _⟩
        · exact h.fs _ hF (h.sg g e)
        · omega
    · have := hrefb p hp
      rcases hS with e | e | ⟨g, hg, e⟩
      · omega
      · omega
      · rcases hAb g hg with ⟨_, e2⟩ | ⟨e2, _⟩ <;> omega
  · rw [hs8]
    rcases e with (e | ⟨p, hp, e⟩) | (e | e | ⟨g, hg, e⟩)
    · have := hb b (.inl e); omega
    · have := hrefb p hp; omega
    · omega
    · omega
    · rcases hAb g hg with ⟨_, e2⟩ | ⟨_, e2⟩ <;> omega
  · rcases e with rfl | rfl | ⟨g, hg, rfl⟩
    · exact .inl h.sa
    · exact .inl h.sm
    · rcases hAb g hg with ⟨e, _⟩ | ⟨e, _⟩
      · exact .inl (h.sg g e)
      · exact .inr (by omega)
  · rcases e with e | ⟨p, hp, rfl⟩
    · exact .inl e
    · exact .inr (hrefb p hp).1
/-- the reference's table with one chunk more -/
theorem RAt.snoc {w W W6 : World} {F S : Nat → Prop} {a : Nat} {t : RM} {l : List Chk.Ck} (h : RAt w F S a t l) (hb : ∀ b, F b ∨ S b → b < w.heap.size) {rb k c' : Nat} {c : Chk.Ck} {A A' : Option Addr} (hrS : ¬ S rb) (hrF : ¬ F rb)
    (hK : Keep (fun q => q = rb) w W) (href : W.ownsRow w.heap.size 83 2 (.slice A c.refs.length k) c.refs.length (rfs c.refs))
    (ho : W6.ownsRow 0 45 23 (.slice A' (t.n + 1) c') (t.n + 1) (crs t.D ++ ckCells c (.slice A c.refs.length k)))
    (hg : W.grownBy W6 (Value.slice t.A t.n t.c).ownBlock) (hA : A' = t.A ∨ ∃ p, A' = some p ∧ p.block = W.heap.size) (hi : Chk.Inv (l ++ [c])) :
    ∃ F' S' : Nat → Prop, (∃ t', RAt (W6.setCell ⟨a, 0, none⟩ (.slice A' (t.n + 1) c')) F' S' a t' (l ++ [c])) ∧ Keep (fun q => S q ∨ q = rb) w (W6.setCell ⟨a, 0, none⟩ (.slice A' (t.n + 1) c')) ∧ (∀ b, F' b ∨ S' b → b < (W6.setCell ⟨a, 0, none⟩ (.slice A' (t.n + 1) c')).heap.size) ∧ (∀ b, S' b → S b ∨ w.heap.size ≤ b) ∧ (∀ b, F' b → F b ∨ w.heap.size ≤ b) := by
  have halt := h.row.lt
  have hsW := hK.size
  have hKg : Keep (fun q => ∃ g, t.A = some g ∧ q = g.block) W W6 := Keep.of_grown hg fun k e => ownB_any e
  have hs6 := hKg.size
  have hs8 : (W6.setCell ⟨a, 0, none⟩ (.slice A' (t.n + 1) c')).heap.size = W6.heap.size := by simp [World.setCell]
  have hAlt : ∀ g, t.A = some g → g.block < w.heap.size := fun g hg => hb _ (.inr (h.sg g hg))
  have hAb : ∀ p, A' = some p → (t.A = some p ∧ p.block < w.heap.size) ∨ (p.block = W.heap.size ∧ p.block < W6.heap.size) := fun p hp => by
    rcases hA with e | ⟨q, hq, hql⟩
    · exact .inl ⟨e.symm.trans hp, hAlt p (e.symm.trans hp)⟩
    · obtain rfl : p = q := Option.some.inj (hp.symm.trans hq)
      exact .inr ⟨hql, (own_block_lt ho p hp).2⟩
  have hra : rb ≠ a := fun e => hrS (e ▸ h.sa)
  have hKS : Keep (fun q => S q ∨ q = rb) w (W6.setCell ⟨a, 0, none⟩ (.slice A' (t.n + 1) c')) :=
    ((hK.mono fun b _ e => .inr e).trans (hKg.mono fun b _ e => by obtain ⟨g, hg, e⟩ := e; exact .inl (e ▸ h.sg g hg))).setCell (a := ⟨a, 0, none⟩) (.inl (.inl h.sa)) _
  have hsetc : Keep (fun q => q = a) W6 (W6.setCell ⟨a, 0, none⟩ (.slice A' (t.n + 1) c')) := setE_keep W6 a 0 _
  have hrefb := own_block_lt href
  have hA'ne : ∀ p, A' = some p → p.block ≠ a := fun p hp => by
    rcases hAb p hp with ⟨e, _⟩ | ⟨e, _⟩
    · exact h.ag p e
    · omega
  refine ⟨fun b => F b ∨ (∃ p, A = some p ∧ b = p.block), fun b => b = a ∨ ∃ g, A' = some g ∧ b = g.block, ⟨⟨A', t.n + 1, c', t.D ++ [⟨c, A, c.refs.length, k⟩]⟩, ?_, ?_, ?_, fun x hx => ?_, .inl rfl, fun g hg => .inr ⟨g, hg, rfl⟩, fun g hg => hA'ne g hg, fun b hF hS => ?_, hi⟩, hKS, fun b e => ?_, fun b e => ?_, fun b e => ?_⟩
  · have h5 := h.row.keep (hK.block a halt (fun e => hra e.symm))
    have h6 := h5.keep (hKg.block a (by omega) (fun ⟨g, hg, e⟩ => (h.ag g hg) e.symm))
    exact h6.set 0 (.slice A' (t.n + 1) c')
  · show World.ownsRow _ 0 _ 23 (.slice A' (t.n + 1) c') (t.n + 1) (crs (t.D ++ [⟨c, A, c.refs.length, k⟩]))
    have e : crs (t.D ++ [⟨c, A, c.refs.length, k⟩]) = crs t.D ++ ckCells c (.slice A c.refs.length k) := by unfold crs; rw [List.flatMap_append]; simp [CR.cells]
    rw [e]
    obtain ⟨g, cap, hv, _, hlt⟩ := ho.form (by omega)
    have hA' : A' = some ⟨g, 0, none⟩ := by injection hv
    have hga := hA'ne _ hA'
    rw [hA'] at ho ⊢
    exact own_kb ho fun _ => Below.heap_setCell _ _ _ _ hga
  · show List.map CR.c _ = _
    rw [List.map_append, h.d]; rfl
  · rcases List.mem_append.1 hx with hx | hx
    · exact ((h.ok x hx).keep hKS (fun b hF hS => hS.elim (h.fs b hF) (fun e => hrF (e ▸ hF)))).mono fun b e => .inl e
    · rw [List.mem_singleton] at hx; subst hx
      have hcap := own_cap href
      refine ⟨?_, rfl, hcap.1, hcap.2, fun p hp => .inr ⟨p, hp, rfl⟩⟩
      show Rd _ _ 2 A c.refs.length (rfs c.refs)
      exact Rd.of_own (own_keepS (own_keepS href hKg (fun g ⟨q, hq, e⟩ => by have := hAlt q hq; omega)) hsetc (fun g e => by omega))
  · rcases hF with hF | ⟨p, hp, rfl⟩
    · have hl := hb b (.inl hF)
      rcases hS with rfl | ⟨g, hg, rfl⟩
      · exact h.fs _ hF h.sa
      · rcases hAb g hg with ⟨e, _⟩ | ⟨e, _⟩
        · exact h.fs _ hF (h.sg g e)
        · omega
    · have := hrefb p hp
      rcases hS with e | ⟨g, hg, e⟩
      · omega
      · rcases hAb g hg with ⟨_, e2⟩ | ⟨e2, _⟩ <;> omega
  · rw [hs8]
    rcases e with (e | ⟨p, hp, e⟩) | (e | ⟨g, hg, e⟩)
    · have := hb b (.inl e); omega
    · have := hrefb p hp; omega
    · omega
    · rcases hAb g hg with ⟨_, e2⟩ | ⟨_, e2⟩ <;> omega
  · rcases e with rfl | ⟨g, hg, rfl⟩
    · exact .inl h.sa
    · rcases hAb g hg with ⟨e, _⟩ | ⟨e, _⟩
      · exact .inl (h.sg g e)
      · exact .inr (by omega)
  · rcases e with e | ⟨p, hp, rfl⟩
    · exact .inl e
    · exact .inr (hrefb p hp).1
end Go.Proofs.Ytcicfneekmbamaa
