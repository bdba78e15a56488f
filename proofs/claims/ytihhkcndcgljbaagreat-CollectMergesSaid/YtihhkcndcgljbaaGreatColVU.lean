/- Joined texts: ColV, ColU. Conditions: as each part says. -/
import Derived.Test.YtihhkcndcgljbaaGreatColS
import Derived.Test.YtihhkcndcgljbaaGreatCLawKit
import Derived.Test.YtihhkcndcgljbaaGreatStrLK
namespace Go.Proofs.YtihhkcndcgljbaaGreat
set_option linter.unusedVariables false
set_option linter.unusedSimpArgs false
/-! For CollectEnds: what a merge keeps, in plain data; the law's own rows beside a table. Conditions: as each theorem says. -/
section
open Go.RowKit
namespace Col
open Chk (Ck Inv)
/-- what is kept from merge to merge: so many rows, so many stripes, the loaded stripes fewer with each merge -/
structure EndS (code : Int) (many : Nat) (l : List Ck) (rs : List S.Str.Rw) (j : Nat) : Prop where
  len : rs.length ≤ 40 + j
  us : used rs ≤ 200 + j
  as_ : 0 ≤ code → ∀ r ∈ rs, r.code = code → S.Str.Asc 0 r.used
  nz : (nzl l (lss code rs)).length + j ≤ many
  mx : many ≤ 200
theorem used_snoc : ∀ (rs : List S.Str.Rw) (r : S.Str.Rw), used (rs ++ [r]) = used rs + r.used.length
  | [], r => by simp [used]
  | x :: rs, r => by rw [List.cons_append, used, used, used_snoc rs r]; omega
/-- the row that the law adds -/
def newR (code d : Int) : S.Str.Rw := ⟨code, d, [⟨0, 0, 0⟩]⟩
theorem lss_in {code : Int} {rs : List S.Str.Rw} {s : St} (h : s ∈ lss code rs) : 0 ≤ code ∧ code < 8 ∧ 0 ≤ s.1 ∧ s.1 < (rs.length : Int) := by
  unfold lss at h
  by_cases hc : 0 ≤ code ∧ code < 8
  · rw [if_pos hc] at h
    have := strs_row h
    exact ⟨hc.1, hc.2, by omega, by omega⟩
  · rw [if_neg hc] at h; cases h
theorem lss_new {code : Int} (hc : 0 ≤ code) (hc8 : code < 8) (rs : List S.Str.Rw) (d : Int) : lss code (rs ++ [newR code d]) = lss code rs ++ [((rs.length : Int), 0)] := by
  unfold lss
  rw [if_pos ⟨hc, hc8⟩, if_pos ⟨hc, hc8⟩, strs_snoc]
  simp [newR]
theorem nzl_mem {l : List Ck} {ss : List St} {i : Nat} {s : St} (h : (nzl l ss)[i]? = some s) : s ∈ ss := by
  have := List.mem_of_getElem? h
  unfold nzl at this
  exact (List.mem_filter.1 this).1
theorem nzl_nodup {l : List Ck} {ss : List St} (h : ss.Nodup) : (nzl l ss).Nodup := h.filter _
theorem EndS.nodup {code : Int} {many j : Nat} {l : List Ck} {rs : List S.Str.Rw} (h : EndS code many l rs j) : (lss code rs).Nodup := by
  unfold lss
  by_cases hc : 0 ≤ code ∧ code < 8
  · rw [if_pos hc]; exact strs_nodup (h.as_ hc.1)
  · rw [if_neg hc]; exact List.nodup_nil
/-- what Next finds -/
structure Two (code d : Int) (many : Nat) (l : List Ck) (rs : List S.Str.Rw) (j : Nat) (a b : St) : Prop where
  ne : a ≠ b
  a1 : a.1 < (rs.length : Int)
  b1 : b.1 < (rs.length : Int)
  c0 : 0 ≤ code
  c8 : code < 8
  d1 : 1 ≤ d
  d2 : d ≤ 32
  sum : cnt l a + cnt l b ≤ d
  jm : j + 2 ≤ many
theorem EndS.two {code d : Int} {many j : Nat} {l : List Ck} {rs : List S.Str.Rw} {a b : St} (h : EndS code many l rs j) (hn : nextF (lss code rs) l d = some (a, b)) : Two code d many l rs j a b := by
  obtain ⟨i, k, hik, ha, hb, h1, h2, h3⟩ := nextF_some hn
  have hma := lss_in (nzl_mem ha)
  have hmb := lss_in (nzl_mem hb)
  have h2l : 2 ≤ (nzl l (lss code rs)).length := by
    have e1 := (List.getElem?_eq_some_iff.1 ha).1
    have e2 := (List.getElem?_eq_some_iff.1 hb).1
    omega
  have := h.nz
  exact ⟨nodup_ne (nzl_nodup h.nodup) hik ha hb, hma.2.2.2, hmb.2.2.2, hma.1, hma.2.1, h1, h2, h3, by omega⟩
theorem cnt_nil {l : List Ck} {s : St} (h : Chk.live l s.1 s.2 = []) : cnt l s = 0 := by unfold cnt; rw [h]; rfl
theorem both_len (l : List Ck) (a b : St) : ((both l a b).length : Int) = cnt l a + cnt l b := by
  unfold both cnt; rw [List.length_append]; omega
theorem EndS.step {code d : Int} {many j : Nat} {l l' : List Ck} {rs : List S.Str.Rw} {a b : St} (h : EndS code many l rs j) (hn : nextF (lss code rs) l d = some (a, b)) (hI : Inv l)
    (hm : Mvd l ((rs.length : Int), 0) (both l a b) (both l a b).length l') : EndS code many l' (rs ++ [newR code d]) (j + 1) := by
  have ht := h.two hn
  obtain ⟨i, k, hik, ha, hb, h1, h2, h3⟩ := nextF_some hn
  have hat : a ≠ ((rs.length : Int), 0) := fun e => by have := ht.a1; rw [e] at this; exact absurd this (by simp)
  have hbt : b ≠ ((rs.length : Int), 0) := fun e => by have := ht.b1; rw [e] at this; exact absurd this (by simp)
  refine ⟨by rw [List.length_append]; have := h.len; simp; omega, by rw [used_snoc]; have := h.us; show used rs + 1 ≤ _; omega, fun hc r hr hrc => ?_, ?_, h.mx⟩
  · rcases List.mem_append.1 hr with hr | hr
    · exact h.as_ hc r hr hrc
    · simp only [List.mem_cons, List.not_mem_nil, or_false] at hr
      subst hr
      exact ⟨by show (0 : Int) ≤ 0; omega, trivial⟩
  · rw [lss_new ht.c0 ht.c8]
    have := merged_less (tg := ((rs.length : Int), 0)) hik ha hb (cnt_nil (hm.gone hat fun id hid => List.mem_append.2 (.inl hid))) (cnt_nil (hm.gone hbt fun id hid => List.mem_append.2 (.inr hid))) (fun s hs hsa hsb => by
      have hst : s ≠ ((rs.length : Int), 0) := fun e => by have := (lss_in hs).2.2.2; rw [e] at this; exact absurd this (by simp)
      unfold cnt
      rw [hm.same hst (both_not hI hsa hsb)])
    have h5 := h.nz
    omega
end Col
/-! memory -/
section
variable {w0 w w' : World} {a : Nat} {l : List Chk.Ck} {G : Nat → Prop}
/-- blocks of the law's own are written, others are made -/
theorem TabG.keepG (h : TabG w0 w a l G) {T : Nat → Prop} (hT : ∀ b, T b → G b ∧ w0.heap.size ≤ b) (hk : Keep T w w') : TabG w0 w' a l (fun b => G b ∨ (w.heap.size ≤ b ∧ b < w'.heap.size)) := by
  obtain ⟨F, S, ⟨t, ht⟩, h2, h3, h4⟩ := h
  refine ⟨F, S, ⟨t, ht.keep hk (fun b hS e => (h4 b (hT b e).1).2.1 hS) (fun b hF e => (h4 b (hT b e).1).2.2 hF)⟩, fun b e => ⟨(h2 b e).1, Nat.lt_of_lt_of_le (h2 b e).2 hk.size⟩, Below.then_keep h3 hk (fun k e => (hT k e).2) (Nat.le_refl _), fun b e => ?_⟩
  rcases e with e | ⟨e1, e2⟩
  · exact ⟨Nat.lt_of_lt_of_le (h4 b e).1 hk.size, (h4 b e).2⟩
  · exact ⟨e2, fun hS => by have := (h2 b (.inr hS)).2; omega, fun hF => by have := (h2 b (.inl hF)).2; omega⟩
theorem TabG.wider (h : TabG w0 w a l G) (hb : Below w.heap.size w w') : TabG w0 w' a l (fun b => G b ∨ (w.heap.size ≤ b ∧ b < w'.heap.size)) := h.keepG (T := fun _ => False) (fun _ e => e.elim) (Keep.of_below hb)
end
theorem Rd.keepA {w w' : World} {B size n : Nat} {A : Option Addr} {xs : List Value} (h : Rd w B size A n xs) (hk : 0 < n → ∀ p, A = some p → w'.heap[p.block]? = w.heap[p.block]?) : Rd w' B size A n xs :=
  ⟨h.1, fun hn => by
    obtain ⟨b, off, e, hb, hc⟩ := h.2 hn
    exact ⟨b, off, e, hb, fun j u hu => (World.cell?_of_block (a := ⟨b, off + j, none⟩) (show w'.heap[b]? = w.heap[b]? from hk hn ⟨b, off, none⟩ e)).trans (hc j u hu)⟩⟩
theorem Rd.keepB {w w' : World} {B B' size n : Nat} {A : Option Addr} {xs : List Value} (h : Rd w B size A n xs) (hk : 0 < n → ∀ p, A = some p → w'.heap[p.block]? = w.heap[p.block]?) (hB : 0 < n → ∀ p, A = some p → p.block < B') : Rd w' B' size A n xs :=
  ⟨h.1, fun hn => by
    obtain ⟨b, off, e, hb, hc⟩ := (h.keepA hk).2 hn
    exact ⟨b, off, e, hB hn ⟨b, off, none⟩ e, hc⟩⟩
/-- the law's rows: the slice is the law's own, the used stripes lie in old memory or in blocks of the law's own -/
structure AllAt (w0 : World) (G : Nat → Prop) (W : World) (A : Option Addr) (n c : Nat) (D : List S.RR) (rs : List S.Str.Rw) : Prop where
  own : W.ownsRow w0.heap.size 44 3 (.slice A n c) n (D.flatMap S.rwL)
  us : ∀ x ∈ D, x.Ok W W.heap.size
  rs : D.map S.RR.r = rs
  ga : ∀ p, A = some p → G p.block
  gu : ∀ x ∈ D, 0 < x.r.used.length → ∀ p, x.A = some p → p.block < w0.heap.size ∨ G p.block
  gn : ∀ x ∈ D, 0 < x.r.used.length → ∀ p, x.A = some p → ∀ q, A = some q → p.block ≠ q.block
section
variable {w0 W W' : World} {G G' : Nat → Prop} {A : Option Addr} {n c : Nat} {D : List S.RR} {rs : List S.Str.Rw}
theorem AllAt.rows (h : AllAt w0 G W A n c D rs) (hn : n ≤ 65536) : S.RowsAt W W.heap.size A n D rs := ⟨Rd.of_own h.own, h.rs, h.us, hn⟩
theorem AllAt.len (h : AllAt w0 G W A n c D rs) : rs.length = n := by
  have h1 : (D.flatMap S.rwL).length = D.length * 3 := flatMap_len fun x _ => S.rwL_len x
  have h2 := h.own.1
  rw [← h.rs, List.length_map]; omega
theorem AllAt.below (h : AllAt w0 G W A n c D rs) (hb : Below W.heap.size W W') : AllAt w0 G W' A n c D rs := ⟨own_below h.own hb, fun x hx => ((h.us x hx).below hb).more hb.size, h.rs, h.ga, h.gu, h.gn⟩
theorem AllAt.wide (h : AllAt w0 G W A n c D rs) (hG : ∀ b, G b → G' b) : AllAt w0 G' W A n c D rs := ⟨h.own, h.us, h.rs, fun p hp => hG _ (h.ga p hp), fun x hx h0 p hp => (h.gu x hx h0 p hp).imp id (hG _), h.gn⟩
/-- behind a call that leaves the law's blocks and old memory -/
theorem AllAt.same (h : AllAt w0 G W A n c D rs) (hs : SameG W W' G) (hl : ∀ b, G b → b < W'.heap.size) (hb : Below w0.heap.size w0 W) (hb' : Below w0.heap.size w0 W') : AllAt w0 G W' A n c D rs := by
  refine ⟨own_same h.own hs h.ga, fun x hx => ?_, h.rs, h.ga, h.gu, h.gn⟩
  have hx2 := h.us x hx
  refine ⟨hx2.rd.keepB (fun h0 p hp => ?_) (fun h0 p hp => ?_), hx2.le, hx2.mx⟩
  · rcases h.gu x hx h0 p hp with e | e
    · exact (hb'.block _ e).trans (hb.block _ e).symm
    · exact hs _ e
  · rcases h.gu x hx h0 p hp with e | e
    · exact Nat.lt_of_lt_of_le e hb'.size
    · exact hl _ e
theorem ok_block {W : World} {B : Nat} {x : S.RR} (h : x.Ok W B) (h0 : 0 < x.r.used.length) : ∀ p, x.A = some p → p.block < B := fun p hp => by
  obtain ⟨b, off, e, hb, _⟩ := h.rd.2 h0
  rw [hp] at e; cases e; exact hb
/-- one more row -/
theorem AllAt.push (h : AllAt w0 G W A n c D rs) (hk : Keep (fun b => ∃ p, A = some p ∧ b = p.block) W W') {A' : Option Addr} {c' : Nat} {x : S.RR} (own' : W'.ownsRow w0.heap.size 44 3 (.slice A' (n + 1) c') (n + 1) ((D ++ [x]).flatMap S.rwL)) (hx : x.Ok W' W'.heap.size)
    (hA' : ∀ p, A' = some p → (A = some p ∨ W.heap.size ≤ p.block)) (hxA : ∀ p, x.A = some p → W.heap.size ≤ p.block ∧ p.block < W'.heap.size ∧ ∀ q, A' = some q → p.block ≠ q.block) :
    AllAt w0 (fun b => G b ∨ (W.heap.size ≤ b ∧ b < W'.heap.size)) W' A' (n + 1) c' (D ++ [x]) (rs ++ [x.r]) := by
  refine ⟨own', fun y hy => ?_, by rw [List.map_append, h.rs]; rfl, fun p hp => ?_, fun y hy h0 p hp => ?_, fun y hy h0 p hp q hq => ?_⟩
  · rcases List.mem_append.1 hy with hy | hy
    · have hok := h.us y hy
      refine ⟨(hok.rd.more hk.size).keepA fun h0 p hp => hk.block _ (ok_block hok h0 p hp) fun ⟨q, hq, e⟩ => h.gn y hy h0 p hp q hq e, hok.le, hok.mx⟩
    · simp only [List.mem_cons, List.not_mem_nil, or_false] at hy
      subst hy; exact hx
  · have hlt := (own_block_lt own' p hp).2
    rcases hA' p hp with e | e
    · exact .inl (h.ga p e)
    · exact .inr ⟨e, hlt⟩
  · rcases List.mem_append.1 hy with hy | hy
    · exact (h.gu y hy h0 p hp).imp id .inl
    · simp only [List.mem_cons, List.not_mem_nil, or_false] at hy
      subst hy
      have := hxA p hp
      exact .inr (.inr ⟨this.1, this.2.1⟩)
  · rcases List.mem_append.1 hy with hy | hy
    · have hlt := ok_block (h.us y hy) h0 p hp
      rcases hA' q hq with e | e
      · exact h.gn y hy h0 p hp q e
      · omega
    · simp only [List.mem_cons, List.not_mem_nil, or_false] at hy
      subst hy
      exact (hxA p hp).2.2 q hq
end
end
/-! The law CollectBounds: its walk. Conditions: the rows and the script lie in memory. -/
section
open Go.RowKit
namespace Col
/-- the loads that count -/
def nzc (l : List Chk.Ck) (ss : List St) : List Int := (nzl l ss).map (cnt l)
theorem lss_len (c : Int) (rs : List S.Str.Rw) : (lss c rs).length ≤ used rs := by
  unfold lss
  by_cases h : 0 ≤ c ∧ c < 8
  · rw [if_pos h]; exact strs_len
  · rw [if_neg h]; simp
theorem used_mem : ∀ {rs : List S.Str.Rw} {r : S.Str.Rw}, r ∈ rs → r.used.length ≤ used rs
  | x :: rs, r, h => by
    rw [used]
    rcases List.mem_cons.1 h with rfl | h
    · omega
    · have := used_mem h; omega
end Col
end
end Go.Proofs.YtihhkcndcgljbaaGreat
