/- The reference's table of chunks in memory: a row of chunks, without a map. find, Own, Get, Ids. Conditions: the table is kept. -/
import Derived.Test.YtcicfneekmbamaaChkBF
namespace Go.Proofs.Ytcicfneekmbamaa
set_option linter.unusedVariables false
set_option linter.unusedSimpArgs false
open Go.RowKit
namespace Chk
/-- the index of an identifier, or -1 -/
def posI (l : List Ck) (id : Int) : Int := match pos (ids l) id with | some k => (k : Int) | none => -1
theorem pos_nth' {l : List Ck} (h : Inv l) {k : Nat} (hk : k < l.length) : pos (ids l) (nth l k).id = some k := by
  cases hp : pos (ids l) (nth l k).id with
  | none => exact absurd rfl (pos_none hp (nth l k).id (List.mem_of_getElem? (i := k) (by rw [List.getElem?_map, nth_get hk]; rfl)))
  | some j =>
    obtain ⟨hj, hid⟩ := pos_lt hp
    rw [h.idx (nth_get hj) (nth_get hk) hid]
theorem posI_hit {l : List Ck} (h : Inv l) {k : Nat} (hk : k < l.length) {id : Int} (hid : (nth l k).id = id) : posI l id = (k : Int) := by
  subst hid; unfold posI; rw [pos_nth' h hk]
theorem posI_miss {l : List Ck} {id : Int} (h : ∀ k, k < l.length → (nth l k).id ≠ id) : posI l id = -1 := by
  unfold posI
  cases hp : pos (ids l) id with
  | none => rfl
  | some j => exact absurd (pos_lt hp).2 (h j (pos_lt hp).1)
theorem posI_some {l : List Ck} {id : Int} {k : Nat} (h : pos (ids l) id = some k) : posI l id = (k : Int) := by unfold posI; rw [h]
theorem posI_none {l : List Ck} {id : Int} (h : pos (ids l) id = none) : posI l id = -1 := by unfold posI; rw [h]
end Chk
/-- where a table of the reference lies -/
structure RM where
  A : Option Addr
  n : Nat
  c : Nat
  D : List CR
structure RAt (w : World) (F S : Nat → Prop) (a : Nat) (t : RM) (l : List Chk.Ck) : Prop where
  row : IsRow w a 34 [.slice t.A t.n t.c]
  own : w.ownsRow 0 45 23 (.slice t.A t.n t.c) t.n (crs t.D)
  d : t.D.map CR.c = l
  ok : ∀ x ∈ t.D, CRok w F x
  sa : S a
  sg : ∀ g, t.A = some g → S g.block
  ag : ∀ g, t.A = some g → g.block ≠ a
  fs : ∀ b, F b → ¬ S b
  inv : Chk.Inv l
section
variable {w w' : World} {F S : Nat → Prop} {a : Nat} {t : RM} {l : List Chk.Ck}
theorem RAt.dl (h : RAt w F S a t l) : ∀ x ∈ t.D, x.cells.length = 23 := fun x hx => ckCells_len ((h.inv.ok x.c (by rw [← h.d]; exact List.mem_map_of_mem hx)).dg) _
theorem RAt.len (h : RAt w F S a t l) : l.length = t.n ∧ t.D.length = t.n := by
  have h1 := h.own.1
  have h2 : t.D.length = l.length := by rw [← h.d, List.length_map]
  have h3 : (crs t.D).length = t.D.length * 23 := flatMap_len h.dl
  omega
theorem RAt.max (h : RAt w F S a t l) : t.n ≤ 65536 := by
  have hl := h.len.1
  rcases Nat.eq_zero_or_pos t.n with h0 | h0
  · omega
  · have hk : t.n - 1 < l.length := by omega
    have h1 := h.inv.up.pos_ge (b := 0) (fun x hx => by obtain ⟨c, hc, rfl⟩ := List.mem_map.1 hx; have := (h.inv.ok c hc).id1; omega) (t.n - 1) (Chk.nth l (t.n - 1)).id (by rw [List.getElem?_map, Chk.nth_get hk]; rfl)
    have h2 := (h.inv.nth hk).id2
    omega
theorem RAt.cap (h : RAt w F S a t l) : t.n ≤ t.c ∧ t.c ≤ maxLen := own_cap h.own
theorem RAt.keep {T : Nat → Prop} (h : RAt w F S a t l) (hk : Keep T w w') (hs : ∀ b, S b → ¬ T b) (hf : ∀ b, F b → ¬ T b) : RAt w' F S a t l := by
  refine ⟨h.row.keep (hk.block a h.row.lt (hs a h.sa)), ?_, h.d, fun x hx => (h.ok x hx).keep hk hf, h.sa, h.sg, h.ag, h.fs, h.inv⟩
  refine ⟨h.own.1, ?_⟩
  rcases h.own.2 with h0 | ⟨g, cap, cur, hv, hg, hh, r⟩
  · exact .inl h0
  · have hA : t.A = some ⟨g, 0, none⟩ := by injection hv
    exact .inr ⟨g, cap, cur, hv, hg, (hk.block g (Array.getElem?_eq_some_iff.1 hh).1 (hs g (h.sg _ hA))).trans hh, r⟩
theorem RAt.below (h : RAt w F S a t l) (hb : Below w.heap.size w w') : RAt w' F S a t l :=
  h.keep (Keep.of_below (S := fun _ => False) hb) (fun _ _ e => e) (fun _ _ e => e)
theorem RAt.cell (h : RAt w F S a t l) : w.cell? ⟨a, 0, none⟩ = some (.slice t.A t.n t.c) := h.row.cell 0
/-- a chunk of the table -/
theorem RAt.at (h : RAt w F S a t l) {k : Nat} (hk : k < t.n) : ∃ g x, t.A = some ⟨g, 0, none⟩ ∧ g < w.heap.size ∧ t.D[k]? = some x ∧ Chk.nth l k = x.c ∧ CRok w F x ∧ Chk.CkOk x.c ∧ w.rangeAt g (k * 23) x.cells := by
  have hD : k < t.D.length := by rw [h.len.2]; exact hk
  obtain ⟨g, cap, hv, _, hlt⟩ := h.own.form (by omega)
  have hA : t.A = some ⟨g, 0, none⟩ := by injection hv
  have hl : l[k]? = some (t.D[k]).c := by rw [← h.d, List.getElem?_map, List.getElem?_eq_getElem hD]; rfl
  have hn : Chk.nth l k = (t.D[k]).c := by unfold Chk.nth; rw [List.getD_eq_getElem?_getD, hl]; rfl
  refine ⟨g, t.D[k], hA, hlt, List.getElem?_eq_getElem hD, hn, h.ok _ (List.getElem_mem hD), h.inv.ok _ (List.mem_of_getElem? hl), fun j v hv2 => ?_⟩
  obtain ⟨b, off, e, _, hr⟩ := (Rd.of_own h.own).elem (f := CR.cells) h.dl hD hk
  have e2 := e.symm.trans hA
  have e3 := Option.some.inj e2
  have hb : b = g := congrArg Addr.block e3
  have ho : off = 0 := congrArg Addr.off e3
  subst hb ho
  have := hr j v hv2
  rwa [Nat.zero_add] at this
end
/-- the cells of a chunk in a table -/
theorem ck_cells {w : World} {g o : Nat} {x : CR} (hd : x.c.dg.length = 16) (h : w.rangeAt g o x.cells) :
    w.cell? ⟨g, o, none⟩ = some (.int .i64 x.c.id) ∧ w.cell? ⟨g, o + 17, none⟩ = some (.int .u32 x.c.pr) ∧ w.cell? ⟨g, o + 18, none⟩ = some (.int .i64 x.c.at_.r) ∧ w.cell? ⟨g, o + 19, none⟩ = some (.int .i64 x.c.at_.g) ∧ w.cell? ⟨g, o + 20, none⟩ = some (.int .i64 x.c.at_.u) ∧ w.cell? ⟨g, o + 21, none⟩ = some (.bool x.c.lost) ∧ w.cell? ⟨g, o + 22, none⟩ = some (.slice x.A x.n x.k) := by
  obtain ⟨h0, h1, h2, h3, h4, h5, h6⟩ := ckCells_at x.c (.slice x.A x.n x.k) hd
  exact ⟨h 0 _ h0, h 17 _ h1, h 18 _ h2, h 19 _ h3, h 20 _ h4, h 21 _ h5, h 22 _ h6⟩
set_option maxHeartbeats 1600000 in
theorem rfind_any {w : World} {F S : Nat → Prop} {a : Nat} {t : RM} {l : List Chk.Ck} (h : RAt w F S a t l) (id v : Int) (hv : Chk.posI l id = v) :
    Calls Try.prog 50 #[.pointer (some ⟨a, 0, none⟩), .int .i64 id] w fun e w' => e = .returned (.int .i64 v) ∧ w' = w := by
  have H := Lib.hid h
  have HL := Lib.hid h.len.1
  have hmx := h.max
  have HV := Lib.hid hv
  have c0 := h.cell
  clear hv h
  go_enter Try.func50, Try.ntmps50
  go_upto_region 2 with fail
  go_loop [5] (fun u5 => ∃ j : Nat, j ≤ t.n ∧ u5 = .int .i64 (j : Int) ∧ Hid (∀ i, i < j → (Chk.nth l i).id ≠ id)) (fun u5 => t.n - (intOf u5).toNat)
  case atStart => exact ⟨0, Nat.zero_le _, rfl, Lib.hid fun i hi => absurd hi (Nat.not_lt_zero i)⟩
  case round =>
    obtain ⟨j, hj, rfl, HI⟩ := hrel
    by_cases hlt : j < t.n
    · obtain ⟨g, x, hA, hg, hx, hn, hok, hck, hrg⟩ := H.out.at hlt
      have k0 := (ck_cells hck.dg hrg).1
      have hnid : (Chk.nth l j).id = x.c.id := by rw [hn]
      rw [hA] at c0
      have e1 : (0 : Int) ≤ (j : Int) := by omega
      have e2 : (j : Int) < (t.n : Int) := by omega
      obtain ⟨xi, hxi⟩ : ∃ y, x.c.id = y := ⟨_, rfl⟩
      rw [hxi] at k0 hnid
      have HN := Lib.hid hnid
      clear hx hn hok hck hrg hg hA hxi hnid
      by_cases hid : xi = id
      · subst hid
        go_wp2
        go_ret
        exact ⟨by rw [← HV.out, Chk.posI_hit H.out.inv (by rw [HL.out]; exact hlt) HN.out]; rfl, rfl⟩
      · have hb : (xi == id) = false := beq_eq_false_iff_ne.2 hid
        have HI2 : Hid (∀ i, i < j + 1 → (Chk.nth l i).id ≠ id) := Lib.hid fun i hi => by
          rcases Nat.lt_or_ge i j with e | e
          · exact HI.out i e
          · obtain rfl : i = j := by omega
            rw [HN.out]; exact hid
        clear hid
        go_wp2
        go_round
        case rel => exact ⟨j + 1, by omega, by go_num, HI2⟩
        case measure => simp [intOf]; omega
    · obtain rfl : j = t.n := by omega
      go_wp2
      go_ret
      exact ⟨by rw [← HV.out, Chk.posI_miss (fun i hi => HI.out i (by rw [← HL.out]; exact hi))]; rfl, rfl⟩
end Go.Proofs.Ytcicfneekmbamaa
