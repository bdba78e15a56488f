/- Joined texts: ChkO, ChkO2, ChkO4, ChkS, ChkS2, ChkS3, ChkS4, ChkS5, ChkS6. Conditions: as each part says. -/
import Derived.Test.YtfllkaeaanahmaaGreatChkIns
namespace Go.Proofs.YtfllkaeaanahmaaGreat
set_option linter.unusedVariables false
set_option linter.unusedSimpArgs false
section
open Go.RowKit
theorem TAt.placed {w W : World} {F S : Nat → Prop} {a : Nat} {t : TM} {l : List Chk.Ck} (h : TAt w F S a t l) {g k N' : Nat} {x : CR} {c' : Chk.Ck} (hA : t.A = some ⟨g, 0, none⟩) (hx : t.D[k]? = some x) (hr : c'.refs = x.c.refs)
  (hK : Keep (fun b => b = t.m ∨ b = g) w W) (ho : W.ownsRow 0 68 23 (.slice (some ⟨g, 0, none⟩) t.n t.c) t.n (crs (t.D.set k { x with c := c' }))) (hm : MapIs W t.m unV (unM (l.set k c')) N') (hi : Chk.Inv (l.set k c')) :
  TAt W F S a { t with N := N', D := t.D.set k { x with c := c' } } (l.set k c') := by
 have hag := h.ag _ hA
 have hgS := h.sg _ hA
 have hFd : ∀ b, F b → ¬ (b = t.m ∨ b = g) := fun b hb e => by
  rcases e with rfl | rfl
  ·
   exact h.fs _ hb h.sm
  ·
   exact h.fs _ hb hgS
 refine ⟨h.row.keep (hK.block a h.row.lt (fun e => by rcases e with e | e; exact h.am e; exact hag.1 e.symm)), by rw [hA]; exact ho, ?_, hm, fun z hz => ?_, h.sa, h.sm, h.sg, h.am, h.ag, h.fs, hi⟩
 ·
  show (t.D.set k { x with c := c' }).map CR.c = _
  rw [List.map_set, h.d]
 ·
  rcases List.mem_or_eq_of_mem_set hz with hz | rfl
  ·
   exact (h.ok z hz).keep hK hFd
  ·
   have hq := (h.ok x (List.mem_of_getElem? hx)).keep hK hFd
   exact ⟨by rw [hr]; exact hq.rd, by rw [hr]; exact hq.n, hq.k, hq.km, hq.f⟩
set_option maxRecDepth 100000 in
set_option maxHeartbeats 1600000 in
theorem lose_none {w : World} {F S : Nat → Prop} {a : Nat} {t : TM} {l : List Chk.Ck} (h : TAt w F S a t l) (id : Int) (hp : Chk.pos (Chk.ids l) id = none) :
  Calls Tryz.prog 34 #[.pointer (some ⟨a, 0, none⟩), .int .i64 id] w fun e w' => e = .returned (.int .i64 12) ∧ Below w.heap.size w w' := by
 have HF := Lib.hid (find_none h id hp)
 clear h hp
 go_enter Tryz.func34, Tryz.ntmps34
 go_wp2_with (go_at_call 73; refine HF.out.mono ?_; rintro e w1 ⟨rfl, b1⟩)
 go_ret
 exact ⟨rfl, b1⟩
end
section
open Go.RowKit
theorem TAt.lost {w v : World} {F S : Nat → Prop} {a : Nat} {t : TM} {l : List Chk.Ck} (h : TAt w F S a t l) {id : Int} {g k N' : Nat} {x : CR} {M : Chk.Un → Option Value} (hp : Chk.pos (Chk.ids l) id = some k) (hA : t.A = some ⟨g, 0, none⟩) (hx : t.D[k]? = some x)
  (hK : Keep (fun b => b = t.m) w v) (hm : MapIs v t.m unV M N') (hM : ∀ y, M y = if x.c.lost = false ∧ y = x.c.at_ then none else unM l y) :
  ∃ t', TAt ((((v.setCell ⟨g, k * 23 + 18, none⟩ (.int .i64 0)).setCell ⟨g, k * 23 + 19, none⟩ (.int .i64 0)).setCell ⟨g, k * 23 + 20, none⟩ (.int .i64 0)).setCell ⟨g, k * 23 + 21, none⟩ (.bool true)) F S a t' (Chk.lose l id).1
   ∧ Keep S w ((((v.setCell ⟨g, k * 23 + 18, none⟩ (.int .i64 0)).setCell ⟨g, k * 23 + 19, none⟩ (.int .i64 0)).setCell ⟨g, k * 23 + 20, none⟩ (.int .i64 0)).setCell ⟨g, k * 23 + 21, none⟩ (.bool true)) := by
 have hkl := (Chk.pos_lt hp).1
 have hgS := h.sg _ hA
 have hag := h.ag _ hA
 have hgm : t.m ≠ g := fun e => hag.2 e.symm
 have hlx : l[k]? = some x.c := by rw [← h.d, List.getElem?_map, hx]; rfl
 have hnx : Chk.nth l k = x.c := by have := Chk.nth_get hkl; rw [hlx] at this; exact (Option.some.inj this).symm
 have hok := h.inv.ok x.c (List.mem_of_getElem? hlx)
 have hl : (Chk.lose l id).1 = l.set k { x.c with at_ := Chk.z, lost := true } := by
  unfold Chk.lose
  rw [hp, ← hnx]
 have hi := h.inv.lose id
 rw [hl] at hi ⊢
 have hv : v.ownsRow 0 68 23 (.slice (some ⟨g, 0, none⟩) t.n t.c) t.n (crs t.D) := by
  have := h.own
  rw [hA] at this
  refine ⟨this.1, ?_⟩
  rcases this.2 with h0 | ⟨g', cap, cur, hv, hg, hh, r⟩
  ·
   exact .inl h0
  ·
   have e : g = g' := by injection hv with e _ _; injection e with e; injection e
   subst e
   exact .inr ⟨g, cap, cur, hv, hg, (hK.block g (Array.getElem?_eq_some_iff.1 hh).1 hag.2).trans hh, r⟩
 have ho := own_place hv h.dl hx hok.dg Chk.z true
 have hK1 : ∀ T : Nat → Prop, (∀ b, b = t.m ∨ b = g → T b) → Keep T w ((((v.setCell ⟨g, k * 23 + 18, none⟩ (.int .i64 0)).setCell ⟨g, k * 23 + 19, none⟩ (.int .i64 0)).setCell ⟨g, k * 23 + 20, none⟩ (.int .i64 0)).setCell ⟨g, k * 23 + 21, none⟩ (.bool true)) := fun T hT =>
  ((((hK.mono (fun b _ e => hT b (.inl e))).setCell (.inl (hT g (.inr rfl))) _).setCell (.inl (hT g (.inr rfl))) _).setCell (.inl (hT g (.inr rfl))) _).setCell (.inl (hT g (.inr rfl))) _
 refine ⟨_, h.placed (N' := N') hA hx (c' := { x.c with at_ := Chk.z, lost := true }) rfl (hK1 _ (fun b e => e)) ho ?_ hi, hK1 _ (fun b e => by rcases e with rfl | rfl; exact h.sm; exact hgS)⟩
 refine ((((hm.setCell hgm _).setCell hgm _).setCell hgm _).setCell hgm _).congr (fun y => ?_)
 rw [hM]
 have hu := congrFun (Chk.unitAt_lose h.inv hkl hi rfl) y
 unfold unM
 rw [hu, hnx]
 unfold Chk.leave
 split <;> rfl
set_option maxRecDepth 100000 in
set_option maxHeartbeats 1600000 in
theorem lose_some1 {w : World} {F S : Nat → Prop} {a : Nat} {t : TM} {l : List Chk.Ck} (h : TAt w F S a t l) (id : Int) (k : Nat) (hp : Chk.pos (Chk.ids l) id = some k) (hlo : (Chk.nth l k).lost = true) :
  Calls Tryz.prog 34 #[.pointer (some ⟨a, 0, none⟩), .int .i64 id] w fun e w' => e = .returned (.int .i64 0) ∧ ∃ t', TAt w' F S a t' (Chk.lose l id).1 ∧ Keep S w w' := by
 have hkl := (Chk.pos_lt hp).1
 have hkn : k < t.n := by rw [← h.len.1]; exact hkl
 obtain ⟨g, x, hA, hg, hx, hlx, hxm, hrg⟩ := h.at hkn
 have hnx : Chk.nth l k = x.c := by have := Chk.nth_get hkl; rw [hlx] at this; exact (Option.some.inj this).symm
 have hok := h.inv.ok x.c (List.mem_of_getElem? hlx)
 have hat := ckCells_at x.c (.slice x.A x.n x.k) hok.dg
 rw [hnx] at hlo
 rw [hlo] at hat
 have HF := Lib.hid (find_some h id k hp g hA)
 have HC := Lib.hid (And.intro (hrg 18 _ hat.2.2.1) (And.intro (hrg 19 _ hat.2.2.2.1) (And.intro (hrg 20 _ hat.2.2.2.2.1) (hrg 21 _ hat.2.2.2.2.2.1))))
 have HE := Lib.hid (fun (W : World) (hW : Below w.heap.size w W) => (h.below hW).lost (M := unM l) (v := W) hp hA hx (Keep.refl _ _) (h.below hW).map (fun y => by rw [hlo]; simp))
 have HG := Lib.hid hg
 have HFZ := Lib.hid (fun (W : World) (hW : Below w.heap.size w W) (j : Nat) => show W.frozen? ⟨g, j, none⟩ = false from by
  have ho := (h.below hW).own
  rw [hA] at ho
  exact ho.frozenAt j)
 clear hp hkl hkn hlx hxm hrg hnx hok hat hlo hA hx hg h
 go_enter Tryz.func34, Tryz.ntmps34
 go_upto_region 4 with (go_at_call 73; refine HF.out.mono ?_; rintro e w1 ⟨rfl, b1⟩)
 have k18 := (b1.cell (p := ⟨g, k * 23 + 18, none⟩) HG.out).trans HC.out.1
 have k19 := (b1.cell (p := ⟨g, k * 23 + 19, none⟩) HG.out).trans HC.out.2.1
 have k20 := (b1.cell (p := ⟨g, k * 23 + 20, none⟩) HG.out).trans HC.out.2.2.1
 have k21 := (b1.cell (p := ⟨g, k * 23 + 21, none⟩) HG.out).trans HC.out.2.2.2
 have f18 := HFZ.out w1 b1 (k * 23 + 18)
 have f19 := HFZ.out w1 b1 (k * 23 + 19)
 have f20 := HFZ.out w1 b1 (k * 23 + 20)
 have f21 := HFZ.out w1 b1 (k * 23 + 21)
 have HLV := Lib.hid (leave_no a g (k * 23) w1 k21)
 go_wp2_with (go_at_call 70; refine HLV.out.mono ?_; rintro e w2 ⟨rfl, rfl⟩)
 go_ret
 obtain ⟨t', h1, h2⟩ := HE.out w2 b1
 refine ⟨rfl, t', ?_, ?_⟩
 ·
  simpa only [Nat.add_assoc] using h1
 ·
  simpa only [Nat.add_assoc] using (Keep.of_below (S := S) b1).trans h2
end
section
open Go.RowKit
set_option maxRecDepth 100000 in
set_option maxHeartbeats 1600000 in
theorem lose_some2 {w : World} {F S : Nat → Prop} {a : Nat} {t : TM} {l : List Chk.Ck} (h : TAt w F S a t l) (id : Int) (k : Nat) (hp : Chk.pos (Chk.ids l) id = some k) (hlo : (Chk.nth l k).lost = false) :
  Calls Tryz.prog 34 #[.pointer (some ⟨a, 0, none⟩), .int .i64 id] w fun e w' => e = .returned (.int .i64 0) ∧ ∃ t', TAt w' F S a t' (Chk.lose l id).1 ∧ Keep S w w' := by
 have hkl := (Chk.pos_lt hp).1
 have hkn : k < t.n := by rw [← h.len.1]; exact hkl
 obtain ⟨g, x, hA, hg, hx, hlx, hxm, hrg⟩ := h.at hkn
 have hnx : Chk.nth l k = x.c := by have := Chk.nth_get hkl; rw [hlx] at this; exact (Option.some.inj this).symm
 have hok := h.inv.ok x.c (List.mem_of_getElem? hlx)
 have hat := ckCells_at x.c (.slice x.A x.n x.k) hok.dg
 rw [hnx] at hlo
 rw [hlo] at hat
 have HF := Lib.hid (find_some h id k hp g hA)
 have HC := Lib.hid (And.intro (hrg 18 _ hat.2.2.1) (And.intro (hrg 19 _ hat.2.2.2.1) (And.intro (hrg 20 _ hat.2.2.2.2.1) (hrg 21 _ hat.2.2.2.2.2.1))))
 have HE := Lib.hid (fun (W V : World) (N' : Nat) (hW : Below w.heap.size w W) (hK : Keep (fun b => b = t.m) W V) (hm : MapIs V t.m unV (fun y => if y = x.c.at_ then none else unM l y) N') => (h.below hW).lost (v := V) hp hA hx hK hm (fun y => by rw [hlo]; simp))
 have HM := Lib.hid (fun (W : World) (hW : Below w.heap.size w W) => And.intro (h.below hW).cells.2 (And.intro (h.below hW).row.lt (And.intro (h.below hW).map (Nat.lt_of_lt_of_le hg hW.size))))
 have hag := h.ag _ hA
 have HFV := Lib.hid (fun (W V : World) (hW : Below w.heap.size w W) (hK : Keep (fun b => b = t.m) W V) (j : Nat) => show V.frozen? ⟨g, j, none⟩ = false from by
  have ho := (h.below hW).own
  rw [hA] at ho
  have hb := hK.block g (Nat.lt_of_lt_of_le hg hW.size) hag.2
  have := ho.frozenAt j
  unfold World.frozen? at this ⊢
  rwa [hb])
 have HCV := Lib.hid (fun (W V : World) (hW : Below w.heap.size w W) (hK : Keep (fun b => b = t.m) W V) (j : Nat) => show V.cell? ⟨g, j, none⟩ = W.cell? ⟨g, j, none⟩ from hK.cell (Nat.lt_of_lt_of_le hg hW.size) hag.2)
 have HG := Lib.hid hg
 have HFZ := Lib.hid (fun (W : World) (hW : Below w.heap.size w W) (j : Nat) => show W.frozen? ⟨g, j, none⟩ = false from by
  have ho := (h.below hW).own
  rw [hA] at ho
  exact ho.frozenAt j)
 clear hp hkl hkn hlx hxm hrg hnx hok hat hlo hA hx hg h hag
 go_enter Tryz.func34, Tryz.ntmps34
 go_upto_region 4 with (go_at_call 73; refine HF.out.mono ?_; rintro e w1 ⟨rfl, b1⟩)
 have k18 := (b1.cell (p := ⟨g, k * 23 + 18, none⟩) HG.out).trans HC.out.1
 have k19 := (b1.cell (p := ⟨g, k * 23 + 19, none⟩) HG.out).trans HC.out.2.1
 have k20 := (b1.cell (p := ⟨g, k * 23 + 20, none⟩) HG.out).trans HC.out.2.2.1
 have k21 := (b1.cell (p := ⟨g, k * 23 + 21, none⟩) HG.out).trans HC.out.2.2.2
 have hmm := HM.out w1 b1
 have HLV := Lib.hid (leave_yes a g (k * 23) t.m t.N x.c.at_ (unM l) w1 k21 hmm.1 k18 k19 k20 hmm.2.1 hmm.2.2.2 hmm.2.2.1)
 have hk := Lib.hid (And.intro k18 (And.intro k19 (And.intro k20 k21)))
 clear hmm k18 k19 k20 k21
 go_upto_region 5 with (go_at_call 70; refine HLV.out.mono ?_; rintro e w2 ⟨rfl, N2, hm2, hk2⟩)
 have f18 := HFV.out w1 w2 b1 hk2 (k * 23 + 18)
 have f19 := HFV.out w1 w2 b1 hk2 (k * 23 + 19)
 have f20 := HFV.out w1 w2 b1 hk2 (k * 23 + 20)
 have f21 := HFV.out w1 w2 b1 hk2 (k * 23 + 21)
 have k18 := (HCV.out w1 w2 b1 hk2 (k * 23 + 18)).trans hk.out.1
 have k19 := (HCV.out w1 w2 b1 hk2 (k * 23 + 19)).trans hk.out.2.1
 have k20 := (HCV.out w1 w2 b1 hk2 (k * 23 + 20)).trans hk.out.2.2.1
 have k21 := (HCV.out w1 w2 b1 hk2 (k * 23 + 21)).trans hk.out.2.2.2
 have HE2 := Lib.hid (HE.out w1 w2 N2 b1 hk2 hm2)
 clear hm2 hk2
 go_wp2
 go_ret
 obtain ⟨t', h1, h2⟩ := HE2.out
 refine ⟨rfl, t', ?_, ?_⟩
 ·
  simpa only [Nat.add_assoc] using h1
 ·
  simpa only [Nat.add_assoc] using (Keep.of_below (S := S) b1).trans h2
theorem lose_any {w : World} {F S : Nat → Prop} {a : Nat} {t : TM} {l : List Chk.Ck} (h : TAt w F S a t l) (id : Int) :
  Calls Tryz.prog 34 #[.pointer (some ⟨a, 0, none⟩), .int .i64 id] w fun e w' => e = .returned (.int .i64 (Chk.lose l id).2.2) ∧ ∃ t', TAt w' F S a t' (Chk.lose l id).1 ∧ Keep S w w' := by
 cases hp : Chk.pos (Chk.ids l) id with
 | none =>
  have e : Chk.lose l id = (l, 0, 12) := by unfold Chk.lose; rw [hp]
  rw [e]
  exact (lose_none h id hp).mono (by rintro e w1 ⟨rfl, b⟩; exact ⟨rfl, t, h.below b, Keep.of_below b⟩)
 | some k =>
  have e : (Chk.lose l id).2.2 = 0 := by unfold Chk.lose; rw [hp]
  rw [e]
  cases hlo : (Chk.nth l k).lost with
  | true => exact lose_some1 h id k hp hlo
  | false => exact lose_some2 h id k hp hlo
end
section
open Go.RowKit
set_option maxRecDepth 100000 in
set_option maxHeartbeats 1600000 in
theorem move_none {w : World} {F S : Nat → Prop} {a : Nat} {t : TM} {l : List Chk.Ck} (h : TAt w F S a t l) (id : Int) (u : Chk.Un) (hp : Chk.pos (Chk.ids l) id = none) :
  Calls Tryz.prog 33 #[.pointer (some ⟨a, 0, none⟩), .int .i64 id, unV u] w fun e w' => e = .returned (.int .i64 12) ∧ Below w.heap.size w w' := by
 obtain ⟨v, hv⟩ : ∃ v, (Chk.unitAt l u).getD 0 = v := ⟨_, rfl⟩
 obtain ⟨s, hs⟩ : ∃ v, (Chk.unitAt l u).isSome = v := ⟨_, rfl⟩
 obtain ⟨m, hm⟩ : ∃ m, t.m = m := ⟨_, rfl⟩
 have HK := Lib.hid (fun W hW => h.look u W hW)
 rw [hv, hs, hm] at HK
 obtain ⟨r, g, n⟩ := u
 unfold unV at *
 obtain ⟨w0, hw0⟩ : ∃ z, w.alloc (.cells #[.int .i64 r, .int .i64 g, .int .i64 n] 65) = z := ⟨_, rfl⟩
 have hb0 : Below w.heap.size w w0 := by rw [← hw0]; exact (Below.refl _ w).alloc (Nat.le_refl _) _
 have hz : w.heap.size < w0.heap.size := by rw [← hw0]; simp
 have hbx : w0.cell? ⟨w.heap.size, 0, none⟩ = some (.int .i64 r) ∧ w0.cell? ⟨w.heap.size, 1, none⟩ = some (.int .i64 g) ∧ w0.cell? ⟨w.heap.size, 2, none⟩ = some (.int .i64 n) := by
  rw [← hw0]; refine ⟨?_, ?_, ?_⟩ <;> simp
 have HF := Lib.hid (find_none (h.below hb0) id hp)
 have c1 := h.cells.2
 rw [hm] at c1
 have HA := Lib.hid (And.intro c1 (And.intro h.row.lt (And.intro hb0 (And.intro hz hbx))))
 have HW0 := Lib.hid hw0
 clear hv hs hm h hp c1 hb0 hz hbx hw0
 go_enter Tryz.func33, Tryz.ntmps33
 go_upto_region 2 with (rw [HW0.out]; go_at_call 73; refine HF.out.mono ?_; rintro e w1 ⟨rfl, b1⟩)
 have hB : Below w.heap.size w w1 := HA.out.2.2.1.trans (b1.mono (Nat.le_of_lt HA.out.2.2.2.1))
 have hcc := (hB.cell (p := ⟨a, 1, none⟩) HA.out.2.1).trans HA.out.1
 have e0 := (b1.cell (p := ⟨w.heap.size, 0, none⟩) HA.out.2.2.2.1).trans HA.out.2.2.2.2.1
 have e1 := (b1.cell (p := ⟨w.heap.size, 1, none⟩) HA.out.2.2.2.1).trans HA.out.2.2.2.2.2.1
 have e2 := (b1.cell (p := ⟨w.heap.size, 2, none⟩) HA.out.2.2.2.1).trans HA.out.2.2.2.2.2.2
 have hk := fun n => HK.out _ (below_drewN hB n)
 have HB := Lib.hid hB
 clear hB b1
 go_quiet (fail)
 go_wp2_with fail
 go_ret
 exact ⟨rfl, below_drewN HB.out _⟩
end
section
open Go.RowKit
set_option maxRecDepth 100000 in
set_option maxHeartbeats 1600000 in
theorem move_bad {w : World} {F S : Nat → Prop} {a : Nat} {t : TM} {l : List Chk.Ck} (h : TAt w F S a t l) (id : Int) (u : Chk.Un) (k : Nat) (hp : Chk.pos (Chk.ids l) id = some k) (hu : ¬ Chk.valid u) :
  Calls Tryz.prog 33 #[.pointer (some ⟨a, 0, none⟩), .int .i64 id, unV u] w fun e w' => e = .returned (.int .i64 1) ∧ Below w.heap.size w w' := by
 obtain ⟨v, hv⟩ : ∃ v, (Chk.unitAt l u).getD 0 = v := ⟨_, rfl⟩
 obtain ⟨s, hs⟩ : ∃ v, (Chk.unitAt l u).isSome = v := ⟨_, rfl⟩
 obtain ⟨m, hm⟩ : ∃ m, t.m = m := ⟨_, rfl⟩
 have HK := Lib.hid (fun W hW => h.look u W hW)
 rw [hv, hs, hm] at HK
 have HV := Lib.hid (fun W => valid_any u W false (by simpa using hu))
 obtain ⟨r, g, n⟩ := u
 unfold unV at *
 obtain ⟨w0, hw0⟩ : ∃ z, w.alloc (.cells #[.int .i64 r, .int .i64 g, .int .i64 n] 65) = z := ⟨_, rfl⟩
 have hb0 : Below w.heap.size w w0 := by rw [← hw0]; exact (Below.refl _ w).alloc (Nat.le_refl _) _
 have hz : w.heap.size < w0.heap.size := by rw [← hw0]; simp
 have hbx : w0.cell? ⟨w.heap.size, 0, none⟩ = some (.int .i64 r) ∧ w0.cell? ⟨w.heap.size, 1, none⟩ = some (.int .i64 g) ∧ w0.cell? ⟨w.heap.size, 2, none⟩ = some (.int .i64 n) := by
  rw [← hw0]; refine ⟨?_, ?_, ?_⟩ <;> simp
 have hkn : k < t.n := by rw [← h.len.1]; exact (Chk.pos_lt hp).1
 obtain ⟨gc, x, hA, _⟩ := h.at hkn
 have HF := Lib.hid (find_some (h.below hb0) id k hp gc hA)
 have c1 := h.cells.2
 rw [hm] at c1
 have HA := Lib.hid (And.intro c1 (And.intro h.row.lt (And.intro hb0 (And.intro hz hbx))))
 have HW0 := Lib.hid hw0
 clear hkn hA hu hv hs hm h hp c1 hb0 hz hbx hw0
 go_enter Tryz.func33, Tryz.ntmps33
 go_upto_region 2 with (rw [HW0.out]; go_at_call 73; refine HF.out.mono ?_; rintro e w1 ⟨rfl, b1⟩)
 have hB : Below w.heap.size w w1 := HA.out.2.2.1.trans (b1.mono (Nat.le_of_lt HA.out.2.2.2.1))
 have hcc := (hB.cell (p := ⟨a, 1, none⟩) HA.out.2.1).trans HA.out.1
 have e0 := (b1.cell (p := ⟨w.heap.size, 0, none⟩) HA.out.2.2.2.1).trans HA.out.2.2.2.2.1
 have e1 := (b1.cell (p := ⟨w.heap.size, 1, none⟩) HA.out.2.2.2.1).trans HA.out.2.2.2.2.2.1
 have e2 := (b1.cell (p := ⟨w.heap.size, 2, none⟩) HA.out.2.2.2.1).trans HA.out.2.2.2.2.2.2
 have hk := fun n => HK.out _ (below_drewN hB n)
 have HB := Lib.hid hB
 clear hB b1
 go_quiet (fail)
 go_wp2_with (go_at_call 61; refine (HV.out _).mono ?_; rintro e w3 ⟨rfl, b3⟩)
 go_ret
 exact ⟨rfl, (below_drewN HB.out _).trans (b3.mono (by first | exact HB.out.size | exact (below_drewN HB.out _).size))⟩
end
section
open Go.RowKit
set_option maxRecDepth 100000 in
set_option maxHeartbeats 1600000 in
theorem move_taken {w : World} {F S : Nat → Prop} {a : Nat} {t : TM} {l : List Chk.Ck} (h : TAt w F S a t l) (id : Int) (u : Chk.Un) (k : Nat) (hp : Chk.pos (Chk.ids l) id = some k) (hu : Chk.valid u) (o : Int) (hat : Chk.unitAt l u = some o) (ho : o ≠ id) :
  Calls Tryz.prog 33 #[.pointer (some ⟨a, 0, none⟩), .int .i64 id, unV u] w fun e w' => e = .returned (.int .i64 20) ∧ Below w.heap.size w w' := by
 obtain ⟨m, hm⟩ : ∃ m, t.m = m := ⟨_, rfl⟩
 have HK := Lib.hid (fun W hW => h.look u W hW)
 rw [hat, hm] at HK
 dsimp only [Option.getD, Option.isSome] at HK
 have HV := Lib.hid (fun W => valid_any u W true (by simpa using hu))
 obtain ⟨r, g, n⟩ := u
 unfold unV at *
 obtain ⟨w0, hw0⟩ : ∃ z, w.alloc (.cells #[.int .i64 r, .int .i64 g, .int .i64 n] 65) = z := ⟨_, rfl⟩
 have hb0 : Below w.heap.size w w0 := by rw [← hw0]; exact (Below.refl _ w).alloc (Nat.le_refl _) _
 have hz : w.heap.size < w0.heap.size := by rw [← hw0]; simp
 have hbx : w0.cell? ⟨w.heap.size, 0, none⟩ = some (.int .i64 r) ∧ w0.cell? ⟨w.heap.size, 1, none⟩ = some (.int .i64 g) ∧ w0.cell? ⟨w.heap.size, 2, none⟩ = some (.int .i64 n) := by
  rw [← hw0]; refine ⟨?_, ?_, ?_⟩ <;> simp
 have hkn : k < t.n := by rw [← h.len.1]; exact (Chk.pos_lt hp).1
 obtain ⟨gc, x, hA, _⟩ := h.at hkn
 have HF := Lib.hid (find_some (h.below hb0) id k hp gc hA)
 have c1 := h.cells.2
 rw [hm] at c1
 have HA := Lib.hid (And.intro c1 (And.intro h.row.lt (And.intro hb0 (And.intro hz hbx))))
 have HW0 := Lib.hid hw0
 clear hkn hA hu hat hm h hp c1 hb0 hz hbx hw0
 go_enter Tryz.func33, Tryz.ntmps33
 go_upto_region 2 with (rw [HW0.out]; go_at_call 73; refine HF.out.mono ?_; rintro e w1 ⟨rfl, b1⟩)
 have hB : Below w.heap.size w w1 := HA.out.2.2.1.trans (b1.mono (Nat.le_of_lt HA.out.2.2.2.1))
 have hcc := (hB.cell (p := ⟨a, 1, none⟩) HA.out.2.1).trans HA.out.1
 have e0 := (b1.cell (p := ⟨w.heap.size, 0, none⟩) HA.out.2.2.2.1).trans HA.out.2.2.2.2.1
 have e1 := (b1.cell (p := ⟨w.heap.size, 1, none⟩) HA.out.2.2.2.1).trans HA.out.2.2.2.2.2.1
 have e2 := (b1.cell (p := ⟨w.heap.size, 2, none⟩) HA.out.2.2.2.1).trans HA.out.2.2.2.2.2.2
 have hk := fun n => HK.out _ (below_drewN hB n)
 have HB := Lib.hid hB
 clear hB b1
 go_quiet (fail)
 go_wp2_with (go_at_call 61; refine (HV.out _).mono ?_; rintro e w3 ⟨rfl, b3⟩)
 go_ret
 exact ⟨rfl, (below_drewN HB.out _).trans (b3.mono (by first | exact HB.out.size | exact (below_drewN HB.out _).size))⟩
end
section
open Go.RowKit
theorem own_kb {w v : World} {base size n c g : Nat} {e : TypeId} {xs : List Value} (h : w.ownsRow base e size (.slice (some ⟨g, 0, none⟩) n c) n xs) (hk : g < w.heap.size → v.heap[g]? = w.heap[g]?) : v.ownsRow base e size (.slice (some ⟨g, 0, none⟩) n c) n xs := by
 refine ⟨h.1, ?_⟩
 rcases h.2 with h0 | ⟨g', cap, cur, hv, hg, hh, r⟩
 ·
  exact .inl h0
 ·
  have e : g = g' := by injection hv with e _ _; injection e with e; injection e
  subst e
  exact .inr ⟨g, cap, cur, hv, hg, (hk (Array.getElem?_eq_some_iff.1 hh).1).trans hh, r⟩
theorem TAt.moved {w v W : World} {F S : Nat → Prop} {a : Nat} {t : TM} {l : List Chk.Ck} (h : TAt w F S a t l) {id : Int} {u : Chk.Un} {g k N' : Nat} {x : CR} (hp : Chk.pos (Chk.ids l) id = some k) (hA : t.A = some ⟨g, 0, none⟩) (hx : t.D[k]? = some x)
  (hv1 : Chk.valid u) (hv2 : ∀ o, Chk.unitAt l u = some o → o = id) (hK : Keep (fun b => b = t.m) w v)
  (hT : Keep (fun b => b = t.m) ((((v.setCell ⟨g, k * 23 + 18, none⟩ (.int .i64 u.r)).setCell ⟨g, k * 23 + 19, none⟩ (.int .i64 u.g)).setCell ⟨g, k * 23 + 20, none⟩ (.int .i64 u.u)).setCell ⟨g, k * 23 + 21, none⟩ (.bool false)) W)
  (hm : MapIs W t.m unV (fun y => if y = u then some (.int .i64 id) else if x.c.lost = false ∧ y = x.c.at_ then none else unM l y) N') :
  ∃ t', TAt W F S a t' (Chk.move l id u).1 ∧ Keep S w W := by
 have hkl := (Chk.pos_lt hp).1
 have hid := (Chk.pos_lt hp).2
 have hgS := h.sg _ hA
 have hag := h.ag _ hA
 have hlx : l[k]? = some x.c := by rw [← h.d, List.getElem?_map, hx]; rfl
 have hnx : Chk.nth l k = x.c := by have := Chk.nth_get hkl; rw [hlx] at this; exact (Option.some.inj this).symm
 have hok := h.inv.ok x.c (List.mem_of_getElem? hlx)
 have hl : (Chk.move l id u).1 = l.set k { x.c with at_ := u, lost := false } := by
  unfold Chk.move
  rw [hp, ← hnx]
  show (ite _ (_ : List Chk.Ck × Int × Int) _).1 = _
  rw [if_neg (fun e => e hv1)]
  cases hu : Chk.unitAt l u with
  | none => rfl
  | some o => show (ite _ (_ : List Chk.Ck × Int × Int) _).1 = _; rw [if_neg (fun e => e (hv2 o hu))]
 have hi := h.inv.move id u
 rw [hl] at hi ⊢
 have hv : v.ownsRow 0 68 23 (.slice (some ⟨g, 0, none⟩) t.n t.c) t.n (crs t.D) := by
  have := h.own
  rw [hA] at this
  exact own_kb this (fun e => hK.block g e hag.2)
 have ho := own_kb (own_place hv h.dl hx hok.dg u false) (fun e => hT.block g e hag.2)
 have hK1 : ∀ T : Nat → Prop, (∀ b, b = t.m ∨ b = g → T b) → Keep T w W := fun T hT1 =>
  Keep.trans (((((hK.mono (fun b _ e => hT1 b (.inl e))).setCell (.inl (hT1 g (.inr rfl))) _).setCell (.inl (hT1 g (.inr rfl))) _).setCell (.inl (hT1 g (.inr rfl))) _).setCell (.inl (hT1 g (.inr rfl))) _) (hT.mono (fun b _ e => hT1 b (.inl e)))
 refine ⟨_, h.placed (N' := N') hA hx (c' := { x.c with at_ := u, lost := false }) rfl (hK1 _ (fun b e => e)) ho ?_ hi, hK1 _ (fun b e => by rcases e with rfl | rfl; exact h.sm; exact hgS)⟩
 refine hm.congr (fun y => ?_)
 have hu := congrFun (Chk.unitAt_move h.inv hkl hi rfl) y
 unfold unM
 rw [hu, hnx]
 unfold Chk.leave
 dsimp only
 rw [← hid, hnx]
 by_cases e1 : y = u
 ·
  rw [if_pos e1, if_pos e1]; rfl
 ·
  rw [if_neg e1, if_neg e1]; split <;> rfl
end
section
open Go.RowKit
theorem leave_any (a g o m N : Nat) (b : Bool) (u : Chk.Un) (M : Chk.Un → Option Value) (w : World) (hl : w.cell? ⟨g, o + 21, none⟩ = some (.bool b)) (h1 : w.cell? ⟨a, 1, none⟩ = some (.map (some m)))
  (h18 : w.cell? ⟨g, o + 18, none⟩ = some (.int .i64 u.r)) (h19 : w.cell? ⟨g, o + 19, none⟩ = some (.int .i64 u.g)) (h20 : w.cell? ⟨g, o + 20, none⟩ = some (.int .i64 u.u)) (ha : a < w.heap.size) (hg : g < w.heap.size) (hm : MapIs w m unV M N) :
  Calls Tryz.prog 70 #[.pointer (some ⟨a, 0, none⟩), .pointer (some ⟨g, o, none⟩)] w fun e w' => e = .returned (.tuple #[]) ∧ ∃ N', MapIs w' m unV (fun y => if b = false ∧ y = u then none else M y) N' ∧ Keep (fun b => b = m) w w' := by
 cases b with
 | true => exact (leave_no a g o w hl).mono (by rintro e w' ⟨rfl, rfl⟩; exact ⟨rfl, N, hm.congr (fun y => by simp), Keep.refl _ _⟩)
 | false => exact (leave_yes a g o m N u M w hl h1 h18 h19 h20 ha hg hm).mono (by rintro e w' ⟨rfl, N', h, hk⟩; exact ⟨rfl, N', h.congr (fun y => by simp), hk⟩)
end
section
open Go.RowKit
theorem keep4 (w : World) (g o1 o2 o3 o4 : Nat) (v1 v2 v3 v4 : Value) : Keep (fun b => b = g) w ((((w.setCell ⟨g, o1, none⟩ v1).setCell ⟨g, o2, none⟩ v2).setCell ⟨g, o3, none⟩ v3).setCell ⟨g, o4, none⟩ v4) :=
 ((((Keep.refl (fun b => b = g) w).setCell (.inl rfl) _).setCell (.inl rfl) _).setCell (.inl rfl) _).setCell (.inl rfl) _
set_option maxRecDepth 100000 in
set_option maxHeartbeats 1600000 in
theorem move_ok {w : World} {F S : Nat → Prop} {a : Nat} {t : TM} {l : List Chk.Ck} (h : TAt w F S a t l) (id : Int) (u : Chk.Un) (k : Nat) (hp : Chk.pos (Chk.ids l) id = some k) (hu : Chk.valid u) (q : Bool) (hq : (Chk.unitAt l u).isSome = q) (o : Int) (ho : (Chk.unitAt l u).getD 0 = o) (hat : q = true → o = id) :
  Calls Tryz.prog 33 #[.pointer (some ⟨a, 0, none⟩), .int .i64 id, unV u] w fun e w' => e = .returned (.int .i64 0) ∧ ∃ t', TAt w' F S a t' (Chk.move l id u).1 ∧ Keep S w w' := by
 have hkn : k < t.n := by rw [← h.len.1]; exact (Chk.pos_lt hp).1
 obtain ⟨gc, x, hA, hgl, hx, hlx, _, hrg⟩ := h.at hkn
 have hv2 : ∀ o', Chk.unitAt l u = some o' → o' = id := fun o' e => by
  rw [e] at hq ho
  exact (show o' = o from ho).trans (hat hq.symm)
 have HE := Lib.hid (fun (W V Z : World) (N' : Nat) (hW : Below w.heap.size w W) (hK : Keep (fun b => b = t.m) W V) (hT : Keep (fun b => b = t.m) ((((V.setCell ⟨gc, k * 23 + 18, none⟩ (.int .i64 u.r)).setCell ⟨gc, k * 23 + 19, none⟩ (.int .i64 u.g)).setCell ⟨gc, k * 23 + 20, none⟩ (.int .i64 u.u)).setCell ⟨gc, k * 23 + 21, none⟩ (.bool false)) Z) (hm : MapIs Z t.m unV (fun y => if y = u then some (.int .i64 id) else if x.c.lost = false ∧ y = x.c.at_ then none else unM l y) N') => (h.below hW).moved hp hA hx hu hv2 hK hT hm)
 obtain ⟨m, hm⟩ : ∃ m, t.m = m := ⟨_, rfl⟩
 rw [hm] at HE
 have HK := Lib.hid (fun W hW => h.look u W hW)
 rw [ho, hq, hm] at HK
 have HV := Lib.hid (fun W => valid_any u W true (by simpa using hu))
 obtain ⟨r, g, n⟩ := u
 unfold unV at HK HV ⊢
 obtain ⟨w0, hw0⟩ : ∃ z, w.alloc (.cells #[.int .i64 r, .int .i64 g, .int .i64 n] 65) = z := ⟨_, rfl⟩
 have hb0 : Below w.heap.size w w0 := by rw [← hw0]; exact (Below.refl _ w).alloc (Nat.le_refl _) _
 have hz : w.heap.size < w0.heap.size := by rw [← hw0]; simp
 have hbx : w0.cell? ⟨w.heap.size, 0, none⟩ = some (.int .i64 r) ∧ w0.cell? ⟨w.heap.size, 1, none⟩ = some (.int .i64 g) ∧ w0.cell? ⟨w.heap.size, 2, none⟩ = some (.int .i64 n) := by
  rw [← hw0]; refine ⟨?_, ?_, ?_⟩ <;> simp
 have hok := h.inv.ok x.c (List.mem_of_getElem? hlx)
 have hcc := ckCells_at x.c (.slice x.A x.n x.k) hok.dg
 have HC := Lib.hid (And.intro (hrg 18 _ hcc.2.2.1) (And.intro (hrg 19 _ hcc.2.2.2.1) (And.intro (hrg 20 _ hcc.2.2.2.2.1) (hrg 21 _ hcc.2.2.2.2.2.1))))
 have HG := Lib.hid hgl
 have HM0 := Lib.hid (show m < w.heap.size from by rw [← hm]; exact h.map.lt)
 have hag := h.ag _ hA
 rw [hm] at hag
 have HGM := Lib.hid (show gc ≠ m from hag.2)
 have HAM := Lib.hid (show a ≠ m from by rw [← hm]; exact h.am)
 have HFV := Lib.hid (fun (W V : World) (hW : Below w.heap.size w W) (hK : Keep (fun b => b = m) W V) (j : Nat) => show V.frozen? ⟨gc, j, none⟩ = false from by
  have ho := (h.below hW).own
  rw [hA] at ho
  have hb := hK.block gc (Nat.lt_of_lt_of_le hgl hW.size) hag.2
  have := ho.frozenAt j
  unfold World.frozen? at this ⊢
  rwa [hb])
 clear hag
 have HM3 := Lib.hid (fun (W : World) (hW : Below w.heap.size w W) => show MapIs W m unV (unM l) t.N from by rw [← hm]; exact (h.below hW).map)
 clear hcc hok hrg hlx
 have HF := Lib.hid (find_some (h.below hb0) id k hp gc hA)
 have c1 := h.cells.2
 rw [hm] at c1
 have HA := Lib.hid (And.intro c1 (And.intro h.row.lt (And.intro hb0 (And.intro hz hbx))))
 have HW0 := Lib.hid hw0
 clear hkn hA hu hm h hp hq ho hx hgl c1 hb0 hz hbx hw0 hv2
 go_enter Tryz.func33, Tryz.ntmps33
 go_upto_region 2 with (rw [HW0.out]; go_at_call 73; refine HF.out.mono ?_; rintro e w1 ⟨rfl, b1⟩)
 have hB : Below w.heap.size w w1 := HA.out.2.2.1.trans (b1.mono (Nat.le_of_lt HA.out.2.2.2.1))
 have hcc := (hB.cell (p := ⟨a, 1, none⟩) HA.out.2.1).trans HA.out.1
 have e0 := (b1.cell (p := ⟨w.heap.size, 0, none⟩) HA.out.2.2.2.1).trans HA.out.2.2.2.2.1
 have e1 := (b1.cell (p := ⟨w.heap.size, 1, none⟩) HA.out.2.2.2.1).trans HA.out.2.2.2.2.2.1
 have e2 := (b1.cell (p := ⟨w.heap.size, 2, none⟩) HA.out.2.2.2.1).trans HA.out.2.2.2.2.2.2
 have hk := fun n => HK.out _ (below_drewN hB n)
 have HB := Lib.hid hB
 have HZ1 := Lib.hid (show w.heap.size < w1.heap.size from Nat.lt_of_lt_of_le HA.out.2.2.2.1 b1.size)
 have HE3 := Lib.hid (And.intro e0 (And.intro e1 e2))
 clear hB b1
 go_quiet (fail)
 cases q with
 | true =>
  obtain rfl := (hat rfl).symm
  go_upto_region 9 with (go_at_call 61; refine (HV.out _).mono ?_; rintro e w3 ⟨rfl, b3⟩)
  have hB3 : Below w.heap.size w w3 := (below_drewN HB.out nq).trans (b3.mono (below_drewN HB.out nq).size)
  have hcc3 := (hB3.cell (p := ⟨a, 1, none⟩) HA.out.2.1).trans HA.out.1
  have k18 := (hB3.cell (p := ⟨gc, k * 23 + 18, none⟩) HG.out).trans HC.out.1
  have k19 := (hB3.cell (p := ⟨gc, k * 23 + 19, none⟩) HG.out).trans HC.out.2.1
  have k20 := (hB3.cell (p := ⟨gc, k * 23 + 20, none⟩) HG.out).trans HC.out.2.2.1
  have k21 := (hB3.cell (p := ⟨gc, k * 23 + 21, none⟩) HG.out).trans HC.out.2.2.2
  have HL := Lib.hid (leave_any a gc (k * 23) m t.N x.c.lost x.c.at_ (unM l) w3 k21 hcc3 k18 k19 k20 (Nat.lt_of_lt_of_le HA.out.2.1 hB3.size) (Nat.lt_of_lt_of_le HG.out hB3.size) (HM3.out w3 hB3))
  have HB3 := Lib.hid hB3
  have hks := Lib.hid (And.intro k18 (And.intro k19 (And.intro k20 k21)))
  have HX := Lib.hid (And.intro ((b3.cell (p := ⟨w.heap.size, 0, none⟩) HZ1.out).trans HE3.out.1) (And.intro ((b3.cell (p := ⟨w.heap.size, 1, none⟩) HZ1.out).trans HE3.out.2.1) ((b3.cell (p := ⟨w.heap.size, 2, none⟩) HZ1.out).trans HE3.out.2.2)))
  clear hcc3 k18 k19 k20 k21 hB3 e0 e1 e2 hcc hk
  go_upto_region 10 with (go_at_call 70; refine HL.out.mono ?_; rintro e w4 ⟨rfl, N4, hm4, hk4⟩)
  have hlt3 : w.heap.size ≤ w3.heap.size := HB3.out.size
  have hzz : w.heap.size < w3.heap.size := Nat.lt_of_lt_of_le HZ1.out b3.size
  have hnm : w.heap.size ≠ m := fun e => by have := HM0.out; omega
  have x0 := (hk4.cell (p := ⟨w.heap.size, 0, none⟩) hzz hnm).trans HX.out.1
  have x1 := (hk4.cell (p := ⟨w.heap.size, 1, none⟩) hzz hnm).trans HX.out.2.1
  have x2 := (hk4.cell (p := ⟨w.heap.size, 2, none⟩) hzz hnm).trans HX.out.2.2
  have hc4 := ((hk4.cell (p := ⟨a, 1, none⟩) (Nat.lt_of_lt_of_le HA.out.2.1 hlt3) HAM.out).trans (HB3.out.cell (p := ⟨a, 1, none⟩) HA.out.2.1)).trans HA.out.1
  have hgc3 := Nat.lt_of_lt_of_le HG.out hlt3
  have k18 := (hk4.cell (p := ⟨gc, k * 23 + 18, none⟩) hgc3 HGM.out).trans hks.out.1
  have k19 := (hk4.cell (p := ⟨gc, k * 23 + 19, none⟩) hgc3 HGM.out).trans hks.out.2.1
  have k20 := (hk4.cell (p := ⟨gc, k * 23 + 20, none⟩) hgc3 HGM.out).trans hks.out.2.2.1
  have k21 := (hk4.cell (p := ⟨gc, k * 23 + 21, none⟩) hgc3 HGM.out).trans hks.out.2.2.2
  have f18 := HFV.out w3 w4 HB3.out hk4 (k * 23 + 18)
  have f19 := HFV.out w3 w4 HB3.out hk4 (k * 23 + 19)
  have f20 := HFV.out w3 w4 HB3.out hk4 (k * 23 + 20)
  have f21 := HFV.out w3 w4 HB3.out hk4 (k * 23 + 21)
  have HM4 := Lib.hid hm4
  have HK4 := Lib.hid hk4
  clear hm4 hk4 hlt3 hzz hnm hgc3
  go_upto_region 11 with fail
  have hK5 := keep4 w4 gc (k * 23 + 18) (k * 23 + 18 + 1) (k * 23 + 18 + 2) (k * 23 + 21) (.int .i64 r) (.int .i64 g) (.int .i64 n) (.bool false)
  obtain ⟨w6, hrun, hm6, ht6⟩ := (HM4.out.keep hK5 (fun e => HGM.out e.symm)).drew.update keyT_un Tryz.underlying114 ⟨r, g, n⟩ (.int .i64 id)
  unfold unV at hrun
  have HM6 := Lib.hid (And.intro hm6 ht6)
  clear hm6 ht6 hK5 k18 k19 k20 k21 f18 f19 f20 f21
  go_region
  go_wp2 
  go_ret
  have ht := (Keep.refl (fun b => b = m) _).drew.turned HM6.out.2 (.inl rfl)
  obtain ⟨t', h1, h2⟩ := HE.out w3 w4 w6 _ HB3.out HK4.out (by simpa only [Nat.add_assoc] using ht) HM6.out.1
  exact ⟨rfl, ⟨t', h1⟩, (Keep.of_below (S := S) HB3.out).trans h2⟩
 | false =>
  go_upto_region 9 with (go_at_call 61; refine (HV.out _).mono ?_; rintro e w3 ⟨rfl, b3⟩)
  have hB3 : Below w.heap.size w w3 := (below_drewN HB.out nq).trans (b3.mono (below_drewN HB.out nq).size)
  have hcc3 := (hB3.cell (p := ⟨a, 1, none⟩) HA.out.2.1).trans HA.out.1
  have k18 := (hB3.cell (p := ⟨gc, k * 23 + 18, none⟩) HG.out).trans HC.out.1
  have k19 := (hB3.cell (p := ⟨gc, k * 23 + 19, none⟩) HG.out).trans HC.out.2.1
  have k20 := (hB3.cell (p := ⟨gc, k * 23 + 20, none⟩) HG.out).trans HC.out.2.2.1
  have k21 := (hB3.cell (p := ⟨gc, k * 23 + 21, none⟩) HG.out).trans HC.out.2.2.2
  have HL := Lib.hid (leave_any a gc (k * 23) m t.N x.c.lost x.c.at_ (unM l) w3 k21 hcc3 k18 k19 k20 (Nat.lt_of_lt_of_le HA.out.2.1 hB3.size) (Nat.lt_of_lt_of_le HG.out hB3.size) (HM3.out w3 hB3))
  have HB3 := Lib.hid hB3
  have hks := Lib.hid (And.intro k18 (And.intro k19 (And.intro k20 k21)))
  have HX := Lib.hid (And.intro ((b3.cell (p := ⟨w.heap.size, 0, none⟩) HZ1.out).trans HE3.out.1) (And.intro ((b3.cell (p := ⟨w.heap.size, 1, none⟩) HZ1.out).trans HE3.out.2.1) ((b3.cell (p := ⟨w.heap.size, 2, none⟩) HZ1.out).trans HE3.out.2.2)))
  clear hcc3 k18 k19 k20 k21 hB3 e0 e1 e2 hcc hk
  go_upto_region 10 with (go_at_call 70; refine HL.out.mono ?_; rintro e w4 ⟨rfl, N4, hm4, hk4⟩)
  have hlt3 : w.heap.size ≤ w3.heap.size := HB3.out.size
  have hzz : w.heap.size < w3.heap.size := Nat.lt_of_lt_of_le HZ1.out b3.size
  have hnm : w.heap.size ≠ m := fun e => by have := HM0.out; omega
  have x0 := (hk4.cell (p := ⟨w.heap.size, 0, none⟩) hzz hnm).trans HX.out.1
  have x1 := (hk4.cell (p := ⟨w.heap.size, 1, none⟩) hzz hnm).trans HX.out.2.1
  have x2 := (hk4.cell (p := ⟨w.heap.size, 2, none⟩) hzz hnm).trans HX.out.2.2
  have hc4 := ((hk4.cell (p := ⟨a, 1, none⟩) (Nat.lt_of_lt_of_le HA.out.2.1 hlt3) HAM.out).trans (HB3.out.cell (p := ⟨a, 1, none⟩) HA.out.2.1)).trans HA.out.1
  have hgc3 := Nat.lt_of_lt_of_le HG.out hlt3
  have k18 := (hk4.cell (p := ⟨gc, k * 23 + 18, none⟩) hgc3 HGM.out).trans hks.out.1
  have k19 := (hk4.cell (p := ⟨gc, k * 23 + 19, none⟩) hgc3 HGM.out).trans hks.out.2.1
  have k20 := (hk4.cell (p := ⟨gc, k * 23 + 20, none⟩) hgc3 HGM.out).trans hks.out.2.2.1
  have k21 := (hk4.cell (p := ⟨gc, k * 23 + 21, none⟩) hgc3 HGM.out).trans hks.out.2.2.2
  have f18 := HFV.out w3 w4 HB3.out hk4 (k * 23 + 18)
  have f19 := HFV.out w3 w4 HB3.out hk4 (k * 23 + 19)
  have f20 := HFV.out w3 w4 HB3.out hk4 (k * 23 + 20)
  have f21 := HFV.out w3 w4 HB3.out hk4 (k * 23 + 21)
  have HM4 := Lib.hid hm4
  have HK4 := Lib.hid hk4
  clear hm4 hk4 hlt3 hzz hnm hgc3
  go_upto_region 11 with fail
  have hK5 := keep4 w4 gc (k * 23 + 18) (k * 23 + 18 + 1) (k * 23 + 18 + 2) (k * 23 + 21) (.int .i64 r) (.int .i64 g) (.int .i64 n) (.bool false)
  obtain ⟨w6, hrun, hm6, ht6⟩ := (HM4.out.keep hK5 (fun e => HGM.out e.symm)).drew.update keyT_un Tryz.underlying114 ⟨r, g, n⟩ (.int .i64 id)
  unfold unV at hrun
  have HM6 := Lib.hid (And.intro hm6 ht6)
  clear hm6 ht6 hK5 k18 k19 k20 k21 f18 f19 f20 f21
  go_region
  go_wp2 
  go_ret
  have ht := (Keep.refl (fun b => b = m) _).drew.turned HM6.out.2 (.inl rfl)
  obtain ⟨t', h1, h2⟩ := HE.out w3 w4 w6 _ HB3.out HK4.out (by simpa only [Nat.add_assoc] using ht) HM6.out.1
  exact ⟨rfl, ⟨t', h1⟩, (Keep.of_below (S := S) HB3.out).trans h2⟩
theorem move_any {w : World} {F S : Nat → Prop} {a : Nat} {t : TM} {l : List Chk.Ck} (h : TAt w F S a t l) (id : Int) (u : Chk.Un) :
  Calls Tryz.prog 33 #[.pointer (some ⟨a, 0, none⟩), .int .i64 id, unV u] w fun e w' => e = .returned (.int .i64 (Chk.move l id u).2.2) ∧ ∃ t', TAt w' F S a t' (Chk.move l id u).1 ∧ Keep S w w' := by
 cases hp : Chk.pos (Chk.ids l) id with
 | none =>
  have e : Chk.move l id u = (l, 0, 12) := by unfold Chk.move; rw [hp]
  rw [e]
  exact (move_none h id u hp).mono (by rintro e w1 ⟨rfl, b⟩; exact ⟨rfl, t, h.below b, Keep.of_below b⟩)
 | some k =>
  by_cases hu : Chk.valid u
  ·
   have e : Chk.move l id u = (match Chk.unitAt l u with | some o => if o ≠ id then (l, 0, 20) else (l.set k { Chk.nth l k with at_ := u, lost := false }, 0, 0) | none => (l.set k { Chk.nth l k with at_ := u, lost := false }, 0, 0)) := by
    unfold Chk.move
    rw [hp]
    show ite _ _ _ = _
    rw [if_neg (fun e => e hu)]
    rfl
   by_cases hat : ∃ o, Chk.unitAt l u = some o ∧ o ≠ id
   ·
    obtain ⟨o, ho, hne⟩ := hat
    rw [ho] at e
    have e : Chk.move l id u = (l, 0, 20) := e.trans (if_pos hne)
    rw [e]
    exact (move_taken h id u k hp hu o ho hne).mono (by rintro e w1 ⟨rfl, b⟩; exact ⟨rfl, t, h.below b, Keep.of_below b⟩)
   ·
    have e2 : (Chk.move l id u).2.2 = 0 := by
     rw [e]
     cases hq : Chk.unitAt l u with
     | none => rfl
     | some o => show (ite _ (_ : List Chk.Ck × Int × Int) _).2.2 = _; rw [if_neg (fun hne => hat ⟨o, hq, hne⟩)]
    rw [e2]
    refine move_ok h id u k hp hu _ rfl _ rfl (fun hs => ?_)
    obtain ⟨o, hq⟩ := Option.isSome_iff_exists.1 hs
    rw [hq]
    exact Classical.byContradiction fun hne => hat ⟨o, hq, hne⟩
  ·
   have e : Chk.move l id u = (l, 0, 1) := by
    unfold Chk.move
    rw [hp]
    exact if_pos hu
   rw [e]
   exact (move_bad h id u k hp hu).mono (by rintro e w1 ⟨rfl, b⟩; exact ⟨rfl, t, h.below b, Keep.of_below b⟩)
end
end Go.Proofs.YtfllkaeaanahmaaGreat
