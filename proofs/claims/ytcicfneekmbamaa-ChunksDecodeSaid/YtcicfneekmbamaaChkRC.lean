/- The reference's table of chunks: Lose, Move. Conditions: the table is kept. -/
import Derived.Test.YtcicfneekmbamaaChkRB
import Derived.Test.YtcicfneekmbamaaCLawHP
namespace Go.Proofs.Ytcicfneekmbamaa
set_option linter.unusedVariables false
set_option linter.unusedSimpArgs false
open Go.RowKit
theorem RAt.placed {w W : World} {F S : Nat → Prop} {a : Nat} {t : RM} {l : List Chk.Ck} (h : RAt w F S a t l) {g k : Nat} {x : CR} {c' : Chk.Ck} (hA : t.A = some ⟨g, 0, none⟩) (hx : t.D[k]? = some x) (hr : c'.refs = x.c.refs)
    (hK : Keep (fun b => b = g) w W) (ho : W.ownsRow 0 45 23 (.slice (some ⟨g, 0, none⟩) t.n t.c) t.n (crs (t.D.set k { x with c := c' }))) (hi : Chk.Inv (l.set k c')) :
    RAt W F S a { t with D := t.D.set k { x with c := c' } } (l.set k c') := by
  have hag := h.ag _ hA
  have hgS := h.sg _ hA
  have hFd : ∀ b, F b → ¬ b = g := fun b hb e => by subst e; exact h.fs _ hb hgS
  refine ⟨h.row.keep (hK.block a h.row.lt (fun e => hag e.symm)), by rw [hA]; exact ho, ?_, fun z hz => ?_, h.sa, h.sg, h.ag, h.fs, hi⟩
  · show (t.D.set k { x with c := c' }).map CR.c = _
    rw [List.map_set, h.d]
  · rcases List.mem_or_eq_of_mem_set hz with hz | rfl
    · exact (h.ok z hz).keep hK hFd
    · have hq := (h.ok x (List.mem_of_getElem? hx)).keep hK hFd
      exact ⟨by rw [hr]; exact hq.rd, by rw [hr]; exact hq.n, hq.k, hq.km, hq.f⟩
theorem RAt.laid {w : World} {F S : Nat → Prop} {a : Nat} {t : RM} {l : List Chk.Ck} (h : RAt w F S a t l) {g k : Nat} {x : CR} (hA : t.A = some ⟨g, 0, none⟩) (hx : t.D[k]? = some x) (hdg : x.c.dg.length = 16) (u : Chk.Un) (b : Bool) (hi : Chk.Inv (l.set k { x.c with at_ := u, lost := b })) :
    ∃ t', RAt ((((w.setCell ⟨g, k * 23 + 18, none⟩ (.int .i64 u.r)).setCell ⟨g, k * 23 + 19, none⟩ (.int .i64 u.g)).setCell ⟨g, k * 23 + 20, none⟩ (.int .i64 u.u)).setCell ⟨g, k * 23 + 21, none⟩ (.bool b)) F S a t' (l.set k { x.c with at_ := u, lost := b }) := by
  have ho := h.own
  rw [hA] at ho
  exact ⟨_, h.placed (c' := { x.c with at_ := u, lost := b }) hA hx rfl (keep4 w g _ _ _ _ _ _ _ _) (own_place ho h.dl hx hdg u b) hi⟩
theorem RAt.frz {w : World} {F S : Nat → Prop} {a : Nat} {t : RM} {l : List Chk.Ck} (h : RAt w F S a t l) {g : Nat} (hA : t.A = some ⟨g, 0, none⟩) (j : Nat) : w.frozen? ⟨g, j, none⟩ = false := by
  have ho := h.own
  rw [hA] at ho
  exact ho.frozenAt j
set_option maxRecDepth 100000 in
set_option maxHeartbeats 1600000 in
theorem rlose_any {w : World} {F S : Nat → Prop} {a : Nat} {t : RM} {l : List Chk.Ck} (h : RAt w F S a t l) (id : Int) :
    Calls Try.prog 47 #[.pointer (some ⟨a, 0, none⟩), .int .i64 id] w fun e w' => e = .returned (.int .i64 (Chk.lose l id).2.2) ∧ (∃ t', RAt w' F S a t' (Chk.lose l id).1) ∧ Keep S w w' := by
  have HF := Lib.hid (rfind_any h id _ rfl)
  cases hp : Chk.pos (Chk.ids l) id with
  | none =>
    have e : Chk.lose l id = (l, 0, 12) := by unfold Chk.lose; rw [hp]
    rw [Chk.posI_none hp] at HF
    rw [e]
    have H := Lib.hid h
    clear h hp e
    go_enter Try.func47, Try.ntmps47
    go_wp2_with (go_at_call 50; refine HF.out.mono ?_; rintro e w1 ⟨rfl, hw1⟩; obtain rfl := hw1.symm)
    go_ret
    exact ⟨rfl, ⟨t, H.out⟩, Keep.refl _ _⟩
  | some k =>
    have hk := (Chk.pos_lt hp).1
    have hkn : k < t.n := by rw [← h.len.1]; exact hk
    obtain ⟨g, x, hA, hg, hx, hn, hok, hck, hrg⟩ := h.at hkn
    have hmx := h.max
    rw [Chk.posI_some hp] at HF
    have hi : Chk.Inv (Chk.lose l id).1 := h.inv.lose id
    rw [Chk.lose_at hp, hn] at hi
    rw [Chk.lose_at hp, hn]
    obtain ⟨_, _, k18, k19, k20, k21, _⟩ := ck_cells hck.dg hrg
    have f18 := h.frz hA (k * 23 + 18)
    have f19 := h.frz hA (k * 23 + 19)
    have f20 := h.frz hA (k * 23 + 20)
    have f21 := h.frz hA (k * 23 + 21)
    have HLD := Lib.hid (h.laid hA hx hck.dg Chk.z true hi)
    have HKP : Hid (∀ W, Keep (fun b => b = g) w W → Keep S w W) := Lib.hid (fun W hW => hW.mono fun b _ e => by subst e; exact h.sg _ hA)
    have c0 := h.cell
    rw [hA] at c0
    have e1 : (0 : Int) ≤ (k : Int) := by omega
    have e2 : (k : Int) < (t.n : Int) := by omega
    have e3 : ¬ (k : Int) < 0 := by omega
    clear h hp hk hkn hA hg hx hn hok hck hrg hi
    go_enter Try.func47, Try.ntmps47
    go_wp2_with (go_at_call 50; refine HF.out.mono ?_; rintro e w1 ⟨rfl, hw1⟩; obtain rfl := hw1.symm)
    go_ret
    exact ⟨rfl, HLD.out, HKP.out _ (keep4 w g _ _ _ _ _ _ _ _)⟩
set_option maxRecDepth 100000 in
set_option maxHeartbeats 3200000 in
theorem rmove_any {w : World} {F S : Nat → Prop} {a : Nat} {t : RM} {l : List Chk.Ck} (h : RAt w F S a t l) (id : Int) (u : Chk.Un) :
    Calls Try.prog 46 #[.pointer (some ⟨a, 0, none⟩), .int .i64 id, unV u] w fun e w' => e = .returned (.int .i64 (Chk.move l id u).2.2) ∧ (∃ t', RAt w' F S a t' (Chk.move l id u).1) ∧ Keep S w w' := by
  obtain ⟨w0, hw0⟩ : ∃ z, w.alloc (.cells #[.int .i64 u.r, .int .i64 u.g, .int .i64 u.u] 26) = z := ⟨_, rfl⟩
  have hb0 : Below w.heap.size w w0 := by rw [← hw0]; exact box_below w _
  have hbx : IsRow w0 w.heap.size 26 [.int .i64 u.r, .int .i64 u.g, .int .i64 u.u] := by rw [← hw0]; exact IsRow.new w _ [.int .i64 u.r, .int .i64 u.g, .int .i64 u.u]
  have H := Lib.hid (h.below hb0)
  have HB0 : Hid (Keep S w w0) := Lib.hid (Keep.of_below hb0)
  have HBX := Lib.hid hbx
  have HW0 := Lib.hid hw0
  have HVL := Lib.hid (fun W s hs => refValid_any u W s hs)
  have HUV : Hid (unV u = .agg #[.int .i64 u.r, .int .i64 u.g, .int .i64 u.u]) := Lib.hid rfl
  have HF := Lib.hid (rfind_any H.out id _ rfl)
  have HAT := Lib.hid (fun W (hW : Below w0.heap.size w0 W) v q hv hq => rat_any (H.out.below hW) u v q hv hq)
  have hmx := h.max
  rw [HUV.out]
  clear hb0 hbx hw0
  have hlk := h.len.1
  clear h
  cases hp : Chk.pos (Chk.ids l) id with
  | none =>
    have e : Chk.move l id u = (l, 0, 12) := by unfold Chk.move; rw [hp]
    rw [Chk.posI_none hp] at HF
    rw [e]
    clear hp e HAT HVL
    go_enter Try.func46, Try.ntmps46
    go_wp2_with (rw [HW0.out]; go_at_call 50; refine HF.out.mono ?_; rintro e w1 ⟨rfl, hw1⟩; obtain rfl := hw1.symm)
    go_ret
    exact ⟨rfl, ⟨t, H.out⟩, HB0.out⟩
  | some k =>
    have e3 : ¬ (k : Int) < 0 := by omega
    rw [Chk.posI_some hp] at HF
    obtain ⟨s, hs⟩ : ∃ s, decide (Chk.valid u) = s := ⟨_, rfl⟩
    have HV := Lib.hid (fun W => HVL.out W s hs)
    rw [HUV.out] at HV
    have b0 := HBX.out.cell 0
    have b1 := HBX.out.cell 1
    have b2 := HBX.out.cell 2
    dsimp only [List.getElem?_cons_zero, List.getElem?_cons_succ] at b0 b1 b2
    cases s with
    | false =>
      have e : Chk.move l id u = (l, 0, 1) := by unfold Chk.move; rw [hp]; show ite _ _ _ = _; rw [if_pos (of_decide_eq_false hs)]
      rw [e]
      clear hp e HAT hs HVL
      go_enter Try.func46, Try.ntmps46
      go_wp2_with (first
        | (go_at_call 31; refine (HV.out _).mono ?_; rintro e w2 ⟨rfl, v2⟩)
        | (rw [HW0.out]; go_at_call 50; refine HF.out.mono ?_; rintro e w1 ⟨rfl, hw1⟩; obtain rfl := hw1.symm))
      go_ret
      exact ⟨rfl, ⟨t, H.out.below v2⟩, HB0.out.trans (Keep.of_below v2)⟩
    | true =>
      have hu := of_decide_eq_true hs
      obtain ⟨v, hv⟩ : ∃ v, (Chk.unitAt l u).getD 0 = v := ⟨_, rfl⟩
      obtain ⟨q, hq⟩ : ∃ q, (Chk.unitAt l u).isSome = q := ⟨_, rfl⟩
      have HAT2 := Lib.hid (fun W hW => HAT.out W hW v q hv hq)
      rw [HUV.out] at HAT2
      have hB : ∀ W, Below w0.heap.size w0 W → W.cell? ⟨w.heap.size, 0, none⟩ = some (.int .i64 u.r) ∧ W.cell? ⟨w.heap.size, 1, none⟩ = some (.int .i64 u.g) ∧ W.cell? ⟨w.heap.size, 2, none⟩ = some (.int .i64 u.u) := fun W hW =>
        ⟨(HBX.out.below' hW).cell 0, (HBX.out.below' hW).cell 1, (HBX.out.below' hW).cell 2⟩
      have HBB := Lib.hid hB
      by_cases htk : q = true ∧ v ≠ id
      · have e : Chk.move l id u = (l, 0, 20) := by
          obtain ⟨h1, h2⟩ := htk
          subst h1
          cases hua : Chk.unitAt l u with
          | none => rw [hua] at hq; cases hq
          | some o =>
            rw [hua] at hv
            have : o ≠ id := by rw [show o = v from hv]; exact h2
            unfold Chk.move; rw [hp]; show ite _ _ _ = _; rw [if_neg (fun e => e hu), hua]; show ite _ _ _ = _; rw [if_pos this]
        rw [e]
        obtain ⟨rfl, hne⟩ := htk
        have hne' : (v != id) = true := by simpa using hne
        clear hp e HAT hs HVL hu hv hq hB hne
        go_enter Try.func46, Try.ntmps46
        go_wp2_with (first
          | (go_at_call 31; refine (HV.out _).mono ?_; rintro e w2 ⟨rfl, v2⟩; obtain ⟨y0, y1, y2⟩ := HBB.out _ v2)
          | (go_at_call 17; refine (HAT2.out _ v2).mono ?_; rintro e w3 ⟨rfl, v3⟩)
          | (rw [HW0.out]; go_at_call 50; refine HF.out.mono ?_; rintro e w1 ⟨rfl, hw1⟩; obtain rfl := hw1.symm))
        go_ret
        exact ⟨rfl, ⟨t, (H.out.below v2).below v3⟩, (HB0.out.trans (Keep.of_below v2)).trans (Keep.of_below v3)⟩
      · have e : Chk.move l id u = (l.set k { Chk.nth l k with at_ := u, lost := false }, 0, 0) := by
          unfold Chk.move; rw [hp]; show ite _ _ _ = _; rw [if_neg (fun e => e hu)]
          cases hua : Chk.unitAt l u with
          | none => rfl
          | some o =>
            rw [hua] at hv hq
            have : ¬ o ≠ id := fun h => htk ⟨hq.symm, by rw [← show o = v from hv]; exact h⟩
            show ite _ _ _ = _; rw [if_neg this]
        have hk := (Chk.pos_lt hp).1
        have hkn : k < t.n := by rw [← hlk]; exact hk
        have hi : Chk.Inv (Chk.move l id u).1 := H.out.inv.move id u
        rw [e] at hi ⊢
        have e1 : (0 : Int) ≤ (k : Int) := by omega
        have e2 : (k : Int) < (t.n : Int) := by omega
        have HI := Lib.hid hi
        have HKN := Lib.hid hkn
        obtain ⟨g, x, hA, _, hx, hn, _, hck, _⟩ := H.out.at hkn
        rw [hn] at hi HI ⊢
        have HGX := Lib.hid (And.intro hA (And.intro hx hck.dg))
        have hcell : Hid (∀ W, Below w0.heap.size w0 W → ∃ lo a1 a2 a3, W.cell? ⟨a, 0, none⟩ = some (.slice (some ⟨g, 0, none⟩) t.n t.c) ∧ W.cell? ⟨g, k * 23 + 18, none⟩ = some (.int .i64 a1) ∧ W.cell? ⟨g, k * 23 + 19, none⟩ = some (.int .i64 a2) ∧ W.cell? ⟨g, k * 23 + 20, none⟩ = some (.int .i64 a3) ∧ W.cell? ⟨g, k * 23 + 21, none⟩ = some (.bool lo) ∧ ∀ j, W.frozen? ⟨g, j, none⟩ = false) := Lib.hid fun W hW => by
          have h := H.out.below hW
          obtain ⟨g', x', hA', _, hx', _, _, hck', hrg'⟩ := h.at HKN.out
          rw [hA] at hA'
          have hgg : g = g' := congrArg Addr.block (Option.some.inj hA')
          subst hgg
          obtain ⟨_, _, k18, k19, k20, k21, _⟩ := ck_cells hck'.dg hrg'
          have c0 := h.cell
          rw [hA] at c0
          exact ⟨_, _, _, _, c0, k18, k19, k20, k21, h.frz hA⟩
        have HEND : Hid (∀ W, Below w0.heap.size w0 W → (∃ t', RAt ((((W.setCell ⟨g, k * 23 + 18, none⟩ (.int .i64 u.r)).setCell ⟨g, k * 23 + 19, none⟩ (.int .i64 u.g)).setCell ⟨g, k * 23 + 20, none⟩ (.int .i64 u.u)).setCell ⟨g, k * 23 + 21, none⟩ (.bool false)) F S a t' (l.set k { x.c with at_ := u, lost := false })) ∧ Keep S w ((((W.setCell ⟨g, k * 23 + 18, none⟩ (.int .i64 u.r)).setCell ⟨g, k * 23 + 19, none⟩ (.int .i64 u.g)).setCell ⟨g, k * 23 + 20, none⟩ (.int .i64 u.u)).setCell ⟨g, k * 23 + 21, none⟩ (.bool false))) := Lib.hid fun W hW => by
          have h := H.out.below hW
          refine ⟨h.laid HGX.out.1 HGX.out.2.1 HGX.out.2.2 u false HI.out, (HB0.out.trans (Keep.of_below hW)).trans ((keep4 W g _ _ _ _ _ _ _ _).mono fun b _ e => ?_)⟩
          subst e
          exact h.sg _ HGX.out.1
        cases q with
        | false =>
          clear hp e HAT hs HVL hu hv hq hB htk hk hi hlk hkn hA hx hn hck
          go_enter Try.func46, Try.ntmps46
          go_upto_region 9 with (first
            | (go_at_call 31; refine (HV.out _).mono ?_; rintro e w2 ⟨rfl, v2⟩; obtain ⟨y0, y1, y2⟩ := HBB.out _ v2)
            | (go_at_call 17; refine (HAT2.out _ v2).mono ?_; rintro e w3 ⟨rfl, v3⟩)
            | (rw [HW0.out]; go_at_call 50; refine HF.out.mono ?_; rintro e w1 ⟨rfl, hw1⟩; obtain rfl := hw1.symm))
          have v4 := v2.trans (v3.mono v2.size)
          obtain ⟨lo, a1, a2, a3, c0, k18, k19, k20, k21, fz⟩ := hcell.out w3 v4
          have f18 := fz (k * 23 + 18)
          have f19 := fz (k * 23 + 19)
          have f20 := fz (k * 23 + 20)
          have f21 := fz (k * 23 + 21)
          obtain ⟨z0, z1, z2⟩ := HBB.out _ v4
          have HZ := Lib.hid (HEND.out w3 v4)
          clear y0 y1 y2 v2 v3 v4 fz b0 b1 b2
          go_region
          go_wp2
          go_ret
          obtain ⟨⟨t', r1⟩, r2⟩ := HZ.out
          have r3 := r1.keep ((Keep.refl (fun _ => False) _).drew) (fun _ _ e => e) (fun _ _ e => e)
          have r4 := r2.drew
          refine ⟨rfl, ?_⟩
          simp only [Nat.add_assoc, Nat.reduceAdd]
          exact ⟨⟨t', r3⟩, r4⟩
        | true =>
          have hve : v = id := by
            by_cases h : v = id
            · exact h
            · exact absurd ⟨rfl, h⟩ htk
          subst hve
          clear hp e HAT hs HVL hu hv hq hB htk hk hi hlk hkn hA hx hn hck
          go_enter Try.func46, Try.ntmps46
          go_upto_region 9 with (first
            | (go_at_call 31; refine (HV.out _).mono ?_; rintro e w2 ⟨rfl, v2⟩; obtain ⟨y0, y1, y2⟩ := HBB.out _ v2)
            | (go_at_call 17; refine (HAT2.out _ v2).mono ?_; rintro e w3 ⟨rfl, v3⟩)
            | (rw [HW0.out]; go_at_call 50; refine HF.out.mono ?_; rintro e w1 ⟨rfl, hw1⟩; obtain rfl := hw1.symm))
          have v4 := v2.trans (v3.mono v2.size)
          obtain ⟨lo, a1, a2, a3, c0, k18, k19, k20, k21, fz⟩ := hcell.out w3 v4
          have f18 := fz (k * 23 + 18)
          have f19 := fz (k * 23 + 19)
          have f20 := fz (k * 23 + 20)
          have f21 := fz (k * 23 + 21)
          obtain ⟨z0, z1, z2⟩ := HBB.out _ v4
          have HZ := Lib.hid (HEND.out w3 v4)
          clear y0 y1 y2 v2 v3 v4 fz b0 b1 b2
          go_region
          go_wp2
          go_ret
          obtain ⟨⟨t', r1⟩, r2⟩ := HZ.out
          have r3 := r1.keep ((Keep.refl (fun _ => False) _).drew) (fun _ _ e => e) (fun _ _ e => e)
          have r4 := r2.drew
          refine ⟨rfl, ?_⟩
          simp only [Nat.add_assoc, Nat.reduceAdd]
          exact ⟨⟨t', r3⟩, r4⟩
end Go.Proofs.Ytcicfneekmbamaa
