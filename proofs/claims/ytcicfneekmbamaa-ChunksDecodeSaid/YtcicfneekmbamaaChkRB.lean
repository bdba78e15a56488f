/- The reference's table of chunks: Ids, held, At, Own. Conditions: the table is kept. -/
import Derived.Test.YtcicfneekmbamaaChkRA
namespace Go.Proofs.Ytcicfneekmbamaa
set_option linter.unusedVariables false
set_option linter.unusedSimpArgs false
open Go.RowKit
theorem RAt.rd {w w' : World} {F S : Nat → Prop} {a : Nat} {t : RM} {l : List Chk.Ck} (h : RAt w F S a t l) (hb : Below w.heap.size w w') : w'.cell? ⟨a, 0, none⟩ = some (.slice t.A t.n t.c) := (hb.cell (p := ⟨a, 0, none⟩) h.row.lt).trans h.cell
theorem ids_snoc {l : List Chk.Ck} {j : Nat} (hj : j < l.length) : ivs ((Chk.ids l).take j) ++ [.int .i64 (Chk.nth l j).id] = ivs ((Chk.ids l).take (j + 1)) := by
  have hji : j < (Chk.ids l).length := by simpa using hj
  have h1 : (Chk.ids l)[j]? = some (Chk.nth l j).id := by rw [List.getElem?_map, Chk.nth_get hj]; rfl
  rw [List.getElem?_eq_getElem hji] at h1
  rw [List.take_succ_eq_append_getElem hji, Option.some.inj h1, ivs_snoc _ _ rfl]
set_option maxRecDepth 100000 in
set_option maxHeartbeats 1600000 in
theorem rids_any {w : World} {F S : Nat → Prop} {a : Nat} {t : RM} {l : List Chk.Ck} (h : RAt w F S a t l) :
    Calls Try.prog 54 #[.pointer (some ⟨a, 0, none⟩)] w fun e w' => ∃ A c, e = .returned (.slice A t.n c) ∧ w'.ownsRow w.heap.size 3 1 (.slice A t.n c) t.n (ivs (Chk.ids l)) ∧ Below w.heap.size w w' := by
  have H := Lib.hid h
  have HL := Lib.hid h.len.1
  have hmx := h.max
  have c0 := h.cell
  clear h
  go_enter Try.func54, Try.ntmps54
  go_upto_region 3 with fail
  clear c0
  go_loopw [3, 4] (fun u3 u4 wr => ∃ (j : Nat) (A3 : Option Addr) (c3 : Nat), j ≤ t.n ∧ u4 = .int .i64 (j : Int) ∧ u3 = .slice A3 j c3 ∧ Hid (wr.ownsRow w.heap.size 3 1 (.slice A3 j c3) j (ivs ((Chk.ids l).take j))) ∧ Hid (Below w.heap.size w wr)) (fun _ u4 _ => t.n - (intOf u4).toNat)
  case atStart => exact ⟨0, none, 0, Nat.zero_le _, rfl, rfl, Lib.hid (World.ownsRow_nil _ _ _ _), Lib.hid (Below.refl _ _)⟩
  case round =>
    obtain ⟨j, A3, c3, hj, rfl, rfl, HO, HB⟩ := hrel
    have c0 := H.out.rd HB.out
    by_cases hlt : j < t.n
    · obtain ⟨g, x, hA, hg, hx, hn, hok, hck, hrg⟩ := H.out.at hlt
      have k0 : wr.cell? ⟨g, j * 23, none⟩ = _ := (HB.out.cell (p := ⟨g, j * 23, none⟩) hg).trans (ck_cells hck.dg hrg).1
      have hsn := ids_snoc (l := l) (j := j) (by rw [HL.out]; exact hlt)
      rw [hn] at hsn
      rw [hA] at c0
      have e1 : (0 : Int) ≤ (j : Int) := by omega
      have e2 : (j : Int) < (t.n : Int) := by omega
      obtain ⟨v, hv⟩ : ∃ y, x.c.id = y := ⟨_, rfl⟩
      rw [hv] at k0 hsn
      have HSN := Lib.hid hsn
      clear hx hn hok hck hrg hg hA hv hsn
      go_wp2_with (at_builtin; refine wpList_app1 rfl (.tmp 14) (.tmp 23) 52 rfl w.heap.size 3 _ 8 intsT A3 j c3 (ivs ((Chk.ids l).take j)) (.int .i64 v) rfl rfl HO.out HB.out rfl (by omega) (Nat.le_refl _) HB.out.size ?_; intro g4 c4 w4 own4 hb4 hg4; rw [HSN.out] at own4; have HO4 := Lib.hid own4; have HB4 := Lib.hid hb4; clear own4 hb4 hg4)
      go_roundw
      case rel => exact ⟨j + 1, some ⟨g4, 0, none⟩, c4, by omega, by go_num, rfl, HO4, HB4⟩
      case measure => simp [intOf]; omega
    · obtain rfl : j = t.n := by omega
      have HE : Hid ((Chk.ids l).take t.n = Chk.ids l) := Lib.hid (List.take_of_length_le (by simp; rw [HL.out]; exact Nat.le_refl _))
      go_wp2_with fail
      go_ret
      exact ⟨A3, c3, rfl, by rw [← HE.out]; exact HO.out, HB.out⟩
namespace Chk
theorem held_hit {l : List Rf} {who : Int} {j : Nat} (hj : j < l.length) (hlo : ∀ i (hi : i < l.length), i < j → l[i].t ≠ who) (ht : l[j].t = who) : held l who = l[j].n := by
  unfold held
  have : l.find? (fun r => decide (r.t = who)) = some l[j] := by
    rw [List.find?_eq_some_iff_getElem]
    exact ⟨by simpa using ht, j, hj, rfl, fun i hi => by simpa using hlo i (by omega) hi⟩
  rw [this]; rfl
theorem held_miss {l : List Rf} {who : Int} (h : ∀ i (hi : i < l.length), l[i].t ≠ who) : held l who = 0 := by
  unfold held
  have : l.find? (fun r => decide (r.t = who)) = none := List.find?_eq_none.2 fun r hr => by
    obtain ⟨i, hi, rfl⟩ := List.getElem_of_mem hr
    simpa using h i hi
  rw [this]; rfl
end Chk
set_option maxRecDepth 100000 in
set_option maxHeartbeats 1600000 in
theorem rheld_any (c : Chk.Ck) (hdg : c.dg.length = 16) (A : Option Addr) (N k : Nat) (hN : c.refs.length = N) (hN16 : N ≤ 1000) (B : Nat) (w : World) (hr : Rd w B 2 A N (rfs c.refs)) (hB : B ≤ w.heap.size) (who : Int) (cs : List Value) (hcs : ckCells c (.slice A N k) = cs) (v : Int) (hv : Chk.held c.refs who = v) :
    Calls Try.prog 53 #[.agg cs.toArray, .int .i64 who] w fun e w' => e = .returned (.int .i64 v) ∧ Below w.heap.size w w' := by
  have hat := ckCells_at c (.slice A N k) hdg
  rw [hcs] at hat
  have R0 := IsRow.new w 45 cs
  have k22 := (R0.cell 22).trans hat.2.2.2.2.2.2
  have hb0 : Below w.heap.size w (w.alloc (.cells cs.toArray 45)) := (Below.refl _ w).alloc (Nat.le_refl _) _
  generalize cs.toArray = va at *
  obtain ⟨w0, hw0⟩ : ∃ w0, w.alloc (.cells va 45) = w0 := ⟨_, rfl⟩
  rw [hw0] at k22 hb0
  have HW0 := Lib.hid hw0
  have HV := Lib.hid hv
  have HR := Lib.hid ((hr.more hB).below hb0)
  have HN := Lib.hid hN
  have HB0 := Lib.hid hb0
  clear hw0 hat R0 hcs hv hr hb0
  go_enter Try.func53, Try.ntmps53
  go_upto_region 2 with fail
  rw [HW0.out]
  go_loop [5] (fun u5 => ∃ j : Nat, j ≤ N ∧ u5 = .int .i64 (j : Int) ∧ Hid (∀ i (hi : i < c.refs.length), i < j → c.refs[i].t ≠ who)) (fun u5 => N - (intOf u5).toNat)
  case atStart => exact ⟨0, Nat.zero_le _, rfl, Lib.hid fun i _ hi => absurd hi (Nat.not_lt_zero i)⟩
  case round =>
    obtain ⟨j, hj, rfl, HI⟩ := hrel
    by_cases hlt : j < N
    · have hjl : j < c.refs.length := by rw [HN.out]; exact hlt
      obtain ⟨b, off, rfl, hbb, hrg⟩ := HR.out.elem (f := rfCells) (fun _ _ => rfl) hjl hlt
      have k0 : w0.cell? ⟨b, off + j * 2, none⟩ = some (.int .i64 (c.refs[j]).t) := hrg 0 _ rfl
      have k1 : w0.cell? ⟨b, off + j * 2 + 1, none⟩ = some (.int .i64 (c.refs[j]).n) := hrg 1 _ rfl
      have HH := Lib.hid (fun ht => Chk.held_hit hjl HI.out (who := who) ht)
      have HI2 := Lib.hid (fun (hne : c.refs[j].t ≠ who) (i : Nat) (hi : i < c.refs.length) (hij : i < j + 1) => show c.refs[i].t ≠ who from by
        rcases Nat.lt_or_ge i j with e | e
        · exact HI.out i hi e
        · obtain rfl : i = j := by omega
          exact hne)
      obtain ⟨p, hp⟩ : ∃ y, (c.refs[j]).t = y := ⟨_, rfl⟩
      obtain ⟨q, hq⟩ : ∃ y, (c.refs[j]).n = y := ⟨_, rfl⟩
      rw [hp] at k0 HH HI2
      rw [hq] at k1 HH
      have e1 : (0 : Int) ≤ (j : Int) := by omega
      have e2 : (j : Int) < (N : Int) := by omega
      clear hrg hp hq hjl hbb
      by_cases hid : p = who
      · have hh := Lib.hid (HH.out hid)
        clear HH HI2
        subst hid
        go_wp2
        go_ret
        exact ⟨by rw [← HV.out, hh.out]; rfl, HB0.out⟩
      · have hb : (p == who) = false := beq_eq_false_iff_ne.2 hid
        have HI3 := Lib.hid (HI2.out hid)
        clear hid
        go_wp2
        go_round
        case rel => exact ⟨j + 1, by omega, by go_num, HI3⟩
        case measure => simp [intOf]; omega
    · obtain rfl : N = j := by omega
      go_wp2
      go_ret
      exact ⟨by rw [← HV.out, Chk.held_miss (fun i hi => HI.out i hi (by rw [← HN.out]; exact hi))]; rfl, HB0.out⟩
theorem eqlU (w : World) (x y : Chk.Un) : (binOp .eql 26 (unV x) (unV y)).run Try.prog w = .ok (.bool (decide (x = y))) w := by
  have h := run_equal_un x y w
  unfold unV at *
  rw [run_eql_struct]
  have h' : (Op.equalIn 10000 26 (.agg #[.int .i64 x.r, .int .i64 x.g, .int .i64 x.u]) (.agg #[.int .i64 y.r, .int .i64 y.g, .int .i64 y.u])).run Try.prog w = _ := h
  rw [h']; simp [Result.andThen]
set_option maxRecDepth 100000 in
set_option maxHeartbeats 1600000 in
theorem rat_any {w : World} {F S : Nat → Prop} {a : Nat} {t : RM} {l : List Chk.Ck} (h : RAt w F S a t l) (u : Chk.Un) (v : Int) (q : Bool) (hv : (Chk.unitAt l u).getD 0 = v) (hq : (Chk.unitAt l u).isSome = q) :
    Calls Try.prog 17 #[.pointer (some ⟨a, 0, none⟩), unV u] w fun e w' => e = .returned (.tuple #[.int .i64 v, .bool q]) ∧ Below w.heap.size w w' := by
  obtain ⟨w0, hw0⟩ : ∃ z, w.alloc (.cells #[.int .i64 u.r, .int .i64 u.g, .int .i64 u.u] 26) = z := ⟨_, rfl⟩
  have hb0 : Below w.heap.size w w0 := by rw [← hw0]; exact (Below.refl _ _).alloc (Nat.le_refl _) _
  have hbx : IsRow w0 w.heap.size 26 [.int .i64 u.r, .int .i64 u.g, .int .i64 u.u] := by rw [← hw0]; exact IsRow.new w _ [.int .i64 u.r, .int .i64 u.g, .int .i64 u.u]
  have HBX := Lib.hid hbx
  have HB0 := Lib.hid hb0
  have HW0 := Lib.hid hw0
  have H := Lib.hid (h.below hb0)
  have HL := Lib.hid h.len.1
  have hmx := h.max
  have HV := Lib.hid (And.intro hv hq)
  have HUE := Lib.hid (fun W (x : Chk.Un) => eqlU W x u)
  unfold unV at HUE ⊢
  obtain ⟨r, hur⟩ : ∃ x, u.r = x := ⟨_, rfl⟩
  obtain ⟨g0, hug⟩ : ∃ x, u.g = x := ⟨_, rfl⟩
  obtain ⟨m, hum⟩ : ∃ x, u.u = x := ⟨_, rfl⟩
  rw [hur, hug, hum] at HW0 HBX ⊢
  simp only [hur, hug, hum] at HUE
  clear hv hq h hb0 hbx hw0 hur hug hum
  go_enter Try.func17, Try.ntmps17
  go_upto_region 1 with fail
  rw [HW0.out]
  have c0 := H.out.cell
  go_upto_region 2 with fail
  clear c0
  go_loopw [6] (fun u6 wr => ∃ j : Nat, j ≤ t.n ∧ u6 = .int .i64 (j : Int) ∧ Hid (∀ i, i < j → ¬ ((Chk.nth l i).lost = false ∧ (Chk.nth l i).at_ = u)) ∧ Hid (Below w0.heap.size w0 wr)) (fun u6 _ => t.n - (intOf u6).toNat)
  case atStart => exact ⟨0, Nat.zero_le _, rfl, Lib.hid (fun i hi => absurd hi (Nat.not_lt_zero i)), Lib.hid (Below.refl _ _)⟩
  case round =>
    obtain ⟨j, hj, rfl, HI, HB⟩ := hrel
    have c0 := H.out.rd HB.out
    by_cases hlt : j < t.n
    · obtain ⟨g, x, hA, hg, hx, hn, hok, hck, hrg⟩ := H.out.at hlt
      have hrw : wr.rangeAt g (j * 23) x.cells := fun k u hu => (HB.out.cell (p := ⟨g, j * 23 + k, none⟩) hg).trans (hrg k u hu)
      obtain ⟨k0, _, k18, k19, k20, k21, _⟩ := ck_cells hck.dg hrw
      have e0 := (HBX.out.below' HB.out).cell 0
      have e1' := (HBX.out.below' HB.out).cell 1
      have e2' := (HBX.out.below' HB.out).cell 2
      rw [hA] at c0
      have e1 : (0 : Int) ≤ (j : Int) := by omega
      have e2 : (j : Int) < (t.n : Int) := by omega
      have hjl : j < l.length := by rw [HL.out]; exact hlt
      have HHIT := Lib.hid (fun (h1 : x.c.lost = false) (h2 : x.c.at_ = u) => show Chk.unitAt l u = some (Chk.nth l j).id from (Chk.unitAt_some H.out.inv).2 ⟨j, Chk.nth l j, Chk.nth_get hjl, by rw [hn]; exact h1, by rw [hn]; exact h2, rfl⟩)
      rw [hn] at HHIT
      have HI2 := Lib.hid (fun (hne : ¬ (x.c.lost = false ∧ x.c.at_ = u)) (i : Nat) (hij : i < j + 1) => show ¬ ((Chk.nth l i).lost = false ∧ (Chk.nth l i).at_ = u) from by
        rcases Nat.lt_or_ge i j with e | e
        · exact HI.out i e
        · obtain rfl : i = j := by omega
          rw [hn]; exact hne)
      have heq := fun W => HUE.out W x.c.at_
      obtain ⟨lo, hlo⟩ : ∃ y, x.c.lost = y := ⟨_, rfl⟩
      obtain ⟨xa, hxa⟩ : ∃ y, x.c.at_ = y := ⟨_, rfl⟩
      obtain ⟨xi, hxi⟩ : ∃ y, x.c.id = y := ⟨_, rfl⟩
      rw [hlo] at k21 HHIT HI2
      rw [hxa] at k18 k19 k20 HHIT HI2
      simp only [hxa] at heq
      rw [hxi] at k0 HHIT
      clear hrg hrw hx hn hok hck hA hjl hlo hxa hxi
      cases lo with
      | true =>
        have HI3 := Lib.hid (HI2.out (fun e => by cases e.1))
        go_wp2_with fail
        go_quiet (fail)
        go_wp2_with fail
        go_roundw
        case rel => exact ⟨j + 1, by omega, by go_num, HI3, Lib.hid (below_drewN HB.out _)⟩
        case measure => simp [intOf]; omega
      | false =>
        by_cases hau : xa = u
        · have hh := HHIT.out rfl hau
          have HVV : Hid (v = xi ∧ q = true) := Lib.hid (by rw [hh] at HV; exact ⟨HV.out.1.symm, HV.out.2.symm⟩)
          have hd : decide (xa = u) = true := decide_eq_true hau
          simp only [hd] at heq
          clear hh hau hd
          go_wp2_with fail
          go_quiet (fail)
          go_wp2_with fail
          go_ret2
          exact ⟨by rw [HVV.out.1, HVV.out.2]; rfl, HB0.out.trans ((below_drewN HB.out _).mono HB0.out.size)⟩
        · have HI3 := Lib.hid (HI2.out (fun e => hau e.2))
          have hd : decide (xa = u) = false := decide_eq_false hau
          simp only [hd] at heq
          clear hau hd
          go_wp2_with fail
          go_quiet (fail)
          go_wp2_with fail
          go_roundw
          case rel => exact ⟨j + 1, by omega, by go_num, HI3, Lib.hid (below_drewN HB.out _)⟩
          case measure => simp [intOf]; omega
    · obtain rfl : j = t.n := by omega
      have hno : Chk.unitAt l u = none := by
        cases e : Chk.unitAt l u with
        | none => rfl
        | some y =>
          obtain ⟨k, cc, hk, h1, h2, _⟩ := (Chk.unitAt_some H.out.inv).1 e
          have hkl := (List.getElem?_eq_some_iff.1 hk).1
          have hnk : Chk.nth l k = cc := by have := Chk.nth_get hkl; rw [hk] at this; exact (Option.some.inj this).symm
          exact absurd ⟨by rw [hnk]; exact h1, by rw [hnk]; exact h2⟩ (HI.out k (by rw [← HL.out]; exact hkl))
      have HVV : Hid (v = 0 ∧ q = false) := Lib.hid (by rw [hno] at HV; exact ⟨HV.out.1.symm, HV.out.2.symm⟩)
      clear hno
      go_wp2_with fail
      go_ret2
      exact ⟨by rw [HVV.out.1, HVV.out.2]; rfl, HB0.out.trans (HB.out.mono HB0.out.size)⟩
end Go.Proofs.Ytcicfneekmbamaa
