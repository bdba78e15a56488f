/- The reference's table: Add. Conditions: the table is kept. -/
import Derived.Test.YtcicfneekmbamaaChkRG
namespace Go.Proofs.Ytcicfneekmbamaa
set_option linter.unusedVariables false
set_option linter.unusedSimpArgs false
open Go.RowKit
theorem RAt.added {w W7 W10 : World} {F S : Nat → Prop} {a : Nat} {t : RM} {l : List Chk.Ck} (h : RAt w F S a t l) (hb : ∀ b, F b ∨ S b → b < w.heap.size) {k br n2 c2 : Nat} {c : Chk.Ck} {A2 : Option Addr} (hrl : c.refs.length = 1)
    (hB7 : Below w.heap.size w W7) (hbr : w.heap.size ≤ br) (hrow : IsRow W7 br 83 (rfs c.refs)) (hB10 : Below W7.heap.size W7 W10) (hn2 : 0 < n2)
    (ho : W10.ownsRow W7.heap.size 45 23 (.slice A2 n2 c2) n2 (crs (t.D.take k) ++ ckCells c (.slice (some ⟨br, 0, none⟩) 1 1) ++ crs (t.D.drop k))) (hi : Chk.Inv (l.take k ++ c :: l.drop k)) :
    ROp w F S a (l.take k ++ c :: l.drop k) (W10.setCell ⟨a, 0, none⟩ (.slice A2 n2 c2)) := by
  have hB : Below w.heap.size w W10 := hB7.trans (hB10.mono hB7.size)
  have halt := h.row.lt
  have hs7 := hB7.size
  have hs10 := hB10.size
  have hsz : (W10.setCell ⟨a, 0, none⟩ (.slice A2 n2 c2)).heap.size = W10.heap.size := by simp [World.setCell]
  have hK : Keep S w (W10.setCell ⟨a, 0, none⟩ (.slice A2 n2 c2)) := (Keep.of_below hB).setCell (a := ⟨a, 0, none⟩) (.inl h.sa) _
  obtain ⟨g2, cap, hv, hg2, _⟩ := ho.form hn2
  have hA2 : A2 = some ⟨g2, 0, none⟩ := by injection hv
  have hbr7 := hrow.lt
  refine h.fresh hb (F' := fun b => F b ∨ b = br) (D2 := t.D.take k ++ ⟨c, some ⟨br, 0, none⟩, 1, 1⟩ :: t.D.drop k) ((h.row.below' hB).set 0 _) ?_ ?_ hi (fun z hz => ?_) (fun b e => ?_) hK
  · refine own_base (own_same2 ?_ fun b e1 _ => Below.heap_setCell _ _ _ _ (show b ≠ a by omega)) hs7
    show W10.ownsRow W7.heap.size _ 23 _ _ (crs (t.D.take k ++ ⟨c, some ⟨br, 0, none⟩, 1, 1⟩ :: t.D.drop k))
    have e : crs (t.D.take k ++ ⟨c, some ⟨br, 0, none⟩, 1, 1⟩ :: t.D.drop k) = crs (t.D.take k) ++ ckCells c (.slice (some ⟨br, 0, none⟩) 1 1) ++ crs (t.D.drop k) := by
      unfold crs; rw [List.flatMap_append, List.flatMap_cons, List.append_assoc]; rfl
    rw [e]; exact ho
  · rw [List.map_append, List.map_cons, List.map_take, List.map_drop, h.d]
  · rcases List.mem_append.1 hz with hz | hz
    · exact ((h.ok z (List.mem_of_mem_take hz)).keep hK h.fs).mono fun b e => .inl e
    · rcases List.mem_cons.1 hz with rfl | hz
      · refine ⟨?_, hrl, Nat.le_refl _, by show 1 ≤ maxLen; unfold maxLen; omega, fun p hp => .inr (by rw [← Option.some.inj hp])⟩
        have hr := (hrow.below' hB10).rd (B := W10.heap.size) (n := 1) (size := 2) (by rw [rfs_len, hrl]) (by omega)
        rw [hsz]
        exact hr.setCell_far (fun p hp => by rw [← Option.some.inj hp]; show br ≠ a; omega) _
      · exact ((h.ok z (List.mem_of_mem_drop hz)).keep hK h.fs).mono fun b e => .inl e
  · rcases e with e | rfl
    · exact .inl e
    · exact .inr ⟨hbr, by rw [hsz]; omega, fun p hp => by rw [hA2] at hp; rw [← Option.some.inj hp]; show g2 ≠ b; omega⟩
def RAdd (w : World) (F S : Nat → Prop) (a : Nat) (R : List Chk.Ck × Int × Int) (e : Ending) (w' : World) : Prop := e = .returned (.tuple #[.int .i64 R.2.1, .int .i64 R.2.2]) ∧ ROp w F S a R.1 w'
theorem run_cutHiO {P : Program} (w : World) {t e : TypeId} {z : Value} {size bytes : Nat} (E : ElemT P t e z size bytes) (A : Option Addr) (n c h : Nat) (kh : IntKind) (hh : h ≤ c) (hA : ∀ p, A = some p → p = ⟨p.block, 0, none⟩) :
    (Instr.sliceAt t (.slice A n c) none (some (.int kh h)) none).run P w = .ok (.slice A h c) w := by
  obtain ⟨i, hi, hz, hsize, hby⟩ := info_parts E.info
  cases A with
  | none => simp [Instr.sliceAt, run_underlying E.sl, Instr.slice, Instr.sliceBounds, run_sliceBound, hh, sizeOf, typeInfo, hi, hsize]
  | some p =>
    rw [hA p rfl]
    simp [Instr.sliceAt, run_underlying E.sl, Instr.slice, Instr.sliceBounds, run_sliceBound, hh, sizeOf, typeInfo, hi, hsize, Addr.add_lit]
set_option maxRecDepth 100000 in
set_option maxHeartbeats 6400000 in
theorem radd_any {w : World} {F S : Nat → Prop} {a : Nat} {t : RM} {l : List Chk.Ck} (h : RAt w F S a t l) (hb : ∀ b, F b ∨ S b → b < w.heap.size) (dg : List UInt8) (hdg : dg.length = 16) (pr : Int) (hp : Chk.inR pr 4294967296) (u : Chk.Un) (tn : Int) :
    Calls Try.prog 43 #[.pointer (some ⟨a, 0, none⟩), .agg (bvs dg).toArray, .int .u32 pr, unV u, .int .i64 tn] w (RAdd w F S a (Chk.add l dg pr u tn)) := by
  obtain ⟨D, hD⟩ : ∃ D, bvs dg = D := ⟨_, rfl⟩
  have hDL : D.length = 16 := by rw [← hD, bvs_length, hdg]
  have HD := Lib.hid hD
  have HDL := Lib.hid hDL
  rw [hD]
  obtain ⟨w0, hw0⟩ : ∃ z, (w.alloc (.cells D.toArray 42)).alloc (.cells #[.int .i64 u.r, .int .i64 u.g, .int .i64 u.u] 26) = z := ⟨_, rfl⟩
  have hb0 : Below w.heap.size w w0 := by rw [← hw0]; exact box_below2 w _ _
  have hsz0 : w0.heap.size = w.heap.size + 2 := by rw [← hw0]; simp
  have hrD : IsRow w0 w.heap.size 42 D := by rw [← hw0]; exact (IsRow.new w _ D).alloc _
  have hrU : IsRow w0 (w.heap.size + 1) 26 [.int .i64 u.r, .int .i64 u.g, .int .i64 u.u] := by
    have := IsRow.new (w.alloc (.cells D.toArray 42)) 26 [.int .i64 u.r, .int .i64 u.g, .int .i64 u.u]
    rw [show (w.alloc (.cells D.toArray 42)).heap.size = w.heap.size + 1 by simp] at this
    rw [← hw0]; exact this
  have HW0 := Lib.hid hw0
  have HB0 := Lib.hid hb0
  have HX := Lib.hid (And.intro hsz0 (And.intro hrD hrU))
  have H := Lib.hid (h.below hb0)
  have HVL := Lib.hid (fun W s hs => refValid_any u W s hs)
  have HUV : Hid (unV u = .agg #[.int .i64 u.r, .int .i64 u.g, .int .i64 u.u]) := Lib.hid rfl
  have HTN := Lib.hid (fun W s hs => rtenant_any tn W s hs)
  have HSM := Lib.hid (fun W (hW : Below w.heap.size w W) => ROp.same h hb hW)
  have HAT := Lib.hid (fun W (hW : Below w0.heap.size w0 W) v q hv hq => rat_any (H.out.below hW) u v q hv hq)
  obtain ⟨v, hv⟩ : ∃ v, (Chk.unitAt l u).getD 0 = v := ⟨_, rfl⟩
  obtain ⟨q, hq⟩ : ∃ q, (Chk.unitAt l u).isSome = q := ⟨_, rfl⟩
  have HAT2 := Lib.hid (fun W hW => HAT.out W hW v q hv hq)
  rw [HUV.out] at HAT2 ⊢
  obtain ⟨s, hs⟩ : ∃ s, decide (Chk.valid u) = s := ⟨_, rfl⟩
  have HV := Lib.hid (fun W => HVL.out W s hs)
  rw [HUV.out] at HV
  obtain ⟨s2, hs2⟩ : ∃ s, decide (Chk.tenant tn) = s := ⟨_, rfl⟩
  have HT := Lib.hid (fun W => HTN.out W s2 hs2)
  have hlen := h.len.1
  have hmx := h.max
  have b0 := hrU.cell 0
  have b1 := hrU.cell 1
  have b2 := hrU.cell 2
  dsimp only [List.getElem?_cons_zero, List.getElem?_cons_succ] at b0 b1 b2
  have HBB := Lib.hid (fun (W : World) (hW : Below w0.heap.size w0 W) => And.intro ((hrU.below' hW).cell 0) (And.intro ((hrU.below' hW).cell 1) ((hrU.below' hW).cell 2)))
  clear hw0 hb0 hsz0 hrD hrU hD hDL HAT HVL HTN
  cases s with
  | false =>
    have e : Chk.add l dg pr u tn = (l, 0, 1) := by unfold Chk.add; rw [if_pos (fun hh => by rw [decide_eq_true hh.1] at hs; cases hs)]
    rw [e]
    clear h hb e hs hs2 hq hv hlen
    go_enter Try.func43, Try.ntmps43
    go_wp2_with (rw [HW0.out]; go_at_call 31; refine (HV.out _).mono ?_; rintro e w1 ⟨rfl, v1⟩)
    go_ret2
    exact ⟨rfl, HSM.out _ (HB0.out.trans (v1.mono HB0.out.size))⟩
  | true =>
    have hu := of_decide_eq_true hs
    cases s2 with
    | false =>
      have e : Chk.add l dg pr u tn = (l, 0, 1) := by unfold Chk.add; rw [if_pos (fun hh => by rw [decide_eq_true hh.2] at hs2; cases hs2)]
      rw [e]
      clear h hb e hs hs2 hq hv hlen hu
      go_enter Try.func43, Try.ntmps43
      go_wp2_with (first
        | (go_at_call 77; refine (HT.out _).mono ?_; rintro e w2 ⟨rfl, hw2⟩; obtain rfl := hw2.symm)
        | (rw [HW0.out]; go_at_call 31; refine (HV.out _).mono ?_; rintro e w1 ⟨rfl, v1⟩))
      go_ret2
      exact ⟨rfl, HSM.out _ (HB0.out.trans (v1.mono HB0.out.size))⟩
    | true =>
      have ht := of_decide_eq_true hs2
      cases q with
      | true =>
        have e : Chk.add l dg pr u tn = (l, 0, 20) := by unfold Chk.add; rw [if_neg (fun hh => hh ⟨hu, ht⟩), if_pos hq]
        rw [e]
        clear h hb e hs hs2 hq hv hlen hu ht
        go_enter Try.func43, Try.ntmps43
        go_wp2_with (first
          | (go_at_call 77; refine (HT.out _).mono ?_; rintro e w2 ⟨rfl, hw2⟩; obtain rfl := hw2.symm; obtain ⟨y0, y1, y2⟩ := HBB.out _ v1)
          | (go_at_call 17; refine (HAT2.out _ v1).mono ?_; rintro e w3 ⟨rfl, v3⟩)
          | (rw [HW0.out]; go_at_call 31; refine (HV.out _).mono ?_; rintro e w1 ⟨rfl, v1⟩))
        go_ret2
        have v4 := v1.trans (v3.mono v1.size)
        exact ⟨rfl, HSM.out _ (HB0.out.trans (v4.mono HB0.out.size))⟩
      | false =>
        by_cases hfull : 65536 ≤ t.n
        · have e : Chk.add l dg pr u tn = (l, 0, 2) := by unfold Chk.add; rw [if_neg (fun hh => hh ⟨hu, ht⟩), if_neg (by rw [hq]; simp), if_pos (by rw [hlen]; exact hfull)]
          rw [e]
          have hn : (t.n : Int) = 65536 := by omega
          have HRD := Lib.hid (fun W hW => H.out.rd (w' := W) hW)
          have HN := Lib.hid hn
          clear h hb e hs hs2 hq hv hlen hu ht hfull hn hmx
          go_enter Try.func43, Try.ntmps43
          go_upto_region 6 with (first
            | (go_at_call 77; refine (HT.out _).mono ?_; rintro e w2 ⟨rfl, hw2⟩; obtain rfl := hw2.symm; obtain ⟨y0, y1, y2⟩ := HBB.out _ v1)
            | (go_at_call 17; refine (HAT2.out _ v1).mono ?_; rintro e w3 ⟨rfl, v3⟩)
            | (rw [HW0.out]; go_at_call 31; refine (HV.out _).mono ?_; rintro e w1 ⟨rfl, v1⟩))
          have v4 := v1.trans (v3.mono v1.size)
          have c0 := HRD.out _ v4
          have hd : decide ((65536 : Int) ≤ (t.n : Int)) = true := by rw [HN.out]; rfl
          go_wp2_with fail
          go_ret2
          exact ⟨rfl, HSM.out _ (HB0.out.trans (v4.mono HB0.out.size))⟩
        · obtain ⟨k, hk⟩ : ∃ k, Chk.gap (Chk.ids l) = k := ⟨_, rfl⟩
          have hkle : k ≤ t.n := by rw [← hk, ← hlen]; simpa using Chk.gap_le (Chk.ids l)
          have e : Chk.add l dg pr u tn = (l.take k ++ ⟨(k : Int) + 1, dg, pr, u, false, [⟨tn, 1⟩]⟩ :: l.drop k, (k : Int) + 1, 0) := by
            unfold Chk.add; rw [if_neg (fun hh => hh ⟨hu, ht⟩), if_neg (by rw [hq]; simp), if_neg (by rw [hlen]; exact hfull), hk]
          have hi : Chk.Inv (Chk.add l dg pr u tn).1 := h.inv.add u tn hdg hp
          rw [e] at hi ⊢
          have hbelow : ∀ j, j < k → (Chk.nth l j).id = (j : Int) + 1 := fun j hj => Chk.gap_below (Chk.ids l) j _ (by rw [hk]; exact hj) (by rw [List.getElem?_map, Chk.nth_get (by rw [hlen]; omega)]; rfl)
          have habove : k < t.n → (Chk.nth l k).id ≠ (k : Int) + 1 := fun hkn => by
            have := Chk.gap_above (Chk.ids l) (Chk.nth l k).id (by rw [hk, List.getElem?_map, Chk.nth_get (by rw [hlen]; exact hkn)]; rfl)
            rwa [hk] at this
          rcases Nat.lt_or_eq_of_le hkle with hkn | hkn
          · have hmx' : t.n < 65536 := by omega
            have hhn : k < t.n := hkn
            have HEND := Lib.hid (fun (W7 W10 : World) (br n2 c2 : Nat) (A2 : Option Addr) hB7 hbr hrow hB10 hn2 ho => h.added (k := k) (c := ⟨(k : Int) + 1, dg, pr, u, false, [⟨tn, 1⟩]⟩) (W7 := W7) (W10 := W10) (br := br) (n2 := n2) (c2 := c2) (A2 := A2) hb rfl hB7 hbr hrow hB10 hn2 ho hi)
            have HRD := Lib.hid (fun W hW => H.out.rd (w' := W) hW)
            have HBE := Lib.hid hbelow
            have HAB := Lib.hid habove
            have HEL : Hid (∀ W, Below w0.heap.size w0 W → ∀ j, j < t.n → ∃ g, t.A = some ⟨g, 0, none⟩ ∧ W.cell? ⟨g, j * 23, none⟩ = some (.int .i64 (Chk.nth l j).id)) := Lib.hid (fun W hW j hj => by
              obtain ⟨g, x, hA, _, _, hn, _, hck, hrg⟩ := (H.out.below hW).at hj
              exact ⟨g, hA, by rw [hn]; exact (ck_cells hck.dg hrg).1⟩)
            have hA0 : ∀ p, t.A = some p → p = ⟨p.block, 0, none⟩ := fun p hpA => by
              rcases h.own.2 with h0 | ⟨g, cap, cur, hv, hg, hh, r⟩
              · injection h0.1 with h1; rw [hpA] at h1; cases h1
              · injection hv with h1; rw [hpA] at h1; rw [Option.some.inj h1]
            have hcap := h.cap
            have hcut1 := fun W => run_cutHiO (P := Try.prog) W chunkT t.A t.n t.c k .i64 (by omega) hA0
            have hcut2 := fun W => run_cutFrom (P := Try.prog) W chunkT t.A t.n t.c k .i64 hkle
            obtain ⟨A3, hA3⟩ : ∃ y, (if t.c = k then t.A else t.A.map (·.add (k * 23))) = y := ⟨_, rfl⟩
            simp only [hA3] at hcut2
            have HROW := Lib.hid (fun (W : World) (hW : Below w.heap.size w W) => (h.below hW).row)
            have HR1 := Lib.hid (fun (W : World) (hW : Below w.heap.size w W) => show Rd W W.heap.size 23 t.A k (crs (t.D.take k)) from by
              have := (Rd.of_own (h.below hW).own).take hkle
              rwa [flat_take h.dl] at this)
            have HR2 := Lib.hid (fun (W : World) (hW : Below w.heap.size w W) => show Rd W W.heap.size 23 A3 (t.n - k) (crs (t.D.drop k)) from by
              have := (Rd.of_own (h.below hW).own).cut hkle hcap.1
              rw [flat_drop h.dl] at this
              rwa [hA3] at this)
            have HCK : Hid (∀ v, ckCells ⟨(k : Int) + 1, dg, pr, u, false, [⟨tn, 1⟩]⟩ v = [.int .i64 ((k : Int) + 1)] ++ (D ++ [.int .u32 pr, .int .i64 u.r, .int .i64 u.g, .int .i64 u.u, .bool false, v])) := Lib.hid (fun v => by rw [← HD.out]; rfl)
            have ew0 : IntKind.i64.wrap ((k : Int) + 1) = (k : Int) + 1 := IntWalk.i64_in _ (by omega)
            have HEW := Lib.hid ew0
            have hdn : decide ((65536 : Int) ≤ (t.n : Int)) = false := decide_eq_false (by omega)
            have HDN := Lib.hid hdn
            clear h hb e hs hs2 hq hv hlen hu ht hfull hi hbelow habove hA0 hA3 hkn hcap hk ew0 hdn
            go_enter Try.func43, Try.ntmps43
            go_upto_region 6 with (first
              | (go_at_call 77; refine (HT.out _).mono ?_; rintro e w2 ⟨rfl, hw2⟩; obtain rfl := hw2.symm; obtain ⟨y0, y1, y2⟩ := HBB.out _ v1)
              | (go_at_call 17; refine (HAT2.out _ v1).mono ?_; rintro e w3 ⟨rfl, v3⟩)
              | (rw [HW0.out]; go_at_call 31; refine (HV.out _).mono ?_; rintro e w1 ⟨rfl, v1⟩))
            have v4 := v1.trans (v3.mono v1.size)
            have HV4 := Lib.hid v4
            have c0 := HRD.out _ v4
            have hd := HDN.out
            clear y0 y1 y2 b0 b1 b2 v1 v3 v4
            go_upto_region 9 with fail
            clear hd
            go_loop [14] (fun u14 => ∃ j : Nat, j ≤ k ∧ u14 = .int .i64 (j : Int)) (fun u14 => k - (intOf u14).toNat)
            case atStart => exact ⟨0, Nat.zero_le _, rfl⟩
            case round =>
              obtain ⟨j, hj, rfl⟩ := hrel
              by_cases hlt : j < k
              · obtain ⟨g, hA, k0⟩ := HEL.out _ HV4.out j (by omega)
                rw [hA] at c0
                rw [HBE.out j hlt] at k0
                have ew : IntKind.i64.wrap ((j : Int) + 1) = (j : Int) + 1 := IntWalk.i64_in _ (by omega)
                have e1 : (0 : Int) ≤ (j : Int) := by omega
                have e2 : (j : Int) < (t.n : Int) := by omega
                clear hA hcut1 hcut2
                go_wp2
                go_round
                case rel => exact ⟨j + 1, by omega, by go_num⟩
                case measure => simp [intOf]; omega
              · obtain rfl : k = j := by omega
                obtain ⟨g, hA, k0⟩ := HEL.out _ HV4.out k hhn
                have hxi := HAB.out hhn
                obtain ⟨xi, hxe⟩ : ∃ y, (Chk.nth l k).id = y := ⟨_, rfl⟩
                rw [hxe] at k0 hxi
                have hxb : (xi == (k : Int) + 1) = false := beq_eq_false_iff_ne.2 hxi
                have ew := HEW.out
                have e1 : (0 : Int) ≤ (k : Int) := by omega
                have e2 : (k : Int) < (t.n : Int) := by omega
                have c0s := c0
                rw [hA] at c0
                clear hxe hxi
                go_upto_region 11 with fail
                clear c0 k0 hxb ew c0s hA
                have rD := HX.out.2.1.below' HV4.out
                obtain ⟨z0, z1, z2⟩ := HBB.out _ HV4.out
                have ew := HEW.out
                obtain ⟨cs, hcs⟩ : ∃ cs, ckCells ⟨(k : Int) + 1, dg, pr, u, false, [⟨tn, 1⟩]⟩ (.slice (some ⟨w3.heap.size, 0, none⟩) 1 1) = cs := ⟨_, rfl⟩
                have hbt := built_ck ((k : Int) + 1) pr u.r u.g u.u D HDL.out (.slice (some ⟨w3.heap.size, 0, none⟩) 1 1) ⟨_, _, _, rfl⟩
                rw [← HCK.out, hcs] at hbt
                have HBT := Lib.hid hbt
                have HCS := Lib.hid hcs
                have HCL : Hid (cs.length = 23) := Lib.hid (by rw [← hcs]; exact ckCells_len hdg _)
                have HCO : Hid (∀ x ∈ cs, x.oneCell' = true) := Lib.hid (by rw [← hcs]; exact ckCells_one _ _ rfl)
                clear hbt hcs hj hlt
                go_upto_region 12 with (first
                  | (refine wpList_loadRow rfl _ (.tmp 6) rfl rD rfl Try.underlying42 (by rw [HDL.out]; exact size16d) ?_)
                  | (refine wpList_buildTo rfl 45 _ rfl (some 68) rfl cs.toArray (by simpa [Act.eval] using HBT.out) ?_)
                  | (refine wpList_allocRow rfl _ rfl _ infoCk' ?_; intro w6 rz6 b6 z6)
                  | (refine wpList_storeRow rfl _ (.tmp 15) (.tmp 68) rfl (l' := cs) rz6 rfl rfl (by rw [HCL.out]; exact sizeCk) (by rw [HCL.out]; rfl) (List.all_eq_true.2 HCO.out) ?_; intro w7 rz7 g7 z7))
                have e58 : w3.heap.size + 1 = (w3.alloc (.cells #[.int .i64 tn, .int .i64 1] 83)).heap.size := by simp
                have hb37 : Below w3.heap.size w3 w7 := (((Below.refl _ w3).alloc (Nat.le_refl _) _).trans (b6.mono (by rw [← e58]; omega))).grown g7 (by rw [z6, ← e58]; omega) (fun i hi => by have := Option.some.inj hi; rw [← e58] at this; omega)
                have hbr : IsRow w7 w3.heap.size 83 [.int .i64 tn, .int .i64 1] := (((IsRow.new w3 83 [.int .i64 tn, .int .i64 1])).below' b6).grown g7 (fun e => by have := Option.some.inj e; rw [← e58] at this; omega)
                obtain ⟨bc, hbc⟩ : ∃ x, (w3.alloc (.cells #[.int .i64 tn, .int .i64 1] 83)).heap.size = x := ⟨_, rfl⟩
                rw [hbc] at rz7 ⊢
                obtain ⟨br, hbre⟩ : ∃ x, w3.heap.size = x := ⟨_, rfl⟩
                rw [hbre] at HCS hbr ⊢
                have hb03 := HB0.out.trans (HV4.out.mono HB0.out.size)
                have HB7 := Lib.hid (hb03.trans (hb37.mono hb03.size))
                have HBR : Hid (w.heap.size ≤ br ∧ IsRow w7 br 83 [.int .i64 tn, .int .i64 1]) := Lib.hid ⟨by rw [← hbre]; exact hb03.size, hbr⟩
                have HR7 := Lib.hid rz7
                clear rD z0 z1 z2 rz6 b6 z6 g7 z7 e58 hb37 hbr rz7 hbc hbre hb03 HBT
                try clear c0
                try clear ew
                have c0 := (HROW.out _ HB7.out).cell 0
                try simp only [Act.put, List.setIfInBounds_toArray, List.set_cons_zero, List.set_cons_succ]
                go_upto_region 14 with (at_builtin; refine wpList_appR rfl (.tmp 69) (.tmp 75) 32 rfl w7.heap.size 45 _ 23 88 chunkT none 0 0 [] t.A k t.c (crs (t.D.take k)) rfl rfl (World.ownsRow_nil _ _ _ _) (HR1.out _ HB7.out) (crs_one _) (Below.refl _ _) (by omega) (Nat.le_refl _) (Nat.le_refl _) ?_; intro A1 c1 w8 own8 b8; simp only [Nat.zero_add, List.nil_append] at own8; simp only [Nat.zero_add]; have HO8 := Lib.hid own8; clear own8)
                have HB8 := Lib.hid b8
                have rg8 : w8.rangeAt bc 0 cs := fun q x hx => (by rw [Nat.zero_add, (HR7.out.below' b8).cell]; exact hx)
                clear c0 b8
                go_upto_region 15 with (first
                  | (refine wpList_load_mid rfl _ (.tmp 15) rfl bc 0 rfl cs _ rg8 Try.underlying45 rfl (by rw [HCL.out]; exact sizeCk) ?_)
                  | (at_builtin; refine wpList_appN rfl (.tmp 77) (.tmp 79) 32 rfl w7.heap.size 45 _ 23 88 chunkT A1 k c1 (crs (t.D.take k)) cs _ rfl rfl rfl HO8.out HB8.out HCL.out HCO.out (by omega) (Nat.le_refl _) HB8.out.size ?_; intro g9 c9 w9 own9 b9 hg9; have HO9 := Lib.hid own9; have HB9 := Lib.hid b9; clear own9 b9 hg9)
                  | (refine wpList_plain rfl fun K hK => wp_build23 (.tmp 78) rfl cs HCL.out rfl (hK _ _ ?_); clear hK K))
                have hb79 := HB7.out.trans (HB9.out.mono HB7.out.size)
                have c0 := (HROW.out _ hb79).cell 0
                have HR9 := Lib.hid (HR2.out _ hb79)
                clear rg8 hb79
                try simp only [Act.put, List.setIfInBounds_toArray, List.set_cons_zero, List.set_cons_succ]
                go_wp2_with (at_builtin; refine wpList_appR rfl (.tmp 82) (.tmp 88) 32 rfl w7.heap.size 45 _ 23 88 chunkT (some ⟨g9, 0, none⟩) (k + 1) c9 (crs (t.D.take k) ++ cs) A3 (t.n - k) (t.c - k) (crs (t.D.drop k)) rfl rfl HO9.out HR9.out (crs_one _) HB9.out (by omega) (Nat.le_refl _) HB9.out.size ?_; intro A10 c10 w10 own10 b10; have HO10 := Lib.hid own10; have HB10 := Lib.hid b10; have c010 := (HROW.out _ (HB7.out.trans (b10.mono HB7.out.size))).cell 0; have f010 := (HROW.out _ (HB7.out.trans (b10.mono HB7.out.size))).frozen 0; clear own10 b10)
                go_ret2
                have hro : IsRow w7 br 83 (rfs [⟨tn, 1⟩]) := HBR.out.2
                have hown := HO10.out
                rw [← HCS.out] at hown
                have hfin := HEND.out w7 w10 br (k + 1 + (t.n - k)) c10 A10 HB7.out HBR.out.1 hro HB10.out (by omega) hown
                refine ⟨rfl, ?_⟩
                exact hfin
          · have hmx' : t.n < 65536 := by omega
            have HKN := Lib.hid hkn
            have HEND := Lib.hid (fun (W7 W10 : World) (br n2 c2 : Nat) (A2 : Option Addr) hB7 hbr hrow hB10 hn2 ho => h.added (k := k) (c := ⟨(k : Int) + 1, dg, pr, u, false, [⟨tn, 1⟩]⟩) (W7 := W7) (W10 := W10) (br := br) (n2 := n2) (c2 := c2) (A2 := A2) hb rfl hB7 hbr hrow hB10 hn2 ho hi)
            have HRD := Lib.hid (fun W hW => H.out.rd (w' := W) hW)
            have HBE := Lib.hid hbelow
            have HAB := Lib.hid habove
            have HEL : Hid (∀ W, Below w0.heap.size w0 W → ∀ j, j < t.n → ∃ g, t.A = some ⟨g, 0, none⟩ ∧ W.cell? ⟨g, j * 23, none⟩ = some (.int .i64 (Chk.nth l j).id)) := Lib.hid (fun W hW j hj => by
              obtain ⟨g, x, hA, _, _, hn, _, hck, hrg⟩ := (H.out.below hW).at hj
              exact ⟨g, hA, by rw [hn]; exact (ck_cells hck.dg hrg).1⟩)
            have hA0 : ∀ p, t.A = some p → p = ⟨p.block, 0, none⟩ := fun p hpA => by
              rcases h.own.2 with h0 | ⟨g, cap, cur, hv, hg, hh, r⟩
              · injection h0.1 with h1; rw [hpA] at h1; cases h1
              · injection hv with h1; rw [hpA] at h1; rw [Option.some.inj h1]
            have hcap := h.cap
            have hcut1 := fun W => run_cutHiO (P := Try.prog) W chunkT t.A t.n t.c k .i64 (by omega) hA0
            have hcut2 := fun W => run_cutFrom (P := Try.prog) W chunkT t.A t.n t.c k .i64 hkle
            obtain ⟨A3, hA3⟩ : ∃ y, (if t.c = k then t.A else t.A.map (·.add (k * 23))) = y := ⟨_, rfl⟩
            simp only [hA3] at hcut2
            have HROW := Lib.hid (fun (W : World) (hW : Below w.heap.size w W) => (h.below hW).row)
            have HR1 := Lib.hid (fun (W : World) (hW : Below w.heap.size w W) => show Rd W W.heap.size 23 t.A k (crs (t.D.take k)) from by
              have := (Rd.of_own (h.below hW).own).take hkle
              rwa [flat_take h.dl] at this)
            have HR2 := Lib.hid (fun (W : World) (hW : Below w.heap.size w W) => show Rd W W.heap.size 23 A3 (t.n - k) (crs (t.D.drop k)) from by
              have := (Rd.of_own (h.below hW).own).cut hkle hcap.1
              rw [flat_drop h.dl] at this
              rwa [hA3] at this)
            have HCK : Hid (∀ v, ckCells ⟨(k : Int) + 1, dg, pr, u, false, [⟨tn, 1⟩]⟩ v = [.int .i64 ((k : Int) + 1)] ++ (D ++ [.int .u32 pr, .int .i64 u.r, .int .i64 u.g, .int .i64 u.u, .bool false, v])) := Lib.hid (fun v => by rw [← HD.out]; rfl)
            have ew0 : IntKind.i64.wrap ((k : Int) + 1) = (k : Int) + 1 := IntWalk.i64_in _ (by omega)
            have HEW := Lib.hid ew0
            have hdn : decide ((65536 : Int) ≤ (t.n : Int)) = false := decide_eq_false (by omega)
            have HDN := Lib.hid hdn
            clear h hb e hs hs2 hq hv hlen hu ht hfull hi hbelow habove hA0 hA3 hkn hcap hk ew0 hdn
            go_enter Try.func43, Try.ntmps43
            go_upto_region 6 with (first
              | (go_at_call 77; refine (HT.out _).mono ?_; rintro e w2 ⟨rfl, hw2⟩; obtain rfl := hw2.symm; obtain ⟨y0, y1, y2⟩ := HBB.out _ v1)
              | (go_at_call 17; refine (HAT2.out _ v1).mono ?_; rintro e w3 ⟨rfl, v3⟩)
              | (rw [HW0.out]; go_at_call 31; refine (HV.out _).mono ?_; rintro e w1 ⟨rfl, v1⟩))
            have v4 := v1.trans (v3.mono v1.size)
            have HV4 := Lib.hid v4
            have c0 := HRD.out _ v4
            have hd := HDN.out
            clear y0 y1 y2 b0 b1 b2 v1 v3 v4
            go_upto_region 9 with fail
            clear hd
            go_loop [14] (fun u14 => ∃ j : Nat, j ≤ k ∧ u14 = .int .i64 (j : Int)) (fun u14 => k - (intOf u14).toNat)
            case atStart => exact ⟨0, Nat.zero_le _, rfl⟩
            case round =>
              obtain ⟨j, hj, rfl⟩ := hrel
              by_cases hlt : j < k
              · obtain ⟨g, hA, k0⟩ := HEL.out _ HV4.out j (by omega)
                rw [hA] at c0
                rw [HBE.out j hlt] at k0
                have ew : IntKind.i64.wrap ((j : Int) + 1) = (j : Int) + 1 := IntWalk.i64_in _ (by omega)
                have e1 : (0 : Int) ≤ (j : Int) := by omega
                have e2 : (j : Int) < (t.n : Int) := by omega
                clear hA hcut1 hcut2
                go_wp2
                go_round
                case rel => exact ⟨j + 1, by omega, by go_num⟩
                case measure => simp [intOf]; omega
              · obtain rfl : k = j := by omega
                have hkk : t.n ≤ k := by have := HKN.out; omega
                have hdk : decide ((k : Int) < (t.n : Int)) = false := decide_eq_false (by omega)
                go_upto_region 11 with fail
                clear hkk hdk
                have rD := HX.out.2.1.below' HV4.out
                obtain ⟨z0, z1, z2⟩ := HBB.out _ HV4.out
                have ew := HEW.out
                obtain ⟨cs, hcs⟩ : ∃ cs, ckCells ⟨(k : Int) + 1, dg, pr, u, false, [⟨tn, 1⟩]⟩ (.slice (some ⟨w3.heap.size, 0, none⟩) 1 1) = cs := ⟨_, rfl⟩
                have hbt := built_ck ((k : Int) + 1) pr u.r u.g u.u D HDL.out (.slice (some ⟨w3.heap.size, 0, none⟩) 1 1) ⟨_, _, _, rfl⟩
                rw [← HCK.out, hcs] at hbt
                have HBT := Lib.hid hbt
                have HCS := Lib.hid hcs
                have HCL : Hid (cs.length = 23) := Lib.hid (by rw [← hcs]; exact ckCells_len hdg _)
                have HCO : Hid (∀ x ∈ cs, x.oneCell' = true) := Lib.hid (by rw [← hcs]; exact ckCells_one _ _ rfl)
                clear hbt hcs hj hlt
                go_upto_region 12 with (first
                  | (refine wpList_loadRow rfl _ (.tmp 6) rfl rD rfl Try.underlying42 (by rw [HDL.out]; exact size16d) ?_)
                  | (refine wpList_buildTo rfl 45 _ rfl (some 68) rfl cs.toArray (by simpa [Act.eval] using HBT.out) ?_)
                  | (refine wpList_allocRow rfl _ rfl _ infoCk' ?_; intro w6 rz6 b6 z6)
                  | (refine wpList_storeRow rfl _ (.tmp 15) (.tmp 68) rfl (l' := cs) rz6 rfl rfl (by rw [HCL.out]; exact sizeCk) (by rw [HCL.out]; rfl) (List.all_eq_true.2 HCO.out) ?_; intro w7 rz7 g7 z7))
                have e58 : w3.heap.size + 1 = (w3.alloc (.cells #[.int .i64 tn, .int .i64 1] 83)).heap.size := by simp
                have hb37 : Below w3.heap.size w3 w7 := (((Below.refl _ w3).alloc (Nat.le_refl _) _).trans (b6.mono (by rw [← e58]; omega))).grown g7 (by rw [z6, ← e58]; omega) (fun i hi => by have := Option.some.inj hi; rw [← e58] at this; omega)
                have hbr : IsRow w7 w3.heap.size 83 [.int .i64 tn, .int .i64 1] := (((IsRow.new w3 83 [.int .i64 tn, .int .i64 1])).below' b6).grown g7 (fun e => by have := Option.some.inj e; rw [← e58] at this; omega)
                obtain ⟨bc, hbc⟩ : ∃ x, (w3.alloc (.cells #[.int .i64 tn, .int .i64 1] 83)).heap.size = x := ⟨_, rfl⟩
                rw [hbc] at rz7 ⊢
                obtain ⟨br, hbre⟩ : ∃ x, w3.heap.size = x := ⟨_, rfl⟩
                rw [hbre] at HCS hbr ⊢
                have hb03 := HB0.out.trans (HV4.out.mono HB0.out.size)
                have HB7 := Lib.hid (hb03.trans (hb37.mono hb03.size))
                have HBR : Hid (w.heap.size ≤ br ∧ IsRow w7 br 83 [.int .i64 tn, .int .i64 1]) := Lib.hid ⟨by rw [← hbre]; exact hb03.size, hbr⟩
                have HR7 := Lib.hid rz7
                clear rD z0 z1 z2 rz6 b6 z6 g7 z7 e58 hb37 hbr rz7 hbc hbre hb03 HBT
                try clear c0
                try clear ew
                have c0 := (HROW.out _ HB7.out).cell 0
                try simp only [Act.put, List.setIfInBounds_toArray, List.set_cons_zero, List.set_cons_succ]
                go_upto_region 14 with (at_builtin; refine wpList_appR rfl (.tmp 69) (.tmp 75) 32 rfl w7.heap.size 45 _ 23 88 chunkT none 0 0 [] t.A k t.c (crs (t.D.take k)) rfl rfl (World.ownsRow_nil _ _ _ _) (HR1.out _ HB7.out) (crs_one _) (Below.refl _ _) (by omega) (Nat.le_refl _) (Nat.le_refl _) ?_; intro A1 c1 w8 own8 b8; simp only [Nat.zero_add, List.nil_append] at own8; simp only [Nat.zero_add]; have HO8 := Lib.hid own8; clear own8)
                have HB8 := Lib.hid b8
                have rg8 : w8.rangeAt bc 0 cs := fun q x hx => (by rw [Nat.zero_add, (HR7.out.below' b8).cell]; exact hx)
                clear c0 b8
                go_upto_region 15 with (first
                  | (refine wpList_load_mid rfl _ (.tmp 15) rfl bc 0 rfl cs _ rg8 Try.underlying45 rfl (by rw [HCL.out]; exact sizeCk) ?_)
                  | (at_builtin; refine wpList_appN rfl (.tmp 77) (.tmp 79) 32 rfl w7.heap.size 45 _ 23 88 chunkT A1 k c1 (crs (t.D.take k)) cs _ rfl rfl rfl HO8.out HB8.out HCL.out HCO.out (by omega) (Nat.le_refl _) HB8.out.size ?_; intro g9 c9 w9 own9 b9 hg9; have HO9 := Lib.hid own9; have HB9 := Lib.hid b9; clear own9 b9 hg9)
                  | (refine wpList_plain rfl fun K hK => wp_build23 (.tmp 78) rfl cs HCL.out rfl (hK _ _ ?_); clear hK K))
                have hb79 := HB7.out.trans (HB9.out.mono HB7.out.size)
                have c0 := (HROW.out _ hb79).cell 0
                have HR9 := Lib.hid (HR2.out _ hb79)
                clear rg8 hb79
                try simp only [Act.put, List.setIfInBounds_toArray, List.set_cons_zero, List.set_cons_succ]
                go_wp2_with (at_builtin; refine wpList_appR rfl (.tmp 82) (.tmp 88) 32 rfl w7.heap.size 45 _ 23 88 chunkT (some ⟨g9, 0, none⟩) (k + 1) c9 (crs (t.D.take k) ++ cs) A3 (t.n - k) (t.c - k) (crs (t.D.drop k)) rfl rfl HO9.out HR9.out (crs_one _) HB9.out (by omega) (Nat.le_refl _) HB9.out.size ?_; intro A10 c10 w10 own10 b10; have HO10 := Lib.hid own10; have HB10 := Lib.hid b10; have c010 := (HROW.out _ (HB7.out.trans (b10.mono HB7.out.size))).cell 0; have f010 := (HROW.out _ (HB7.out.trans (b10.mono HB7.out.size))).frozen 0; clear own10 b10)
                go_ret2
                have hro : IsRow w7 br 83 (rfs [⟨tn, 1⟩]) := HBR.out.2
                have hown := HO10.out
                rw [← HCS.out] at hown
                have hfin := HEND.out w7 w10 br (k + 1 + (t.n - k)) c10 A10 HB7.out HBR.out.1 hro HB10.out (by omega) hown
                refine ⟨rfl, ?_⟩
                exact hfin
end Go.Proofs.Ytcicfneekmbamaa
