/- The law ChunksUnits. Conditions: none beside the argument's form. -/
import Derived.Test.YtcicfneekmbamaaCLawKit
namespace Go.Proofs.Ytcicfneekmbamaa
set_option linter.unusedVariables false
set_option linter.unusedSimpArgs false
open Go.RowKit
namespace Chk
theorem pos_nth {l : List Ck} (h : Inv l) {k : Nat} (hk : k < l.length) : pos (ids l) (nth l k).id = some k := by
  cases hp : pos (ids l) (nth l k).id with
  | none => exact absurd rfl (pos_none hp (nth l k).id (List.mem_of_getElem? (i := k) (by rw [List.getElem?_map, nth_get hk]; rfl)))
  | some j =>
    obtain ⟨hj, hid⟩ := pos_lt hp
    rw [h.idx (nth_get hj) (nth_get hk) hid]
theorem at_nth {l : List Ck} (h : Inv l) {k : Nat} (hk : k < l.length) (hl : (nth l k).lost = false) : unitAt l (nth l k).at_ = some (nth l k).id :=
  (unitAt_some h).2 ⟨k, nth l k, nth_get hk, hl, rfl, rfl⟩
/-- a chunk occurs once among the live chunks of its stripe -/
theorem liveN_count {l : List Ck} (h : Inv l) {k : Nat} (hk : k < l.length) (hl : (nth l k).lost = false) (m : Nat) :
    (liveN l (nth l k).at_.r (nth l k).at_.g m).count (nth l k).id = if (nth l k).at_.u < (m : Int) then 1 else 0 := by
  have hv := (h.nth hk).un hl
  induction m with
  | zero => rw [if_neg (by have := hv.2.2.1; simp; omega)]; rfl
  | succ m ih =>
    rw [liveN_succ, List.count_append, ih]
    by_cases e : (nth l k).at_.u = (m : Int)
    · have e2 : (⟨(nth l k).at_.r, (nth l k).at_.g, (m : Nat)⟩ : Un) = (nth l k).at_ := by rw [← e]
      rw [e2, at_nth h hk hl, if_neg (by omega), if_pos (by omega)]
      simp
    · have hn : (unitAt l ⟨(nth l k).at_.r, (nth l k).at_.g, (m : Nat)⟩).toList.count (nth l k).id = 0 := by
        cases hu : unitAt l ⟨(nth l k).at_.r, (nth l k).at_.g, (m : Nat)⟩ with
        | none => rfl
        | some id =>
          rw [Option.toList_some, List.count_singleton]
          by_cases e3 : (id == (nth l k).id) = true
          · obtain ⟨j, c, hj, hc, hat, hid⟩ := (unitAt_some h).1 hu
            have e4 : j = k := h.idx hj (nth_get hk) (hid.trans (by simpa using e3))
            subst e4
            rw [nth_get hk] at hj
            obtain rfl := Option.some.inj hj
            exact absurd (congrArg Un.u hat) e
          · rw [if_neg e3]
      rw [hn]
      by_cases e5 : (nth l k).at_.u < (m : Int)
      · rw [if_pos e5, if_pos (by omega)]
      · rw [if_neg e5, if_neg (by omega)]
theorem live_count {l : List Ck} (h : Inv l) {k : Nat} (hk : k < l.length) (hl : (nth l k).lost = false) : (live l (nth l k).at_.r (nth l k).at_.g).count (nth l k).id = 1 := by
  have := liveN_count h hk hl 32
  rw [if_pos (by have := ((h.nth hk).un hl).2.2.2; omega)] at this
  exact this
end Chk
theorem TabNew.inv {w0 w : World} {a : Nat} {l : List Chk.Ck} (h : TabNew w0 w a l) : Chk.Inv l := h.g.inv
theorem count_take' {xs : List Int} {i : Nat} (h : i < xs.length) (x : Int) : (xs.take (i + 1)).count x = (xs.take i).count x + if xs[i] = x then 1 else 0 := by
  rw [List.take_succ_eq_append_getElem h, List.count_append, List.count_singleton]
  congr 1
  by_cases e : xs[i] = x <;> simp [e]
set_option maxRecDepth 100000 in
set_option maxHeartbeats 3200000 in
theorem lawUnits (A : Option Addr) (n c : Nat) (ops : List Chk.Op) (hl : ops.length = n) (hnc : n ≤ c) (hc : c ≤ 140737488355328) (hok : ∀ o ∈ ops, OpOk o) (w : World) (hr : Rd w w.heap.size 9 A n (ops.flatMap opL)) :
    Calls Try.prog 6 #[.slice A n c] w fun e w' => e = .returned (.bool true) ∧ Below w.heap.size w w' := by
  have HSN := Lib.hid sanity_any
  by_cases hn : n ≤ 120
  · have HBU := Lib.hid (build_any A n c ops w hn ⟨hr, hl, fun o ho => (hok o ho).2.2.2.2.2⟩)
    obtain ⟨l, hll⟩ : ∃ l, Chk.run [] ops = l := ⟨_, rfl⟩
    rw [hll] at HBU
    clear hr hok hll hl hn
    go_enter Try.func6, Try.ntmps6
    go_upto_region 4 with (go_at_call 11; refine HBU.out.mono ?_; rintro e w1 ⟨a, rfl, h1⟩; have H1 := Lib.hid h1; clear h1)
    obtain ⟨N, hN⟩ : ∃ N, l.length = N := ⟨_, rfl⟩
    have HN := Lib.hid hN
    have HID := Lib.hid (H1.out.g.ids_ N hN (Chk.ids l) rfl)
    have HIV := Lib.hid H1.out.inv
    have HBW := Lib.hid H1.out.g.b
    have HMX : Hid (N ≤ 65536) := Lib.hid (by rw [← hN]; exact H1.out.g.max)
    clear hN HBU
    go_upto_region 5 with (go_at_call 30; refine HID.out.mono ?_; rintro e w2 ⟨A2, c2, rfl, own2, b2⟩)
    have HT2 := Lib.hid (H1.out.below b2)
    have HB2 := Lib.hid (HBW.out.trans (b2.mono HBW.out.size))
    have HO2 := Lib.hid (Rd.of_own own2)
    clear own2 b2 HBW H1 HID
    go_loopw [25] (fun u25 wx => ∃ (wr : World) (j : Nat), wr = wx ∧ j ≤ N ∧ u25 = .int .i64 (j : Int) ∧ Hid (Below w2.heap.size w2 wr)) (fun u25 _ => N - (intOf u25).toNat)
    case atStart => exact ⟨_, 0, rfl, Nat.zero_le _, rfl, Lib.hid (Below.refl _ _)⟩
    case round =>
      obtain ⟨wr, j, rfl, hj, rfl, HB⟩ := hrel
      have hmx := HMX.out
      by_cases hlt : j < N
      · have hjl : j < l.length := by rw [HN.out]; exact hlt
        have hji : j < (Chk.ids l).length := by simpa using hjl
        obtain ⟨b, off, rfl, _, hx⟩ := (HO2.out.below HB.out).get hji
        have hxi : (Chk.ids l)[j] = (Chk.nth l j).id := by
          have h1 : (Chk.ids l)[j]? = some (Chk.nth l j).id := by rw [List.getElem?_map, Chk.nth_get hjl]; rfl
          rw [List.getElem?_eq_getElem hji] at h1
          exact Option.some.inj h1
        rw [hxi] at hx
        have hpos := Chk.pos_nth HIV.out hjl
        have hck := HIV.out.nth hjl
        have hatn := Chk.at_nth HIV.out hjl
        have hlc := Chk.live_count HIV.out hjl
        obtain ⟨x, hxx⟩ : ∃ x, Chk.nth l j = x := ⟨_, rfl⟩
        rw [hxx] at hx hpos hck hatn hlc
        have HGT := Lib.hid (((HT2.out.below HB.out).g).getOkN x.id j x hpos hxx x.refs.length rfl)
        obtain ⟨id, hid⟩ : ∃ id, x.id = id := ⟨_, rfl⟩
        obtain ⟨M, hM⟩ : ∃ M, x.refs.length = M := ⟨_, rfl⟩
        have hM1 : 1 ≤ M := by rw [← hM]; exact List.length_pos_iff.2 hck.some
        have hM2 : ((M : Int) == 0) = false := by rw [beq_eq_false_iff_ne]; omega
        rw [hid, hM] at HGT
        rw [hid] at hx hatn hlc
        have HDG := Lib.hid hck.dg
        have HAT := Lib.hid hatn
        have HLC := Lib.hid hlc
        have HLO := Lib.hid hck.lo
        have e1 : (0 : Int) ≤ (j : Int) := by omega
        have e2 : (j : Int) < (N : Int) := by omega
        have HID := Lib.hid hid
        clear hjl hji hxi hpos hatn hlc hxx hid hM hM1 hck
        go_upto_region 8 with (first
          | (go_at_call 14; refine HGT.out.mono ?_; rintro e w3 ⟨A3, k3, rfl, own3, b3⟩; clear own3; (have HAC := Lib.hid (ckCells_at x (.slice A3 M k3) HDG.out)); (have HLN := Lib.hid (ckCells_len (c := x) HDG.out (.slice A3 M k3))); (have HON := Lib.hid (List.all_eq_true.2 (ckCells_one x (.slice A3 M k3) rfl))); (obtain ⟨cs, hcs⟩ : ∃ cs, ckCells x (.slice A3 M k3) = cs := ⟨_, rfl⟩); rw [hcs] at HAC HLN HON ⊢; clear hcs)
          | (refine wpList_storeRow rfl _ (.tmp 7) (.tmp 33) rfl (l' := cs) rz4 rfl rfl (by rw [HLN.out]; exact sizeCk) (by rw [HLN.out]; rfl) HON.out ?_; intro w5 rz5 g5 z5; clear z5)
          | (refine wpList_allocRow rfl _ rfl _ infoCk' ?_; intro w4 rz4 b4 z4; clear z4))
        have hb5 : Below w3.heap.size w3 w5 := b4.grown g5 b4.size (fun i hi => by have := Option.some.inj hi; omega)
        have HB5 := Lib.hid (HB.out.trans ((b3.trans (hb5.mono b3.size)).mono HB.out.size))
        obtain ⟨b7, hb7⟩ : ∃ y, w3.heap.size = y := ⟨_, rfl⟩
        rw [hb7] at rz5 ⊢
        have q0 := (rz5.cell 0).trans HAC.out.1
        have q18 := (rz5.cell 18).trans HAC.out.2.2.1
        have q19 := (rz5.cell 19).trans HAC.out.2.2.2.1
        have q20 := (rz5.cell 20).trans HAC.out.2.2.2.2.1
        have q21 := (rz5.cell 21).trans HAC.out.2.2.2.2.2.1
        have q22 := (rz5.cell 22).trans HAC.out.2.2.2.2.2.2
        rw [HID.out] at q0
        have HR5 := Lib.hid rz5
        clear rz4 b4 g5 hb5 hb7 b3 rz5 hx
        try simp only [Act.put, List.setIfInBounds_toArray, List.set_cons_zero, List.set_cons_succ]
        cases hlo : x.lost with
        | true =>
          have hz := HLO.out hlo
          rw [hlo] at q21
          rw [hz] at q18 q19 q20
          have hne := fun W => neq_un W Chk.z
          unfold unV Chk.z at hne
          unfold Chk.z at q18 q19 q20
          go_wp2_with fail
          go_roundw
          case rel => exact ⟨_, j + 1, rfl, by omega, by go_num, HB5⟩
          case measure => simp [intOf]; omega
        | false =>
          rw [hlo] at q21
          have hat := HAT.out hlo
          have HQ := Lib.hid (HLC.out hlo)
          have HCA := Lib.hid ((HT2.out.below HB5.out).g.at_ x.at_ id true (by rw [hat]; rfl) (by rw [hat]; rfl))
          unfold unV at HCA
          obtain ⟨xs, hxs⟩ : ∃ xs, Chk.live l x.at_.r x.at_.g = xs := ⟨_, rfl⟩
          obtain ⟨nx, hnx⟩ : ∃ nx, xs.length = nx := ⟨_, rfl⟩
          have hnx32 : nx ≤ 32 := by rw [← hnx, ← hxs]; exact liveN_le l x.at_.r x.at_.g 32
          have HLV := Lib.hid (fun W hW => ((HT2.out.below (HB5.out.trans (Below.mono hW HB5.out.size))).g).live_ (w := W) x.at_.r x.at_.g xs hxs nx hnx)
          rw [hxs] at HQ
          have HNX := Lib.hid hnx
          clear hat hxs hnx
          go_upto_region 14 with (go_at_call 16; refine HCA.out.mono ?_; rintro e w6 ⟨rfl, b6⟩)
          have r6 := HR5.out.below' b6
          have q18' := (r6.cell 18).trans HAC.out.2.2.1
          have q19' := (r6.cell 19).trans HAC.out.2.2.2.1
          clear q0 q18 q19 q20 q21 q22 r6
          go_upto_region 16 with (go_at_call 20; refine (HLV.out _ b6).mono ?_; rintro e w7 ⟨A7, c7, rfl, own7, b7'⟩)
          have HB7 := Lib.hid (HB5.out.trans ((b6.trans (b7'.mono b6.size)).mono HB5.out.size))
          have HO7 := Lib.hid (Rd.of_own own7)
          clear own7 b7' b6 q18' q19'
          go_loop [11, 68] (fun u11 u68 => ∃ i cn : Nat, i ≤ nx ∧ u68 = .int .i64 (i : Int) ∧ u11 = .int .i64 (cn : Int) ∧ cn ≤ i ∧ Hid (cn = (xs.take i).count id)) (fun _ u68 => nx - (intOf u68).toNat)
          case atStart => exact ⟨0, 0, Nat.zero_le _, rfl, rfl, Nat.le_refl _, Lib.hid (by simp)⟩
          case round =>
            obtain ⟨i, cn, hi, rfl, rfl, hci, HCN⟩ := hrel
            by_cases hil : i < nx
            · have hix : i < xs.length := by rw [HNX.out]; exact hil
              obtain ⟨b8, o8, rfl, _, hy⟩ := HO7.out.get hix
              have hct := count_take' hix id
              obtain ⟨y, hyy⟩ : ∃ y, xs[i] = y := ⟨_, rfl⟩
              rw [hyy] at hy hct
              have i1 : (0 : Int) ≤ (i : Int) := by omega
              have i2 : (i : Int) < (nx : Int) := by omega
              by_cases hyi : y = id
              · rw [if_pos hyi, ← HCN.out] at hct
                have HC1 := Lib.hid hct
                clear hct hix hyy
                subst hyi
                go_wp2
                go_round
                case rel => exact ⟨i + 1, cn + 1, by omega, by go_num, by go_num, by omega, Lib.hid HC1.out.symm⟩
                case measure => simp [intOf]; omega
              · rw [if_neg hyi, ← HCN.out, Nat.add_zero] at hct
                have HC1 := Lib.hid hct
                have hyb : (y == id) = false := beq_eq_false_iff_ne.2 hyi
                clear hct hix hyy hyi
                go_wp2
                go_round
                case rel => exact ⟨i + 1, cn, by omega, by go_num, rfl, by omega, Lib.hid HC1.out.symm⟩
                case measure => simp [intOf]; omega
            · obtain rfl : i = nx := by omega
              have hc1 : cn = 1 := by
                have h1 := HCN.out
                rw [List.take_of_length_le (by rw [HNX.out]; exact Nat.le_refl _), HQ.out] at h1
                exact h1
              subst hc1
              go_wp2_with fail
              go_roundw
              case rel => exact ⟨_, j + 1, rfl, by omega, by go_num, HB7⟩
              case measure => simp [intOf]; omega
      · obtain rfl : j = N := by omega
        go_wp2_with (go_at_call 12; refine (HSN.out _).mono ?_; rintro e w9 ⟨rfl, b9⟩)
        go_ret
        exact ⟨rfl, HB2.out.trans ((HB.out.trans (b9.mono HB.out.size)).mono HB2.out.size)⟩
  · have HBU := Lib.hid (build_long A n c w (by omega))
    clear hr hok hl hn
    go_enter Try.func6, Try.ntmps6
    go_wp2_with (first
      | (go_at_call 11; refine HBU.out.mono ?_; rintro e w1 ⟨rfl, b1⟩)
      | (go_at_call 12; refine (HSN.out _).mono ?_; rintro e w2 ⟨rfl, b2⟩))
    go_ret
    exact ⟨rfl, b1.trans (b2.mono b1.size)⟩
end Go.Proofs.Ytcicfneekmbamaa
