/- The law SchedOnce: it returns true. Conditions: none beyond what each argument's type says. -/
import Derived.Test.YtfihdenapjmaeaaSch17
import Derived.Test.YtfihdenapjmaeaaSLawKit
namespace Go.Proofs.Ytfihdenapjmaeaa
set_option linter.unusedVariables false
set_option linter.unusedSimpArgs false
open Go.RowKit
theorem boolE : ElemT Try.prog 45 4 (.bool false) 1 1 := ⟨Try.underlying45, by kernel_rfl, rfl, by decide, by decide⟩
theorem mkBools (n : Nat) (hn : n ≤ 60) : ∃ M : Array Value, (∀ t, t < n → M[t]? = some (.bool false)) ∧ ∀ W : World, (Instr.makeSlice 45 (.int .i64 (n : Int)) (.int .i64 (n : Int))).run Try.prog W = .ok (.slice (some ⟨W.heap.size, 0, none⟩) n n) (W.alloc (.cells M 4)) := by
  have hi := boolE.info
  cases h : Try.prog.info? 4 with
  | none => rw [h] at hi; simp at hi
  | some i =>
    rw [h] at hi
    simp only [Option.map_some, Option.some.injEq, Prod.mk.injEq] at hi
    obtain ⟨hz, hs, hb⟩ := hi
    refine ⟨madeCells (Value.bool false).cells ((n : Int).toNat * i.size), fun t ht => ?_, fun W => ?_⟩
    · have hc : (Value.bool false).cells = #[.bool false] := rfl
      rw [hs, hc]; simp [madeCells, ht, Nat.mod_one]
    · have := run_make (P := Try.prog) W 45 4 i (.bool false) Try.underlying45 h hz .i64 .i64 n n (by omega) (Int.le_refl _) (by rw [hb]; omega) (by omega)
      simpa using this
theorem new_row {w w' : World} {M : Array Value} {ty : TypeId} {n : Nat} {v : Value} (h : w.alloc (.cells M ty) = w') (hM : ∀ t, t < n → M[t]? = some v) : (∀ t, t < n → w'.cell? ⟨w.heap.size, t, none⟩ = some v) ∧ (∀ t, w'.frozen? ⟨w.heap.size, t, none⟩ = false) ∧ w.heap.size < w'.heap.size ∧ Below w.heap.size w w' := by
  subst h
  refine ⟨fun t ht => ?_, fun t => ?_, by rw [alloc_size1]; omega, (Below.refl _ _).alloc (Nat.le_refl _) _⟩
  · rw [cell_of_row _ _ _ _ _ _ (heap_alloc_new w _)]; exact hM t ht
  · exact World.frozen?_alloc_new _ _ _ _
/-- the tasks that can be chosen are those that a long enough run chooses -/
theorem run_iff {L : List Sc.Tk} {n m : Nat} {cr : List Int} {k : Nat} (hk : k < n) : k ∈ (Sc.run L (n + m) cr (List.range n)).2 ↔ Sc.can (Sc.atK L k) = true :=
  ⟨fun h => (Sc.run_mem L (n + m) cr (List.range n) k h).2, fun h => Sc.run_all L (n + m) cr (List.range n) (by simp) k (by simpa using hk) h⟩
set_option maxRecDepth 100000 in
set_option maxHeartbeats 4000000 in
theorem lawOnce (A0 : Option Addr) (n0 c0 : Nat) (cr : List Int) (hl0 : cr.length = n0) (nc0 : n0 ≤ c0) (cc0 : c0 ≤ 140737488355328) (xr0 : ∀ x ∈ cr, -9223372036854775808 ≤ x ∧ x ≤ 9223372036854775807)
    (A : Option Addr) (n c : Nat) (L : List Sc.Tk) (hL : L.length = n) (nc : n ≤ c) (cc : c ≤ 140737488355328) (xr1 : ∀ t ∈ L, TkOk t) (m : Int) (lm : 0 ≤ m) (um : m ≤ 255) (w : World) (rd0 : Rd w w.heap.size 1 A0 n0 (ivs cr)) (rd1 : Rd w w.heap.size 5 A n (L.flatMap tcs)) :
    Calls Try.prog 5 #[.slice A0 n0 c0, .slice A n c, .int .u8 m] w fun e w' => e = .returned (.bool true) ∧ Below w.heap.size w w' := by
  obtain ⟨mn, rfl⟩ : ∃ mn : Nat, m = mn := ⟨m.toNat, by omega⟩
  clear xr0 xr1
  by_cases h60 : n ≤ 60
  case neg =>
    have h61 : (60 : Int) < (n : Int) := by omega
    clear rd0 rd1 hl0 hL
    go_enter Try.func5, Try.ntmps5
    go_wp2_with (go_at_call 10; refine (sanity_any _).mono ?_; rintro e w1 ⟨rfl, b1⟩)
    go_ret
    exact ⟨rfl, b1⟩
  case pos =>
  have h61 : (n : Int) ≤ 60 := by omega
  have HV := Lib.hid (refValid_any A0 n0 c0 cr hl0 w.heap.size w rd0)
  cases hv : vldB cr with
  | false =>
    rw [hv] at HV
    clear rd0 rd1 hl0 hL hv
    go_enter Try.func5, Try.ntmps5
    go_wp2_with (first
      | (go_at_call 15; refine HV.out.mono ?_; rintro e w' ⟨rfl, rfl⟩)
      | (go_at_call 10; refine (sanity_any _).mono ?_; rintro e w1 ⟨rfl, b1⟩))
    go_ret
    exact ⟨rfl, b1⟩
  | true =>
    rw [hv] at HV
    have h5 : n0 = 5 := by rw [← hl0]; exact ((vldB_iff cr).1 hv).1
    subst h5
    have HL := Lib.hid hL
    have HRD := Lib.hid rd1
    have HOWN := Lib.hid (fun (W : World) (hW : Below w.heap.size w W) => own_any A n c L hL (by omega) w.heap.size W (rd1.below hW) hW.size)
    have HRUN := Lib.hid (fun (W : World) (hW : Below w.heap.size w W) (A' : Option Addr) (c' base : Nat) (h : W.ownsRow base 58 5 (.slice A' n c') n (L.flatMap tcs)) => Run_ok A0 c0 cr hl0 w.heap.size (n + mn) (by omega) A' n c' L hL (by omega) W.heap.size W (Rd.of_own h) (Nat.le_refl _) (rd0.below hW) hW.size hv)
    have HMEM := Lib.hid (fun k h => List.mem_range.1 (Sc.run_mem L (n + mn) cr (List.range n) k h).1)
    have HND := Lib.hid (Sc.run_nodup L (n + mn) cr (List.range n))
    have HIFF := Lib.hid (fun k => @run_iff L n mn cr k)
    have HRL := Lib.hid (Sc.run_len L (n + mn) cr (List.range n))
    obtain ⟨M, hM, hmk⟩ := mkBools n h60
    have HM := Lib.hid hM
    have hw1 : IntKind.i64.wrap ((n : Int) + (mn : Int)) = (n : Int) + (mn : Int) := by rw [IntKind.wrap_i64]; omega
    clear rd0 rd1 hl0 hL hv hM
    go_enter Try.func5, Try.ntmps5
    go_wp2_with (go_at_call 15; refine HV.out.mono ?_; rintro e w' ⟨rfl, rfl⟩)
    refine (HOWN.out _ (Below.refl _ _)).mono ?_
    rintro e w1 ⟨A1, c1, rfl, own1, b1⟩
    go_wp2_with fail
    have hc1 := HRUN.out w1 b1 A1 c1 _ own1
    rw [Int.natCast_add] at hc1
    refine hc1.mono ?_
    clear hc1
    rintro e w2 ⟨g2, c2, P1, np1, cp1, rfl, C2, hg2, hn1, rP1, hcp1, b2⟩
    have hb2 := b1.trans (b2.mono b1.size)
    clear C2 hg2 own1
    generalize (Sc.run L (n + mn) cr (List.range n)).2 = ks at *
    have hcp : (np1 : Int) ≤ 315 := by have := HRL.out; rw [hn1] at this; omega
    go_upto_region 7 with fail
    obtain ⟨w3, hw3⟩ : ∃ x, w2.alloc (.cells #[.slice (some ⟨g2, 0, none⟩) 5 c2] 26) = x := ⟨_, rfl⟩
    have hz3 : w2.heap.size + 1 = w3.heap.size := by rw [← hw3, alloc_size1]
    rw [hw3]
    try rw [hz3]
    obtain ⟨w4, hw4⟩ : ∃ x, w3.alloc (.cells M 4) = x := ⟨_, rfl⟩
    rw [hw4]
    obtain ⟨_, _, b3, _⟩ := new_st hw3
    obtain ⟨c4, f4, hz4, b4⟩ := new_row (v := .bool false) hw4 HM.out
    clear hw3 hw4
    have hb3 := hb2.trans (b3.mono hb2.size)
    have hb4 := hb3.trans (b4.mono hb3.size)
    obtain ⟨g, hg⟩ : ∃ g, w3.heap.size = g := ⟨_, rfl⟩
    rw [hg] at c4 f4 hz4 ⊢
    have HB4 := Lib.hid hb4
    have HRP := Lib.hid ((rP1.below b3).below (b4.mono b3.size))
    have HG2 := Lib.hid (show w2.heap.size ≤ g by have := b3.size; omega)
    have HG0 := Lib.hid (show w'.heap.size ≤ g by have := hb3.size; omega)
    have HG4 := Lib.hid hz4
    have HC4 := Lib.hid c4
    have HF4 := Lib.hid f4
    have HN := Lib.hid hn1
    clear rP1 hb2 hb3 hb4 b4 b3 b1 b2 hn1 c4 f4 hz4 hg
    go_wp2_with fail
    go_loopw [46] (fun u46 wx => ∃ (wr : World) (k : Nat), wr = wx ∧ k ≤ np1 ∧ u46 = .int .i64 k ∧ Hid (∀ t, t < n → wr.cell? ⟨g, t, none⟩ = some (.bool (decide (t ∈ ks.take k)))) ∧ Hid (∀ t, wr.frozen? ⟨g, t, none⟩ = false) ∧ w4.grownBy wr (some g)) (fun u46 _ => np1 - (intOf u46).toNat)
    case atStart => exact ⟨w4, 0, rfl, Nat.zero_le _, rfl, fun t ht => by rw [HC4.out t ht]; simp, HF4.out, World.grownBy.refl _ _⟩
    case round =>
      obtain ⟨wr, k, rfl, hk, rfl, HE, HF, hgr⟩ := hrel
      by_cases hlt : k < np1
      · have hkl : k < ks.length := by rw [HN.out]; exact hlt
        obtain ⟨bp, op, rfl, _, h1⟩ := (HRP.out.nilA (Nat.le_trans HG2.out (Nat.le_of_lt HG4.out)) HG2.out wr hgr).get hkl
        have hqn : ks[k] < n := HMEM.out ks[k] (List.getElem_mem hkl)
        have hnot : ks[k] ∉ ks.take k := by
          intro hmem
          obtain ⟨j, hj, he⟩ := List.mem_take_iff_getElem.1 hmem
          have := (List.getElem_inj (HND.out)).1 he
          omega
        have htk : ks.take (k + 1) = ks.take k ++ [ks[k]] := List.take_succ_eq_append_getElem hkl
        obtain ⟨q, hq⟩ : ∃ q, ks[k] = q := ⟨_, rfl⟩
        rw [hq] at h1 hqn hnot htk
        have e1 := HE.out q hqn
        rw [decide_eq_false hnot] at e1
        have f1 := HF.out q
        have q0 : ¬ ((q : Int) < 0) := by omega
        have q0' : (0 : Int) ≤ (q : Int) := by omega
        have q1 : (q : Int) < (n : Int) := by omega
        have k1 : (k : Int) < (np1 : Int) := by omega
        have HK := Lib.hid hk
        have HGR := Lib.hid hgr
        have HTK := Lib.hid htk
        clear hq hkl hgr hnot htk
        go_wp2
        go_roundw
        case rel =>
          refine ⟨_, k + 1, rfl, by omega, by go_num, fun t ht => ?_, fun t => ?_, HGR.out.trans (grown_setCell _ _ _ _)⟩
          · by_cases e : q = t
            · subst e; rw [HTK.out]; simp only [List.mem_append, List.mem_singleton, or_true, decide_true]; exact cell_set_eq _ _ e1
            · rw [cell_set_ne _ _ e, HE.out t ht, HTK.out]; simp [show ¬ t = q from fun h => e h.symm]
          · have := HF.out t; simpa using this
        case measure => simp [intOf]; omega
      · obtain rfl : k = np1 := by omega
        have hfull : ks.take k = ks := List.take_of_length_le (by rw [HN.out]; exact Nat.le_refl _)
        have hbw : Below w'.heap.size w' wr := HB4.out.grown hgr (by have := HB4.out.size; omega) fun j hj => by have := Option.some.inj hj; have := HG0.out; omega
        have hsn : ∀ t, t < n → wr.cell? ⟨g, t, none⟩ = some (.bool (Sc.can (Sc.atK L t))) := fun t ht => by
          rw [HE.out t ht, hfull]
          congr 2
          cases hc : Sc.can (Sc.atK L t) with
          | true => exact decide_eq_true ((HIFF.out t ht).2 hc)
          | false => exact decide_eq_false (fun h => by have := (HIFF.out t ht).1 h; rw [hc] at this; exact Bool.noConfusion this)
        have HBW := Lib.hid hbw
        have HSN := Lib.hid hsn
        have HGW := Lib.hid (Nat.lt_of_lt_of_le HG4.out hgr.size)
        have k1 : (k : Int) ≤ (k : Int) := Int.le_refl _
        clear hgr hbw hsn hfull HRP
        go_wp2
        go_loopw [70] (fun u70 wx => ∃ (wv : World) (j : Nat), wv = wx ∧ j ≤ n ∧ u70 = .int .i64 j ∧ Below wr.heap.size wr wv) (fun u70 _ => n - (intOf u70).toNat)
        case atStart => exact ⟨wr, 0, rfl, Nat.zero_le _, rfl, Below.refl _ _⟩
        case round =>
          obtain ⟨wv, j, rfl, hj, rfl, hbv⟩ := hrel
          by_cases hjn : j < n
          · obtain ⟨b, off, rfl, hb0, hc⟩ := (HRD.out.below (HBW.out.trans (hbv.mono HBW.out.size))).tk HL.out (by omega)
            have hcj := hc j hjn
            have hsj := (hbv.cell (p := ⟨g, j, none⟩) HGW.out).trans (HSN.out j hjn)
            obtain ⟨t, ht⟩ : ∃ t, Sc.atK L j = t := ⟨_, rfl⟩
            rw [ht] at hcj hsj
            obtain ⟨kind, row, grp, left, bad⟩ := t
            simp only [] at hcj
            obtain ⟨c0', c1', c2', c3', c4'⟩ := hcj
            have i0 : (0 : Int) ≤ (j : Int) := by omega
            have i1 : (j : Int) < (n : Int) := by omega
            have HBV := Lib.hid hbv
            have HGV := Lib.hid (Nat.lt_of_lt_of_le HGW.out hbv.size)
            have HSJ := Lib.hid hsj
            clear hc ht hbv hb0 hsj
            go_upto_region 17 with fail
            obtain ⟨w5, hw5⟩ : ∃ w5, wv.alloc (.cells #[.int .i64 kind, .int .i64 row, .int .i64 grp, .int .i64 left, .int .i64 bad] 49) = w5 := ⟨_, rfl⟩
            have hR5 : IsRow w5 wv.heap.size 49 (tcs ⟨kind, row, grp, left, bad⟩) := by rw [← hw5]; exact IsRow.new wv 49 (tcs ⟨kind, row, grp, left, bad⟩)
            have hb5 : Below wv.heap.size wv w5 := by rw [← hw5]; exact (Below.refl _ _).alloc (Nat.le_refl _) _
            rw [hw5]
            have d0 : w5.cell? ⟨wv.heap.size, 0, none⟩ = some (.int .i64 kind) := hR5.cell 0
            have d3 : w5.cell? ⟨wv.heap.size, 3, none⟩ = some (.int .i64 left) := hR5.cell 3
            have d4 : w5.cell? ⟨wv.heap.size, 4, none⟩ = some (.int .i64 bad) := hR5.cell 4
            have s5 := (hb5.cell (p := ⟨g, j, none⟩) HGV.out).trans HSJ.out
            have HBX := Lib.hid (HBV.out.trans (hb5.mono HBV.out.size))
            clear hw5 hR5 hb5 c0' c1' c2' c3' c4'
            by_cases h2 : 2 ≤ kind
            · by_cases h5 : kind ≤ 5
              · have hcan : Sc.can ⟨kind, row, grp, left, bad⟩ = true := by simp [Sc.can]; omega
                rw [hcan] at s5
                clear hcan HSJ
                go_wp2
                go_roundw
                case rel => exact ⟨_, j + 1, rfl, by omega, by go_num, HBX.out⟩
                case measure => simp [intOf]; omega
              · have hcan : Sc.can ⟨kind, row, grp, left, bad⟩ = false := by simp [Sc.can]; omega
                have e1 : (kind == 1) = false := by rw [beq_eq_false_iff_ne]; omega
                rw [hcan] at s5
                clear hcan HSJ
                go_wp2
                go_roundw
                case rel => exact ⟨_, j + 1, rfl, by omega, by go_num, HBX.out⟩
                case measure => simp [intOf]; omega
            · by_cases hkd : kind = 1
              · subst hkd
                by_cases hlf : 0 ≤ left
                · by_cases hbd : 0 < bad
                  · have hcan : Sc.can ⟨1, row, grp, left, bad⟩ = true := by simp [Sc.can]; omega
                    rw [hcan] at s5
                    clear hcan HSJ
                    go_wp2
                    go_roundw
                    case rel => exact ⟨_, j + 1, rfl, by omega, by go_num, HBX.out⟩
                    case measure => simp [intOf]; omega
                  · have hcan : Sc.can ⟨1, row, grp, left, bad⟩ = false := by simp [Sc.can]; omega
                    rw [hcan] at s5
                    clear hcan HSJ
                    go_wp2
                    go_roundw
                    case rel => exact ⟨_, j + 1, rfl, by omega, by go_num, HBX.out⟩
                    case measure => simp [intOf]; omega
                · have hcan : Sc.can ⟨1, row, grp, left, bad⟩ = false := by simp [Sc.can]; omega
                  rw [hcan] at s5
                  clear hcan HSJ
                  go_wp2
                  go_roundw
                  case rel => exact ⟨_, j + 1, rfl, by omega, by go_num, HBX.out⟩
                  case measure => simp [intOf]; omega
              · have hcan : Sc.can ⟨kind, row, grp, left, bad⟩ = false := by simp [Sc.can]; omega
                have e1 : (kind == 1) = false := by rw [beq_eq_false_iff_ne]; omega
                rw [hcan] at s5
                clear hcan HSJ
                go_wp2
                go_roundw
                case rel => exact ⟨_, j + 1, rfl, by omega, by go_num, HBX.out⟩
                case measure => simp [intOf]; omega
          · have j1 : (n : Int) ≤ (j : Int) := by omega
            have HBV := Lib.hid hbv
            clear hbv
            go_wp2_with (go_at_call 10; refine (sanity_any _).mono ?_; rintro e w6 ⟨rfl, b6⟩)
            go_ret
            exact ⟨rfl, HBW.out.trans ((HBV.out.mono HBW.out.size).trans (b6.mono (Nat.le_trans HBW.out.size HBV.out.size)))⟩
end Go.Proofs.Ytfihdenapjmaeaa
