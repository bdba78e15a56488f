/- The reference's Decode. -/
import Derived.Test.YtnehbcopbioenaaIDec
namespace Go.Proofs.Ytnehbcopbioenaa
set_option linter.unusedVariables false
set_option linter.unusedSimpArgs false
open Go.RowKit Go.ChangeMaps

/-- what the reference's decoder comes to -/
def RDecPost (w : World) (d : Int × Int × List (Int × Int)) (e : Ending) (w' : World) : Prop :=
  Below w.heap.size w w' ∧ ((d.1 ≠ 0 ∧ e = .returned (.tuple #[.pointer none, .int .i64 d.1])) ∨
    (d.1 = 0 ∧ ∃ br, e = .returned (.tuple #[.pointer (some ⟨br, 0, none⟩), .int .i64 0]) ∧ RefAt w' br d.2.1 d.2.2 ∧ w.heap.size ≤ br))
/-- the error behind a look at the first k entries -/
def errAt (l : List (Int × Int)) (c e : Int) : Int := if e = 0 ∧ c ∈ l.map (·.2) then 6 else e
theorem errAt_hit {l : List (Int × Int)} {x : Int × Int} {c e : Int} (h0 : errAt l c e = 0) (hx : x.2 = c) : errAt (l ++ [x]) c e = 6 := by
  unfold errAt at h0 ⊢
  split at h0
  · cases h0
  · next h => rw [if_pos ⟨h0, by simp [hx]⟩]
theorem errAt_miss {l : List (Int × Int)} {x : Int × Int} {c e : Int} (hx : x.2 ≠ c) : errAt (l ++ [x]) c e = errAt l c e := by
  unfold errAt
  have h : (c ∈ (l ++ [x]).map (·.2)) ↔ c ∈ l.map (·.2) := by
    rw [List.map_append, List.mem_append]
    simp only [List.map_cons, List.map_nil, List.mem_singleton]
    exact ⟨fun h => h.resolve_right fun q => hx q.symm, .inl⟩
  by_cases hq : e = 0 ∧ c ∈ l.map (·.2)
  · rw [if_pos hq, if_pos ⟨hq.1, h.2 hq.2⟩]
  · rw [if_neg hq, if_neg (fun k => hq ⟨k.1, h.1 k.2⟩)]
theorem errAt_set {l : List (Int × Int)} {x : Int × Int} {c e : Int} (h0 : errAt l c e ≠ 0) : errAt (l ++ [x]) c e = errAt l c e := by
  unfold errAt at h0 ⊢
  by_cases he : e = 0
  · by_cases hm : c ∈ l.map (·.2)
    · have hm2 : c ∈ (l ++ [x]).map (·.2) := by rw [List.map_append]; exact List.mem_append_left _ hm
      rw [if_pos ⟨he, hm2⟩, if_pos ⟨he, hm⟩]
    · rw [if_neg (fun h => hm h.2)] at h0; exact absurd he h0
  · rw [if_neg (fun h => he h.1), if_neg (fun h => he h.1)]

set_option maxRecDepth 100000 in
set_option maxHeartbeats 6400000 in
theorem refDecode_any (A : Option Addr) (n c : Nat) (b : List UInt8) (hn : b.length = n) (hnc : n ≤ c) (hcm : c ≤ maxLen) (hL : n ≤ 1099511627776) (w : World) (hr : Rd w w.heap.size 1 A n (bvs b)) :
    Calls Try.prog 33 #[.slice A n c] w (RDecPost w (decX b)) := by
  obtain ⟨cap, b1, e1, hs1⟩ : ∃ cap b1 e1, num b 0 1 4096 = (cap, b1, e1) := ⟨_, _, _, rfl⟩
  obtain ⟨N, b2, e2, hs2⟩ : ∃ N b2 e2, num b1 e1 0 cap = (N, b2, e2) := ⟨_, _, _, rfl⟩
  obtain ⟨hN0, hN1, hE2, hl2, hl1⟩ := num_small hs1 hs2
  obtain ⟨d, hd⟩ : ∃ d, decX b = d := ⟨_, rfl⟩
  rw [hd]
  have HD : Hid (d = ((if (dloop N.toNat (b2, e2, [])).2.1 = 0 ∧ (dloop N.toNat (b2, e2, [])).1 ≠ [] then 6 else (dloop N.toNat (b2, e2, [])).2.1), cap, (dloop N.toNat (b2, e2, [])).2.2)) := by
    show _ = _; rw [← hd]; unfold decX; simp only [hs1, hs2]
  have HS1 := Lib.hid (refNumber_any w.heap.size w.heap.size b 0 1 4096 (by omega))
  have HS2 := Lib.hid (refNumber_any w.heap.size w.heap.size b1 e1 0 cap (by omega))
  rw [hs1] at HS1
  rw [hs2] at HS2
  have HN := Lib.hid hn
  have HE2 := Lib.hid hE2
  have hlb : b2.length ≤ n := by omega
  clear hs1 hs2 hd hn hl2 hl1 hE2
  go_enter Try.func33, Try.ntmps33
  go_wp2_with fail
  have hb0 : Below w.heap.size w ((w.alloc (.cells #[.slice A n c, .int .i64 0] 80)).alloc (.cells #[.int .i64 0, .slice none 0 0] 56)) := ((Below.refl _ w).alloc (Nat.le_refl _) _).alloc (by simp) _
  have hR0 : RdrAt ((w.alloc (.cells #[.slice A n c, .int .i64 0] 80)).alloc (.cells #[.int .i64 0, .slice none 0 0] 56)) 80 w.heap.size w.heap.size b 0 :=
    ⟨A, n, c, by rw [RowKit.Below.heap_alloc _ _ _ (by simp)]; exact heap_alloc_new w _, HN.out, hnc, hcm, hr.below hb0, Nat.le_refl _⟩
  have hx0 : ((w.alloc (.cells #[.slice A n c, .int .i64 0] 80)).alloc (.cells #[.int .i64 0, .slice none 0 0] 56)).heap[w.heap.size + 1]? = some (.cells #[.int .i64 0, .slice none 0 0] 56) := by
    have h := heap_alloc_new (w.alloc (.cells #[.slice A n c, .int .i64 0] 80)) (.cells #[.int .i64 0, .slice none 0 0] 56)
    rw [World.size_alloc] at h
    exact h
  refine (HS1.out _ hR0).mono ?_
  rintro e w1 ⟨rfl, hR1, k1⟩
  have hb1 := Below.then_keep hb0 k1 (fun k hk => by subst hk; exact Nat.le_refl _) (Nat.le_refl _)
  have hx1 := (k1.block _ (by simp) (by omega)).trans hx0
  have hz1 : w.heap.size + 1 < w1.heap.size := by have := k1.size; simp at this; omega
  have hf1 : w1.frozen? ⟨w.heap.size + 1, 0, none⟩ = false := frozen_of_row _ _ _ _ _ hx1
  have hc1 : w1.cell? ⟨w.heap.size + 1, 0, none⟩ = some (.int .i64 0) := by rw [cell_of_row _ _ _ _ _ _ hx1]; rfl
  have HX1 := Lib.hid hx1
  clear hR0 k1 hb0 hx0 hx1
  have ks := setE_keep w1 (w.heap.size + 1) 0 (.int .i64 cap)
  have hR1' := hR1.keep ks (by omega) (fun k hk q => by omega)
  have hb1' := Below.then_keep hb1 ks (fun k hk => by subst hk; omega) (Nat.le_refl _)
  have hx1' : (w1.setCell ⟨w.heap.size + 1, 0, none⟩ (.int .i64 cap)).heap[w.heap.size + 1]? = some (.cells #[.int .i64 cap, .slice none 0 0] 56) := heap_setCell_same w1 (w.heap.size + 1) 0 _ _ _ HX1.out
  have hz1' : w.heap.size + 1 < (w1.setCell ⟨w.heap.size + 1, 0, none⟩ (.int .i64 cap)).heap.size := by have := ks.size; omega
  have hc1' : (w1.setCell ⟨w.heap.size + 1, 0, none⟩ (.int .i64 cap)).cell? ⟨w.heap.size + 1, 0, none⟩ = some (.int .i64 cap) := by rw [cell_of_row _ _ _ _ _ _ hx1']; rfl
  have HX1' := Lib.hid hx1'
  clear hx1' ks hR1 hb1
  go_wp2_with fail
  refine (HS2.out _ hR1').mono ?_
  rintro e w2 ⟨rfl, hR2, k2⟩
  have hb2 := Below.then_keep hb1' k2 (fun k hk => by subst hk; exact Nat.le_refl _) (Nat.le_refl _)
  have hx2 := (k2.block _ hz1' (by omega)).trans HX1'.out
  have hz2 : w.heap.size + 2 ≤ w2.heap.size := by have := k2.size; omega
  clear k2 hb1' hR1' HX1' hc1' hz1' hc1 hf1 HX1 hz1
  go_wp2_with fail
  go_loopw [7] (fun u7 wr => ∃ (i : Nat) (b' : List UInt8) (e' : Int) (l' : List (Int × Int)) (A' : Option Addr) (c' : Nat), (i : Int) ≤ N ∧ u7 = .int .i64 i ∧ Hid (l'.length = i) ∧ b'.length ≤ n ∧ IsErr e' ∧ Hid (dloop N.toNat (b2, e2, []) = dloop (N.toNat - i) (b', e', l')) ∧
      RdrAt wr 80 w.heap.size w.heap.size b' e' ∧ wr.heap[w.heap.size + 1]? = some (.cells #[.int .i64 cap, .slice A' i c'] 56) ∧ wr.ownsRow (w.heap.size + 2) 39 2 (.slice A' i c') i (evs l') ∧ Below w.heap.size w wr ∧ w.heap.size + 2 ≤ wr.heap.size) (fun u _ => N.toNat - (intOf u).toNat)
  case atStart => exact ⟨0, b2, e2, [], none, 0, by omega, rfl, rfl, hlb, HE2.out, rfl, hR2, hx2, World.ownsRow_nil _ _ _ _, hb2, hz2⟩
  case round =>
    clear hR2 hx2 hb2 hz2
    obtain ⟨i, b', e', l', A', c', hi, rfl, HLL, hbl, hE', HDL, hR, hx, own, hbel, hsz⟩ := hrel
    have hce := hR.cellE
    by_cases hgo : (i : Int) < N ∧ e' = 0
    · obtain ⟨hlt, he⟩ := hgo
      subst he
      obtain ⟨p, r1, e1', hq1⟩ : ∃ p r e, num b' 0 0 4294967295 = (p, r, e) := ⟨_, _, _, rfl⟩
      obtain ⟨ch, r2, e2', hq2⟩ : ∃ p r e, num r1 e1' 1 65536 = (p, r, e) := ⟨_, _, _, rfl⟩
      obtain ⟨hp0, hp1, hc0, hc1, hE2', hlr2, hlr1⟩ := num_facts hq1 hq2
      have hds := dstep_eq (l := l') hq1 hq2
      have HS1 := Lib.hid (refNumber_any w.heap.size w.heap.size b' 0 0 4294967295 (by omega))
      have HS2 := Lib.hid (refNumber_any w.heap.size w.heap.size r1 e1' 1 65536 (by omega))
      rw [hq1] at HS1
      rw [hq2] at HS2
      have HDS : Hid (dloop N.toNat (b2, e2, []) = dloop (N.toNat - (i + 1)) (dstep (b', 0, l'))) := by
        show _ = _
        rw [HDL.out, show N.toNat - i = (N.toNat - (i + 1)) + 1 by omega, dloop, if_pos rfl]
      rw [hds] at HDS
      have hIs3 : Hid (IsErr (errAt l' ch e2')) := by
        show IsErr (errAt l' ch e2')
        unfold errAt
        split
        · exact .inr (.inr rfl)
        · exact hE2'
      have hwp : IntKind.u32.wrap p = p := IntWalk.u32_in _ (by omega)
      have HX := Lib.hid hx
      clear hq1 hq2 hds hE2' hE' hx
      go_wp2_with fail
      refine (HS1.out _ hR).mono ?_
      rintro e w5 ⟨rfl, hR5, k5⟩
      have hx5 := (k5.block _ (by omega) (by omega)).trans HX.out
      have own5 := own_keep own k5 (fun a ha q => by have := (own_block_lt own a ha).1; omega)
      have hb5 := Below.then_keep hbel k5 (fun k hk => by subst hk; exact Nat.le_refl _) (Nat.le_refl _)
      have hs5 := k5.size
      have HX5 := Lib.hid hx5
      clear hR own hbel k5 hce hx5 HX
      go_wp2_with fail
      refine (HS2.out _ hR5).mono ?_
      rintro e w6 ⟨rfl, hR6, k6⟩
      have hx6 := (k6.block _ (by omega) (by omega)).trans HX5.out
      have own6 := own_keep own5 k6 (fun a ha q => by have := (own_block_lt own5 a ha).1; omega)
      have hb6 := Below.then_keep hb5 k6 (fun k hk => by subst hk; exact Nat.le_refl _) (Nat.le_refl _)
      have hs6 := k6.size
      clear hR5 own5 hb5 k6 HS1 HS2 HX5
      obtain ⟨wo, hwo⟩ : ∃ wo, wo = wr := ⟨_, rfl⟩
      have hi4 : i ≤ 4096 := by omega
      have hws : w.heap.size + 2 ≤ w6.heap.size := by omega
      clear hwo
      go_wp2_with fail
      go_loopw [10] (fun u10 wr => ∃ k : Nat, k ≤ i ∧ u10 = .int .i64 k ∧ RdrAt wr 80 w.heap.size w.heap.size r2 (errAt (l'.take k) ch e2') ∧ wr.heap[w.heap.size + 1]? = some (.cells #[.int .i64 cap, .slice A' i c'] 56) ∧
        wr.ownsRow (w.heap.size + 2) 39 2 (.slice A' i c') i (evs l') ∧ Below w.heap.size w wr ∧ w.heap.size + 2 ≤ wr.heap.size) (fun u _ => i - (intOf u).toNat)
      case atStart => exact ⟨0, by omega, rfl, by simpa [errAt] using hR6, hx6, own6, hb6, hws⟩
      case round =>
        clear hR6 hx6 own6 hb6 hws
        obtain ⟨k, hk, rfl, hR, hx, own, hbel, hsz⟩ := hrel
        have hce := hR.cellE
        have hxl : wr.cell? ⟨w.heap.size + 1, 1, none⟩ = some (.slice A' i c') := by rw [cell_of_row _ _ _ _ _ _ hx]; rfl
        have HX := Lib.hid hx
        clear hx
        by_cases hlk : k < i
        · have hkl : k < l'.length := by rw [HLL.out]; exact hlk
          obtain ⟨bb, off, hA', _, hcp, hcc⟩ := ev_cells (Rd.of_own own) hkl hlk
          have HT := Lib.hid (List.take_succ_eq_append_getElem hkl)
          obtain ⟨x, hxx⟩ : ∃ x, l'[k] = x := ⟨_, rfl⟩
          rw [hxx] at hcp hcc HT
          clear hxx hcp
          have hk0 : (0 : Int) ≤ k := by omega
          have hk1 : (k : Int) < i := by omega
          obtain ⟨ek, hek⟩ : ∃ ek, errAt (l'.take k) ch e2' = ek := ⟨_, rfl⟩
          rw [hek] at hR hce
          have HEK := Lib.hid hek
          clear hek
          have hfz := hR.frozen 1
          subst hA'
          by_cases he0 : ek = 0
          · by_cases hxc : x.2 = ch
            · have hq : (x.2 == ch) = true := by simpa using hxc
              have h6 : Hid (errAt (l'.take (k + 1)) ch e2' = 6) := by show _ = _; rw [HT.out]; exact errAt_hit (HEK.out.trans he0) hxc
              subst he0
              have kk := setE_keep wr w.heap.size 1 (.int .i64 6)
              have hR' := hR.setE 6
              have own' := own_keep own kk (fun a ha q => by have := (own_block_lt own a ha).1; omega)
              have hbel' := Below.then_keep hbel kk (fun k hk => by subst hk; exact Nat.le_refl _) (Nat.le_refl _)
              have HX' := Lib.hid ((kk.block _ (by omega) (by omega)).trans HX.out)
              have hsz' : w.heap.size + 2 ≤ (wr.setCell ⟨w.heap.size, 1, none⟩ (.int .i64 6)).heap.size := by have := kk.size; omega
              clear hxc kk
              go_wp2
              go_roundw
              case rel => exact ⟨k + 1, by omega, by go_num, by rw [h6.out]; exact hR', HX'.out, own', hbel', hsz'⟩
              case measure => simp [intOf]; omega
            · have hq : (x.2 == ch) = false := by simpa using hxc
              have h6 : Hid (errAt (l'.take (k + 1)) ch e2' = ek) := by show _ = _; rw [HT.out, errAt_miss hxc]; exact HEK.out
              clear hxc
              subst he0
              go_wp2
              go_roundw
              case rel => exact ⟨k + 1, by omega, by go_num, by rw [h6.out]; exact hR, HX.out, own, hbel, hsz⟩
              case measure => simp [intOf]; omega
          · have h6 : Hid (errAt (l'.take (k + 1)) ch e2' = ek) := by show _ = _; rw [HT.out, errAt_set (by rw [HEK.out]; exact he0)]; exact HEK.out
            have hq : (ek == 0) = false := by simpa using he0
            clear he0
            go_wp2
            go_roundw
            case rel => exact ⟨k + 1, by omega, by go_num, by rw [h6.out]; exact hR, HX.out, own, hbel, hsz⟩
            case measure => simp [intOf]; omega
        · have hk1 : ¬ (k : Int) < i := by omega
          have HK : Hid (l'.take k = l') := List.take_of_length_le (by rw [HLL.out]; omega)
          rw [HK.out] at hR
          have hfz : wr.frozen? ⟨w.heap.size + 1, 1, none⟩ = false := frozen_of_row _ _ _ _ _ HX.out
          clear hce
          have HNB := own_ne_block' own HX.out (by decide)
          go_wp2_with (at_builtin; refine wpList_appN rfl (.tmp 76) (.tmp 81) 27 rfl (w.heap.size + 2) 39 _ 2 16 entryT A' i c' _ (ev (p, ch)) _ rfl rfl rfl own hbel rfl (ev_one (p, ch)) (by omega) (by omega) hsz ?_; intro g9 c9 w9 own9 hbel9 hgr9; have hx9 := (hgr9.1.block _ (by omega) HNB).trans HX.out; have hfz9 : w9.frozen? ⟨w.heap.size + 1, 1, none⟩ = false := frozen_of_row _ _ _ _ _ hx9; have hxl9 : w9.cell? ⟨w.heap.size + 1, 1, none⟩ = some (.slice A' i c') := (by rw [cell_of_row _ _ _ _ _ _ hx9]; rfl); have HX9 := Lib.hid hx9; clear hx9)
          have k9 : Keep (fun k => some k = (Value.slice A' i c').ownBlock) wr w9 := Keep.of_grown hgr9.1 fun k h => h.symm
          have hR9 := hR.keep k9 (fun h => hR.not_row own (by decide) h) (fun k hk h => by have := own.lt k h.symm; omega)
          have kk := setE_keep w9 (w.heap.size + 1) 1 (.slice (some ⟨g9, 0, none⟩) (i + 1) c9)
          have hR10 := hR9.keep kk (by omega) (fun k hk q => by omega)
          have own10 := own_keep own9 kk (fun a ha q => by have := (own_block_lt own9 a ha).1; omega)
          have hb10 := Below.then_keep hbel9 kk (fun k hk => by subst hk; omega) (Nat.le_refl _)
          have hx10 := heap_setCell_same w9 (w.heap.size + 1) 1 _ _ (.slice (some ⟨g9, 0, none⟩) (i + 1) c9) HX9.out
          go_roundw
          case rel =>
            refine ⟨i + 1, r2, errAt l' ch e2', l' ++ [(p, ch)], some ⟨g9, 0, none⟩, c9, by omega, by go_num, by show _ = _; rw [List.length_append, HLL.out]; rfl, by omega, hIs3.out, HDS, hR10, hx10, by rw [← evs_snoc]; exact own10, hb10, by have := k9.size; have := kk.size; omega⟩
          case measure => simp [intOf] <;> omega
    · have hst : Hid (dloop (N.toNat - i) (b', e', l') = (b', e', l')) := by
        show _ = _
        by_cases he : e' = 0
        · rw [show N.toNat - i = 0 by omega]; rfl
        · exact dloop_stop he
      obtain ⟨D1, D2, D3⟩ : d.1 = (if e' = 0 ∧ b' ≠ [] then 6 else e') ∧ d.2.1 = cap ∧ d.2.2 = l' := by
        rw [HD.out, HDL.out, hst.out]; exact ⟨rfl, rfl, rfl⟩
      have HD1 := Lib.hid D1
      have HD2 := Lib.hid D2
      have HD3 := Lib.hid D3
      clear D1 D2 D3 hE' hst HDL
      obtain ⟨f, hf⟩ : ∃ f, d.1 = f := ⟨_, rfl⟩
      rw [hf] at HD1
      have HF := Lib.hid hf
      clear hf
      have hcase : ¬ (i : Int) < N ∨ ((i : Int) < N ∧ e' ≠ 0) := by
        by_cases h : (i : Int) < N
        · exact .inr ⟨h, fun he => hgo ⟨h, he⟩⟩
        · exact .inl h
      clear hgo
      have HX := Lib.hid hx
      clear hx
      rcases hcase with hc1 | ⟨hc1, hc2⟩
      case' inr => have hc2' : (e' == 0) = false := by simpa using hc2
      case' inr => clear hc2
      all_goals
        go_upto_region 16 with fail
        go_cut [97] (fun u wx => u = .bool (decide (e' = 0) && decide (b' ≠ [])) ∧ wr = wx)
        case first =>
          obtain ⟨Ab, nb, cb, hbb, hnb, hcb, hcmb, hrb, hBb⟩ := hR
          have hcs : wr.cell? ⟨w.heap.size, 0, none⟩ = some (.slice Ab nb cb) := by rw [cell_of_row _ _ _ _ _ _ hbb]; rfl
          obtain ⟨T, hT⟩ : ∃ T, decide (b' ≠ []) = T := ⟨_, rfl⟩
          have hTn : decide (0 < nb) = T := by
            rw [← hT, ← hnb, decide_eq_decide]
            cases b' <;> simp
          obtain ⟨E, hE⟩ : ∃ E, decide (e' = 0) = E := ⟨_, rfl⟩
          have hEe : (e' == 0) = E := by rw [← hE]; exact Bool.beq_eq_decide_eq _ _
          have HT := Lib.hid hT
          have HE := Lib.hid hE
          clear hT hE
          cases E
          all_goals
            cases T
            all_goals
              first
              | exact absurd (hc2'.symm.trans hEe) (by decide)
              | (go_wp2
                 go_meet
                 exact ⟨by rw [HT.out, HE.out]; rfl, rfl⟩)
        case rest =>
          obtain ⟨rfl, rfl⟩ := hcut
          have HFV : Hid (f = if (decide (e' = 0) && decide (b' ≠ [])) = true then 6 else e') := by
            show _ = _
            rw [HD1.out]
            by_cases h : e' = 0 ∧ b' ≠ []
            · rw [if_pos h, decide_eq_true h.1, decide_eq_true h.2]; rfl
            · rw [if_neg h, ← Bool.decide_and, decide_eq_false h]; rfl
          obtain ⟨V, hV⟩ : ∃ V, (decide (e' = 0) && decide (b' ≠ [])) = V := ⟨_, rfl⟩
          rw [hV] at HFV ⊢
          clear hV HD1
          go_upto_if 97 with fail
          go_cut [] (fun wx => RdrAt wx 80 w.heap.size w.heap.size b' f ∧ wx.heap[w.heap.size + 1]? = some (.cells #[.int .i64 cap, .slice A' i c'] 56) ∧ wx.ownsRow (w.heap.size + 2) 39 2 (.slice A' i c') i (evs l') ∧ Below w.heap.size w wx)
          case first =>
            cases V with
            | true =>
              have hfz := hR.frozen 1
              go_wp2
              go_meet
              have h6 : f = 6 := HFV.out
              rw [h6]
              have kk := setE_keep wr w.heap.size 1 (.int .i64 6)
              exact ⟨hR.setE 6, (kk.block _ (by omega) (by omega)).trans HX.out, own_keep own kk (fun a ha q => by have := (own_block_lt own a ha).1; omega), Below.then_keep hbel kk (fun k hk => by subst hk; exact Nat.le_refl _) (Nat.le_refl _)⟩
            | false =>
              go_wp2
              go_meet
              have h6 : f = e' := HFV.out
              rw [h6]
              exact ⟨hR, HX.out, own, hbel⟩
          case rest =>
            clear hR own hbel hsz hce HFV HX
            obtain ⟨hR, hx, own, hbel⟩ := hcut
            have hce := hR.cellE
            have HX := Lib.hid hx
            clear hx
            by_cases hf0 : f = 0
            · have HD0 : Hid (d = (0, cap, l')) := by show _ = _; rw [← HD2.out, ← HD3.out, ← hf0, ← HF.out]
              subst hf0
              go_wp2_with fail
              go_ret2
              refine ⟨hbel, .inr ⟨by rw [HD0.out], w.heap.size + 1, rfl, ?_, by omega⟩⟩
              rw [HD0.out]
              refine ⟨A', c', ?_, ?_⟩
              · show wc.heap[w.heap.size + 1]? = some (.cells #[.int .i64 cap, .slice A' l'.length c'] _)
                rw [HLL.out]; exact HX.out
              · show wc.ownsRow 0 _ 2 (.slice A' l'.length c') l'.length (evs l')
                rw [HLL.out]; exact own_base own (Nat.zero_le _)
            · have hf1 : (f != 0) = true := by simpa using hf0
              have HF0 := Lib.hid hf0
              clear hf0
              go_wp2_with fail
              go_quiet (fail)
              go_wp2_with fail
              go_ret2
              exact ⟨below_drewN hbel _, .inl ⟨by rw [HF.out]; exact HF0.out, by rw [HF.out]; rfl⟩⟩
end Go.Proofs.Ytnehbcopbioenaa
