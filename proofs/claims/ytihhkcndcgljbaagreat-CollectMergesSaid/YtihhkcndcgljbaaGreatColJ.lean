/- The script of layer 25's examples; collect.Empty: the stripes of a code without live chunks. Conditions: at most 65536 rows, at most 100000 stripes. -/
import Derived.Test.YtihhkcndcgljbaaGreatColI
import Derived.Test.YtihhkcndcgljbaaGreatColLd
namespace Go.Proofs.YtihhkcndcgljbaaGreat
set_option linter.unusedVariables false
set_option linter.unusedSimpArgs false
open Go.RowKit
def us25 : List Chk.Un := [⟨0, 0, 2⟩, ⟨0, 0, 0⟩, ⟨0, 0, 1⟩, ⟨1, 0, 1⟩, ⟨2, 0, 2⟩]
def op25 (u : Chk.Un) : Chk.Op := ⟨1, 0, 0, 0, u, 0, 0⟩
def ops25 : List Chk.Op := us25.map op25
def unC (u : Chk.Un) : List Value := [.int .i64 u.r, .int .i64 u.g, .int .i64 u.u]
theorem opT25 : ElemT Tryz.prog 26 75 (.agg zOp.toArray) 9 64 := ⟨Tryz.underlying26, by kernel_rfl, rfl, by decide, by decide⟩
theorem sizeUn25 : (Tryz.prog.info? 55).map (·.size) = some 3 := by kernel_rfl
def zUn25 : List Value := [.int .i64 0, .int .i64 0, .int .i64 0]
theorem infoUn25 : (Tryz.prog.info? 55).map (fun i => (i.zero, i.size)) = some (some (.agg zUn25.toArray), zUn25.length) := by kernel_rfl
set_option maxRecDepth 100000 in
set_option maxHeartbeats 1600000 in
theorem script25_any (w : World) :
    Calls Tryz.prog 26 #[] w fun e w' => ∃ A c, e = .returned (.slice A 5 c) ∧ OpsAt w' A 5 ops25 ∧ Below w.heap.size w w' := by
  have hb := Below.refl w.heap.size w
  go_enter Tryz.func26, Tryz.ntmps26
  go_upto_region 3 with (go_at_call 30; refine (at25_any _ _ _).mono ?_; rintro e wn ⟨rfl, bn⟩; replace hb := hb.trans (bn.mono hb.size); clear bn)
  have rd := Rd.new wn (us25.flatMap unC) 55 5 (size := 3) rfl
  obtain ⟨w2, hw2⟩ : ∃ x, wn.alloc (.cells (us25.flatMap unC).toArray 55) = x := ⟨_, rfl⟩
  have hw3 : wn.alloc (.cells #[.int .i64 0, .int .i64 0, .int .i64 2, .int .i64 0, .int .i64 0, .int .i64 0, .int .i64 0, .int .i64 0, .int .i64 1, .int .i64 1, .int .i64 0, .int .i64 1, .int .i64 2, .int .i64 0, .int .i64 2] 55) = w2 := hw2
  have hb2 : Below w.heap.size w w2 := by rw [← hw2]; exact hb.alloc hb.size _
  have hs2 : w2.heap.size = wn.heap.size + 1 := by rw [← hw2]; simp
  rw [hw2, ← hs2] at rd
  obtain ⟨bu, hbu⟩ : ∃ x, wn.heap.size = x := ⟨_, rfl⟩
  rw [hbu] at rd
  rw [hw3, hbu]
  have HR := Lib.hid rd
  have HB2 := Lib.hid hb2
  clear rd hw2 hw3 hb hb2 hs2 hbu
  go_loopw [1, 16] (fun u1 u16 wx => ∃ (wr : World) (j : Nat) (A3 : Option Addr) (c3 : Nat), wr = wx ∧ j ≤ 5 ∧ u16 = .int .i64 (j : Int) ∧ u1 = .slice A3 j c3 ∧ Hid (wr.ownsRow w2.heap.size 75 9 (.slice A3 j c3) j ((ops25.take j).flatMap opL)) ∧ Hid (Below w2.heap.size w2 wr)) (fun _ u16 _ => 5 - (intOf u16).toNat)
  case atStart => exact ⟨_, 0, none, 0, rfl, Nat.zero_le _, rfl, rfl, Lib.hid (World.ownsRow_nil _ _ _ _), Lib.hid (Below.refl _ _)⟩
  case round =>
    obtain ⟨wr, j, A3, c3, rfl, hj, rfl, rfl, HO, HBR⟩ := hrel
    by_cases hlt : j < 5
    · have hjl : j < us25.length := hlt
      obtain ⟨b, off, hA, hbb, hrg⟩ := HR.out.elem (f := unC) (fun _ _ => rfl) hjl hlt
      obtain ⟨rfl, rfl⟩ : bu = b ∧ 0 = off := by have := Option.some.inj hA; exact ⟨congrArg Addr.block this, congrArg Addr.off this⟩
      have HTK : Hid (ops25.take (j + 1) = ops25.take j ++ [op25 us25[j]]) := Lib.hid (by
        rw [List.take_succ_eq_append_getElem (show j < ops25.length from hlt)]; unfold ops25; simp)
      obtain ⟨⟨u0, u1, u2⟩, hu⟩ : ∃ u, us25[j] = u := ⟨_, rfl⟩
      rw [hu] at hrg HTK
      unfold unC at hrg
      rw [Nat.zero_add] at hrg
      have hrw : wr.rangeAt bu (j * 3) [.int .i64 u0, .int .i64 u1, .int .i64 u2] := fun q u hq => (HBR.out.cell (p := ⟨bu, j * 3 + q, none⟩) hbb).trans (hrg q u hq)
      have e1 : (0 : Int) ≤ (j : Int) := by omega
      have e2 : (j : Int) < 5 := by omega
      clear hjl hbb hrg hu hA
      go_upto_region 5 with (first
        | (refine wpList_load_mid rfl _ (.tmp 18) rfl bu (j * 3) rfl [.int .i64 u0, .int .i64 u1, .int .i64 u2] _ hrw Tryz.underlying55 rfl sizeUn25 ?_)
        | (refine wpList_allocRow rfl _ rfl _ infoUn25 ?_; intro w3 rz3 b3 z3; clear z3)
        | (refine wpList_storeRow rfl _ (.tmp 3) (.tmp 19) rfl (l' := [.int .i64 u0, .int .i64 u1, .int .i64 u2]) rz3 rfl rfl sizeUn25 rfl rfl ?_; intro w4 rz4 g4 z4; clear z4))
      have hb4 : Below wr.heap.size wr w4 := b3.grown g4 b3.size (fun i hi => by have := Option.some.inj hi; omega)
      obtain ⟨b3', hb3'⟩ : ∃ y, wr.heap.size = y := ⟨_, rfl⟩
      have HB4 := Lib.hid (HBR.out.trans (hb4.mono HBR.out.size))
      have HO4 := Lib.hid (own_below HO.out hb4)
      rw [hb3'] at rz4 ⊢
      have hr4 : w4.rangeAt b3' 0 [.int .i64 u0, .int .i64 u1, .int .i64 u2] := fun q u hq => by rw [Nat.zero_add, rz4.cell]; exact hq
      clear rz3 b3 g4 hrw hb4 hb3' rz4
      try simp only [Act.put, List.setIfInBounds_toArray, List.set_cons_zero, List.set_cons_succ]
      go_wp2_with (first
        | (refine wpList_load_mid rfl _ (.tmp 3) rfl b3' 0 rfl [.int .i64 u0, .int .i64 u1, .int .i64 u2] _ hr4 Tryz.underlying55 rfl sizeUn25 ?_)
        | (at_builtin; refine wpList_appN rfl (.tmp 20) (.tmp 23) 26 rfl w2.heap.size 75 _ 9 64 opT25 A3 j c3 ((ops25.take j).flatMap opL) [.int .i64 1, .int .i64 0, .int .i64 0, .int .i64 0, .int .i64 u0, .int .i64 u1, .int .i64 u2, .int .u8 0, .int .u32 0] _ rfl rfl rfl HO4.out HB4.out rfl (fun u hu => List.all_eq_true.1 (opL_one (op25 ⟨u0, u1, u2⟩)) u hu) (by omega) (Nat.le_refl _) HB4.out.size ?_; intro g5 c5 w5 own5 hb5 hg5; have HO5 := Lib.hid own5; have HB5 := Lib.hid hb5; clear own5 hb5 hg5))
      go_roundw
      case rel => exact ⟨_, j + 1, _, c5, rfl, by omega, by go_num, rfl, Lib.hid (by rw [HTK.out, List.flatMap_append, List.flatMap_singleton]; exact HO5.out), HB5⟩
      case measure => simp [intOf]; omega
    · obtain rfl : j = 5 := by omega
      go_wp2_with fail
      go_ret
      refine ⟨A3, c3, rfl, ⟨Rd.of_own HO.out, rfl, ?_⟩, HB2.out.trans (HBR.out.mono HB2.out.size)⟩
      intro o ho
      obtain ⟨u, _, rfl⟩ := List.mem_map.1 ho
      exact ⟨by show (0 : Int) ≤ 0; omega, by show (0 : Int) < 4294967296; omega⟩
/-! Empty -/
namespace Col
/-- the stripes without live chunks -/
def emp (l : List Chk.Ck) (ss : List St) : List St := ss.filter fun s => decide (cnt l s = 0)
theorem emp_snoc (l : List Chk.Ck) (ss : List St) (s : St) : emp l (ss ++ [s]) = emp l ss ++ (if cnt l s = 0 then [s] else []) := by
  unfold emp; rw [List.filter_append]
  by_cases h : cnt l s = 0 <;> simp [h]
end Col
def stC (s : Int × Int) : List Value := [.int .i64 s.1, .int .i64 s.2]
theorem stC_one (s : Int × Int) : ∀ u ∈ stC s, u.oneCell' = true := by intro u hu; simp only [stC, List.mem_cons, List.not_mem_nil, or_false] at hu; rcases hu with rfl | rfl <;> rfl
theorem stT25 : ElemT Tryz.prog 90 35 (.agg zS25.toArray) 2 16 := ⟨Tryz.underlying90, by kernel_rfl, rfl, by decide, by decide⟩
set_option maxRecDepth 100000 in
set_option maxHeartbeats 1600000 in
theorem empty_any {w : World} {B m cp : Nat} {A : Option Addr} {D : List S.RR} {rs : List S.Str.Rw} (h : S.RowsAt w B A m D rs) (hB : B ≤ w.heap.size) (hmc : m ≤ cp) {F T : Nat → Prop} {a : Nat} {t : TM} {l : List Chk.Ck} (ht : TAt w F T a t l)
    (c : Int) (ss : List (Int × Int)) (hss : Col.lss c rs = ss) (hn9 : ss.length ≤ 100000) (E : List (Int × Int)) (hE : Col.emp l ss = E) (N : Nat) (hN : E.length = N) :
    Calls Tryz.prog 29 #[.slice A m cp, .pointer (some ⟨a, 0, none⟩), .int .i64 c] w fun e w' => ∃ A' c', e = .returned (.slice A' N c') ∧ Rd w' w'.heap.size 2 A' N (E.flatMap stC) ∧ Below w.heap.size w w' := by
  obtain ⟨n, hn⟩ : ∃ n, ss.length = n := ⟨_, rfl⟩
  rw [hn] at hn9
  have HLD := Lib.hid (loads_any h hB hmc ht c ss hss n hn hn9)
  have HN := Lib.hid hn
  have HE := Lib.hid (And.intro hE hN)
  clear h hB ht hss hn hE hN
  go_enter Tryz.func29, Tryz.ntmps29
  go_upto_region 3 with (go_at_call 27; refine HLD.out.mono ?_; rintro e w2 ⟨A2, c2, rfl, own2, b2⟩)
  rw [ldLs_eq] at own2
  have HR2 := Lib.hid (Rd.of_own own2)
  have HB2 := Lib.hid b2
  clear own2 b2
  go_loopw [7, 15] (fun u7 u15 wx => ∃ (wr : World) (j : Nat) (A3 : Option Addr) (k c3 : Nat), wr = wx ∧ j ≤ n ∧ k ≤ j ∧ u15 = .int .i64 (j : Int) ∧ u7 = .slice A3 k c3 ∧ Hid ((Col.emp l (ss.take j)).length = k) ∧ Hid (wr.ownsRow w2.heap.size 35 2 (.slice A3 k c3) k ((Col.emp l (ss.take j)).flatMap stC)) ∧ Hid (Below w2.heap.size w2 wr)) (fun _ u15 _ => n - (intOf u15).toNat)
  case atStart => exact ⟨_, 0, none, 0, 0, rfl, Nat.zero_le _, Nat.le_refl _, rfl, rfl, Lib.hid rfl, Lib.hid (World.ownsRow_nil _ _ _ _), Lib.hid (Below.refl _ _)⟩
  case round =>
    obtain ⟨wr, j, A3, k, c3, rfl, hj, hkj, rfl, rfl, HK, HO, HBR⟩ := hrel
    by_cases hlt : j < n
    · have hjl : j < ss.length := by rw [HN.out]; exact hlt
      have hjl2 : j < (lds l ss).length := by rw [lds_len]; exact hjl
      obtain ⟨b, off, rfl, hbb, hrg⟩ := HR2.out.elem (f := Ld.L) (fun _ _ => rfl) hjl2 hlt
      have hes := Col.emp_snoc l (ss.take j) ss[j]
      rw [← List.take_succ_eq_append_getElem hjl] at hes
      rw [lds_get l ss j hjl2, Col.getD_get _ hjl] at hrg
      obtain ⟨⟨s0, s1⟩, hs⟩ : ∃ s, ss[j] = s := ⟨_, rfl⟩
      rw [hs] at hrg hes
      obtain ⟨y, hy⟩ : ∃ y, Col.cnt l (s0, s1) = y := ⟨_, rfl⟩
      rw [hy] at hrg hes
      unfold Ld.L at hrg
      dsimp only at hrg
      have hrw : wr.rangeAt b (off + j * 3) [.int .i64 s0, .int .i64 s1, .int .i64 y] := fun q u hq => (HBR.out.cell (p := ⟨b, off + j * 3 + q, none⟩) hbb).trans (hrg q u hq)
      have HES := Lib.hid hes
      have e1 : (0 : Int) ≤ (j : Int) := by omega
      have e2 : (j : Int) < (n : Int) := by omega
      clear hjl hjl2 hbb hrg hs hes hy
      go_upto_region 5 with (first
        | (refine wpList_load_mid rfl _ (.tmp 17) rfl b (off + j * 3) rfl [.int .i64 s0, .int .i64 s1, .int .i64 y] _ hrw Tryz.underlying95 rfl sizeLd ?_)
        | (refine wpList_allocRow rfl _ rfl _ infoLd ?_; intro w3 rz3 b3 z3; clear z3)
        | (refine wpList_storeRow rfl _ (.tmp 9) (.tmp 18) rfl (l' := [.int .i64 s0, .int .i64 s1, .int .i64 y]) rz3 rfl rfl sizeLd rfl rfl ?_; intro w4 rz4 g4 z4; clear z4))
      have hb4 : Below wr.heap.size wr w4 := b3.grown g4 b3.size (fun i hi => by have := Option.some.inj hi; omega)
      obtain ⟨b9, hb9⟩ : ∃ y, wr.heap.size = y := ⟨_, rfl⟩
      have HB4 := Lib.hid (HBR.out.trans (hb4.mono HBR.out.size))
      have HO4 := Lib.hid (own_below HO.out hb4)
      rw [hb9] at rz4 ⊢
      have k0 := rz4.cell 0
      have k1 := rz4.cell 1
      have k2 := rz4.cell 2
      dsimp only [List.getElem?_cons_zero, List.getElem?_cons_succ] at k0 k1 k2
      have hr4 : w4.rangeAt b9 0 [.int .i64 s0, .int .i64 s1] := fun q u hq => by
        rw [Nat.zero_add]
        rcases q with _ | _ | q
        · rw [k0]; exact hq
        · rw [k1]; exact hq
        · simp at hq
      clear rz3 b3 g4 hrw hb4 hb9 rz4
      try simp only [Act.put, List.setIfInBounds_toArray, List.set_cons_zero, List.set_cons_succ]
      by_cases hy0 : y = 0
      · have hy1 : (y == 0) = true := by simp [hy0]
        have hes := HES.out
        rw [if_pos hy0] at hes
        have HES2 := Lib.hid hes
        clear hes hy0
        go_wp2_with (first
          | (refine wpList_load_mid rfl _ (.tmp 23) rfl b9 0 rfl [.int .i64 s0, .int .i64 s1] _ hr4 Tryz.underlying35 rfl sizeS25 ?_)
          | (at_builtin; refine wpList_appN rfl (.tmp 22) (.tmp 25) 90 rfl w2.heap.size 35 _ 2 16 stT25 A3 k c3 ((Col.emp l (ss.take j)).flatMap stC) (stC (s0, s1)) _ rfl rfl rfl HO4.out HB4.out rfl (stC_one _) (by omega) (Nat.le_refl _) HB4.out.size ?_; intro g5 c5 w5 own5 hb5 hg5; have HO5 := Lib.hid own5; have HB5 := Lib.hid hb5; clear own5 hb5 hg5))
        go_roundw
        case rel => exact ⟨_, j + 1, _, k + 1, c5, rfl, by omega, by omega, by go_num, rfl, Lib.hid (by rw [HES2.out, List.length_append, HK.out]; rfl), Lib.hid (by rw [HES2.out, List.flatMap_append]; simpa using HO5.out), HB5⟩
        case measure => simp [intOf]; omega
      · have hy1 : (y == 0) = false := by simp [hy0]
        have hes := HES.out
        rw [if_neg hy0, List.append_nil] at hes
        have HES2 := Lib.hid hes
        clear hes hy0
        go_wp2_with fail
        go_roundw
        case rel => exact ⟨_, j + 1, A3, k, c3, rfl, by omega, by omega, by go_num, rfl, Lib.hid (by rw [HES2.out, HK.out]), Lib.hid (by rw [HES2.out]; exact HO4.out), HB4⟩
        case measure => simp [intOf]; omega
    · obtain rfl : j = n := by omega
      have hE := HE.out
      have hk := HK.out
      have ho := HO.out
      rw [List.take_of_length_le (by rw [HN.out]; exact Nat.le_refl _), hE.1] at hk ho
      obtain rfl : k = N := by rw [← hk, hE.2]
      have HO2 := Lib.hid ho
      clear hE hk ho
      go_wp2_with fail
      go_ret
      exact ⟨A3, c3, rfl, Rd.of_own HO2.out, HB2.out.trans (HBR.out.mono HB2.out.size)⟩
end Go.Proofs.YtihhkcndcgljbaaGreat
