/- The law folder's sanity example: a walk of its text. -/
import Derived.Test.YtfnbcchmembomaaDoorVerify2
import Derived.Test.YtfnbcchmembomaaDoorProveW
namespace Go.Proofs.YtfnbcchmembomaaDoor
set_option linter.unusedVariables false
set_option linter.unusedSimpArgs false
open Go.RowKit
namespace Mk
def dig (i : UInt8) : List UInt8 := i :: List.replicate 15 0
def LS : List (List UInt8) := [dig 1, dig 2, dig 3]
theorem LS16 : D16 LS := by intro d hd; simp [LS] at hd; rcases hd with rfl | rfl | rfl <;> rfl
theorem split3 : split 3 = 2 := by
  have h := split_unique (n := 3) (k := 2) ⟨1, rfl⟩ (by omega) (by omega)
  exact h.symm
theorem split2 : split 2 = 1 := by
  have h := split_unique (n := 2) (k := 1) ⟨0, rfl⟩ (by omega) (by omega)
  exact h.symm
theorem steps32 : (steps 0 3 2).length = 1 := by
  rw [steps_hi 0 (by omega) (by rw [split3]; omega), split3, steps_one _ _ (by omega)]; rfl
theorem steps31 : (steps 0 3 1).length = 2 := by
  rw [steps_lo 0 (by omega) (by rw [split3]; omega), split3, steps_hi 0 (by omega) (by rw [split2]; omega), split2, steps_one _ _ (by omega)]; rfl
theorem prove32 : (prove LS 2).length = 1 := by
  have := steps32
  simp [prove, LS, this]
theorem verify_ok : verify (root LS) (3 : Int) (2 : Int) (dig 3) (prove LS 2) = true := by
  unfold verify
  rw [if_pos (by omega)]
  have e3 : (3 : Int).toNat = 3 := rfl
  have e2 : (2 : Int).toNat = 2 := rfl
  rw [e3, e2, if_pos (by rw [prove32, steps32])]
  have h := prove_root LS 2 (by decide)
  have hl : LS.length = 3 := rfl
  have hg : LS.getD 2 [] = dig 3 := rfl
  rw [hl, hg] at h
  rw [h]
  exact beq_self_eq_true _
theorem verify_bad : verify (root LS) (3 : Int) (1 : Int) (dig 3) [] = false := by
  unfold verify
  rw [if_pos (by omega)]
  have e3 : (3 : Int).toNat = 3 := rfl
  have e2 : (1 : Int).toNat = 1 := rfl
  rw [e3, e2, if_neg (by rw [steps31]; simp)]
theorem LS_cells : (dvs LS).toArray = #[Value.int IntKind.u8 1, Value.int IntKind.u8 0, Value.int IntKind.u8 0, Value.int IntKind.u8 0, Value.int IntKind.u8 0, Value.int IntKind.u8 0, Value.int IntKind.u8 0, Value.int IntKind.u8 0, Value.int IntKind.u8 0, Value.int IntKind.u8 0, Value.int IntKind.u8 0, Value.int IntKind.u8 0, Value.int IntKind.u8 0, Value.int IntKind.u8 0, Value.int IntKind.u8 0, Value.int IntKind.u8 0,
    Value.int IntKind.u8 2, Value.int IntKind.u8 0, Value.int IntKind.u8 0, Value.int IntKind.u8 0, Value.int IntKind.u8 0, Value.int IntKind.u8 0, Value.int IntKind.u8 0, Value.int IntKind.u8 0, Value.int IntKind.u8 0, Value.int IntKind.u8 0, Value.int IntKind.u8 0, Value.int IntKind.u8 0, Value.int IntKind.u8 0, Value.int IntKind.u8 0, Value.int IntKind.u8 0, Value.int IntKind.u8 0,
    Value.int IntKind.u8 3, Value.int IntKind.u8 0, Value.int IntKind.u8 0, Value.int IntKind.u8 0, Value.int IntKind.u8 0, Value.int IntKind.u8 0, Value.int IntKind.u8 0, Value.int IntKind.u8 0, Value.int IntKind.u8 0, Value.int IntKind.u8 0, Value.int IntKind.u8 0, Value.int IntKind.u8 0, Value.int IntKind.u8 0, Value.int IntKind.u8 0, Value.int IntKind.u8 0, Value.int IntKind.u8 0] := by kernel_rfl
theorem dig3_cells : dv (dig 3) = .agg #[Value.int IntKind.u8 3, Value.int IntKind.u8 0, Value.int IntKind.u8 0, Value.int IntKind.u8 0, Value.int IntKind.u8 0, Value.int IntKind.u8 0, Value.int IntKind.u8 0, Value.int IntKind.u8 0, Value.int IntKind.u8 0, Value.int IntKind.u8 0, Value.int IntKind.u8 0, Value.int IntKind.u8 0, Value.int IntKind.u8 0, Value.int IntKind.u8 0, Value.int IntKind.u8 0, Value.int IntKind.u8 0] := by kernel_rfl
theorem sum0 : (bvs (Sha.sum []))[0]? = some (.int .u8 227) := by rw [Sha.sum_nil]; rfl
theorem sum31 : (bvs (Sha.sum []))[31]? = some (.int .u8 85) := by rw [Sha.sum_nil]; rfl
end Mk
set_option maxRecDepth 100000 in
set_option maxHeartbeats 1000000 in
theorem sanity_any (w : World) (hT : Tabs w) :
    Calls Tryd.prog 10 #[] w fun e w' => e = .returned (.bool true) ∧ Below w.heap.size w w' := by
  have hs0 := Mk.sum0
  have hs31 := Mk.sum31
  have hsl : (bvs (Sha.sum [])).length = 32 := by rw [bvs_len, Sha.sum_len]
  have hSum := sum_any none 0 0 [] rfl (by decide) 0 w (Rd.nil_ _ _ _ _) (Nat.zero_le _) hT.k hT.s
  have hone : ∀ v ∈ bvs (Sha.sum []), v.oneCell' = true := List.all_eq_true.1 (bvs_all _)
  generalize bvs (Sha.sum []) = S at *
  have HSL := Lib.hid hsl
  have HS0 := Lib.hid hs0
  have HS31 := Lib.hid hs31
  clear hs0 hs31 hsl
  go_enter Tryd.func10, Tryd.ntmps10
  go_wp2_with (first
    | (go_at_call 11; refine hSum.mono ?_; rintro e w1 ⟨rfl, b1⟩)
    | (refine wpList_allocRow rfl _ rfl _ info32 ?_; intro w2 r2 b2 z2; have HZ2 := Lib.hid z2; clear z2)
    | (refine wpList_storeRow rfl _ (.tmp 1) (.tmp 7) rfl r2 rfl rfl (by rw [HSL.out]; exact size32) (by rw [HSL.out, List.length_replicate]) (List.all_eq_true.2 hone) ?_; intro w3 r3 g3 z3; have HZ3 := Lib.hid z3; clear z3)
    | fail)
  have hb3 : Below w.heap.size w w3 := (b1.trans (b2.mono b1.size)).grown g3 (by have := b1.size; have := b2.size; omega) (fun j hj => by have hj := Option.some.inj hj; have := b1.size; omega)
  rw [← Mk.LS_cells]
  have r4 := IsRow.new w3 30 (dvs Mk.LS)
  have hb4 : Below w3.heap.size w3 (w3.alloc (.cells (dvs Mk.LS).toArray 30)) := (Below.refl _ _).alloc (Nat.le_refl _) _
  have rd4 := r4.rd (n := 3) (size := 16) (B := w3.heap.size + 1) (by rfl) (by omega)
  have hz4 := alloc_size1 w3 (.cells (dvs Mk.LS).toArray 30)
  generalize w3.alloc (.cells (dvs Mk.LS).toArray 30) = w4 at *
  have HZ4 : Hid (w3.heap.size + 1 ≤ w4.heap.size) := Lib.hid (by omega)
  clear hz4 r4
  have hB4 : Below w.heap.size w w4 := hb3.trans (hb4.mono hb3.size)
  have r34 := r3.below' hb4
  refine (prove_ok 3 3 w3.heap.size 0 2 Mk.LS rfl (by omega) Mk.LS16 (by omega) (by unfold maxLen; omega) (by omega) _ w4 (hT.below hB4) rd4 HZ4.out).mono ?_
  rintro e w5 ⟨A5, m, c5, rfl, hm, hmc, hcm, rd5, b5⟩
  rw [Mk.prove32] at hm
  subst hm
  have hB5 : Below w.heap.size w w5 := hB4.trans (b5.mono hB4.size)
  have r35 := r34.below' b5
  have HE := Lib.hid (fun W => prove_err (some ⟨w3.heap.size, 0, none⟩) 3 3 3 (by omega) W)
  have HR := Lib.hid (fun (W : World) (h : Below w4.heap.size w4 W) => root_any 3 3 (some ⟨w3.heap.size, 0, none⟩) Mk.LS rfl (by omega) (w3.heap.size + 1) W (rd4.below (h.mono HZ4.out)) Mk.LS16 (by have := HZ4.out; have := h.size; omega) (by omega) (by unfold maxLen; omega) ((hT.below hB4).below h))
  have HV1 := Lib.hid (fun (W : World) (h : Below w5.heap.size w5 W) => verify_any 3 2 (by omega) (Mk.root Mk.LS) (Mk.dig 3) (Mk.root_len _) rfl A5 1 c5 (Mk.prove Mk.LS 2) Mk.prove32 (by unfold Mk.prove; intro d hd; rw [List.mem_reverse] at hd; exact Mk.sibs_16 _ _ d hd) w5.heap.size W (rd5.below h) h.size ((hT.below hB5).below h))
  have HV2 := Lib.hid (fun (W : World) (h : Below w5.heap.size w5 W) => verify_any 3 1 (by omega) (Mk.root Mk.LS) (Mk.dig 3) (Mk.root_len _) rfl none 0 0 [] rfl (by intro d hd; cases hd) 0 W (Rd.nil_ _ _ _ _) (Nat.zero_le _) ((hT.below hB5).below h))
  simp only [Mk.verify_ok, Mk.dig3_cells] at HV1
  simp only [Mk.verify_bad, Mk.dig3_cells] at HV2
  generalize Mk.root Mk.LS = rt at *
  clear rd4 hb4
  have HQ5 := Lib.hid b5
  clear b5
  go_wp2_with (first
    | (go_at_call 15; refine (HE.out _).mono ?_; rintro e w6 ⟨rfl, b6⟩; have r36 := r35.below' b6; have c0 := (r36.cell 0).trans HS0.out; have c31 := (r36.cell 31).trans HS31.out)
    | (have tok := b8; go_at_call 19; refine (HR.out _ (HQ5.out.trans (q8.mono HQ5.out.size))).mono ?_; rintro e w9 ⟨rfl, b9⟩; have q9 := q8.trans (b9.mono q8.size); clear b8 tok)
    | (go_at_call 19; refine (HR.out _ (HQ5.out.trans (b6.mono HQ5.out.size))).mono ?_; rintro e w7 ⟨rfl, b7⟩; have q7 := b6.trans (b7.mono b6.size))
    | (have tok := q9; go_at_call 26; refine (HV2.out _ q9).mono ?_; rintro e w10 ⟨rfl, b10⟩; have q10 := q9.trans (b10.mono q9.size); clear q9 tok)
    | (go_at_call 26; refine (HV1.out _ q7).mono ?_; rintro e w8 ⟨rfl, b8⟩; have q8 := q7.trans (b8.mono q7.size))
    | fail)
  go_ret
  exact ⟨rfl, hB5.trans (q10.mono hB5.size)⟩
end Go.Proofs.YtfnbcchmembomaaDoor
