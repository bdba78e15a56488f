/- The statement ChargeLocal: for every input the law returns true, and each argument reads behind the call as it read before. The walk lifted to the given row. Conditions: none. -/
import Derived.Test.YtfllkaeaanahmaaGreatRows
import Derived.Test.YtfllkaeaanahmaaGreatStrLK
import Derived.Test.YtfllkaeaanahmaaGreatChaLl
namespace Go.Proofs.YtfllkaeaanahmaaGreat.lawChargeLocal
set_option linter.unusedVariables false
set_option linter.unusedSimpArgs false
open Go.RowKit Go.WideShapes Go.ChangeShapes Go.ChangeAt

theorem own : ownKnob Tryz.prog.godebug = none := by kernel_rfl
theorem laidOut : laidOutB Tryz.prog = true := by kernel_rfl

set_option maxRecDepth 100000 in
theorem contract (H : Type) (enc : TypeId × Value → H) (W : World) (base : Nat) (args : Array Value) (ds gs : List (DataW H)) (before : List MemPlace)
  (hval : ∀ (j : Nat) t v, Tryz.f7.params[j]? = some t → args[j]? = some v → Value.okWide Tryz.prog W .any base t v)
  (hW : DataW.Whole enc Tryz.prog Tryz.f7.params.toList Rows.chargeLocalSpec.vars false W args.toList ds gs before)
  (hsz0 : (DataW.weightsEach Tryz.prog (Tryz.f7.params.toList ++ Rows.chargeLocalSpec.plain.varTypes Tryz.prog) (ds ++ gs)).all (· ≤ reachBytes) = true) :
  Calls Tryz.prog 7 args W fun e W' => ∃ v, e = .returned v ∧ Rows.chargeLocalSpec.post enc Tryz.prog Tryz.f7 false true false false W args v W' := by
 have hW' := hW
 obtain ⟨p, q, hA0, hV, rfl, hfz, hnd⟩ := hW
 have hA : DataW.TrodAll enc Tryz.prog W 0 (fun _ => true) true Tryz.f7.params.toList args.toList ds p := hA0
 have hsz := hsz0
 rw [Tryz.params7] at hA hval hsz
 obtain ⟨rfl, rfl⟩ := trodVars_none hV
 obtain ⟨v0, vs0, d0, ds0, p0, q0, hargs, rfl, rfl, h0, r0⟩ := trodAll_cons hA
 obtain ⟨v1, vs1, d1, ds1, p1, q1, rfl, rfl, rfl, h1, r1⟩ := trodAll_cons r0
 obtain ⟨v2, vs2, d2, ds2, p2, q2, rfl, rfl, rfl, h2, r2⟩ := trodAll_cons r1
 obtain ⟨v3, vs3, d3, ds3, p3, q3, rfl, rfl, rfl, h3, r3⟩ := trodAll_cons r2
 obtain ⟨v4, vs4, d4, ds4, p4, q4, rfl, rfl, rfl, h4, r4⟩ := trodAll_cons r3
 obtain ⟨rfl, rfl, rfl⟩ := trodAll_nil r4
 obtain rfl : args = #[v0, v1, v2, v3, v4] := by cases args; simp_all
 obtain ⟨x0, rfl⟩ := S.arg_cfg (hval 0 23 v0 rfl rfl) h0
 obtain ⟨A1, n1, c1, x1, rfl, nc1, rd1⟩ := S.arg_rows (hval 1 25 v1 rfl rfl) h1 (sized_of hsz (j := 1) rfl rfl)
 obtain ⟨A2, n2, c2, x2, rfl, nc2, cc2, xl2, xr2, rd2⟩ := arg_ops (hval 2 26 v2 rfl rfl) h2 (sized_of hsz (j := 2) rfl rfl)
 obtain ⟨A3, n3, c3, x3, rfl, nc3, cc3, xl3, xr3, rd3⟩ := arg_ops (hval 3 26 v3 rfl rfl) h3 (sized_of hsz (j := 3) rfl rfl)
 obtain ⟨x4, rfl, l4, u4⟩ := arg_int Tryz.underlying3 (hval 4 3 v4 rfl rfl) h4
 clear hA0 hsz0
 refine (lawCLocal x0 A1 n1 c1 x1 nc1 A2 n2 c2 x2 xl2 nc2 cc2 xr2 A3 n3 c3 x3 xl3 nc3 cc3 xr3 x4 l4 u4 W rd1 rd2 rd3).mono fun e W' ⟨he, hb⟩ => ?_
 subst he
 exact ⟨_, rfl, law_post (tb := 4) laidOut rfl (by kernel_rfl) rfl Tryz.underlying4 hW' rfl rfl rfl hb⟩

set_option maxRecDepth 100000 in
theorem lifted (os : Os) (started : os.Started) (H : Type) (enc : TypeId × Value → H) :
  ReturnsInHanded {} Tryz.checked os 7 .any (Rows.chargeLocalSpec.pre6 enc Tryz.prog Tryz.f7 Rows.chargeLocalRow.domain false) (Rows.chargeLocalSpec.post enc Tryz.prog Tryz.f7 false true false false) := by
 refine returnsInHanded_of_change_sized (C := Tryz.checked) own started (by kernel_rfl) Tryz.func7
  (ChangeSpec.witness6 (enc := enc) (C := Tryz.checked) false ⟨#[], #[.agg #[.int .i64 0, .int .i64 0, .int .i64 0, .int .i64 0, .int .i64 0, .int .i64 0], .slice none 0 0, .slice none 0 0, .slice none 0 0, .int .i64 0], []⟩ 8 (by kernel_rfl) (by kernel_rfl) (by kernel_rfl) (by kernel_rfl)) ?_
 intro W base args ds gs before hval0 hW _ hsz0 _
 exact contract H enc W base args ds gs before hval0 hW hsz0

theorem proved : Rows.ChargeLocalSaid :=
 OpenClaim.holds_of_wide 7 Tryz.f7 rfl rfl rfl rfl rfl rfl rfl ⟨rfl, rfl, rfl, rfl, rfl⟩ rfl rfl rfl rfl rfl (by kernel_rfl) Tryz.func7 (by kernel_rfl)
  (of_decide_eq_true (by kernel_rfl)) (by unfold Func.isWrapper; rw [if_neg (of_decide_eq_false (by kernel_rfl))]; exact ⟨rfl, rfl⟩)
  (fun os started H enc _ => lifted os started H enc)
end Go.Proofs.YtfllkaeaanahmaaGreat.lawChargeLocal
