/- Walk of the reference's comparison of lists of digests. Conditions: lengths below 2^40, digests of 16 bytes. -/
import Derived.Test.YtoipafbjdjhdjaaWireDig2
import Derived.Stop.BytesEq
namespace Go.Proofs.Ytoipafbjdjhdjaa
set_option linter.unusedVariables false
set_option linter.unusedSimpArgs false
open Go.RowKit

theorem sizeU8 (w : World) : (sizeOf 5).run Try.prog w = .ok 1 w := by
  have : (Try.prog.info? 5).map (·.size) = some 1 := by kernel_rfl
  cases hq : Try.prog.info? 5 with
  | none => simp [hq] at this
  | some i => simp [hq] at this; simp [sizeOf, typeInfo, hq, this]
theorem run_neq_dig (w : World) {x y : List UInt8} (hx : x.length = 16) (hy : y.length = 16) :
    (binOp .neq 51 (.agg (bvs x).toArray) (.agg (bvs y).toArray)).run Try.prog w = .ok (.bool (!(x == y))) w := by
  rw [run_neq_struct]
  have h := run_equalIn_bytes (P := Try.prog) w 9998 51 5 16 Try.underlying51 Try.underlying5 sizeU8 x y hx hy
  have e : ∀ l : List UInt8, (l.map Extern.Stop.cell) = bvs l := fun l => rfl
  rw [e, e] at h
  rw [h]; rfl

/-- a load of a whole row in a quiet region -/
theorem wpQuiet_load {P : Program} {ops : Array Oper} {C : World → Prop} {Q : Act → Prop} {a : Act} {o : Oper} {rest : List Oper} (hg : o.guard = none) (ty : TypeId) (x : Operand) (ho : o.op = .load ty x) (v : Value)
    (hr : ∀ w, C w → (Instr.loadAt ty (a.eval x)).run P w = .ok v w) (h : wpQuiet P ops C Q rest (a.put o.dst v)) : wpQuiet P ops C Q (o :: rest) a := by
  refine wpQuiet_step fun K hK => ?_
  rw [if_pos (by simp [Region.wanted, hg])]
  refine ⟨v, fun w hw => ?_, hK _ h⟩
  unfold Oper.quietAt execOp
  simp only [ho, Sem.run_bind, Sem.run_pure, hr w hw, Result.andThen_ok]
  exact ⟨rfl, rfl⟩

set_option maxHeartbeats 400000 in
theorem sameDigests_any (A B : Option Addr) (ca cb : Nat) (xs ys : List (List UInt8)) (w : World) (hL : xs.length ≤ 1099511627776) (B1 B2 : Nat) (hx : D16 xs) (hy : D16 ys)
    (ha : Rd w B1 16 A xs.length (dvs xs)) (hb : Rd w B2 16 B ys.length (dvs ys)) :
    Calls Try.prog 30 #[.slice A xs.length ca, .slice B ys.length cb] w fun e w' => e = .returned (.bool (decide (xs = ys))) ∧ ∃ n, w' = w.drewN n := by
  by_cases hlen : xs.length = ys.length
  · have hne : ((xs.length : Int) != ys.length) = false := by rw [bne_eq_false_iff_eq]; omega
    have HL := Lib.hid hlen; clear hlen
    have HX := Lib.hid hx; have HY := Lib.hid hy; clear hx hy
    go_enter Try.func30, Try.ntmps30
    go_wp2
    go_loopw [5] (fun i wr => ∃ k n : Nat, k ≤ xs.length ∧ i = .int .i64 k ∧ wr = w.drewN n ∧ Hid (xs.take k = ys.take k)) (fun i _ => xs.length - (intOf i).toNat)
    case atStart => exact ⟨0, 0, Nat.zero_le _, rfl, rfl, by simp [Hid]⟩
    case round =>
      obtain ⟨k, n, hk, rfl, rfl, HT⟩ := hrel
      by_cases hlt : k < xs.length
      · have hky : k < ys.length := by have := HL.out; omega
        obtain ⟨ba, oa, rfl, _, h1⟩ := ha.elem HX.out.cells hlt hlt
        obtain ⟨bb, ob, rfl, _, h2⟩ := hb.elem HY.out.cells hky hky
        have HR1 : Hid (∀ m, (w.drewN m).rangeAt ba (oa + k * 16) (bvs xs[k])) := fun m => h1
        have HR2 : Hid (∀ m, (w.drewN m).rangeAt bb (ob + k * 16) (bvs ys[k])) := fun m => h2
        have HXY : Hid (xs[k] = ys[k] ∨ xs[k] ≠ ys[k]) := Decidable.em _
        have HTS : Hid (xs[k] = ys[k] → xs.take (k + 1) = ys.take (k + 1)) := fun e => take_succ_eq hlt hky HT.out e
        have HNE : Hid (xs[k] ≠ ys[k] → xs ≠ ys) := fun e => ne_of_get hlt hky e
        clear h1 h2 ha hb
        have hxl : xs[k].length = 16 := HX.out _ (List.getElem_mem hlt)
        have hyl : ys[k].length = 16 := HY.out _ (List.getElem_mem hky)
        generalize xs[k] = x at *
        generalize ys[k] = y at *
        have l1 : ∀ m, (Instr.loadAt 51 (.pointer (some ⟨ba, oa + k * 16, none⟩))).run Try.prog (w.drewN m) = .ok (.agg (bvs x).toArray) (w.drewN m) := fun m =>
          run_loadAt_mid _ ba (oa + k * 16) _ (bvs x) _ (HR1.out m) Try.underlying51 rfl (by rw [dig_size, List.length_map, hxl])
        have l2 : ∀ m, (Instr.loadAt 51 (.pointer (some ⟨bb, ob + k * 16, none⟩))).run Try.prog (w.drewN m) = .ok (.agg (bvs y).toArray) (w.drewN m) := fun m =>
          run_loadAt_mid _ bb (ob + k * 16) _ (bvs y) _ (HR2.out m) Try.underlying51 rfl (by rw [dig_size, List.length_map, hyl])
        have l3 : ∀ w, (Op.equalIn 10000 51 (.agg (bvs x).toArray) (.agg (bvs y).toArray)).run Try.prog w = .ok (x == y) w := fun w => run_equalIn_bytes (P := Try.prog) w 9998 51 5 16 Try.underlying51 Try.underlying5 sizeU8 x y hxl hyl
        clear hxl hyl
        have L1 := Lib.hid l1
        have L2 := Lib.hid l2
        clear l1 l2
        go_wp2
        refine wp_region_quiet_lit (by kernel_rfl) (by kernel_rfl) ?_
        repeat (go_big_quiet_step (fail))
        refine wpQuiet_load rfl 51 (.tmp 19) rfl (.agg (bvs x).toArray) (fun w' ⟨m, hm⟩ => by rw [hm, World.drewN_drewN]; exact L1.out _) ?_
        simp only [Act.put, List.setIfInBounds_toArray, List.set_cons_succ, List.set_cons_zero]
        repeat (go_big_quiet_step (fail))
        refine wpQuiet_load rfl 51 (.tmp 23) rfl (.agg (bvs y).toArray) (fun w' ⟨m, hm⟩ => by rw [hm, World.drewN_drewN]; exact L2.out _) ?_
        simp only [Act.put, List.setIfInBounds_toArray, List.set_cons_succ, List.set_cons_zero]
        repeat (go_big_quiet_step (fail))
        refine wpQuiet_nil ?_
        intro _ hw'
        obtain ⟨nq, hw''⟩ := hw'
        subst hw''
        cases hxy : (x == y)
        · have HN := Lib.hid (HNE.out (by simpa using hxy))
          go_wp2
          go_ret
          exact ⟨ret_bool (decide_eq_false HN.out).symm, ex_drew2 _ _ _⟩
        · have HN := Lib.hid (HTS.out (by simpa using hxy))
          go_wp2
          go_roundw
          case rel => exact ⟨k + 1, _, by omega, by go_num, rfl, HN⟩
          case measure => simp [intOf] <;> omega
      · go_wp2
        go_ret
        exact ⟨ret_bool (decide_eq_true (eq_of_take HT.out (by omega) (by have := HL.out; omega))).symm, n, rfl⟩
  · have hne : ((xs.length : Int) != ys.length) = true := by rw [bne_iff_ne]; omega
    have HL := Lib.hid hlen; clear hlen
    go_enter Try.func30, Try.ntmps30
    go_wp2
    go_ret
    exact ⟨ret_bool (decide_eq_false fun h => HL.out (by rw [h])).symm, 0, rfl⟩
theorem sameDigests_len (A B : Option Addr) (ca cb la lb : Nat) (xs ys : List (List UInt8)) (w : World) (hla : xs.length = la) (hlb : ys.length = lb) (hL : la ≤ 1099511627776) (B1 B2 : Nat) (hx : D16 xs) (hy : D16 ys)
    (ha : Rd w B1 16 A la (dvs xs)) (hb : Rd w B2 16 B lb (dvs ys)) (S : Bool) (hS : decide (xs = ys) = S) :
    Calls Try.prog 30 #[.slice A la ca, .slice B lb cb] w fun e w' => e = .returned (.bool S) ∧ ∃ n, w' = w.drewN n := by
  subst hla hlb hS
  exact sameDigests_any A B ca cb xs ys w hL B1 B2 hx hy ha hb
end Go.Proofs.Ytoipafbjdjhdjaa
