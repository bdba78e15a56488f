/- The index's laws: a script, an operation, as plain data. -/
import Derived.Test.YtnehbcopbioenaaLawKit2
import Derived.Test.YtnehbcopbioenaaIPlay
namespace Go.Proofs.Ytnehbcopbioenaa
set_option linter.unusedVariables false
set_option linter.unusedSimpArgs false
open Go.RowKit Go.WideShapes Go.ChangeShapes Go.ChangeAt Go.Deep

theorem opFields : ∃ fs, Try.prog.underlying 34 = some (.struct fs) ∧ oneCellFields Try.prog fs = true ∧ fs.size = 3 ∧ (∃ f0 f1 f2, fs = #[f0, f1, f2] ∧ Try.prog.underlying f0.type = some .bool ∧ Try.prog.underlying f1.type = some (.int .u32) ∧ Try.prog.underlying f2.type = some (.int .i64)) :=
  ⟨_, Try.underlying34, by kernel_rfl, rfl, _, _, _, rfl, Try.underlying4, Try.underlying32, Try.underlying3⟩
section
variable {H : Type} {enc : TypeId × Value → H} {W : World} {v : Value} {d : DataW H} {ps : List MemPlace} {r : Reach} {b0 : Nat}
def OpOk (o : IOp) : Prop := 0 ≤ o.2.1 ∧ o.2.1 ≤ 4294967295 ∧ -9223372036854775808 ≤ o.2.2 ∧ o.2.2 ≤ 9223372036854775807
theorem op_cells {fuel : Nat} {cs : List Value} {x : DataW H × List MemPlace} (hl : cs.length = 3) (h : DataW.trod enc Try.prog W 0 (fun _ => true) true fuel 34 cs = some x) : ∃ o : IOp, cs = ov o ∧ OpOk o := by
  obtain ⟨fs, he, hone, hsz, f0, f1, f2, rfl, t0, t1, t2⟩ := opFields
  obtain ⟨u0, n0, y0, hc0, h0⟩ := field_of he hone hl h (j := 0) rfl
  obtain ⟨u1, n1, y1, hc1, h1⟩ := field_of he hone hl h (j := 1) rfl
  obtain ⟨u2, n2, y2, hc2, h2⟩ := field_of he hone hl h (j := 2) rfl
  obtain ⟨b, rfl⟩ := field_bool t0 h0
  obtain ⟨p, rfl, wp⟩ := field_int t1 h1
  obtain ⟨c, rfl, wc⟩ := field_int t2 h2
  match cs, hl with
  | [a0, a1, a2], _ =>
    simp at hc0 hc1 hc2
    subst hc0 hc1 hc2
    exact ⟨(b, p, c), rfl, (u32_range wp).1, (u32_range wp).2, (int_range wc).1, (int_range wc).2⟩
theorem arg_iops (hval : Value.okWide Try.prog W r b0 22 v) (hd : DataW.Trod enc Try.prog W 0 (fun _ => true) true 22 v d ps) (hs : Sized Try.prog 22 d) :
    ∃ (A : Option Addr) (n c : Nat) (os : List IOp), v = .slice A n c ∧ n ≤ c ∧ c ≤ 140737488355328 ∧ os.length = n ∧ OpsOk os ∧ Rd W W.heap.size 3 A n (ovs os) := by
  obtain ⟨A, n, c, os, hv, h1, h2, h3, h4, h5⟩ := arg_elems (f := ov) (Q := OpOk) (m := 3) (bytes := 16) Try.underlying22 (by kernel_rfl) (by kernel_rfl) (by omega) (by omega) (fun fuel cs x hl h => op_cells hl h) hval hd hs
  exact ⟨A, n, c, os, hv, h1, h2, h3, fun o ho => (h4 o ho).1, h5⟩
theorem arg_iop (hval : Value.okWide Try.prog W r b0 34 v) (hd : DataW.Trod enc Try.prog W 0 (fun _ => true) true 34 v d ps) : ∃ o : IOp, v = .agg #[.bool o.1, .int .u32 o.2.1, .int .i64 o.2.2] ∧ OpOk o := by
  obtain ⟨fs, he, hone, hsz, _⟩ := opFields
  obtain ⟨cs, fuel, x, rfl, hl, h⟩ := arg_struct he (by rw [hsz]; kernel_rfl) hval hd
  obtain ⟨o, ho, hok⟩ := op_cells (by simpa [hsz] using hl) h
  refine ⟨o, ?_, hok⟩
  congr 1
  apply Array.toList_inj.1
  rw [ho]; rfl
end
end Go.Proofs.Ytnehbcopbioenaa
