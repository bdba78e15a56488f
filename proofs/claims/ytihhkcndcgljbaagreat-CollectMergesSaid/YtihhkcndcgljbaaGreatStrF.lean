/- stripes.of as an iterator; Held, Free. Conditions: the rows are kept. -/
import Derived.Test.YtihhkcndcgljbaaGreatStrE
namespace Go.Proofs.YtihhkcndcgljbaaGreat.S
set_option linter.unusedVariables false
set_option linter.unusedSimpArgs false
open Go.RowKit Go.Shelf

attribute [local go_sem] Oper.semAt_some

theorem of_in (F : Fence) (n : Nat) (h5 : F.fn 89) (hro : F.round = none) (A : Option Addr) (m cp : Nat) (c : Int) (w : World) :
    CallsIn F n Tryz.prog 89 #[.slice A m cp, .int .i64 c] w fun e w' => e = .returned (.func (.func 100) #[] #[.pointer (some ⟨w.heap.size, 0, none⟩), .pointer (some ⟨w.heap.size + 1, 0, none⟩)]) ∧ w' = (w.alloc (.cells #[.slice A m cp] 25)).alloc (.cells #[.int .i64 c] 3) := by
  refine callsIn_of_wp Tryz.func89 rfl h5 ?_ hro
  simp only [Tryz.ntmps89, List.size_toArray, List.length_cons, List.length_nil, Nat.reduceAdd, Nat.reduceSub, Array.replicate_succ, Array.replicate_zero, List.push_toArray, List.append_toArray, List.nil_append, List.cons_append]
  gi_wp2
  go_ret
  exact ⟨rfl, rfl⟩
/-- a row of a code, with its index -/
abbrev OfT (c : Int) (D : List RR) := { x : Nat × RR // D[x.1]? = some x.2 ∧ x.2.r.code = c }
theorem ofD_mem {c : Int} {D : List RR} : ∀ (E : List RR) (j : Nat), (∀ i x, E[i]? = some x → D[j + i]? = some x) → ∀ y ∈ ofD c E j, D[y.1]? = some y.2 ∧ y.2.r.code = c
  | [], _, _ => by intro y hy; cases hy
  | x :: E, j, h => by
    intro y hy
    have ih := ofD_mem (c := c) E (j + 1) (fun i x hx => by have := h (i + 1) x (by simpa using hx); rwa [show j + 1 + i = j + (i + 1) by omega])
    unfold ofD at hy
    split at hy
    · rename_i hc
      rcases List.mem_cons.1 hy with rfl | hy
      · exact ⟨h 0 x rfl, hc⟩
      · exact ih y hy
    · exact ih y hy
def ofS (c : Int) (D : List RR) : List (OfT c D) := (ofD c D 0).attachWith _ (ofD_mem D 0 (fun i x hx => by rw [Nat.zero_add]; exact hx))
theorem ofS_val (c : Int) (D : List RR) : (ofS c D).map Subtype.val = ofD c D 0 := by unfold ofS; exact List.attachWith_map_subtype_val _
theorem ofS_len (c : Int) (D : List RR) : (ofS c D).length = (ofD c D 0).length := by rw [← ofS_val c D, List.length_map]
abbrev ofEncs {c : Int} {D : List RR} (x : OfT c D) : Array Value := rowEncs x.1
theorem of_stops (F : Fence) (n : Nat) (h6 : F.fn 100) (hro : F.round = none) (hn : 1 ≤ n) (Br Bc n₀ m cp : Nat) (A : Option Addr) (D : List RR) (c : Int) (w : World) (rs : List Str.Rw) (hR : RowsAt w n₀ A m D rs) (hmc : m ≤ cp) (hw : n₀ ≤ w.heap.size) (hbr : Br < w.heap.size) (hbc : Bc < w.heap.size)
    (hBr : w.cell? ⟨Br, 0, none⟩ = some (.slice A m cp)) (hBc : w.cell? ⟨Bc, 0, none⟩ = some (.int .i64 c)) :
    SeqStopsK F n Tryz.prog 100 #[.pointer (some ⟨Br, 0, none⟩), .pointer (some ⟨Bc, 0, none⟩)] (ofEncs (c := c) (D := D)) (KeepsBox n₀ Bc) (fun ys => ys = ofS c D) (fun pre => pre <+: ofS c D) (ofS c D).length w := fun l J Jx W hW hJ _ hY h0 =>
  of1_in Subtype.val F n h6 hro hn l Br Bc n₀ m cp A D c w rs hR hmc hw hbc (ofS c D) (ofS_val c D) J Jx hY W hJ hW ((hW.cell (p := ⟨Br, 0, none⟩) hbr).trans hBr) ((hW.cell (p := ⟨Bc, 0, none⟩) hbc).trans hBc) h0
theorem ofD_len (c : Int) (D : List RR) (j : Nat) : (ofD c D j).length ≤ D.length := by
  induction D generalizing j with
  | nil => exact Nat.le_refl _
  | cons x D ih =>
    unfold ofD
    split
    · rw [List.length_cons, List.length_cons]; have := ih (j + 1); omega
    · rw [List.length_cons]; have := ih (j + 1); omega
/-- the number of rows of a code -/
def Str.held (l : List Str.Rw) (c : Int) : Nat := l.countP (fun r => decide (r.code = c))
end Go.Proofs.YtihhkcndcgljbaaGreat.S
