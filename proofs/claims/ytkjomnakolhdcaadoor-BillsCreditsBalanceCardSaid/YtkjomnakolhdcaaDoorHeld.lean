/- Operations of a region that draws its order, by hand. No condition. -/
import Derived.Test.YtkjomnakolhdcaaDoorRow
import Derived.Deep.RegionHeld3
namespace Go.Proofs.YtkjomnakolhdcaaDoor
set_option linter.unusedVariables false
set_option linter.unusedSimpArgs false
open Go.RowKit
section
variable {P : Program} {w : World} {ops : Array Oper} {o : Oper} {a : Act} {K : Act → World → Prop} {Q : Exit → Act → World → Prop}
/-- []byte(s) -/
theorem wp_ofS (x : Operand) (src dst e : TypeId)
    (ho : o.op = .convert src dst x) (hs : P.underlying src = some .string) (hd : P.underlying dst = some (.slice e)) (he : P.underlying e = some (.int .u8)) (st : ByteArray) (hx : a.eval x = .string st)
    (h : ∀ A' c' w', Rd w' w'.heap.size 1 A' st.size (bvs st.data.toList) → Below w.heap.size w w' → K (a.put o.dst (.slice A' st.size c')) w') : o.wp P a w K Q := by
  have hrun := run_bytes_of_string (P := P) w src dst e st hs hd he
  unfold Oper.wp execOp
  simp only [ho, Sem.run_bind, Sem.run_pure, Result.andThen_ok, hx, hrun]
  refine h _ _ _ ⟨?_, fun _ => ⟨w.heap.size, 0, rfl, by simp, fun j u hu => ?_⟩⟩ ((Below.refl _ _).drew.alloc (Nat.le_refl _) _)
  · simp
  · have hb : (w.drew.alloc (.cells (bytesRow st (grownCap w st.size 0 e)) e ((bytesRow st (grownCap w st.size 0 e)).size, (bytesRow st (grownCap w st.size 0 e)).size + 1))).heap[w.heap.size]? = _ := heap_alloc_new w.drew _
    rw [cell_of_row _ _ _ _ _ _ hb, Nat.zero_add]
    have hj : j < st.data.toList.length := by
      have := (List.getElem?_eq_some_iff.1 hu).1
      simpa using this
    rw [bytesRow, Array.getElem?_append_left (by simpa using hj)]
    rw [← Array.getElem?_toList]
    simpa using hu
/-- a load of a whole array variable that every world meeting S holds -/
theorem yi_row {S : World → Prop} (hw : Region.wanted o (yielded ops a.tmps) = true) (ty : TypeId) (x : Operand) (ho : o.op = .load ty x) {b t n e : Nat} {l : List Value} (hx : a.eval x = .pointer (some ⟨b, 0, none⟩))
    (hr : ∀ W, S W → IsRow W b t l) (hu : P.underlying ty = some (.array n e)) (hi : (P.info? ty).map (·.size) = some l.length) : YieldsIf P ops S o (.agg l.toArray) a :=
  yieldsIf_load_mid hw ty x ho b 0 hx l _ (fun W hW => fun j v hv => by rw [(hr W hW).cell, Nat.zero_add]; exact hv) hu rfl hi
end
end Go.Proofs.YtkjomnakolhdcaaDoor
