/- The examples that every law of layer 22 plays first. No condition. -/
import Derived.Test.YtihhkcndcgljbaaGreatChkOps
namespace Go.Proofs.YtihhkcndcgljbaaGreat
set_option linter.unusedVariables false
set_option linter.unusedSimpArgs false
open Go.RowKit
namespace Chk
def sU : Un := ⟨2, 1, 3⟩
def sC (u : Un) (b : Bool) (rs : List Rf) : List Ck := [⟨1, dig 9, 7, u, b, rs⟩]
end Chk
def Chk.sK : Chk.Ck := ⟨1, Chk.dig 9, 7, Chk.sU, false, [⟨0, 2⟩, ⟨1, 1⟩]⟩
theorem own_same {w w' : World} {base size n c : Nat} {A : Option Addr} {e : TypeId} {xs : List Value} {G : Nat → Prop} (h : w.ownsRow base e size (.slice A n c) n xs) (hs : SameG w w' G) (hG : ∀ p, A = some p → G p.block) : w'.ownsRow base e size (.slice A n c) n xs := by
  refine ⟨h.1, ?_⟩
  rcases h.2 with h0 | ⟨g, cap, cur, hv, hg, hh, r⟩
  · exact .inl h0
  · injection hv with h1
    exact .inr ⟨g, cap, cur, by rw [h1]; congr 1, hg, (hs g (hG ⟨g, 0, none⟩ h1)).trans hh, r⟩
theorem wp_allocRowC {P : Program} {w : World} {o : Oper} {a : Act} {K : Act → World → Prop} {Q : Exit → Act → World → Prop} (ty : TypeId) (ho : o.op = .alloc ty) (zs : List Value) (hz : (P.info? ty).map (fun i => (i.zero, i.size)) = some (some (.agg zs.toArray), zs.length))
    (h : K (a.put o.dst (.pointer (some ⟨w.heap.size, 0, none⟩))) (w.alloc (.cells zs.toArray ty))) : o.wp P a w K Q := by
  have hz1 := (zero_of_info (P := P) hz).1
  have hn : Sem.run P (newVar ty (.agg zs.toArray)) w = .ok ⟨w.heap.size, 0, none⟩ (w.alloc (.cells zs.toArray ty)) := by
    simp [newVar, Value.cells, go_sem]
  unfold Oper.wp execOp
  simp only [ho, Instr.alloc, Sem.run_bind, Sem.run_pure, Result.andThen_ok, hz1, hn]
  exact h
end Go.Proofs.YtihhkcndcgljbaaGreat
