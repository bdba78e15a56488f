/- What the rows' lists give: the tables of SHA-256. No condition. -/
import Derived.Test.YtfnbcchmembomaaDoorDigBase
import Derived.Test.YtfnbcchmembomaaDoorCards
import Derived.Test.YtfnbcchmembomaaDoorTie
import Derived.Test.YtfnbcchmembomaaDoorLawKit
import Derived.Deep.DeepHandedRow
import Derived.Lib.LaidTab
namespace Go.Proofs.YtfnbcchmembomaaDoor
set_option linter.unusedVariables false
set_option linter.unusedSimpArgs false
open Go.RowKit
theorem tab_of_laid {P : Program} {W : World} {name : String} {k : IntKind} {zs : List Int} {g : Nat} {t e : TypeId} {n : Nat}
    (hg : P.globalNamed name = some g) (hty : (P.globals[g]?).map (·.type) = some t) (ht : P.underlying t = some (.array n e)) (he : P.underlying e = some (.int k)) (hce : P.cellsOf e = 1) (hct : P.cellsOf t = n) :
    ∀ {l : List (String × DataW Unit)} {ps : List MemPlace}, DataW.LaidVars P W l ps → (name, Lib.tabData k zs) ∈ l → Lib.TabIs P W name k zs
  | [], _, _, h => by cases h
  | x :: r, ps, hl, h => by
    obtain ⟨n', d'⟩ := x
    obtain ⟨g', t', cs, fuel, p, q, hg', ht', hvar, hd, hr, _⟩ := hl
    rcases List.mem_cons.1 h with h | h
    · injection h with h1 h2
      subst h1 h2
      obtain rfl := Option.some.inj (hg.symm.trans hg')
      obtain rfl := Option.some.inj (hty.symm.trans ht')
      unfold Lib.TabIs
      rw [hvar, ← Lib.cells_of_tab ht he hce hct hd]
    · exact tab_of_laid hg hty ht he hce hct hr h
theorem hasRow_of_tab {P : Program} {W : World} {name : String} {g : Nat} {l : List UInt32} (hg : P.globalNamed name = some g) (h : Lib.TabIs P W name .u32 (l.map fun x => (x.toNat : Int))) : HasRow W g (wvs l) := by
  unfold Lib.TabIs World.var? at h
  rw [hg] at h
  simp only [Option.bind_some] at h
  split at h
  · next cs t fr hc =>
    have h := Option.some.inj h
    refine ⟨t, fr, ?_⟩
    rw [hc, h]
    simp [wvs, U.uv, List.map_map, Function.comp_def]
  · cases h
def words (l : List UInt32) : List Int := l.map fun x => (x.toNat : Int)
theorem cells5d : Tryd.prog.cellsOf 62 = 1 := by kernel_rfl
theorem cells64d : Tryd.prog.cellsOf 68 = 64 := by kernel_rfl
theorem cells8d : Tryd.prog.cellsOf 63 = 8 := by kernel_rfl
theorem gK : Tryd.prog.globalNamed "solvent/digest.constants" = some 2 := by kernel_rfl
theorem gKt : (Tryd.prog.globals[2]?).map (·.type) = some 68 := by kernel_rfl
theorem gS : Tryd.prog.globalNamed "solvent/digest.start" = some 0 := by kernel_rfl
theorem gSt : (Tryd.prog.globals[0]?).map (·.type) = some 63 := by kernel_rfl
theorem gR : Tryd.prog.globalNamed "solvent/solventref02.constants" = some 1 := by kernel_rfl
theorem gRt : (Tryd.prog.globals[1]?).map (·.type) = some 68 := by kernel_rfl
theorem laidK : (Rows.laid_solvent_digest_constants : DataW Unit) = Lib.tabData .u32 (Sha.K.map fun x => (x.toNat : Int)) := by kernel_rfl
theorem laidS : (Rows.laid_solvent_digest_start : DataW Unit) = Lib.tabData .u32 (Sha.start.list.map fun x => (x.toNat : Int)) := by kernel_rfl
theorem laidR : (Rows.laid_solvent_solventref02_constants : DataW Unit) = Lib.tabData .u32 (Sha.K.map fun x => (x.toNat : Int)) := by kernel_rfl
theorem tabs_of_laid {W : World} {l : List (String × DataW Unit)} (h : laidMet Tryd.prog l W) (hk : ("solvent/digest.constants", Rows.laid_solvent_digest_constants) ∈ l) (hs : ("solvent/digest.start", Rows.laid_solvent_digest_start) ∈ l) : Tabs W := by
  obtain ⟨ps, hl, _⟩ := h
  rw [laidK] at hk
  rw [laidS] at hs
  exact ⟨hasRow_of_tab gK (tab_of_laid gK gKt Tryd.underlying68 Tryd.underlying62 cells5d cells64d hl hk), hasRow_of_tab gS (tab_of_laid gS gSt Tryd.underlying63 Tryd.underlying62 cells5d cells8d hl hs)⟩
theorem rtab_of_laid {W : World} {l : List (String × DataW Unit)} (h : laidMet Tryd.prog l W) (hk : ("solvent/solventref02.constants", Rows.laid_solvent_solventref02_constants) ∈ l) : RTab W := by
  obtain ⟨ps, hl, _⟩ := h
  rw [laidR] at hk
  exact ⟨hasRow_of_tab gR (tab_of_laid gR gRt Tryd.underlying68 Tryd.underlying62 cells5d cells64d hl hk)⟩
end Go.Proofs.YtfnbcchmembomaaDoor
