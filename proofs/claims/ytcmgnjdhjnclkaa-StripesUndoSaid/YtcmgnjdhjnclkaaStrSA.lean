/- The calls of layer 24 on rows that are kept, in one form. Conditions: the rows are kept. -/
import Derived.Test.YtcmgnjdhjnclkaaStrW
import Derived.Test.YtcmgnjdhjnclkaaStrY
import Derived.Test.YtcmgnjdhjnclkaaStrVA
import Derived.Test.YtcmgnjdhjnclkaaStrNW
import Derived.Test.YtcmgnjdhjnclkaaStrS
namespace Go.Proofs.Ytcmgnjdhjnclkaa.S
set_option linter.unusedVariables false
set_option linter.unusedSimpArgs false
open Go.RowKit
/-- rows in memory -/
def RAt (w : World) (A : Option Addr) (n c : Nat) (l : List Str.Rw) : Prop := (∃ D, RowsAt w w.heap.size A n D l) ∧ n ≤ c
section
variable {w w' : World} {A A1 A2 : Option Addr} {n c c1 c2 : Nat} {l : List Str.Rw}
theorem RAt.below (h : RAt w A n c l) (hb : Below w.heap.size w w') : RAt w' A n c l := by
  obtain ⟨⟨D, h1⟩, h2⟩ := h
  exact ⟨⟨D, (h1.below hb).more hb.size⟩, h2⟩
theorem RAt.len (h : RAt w A n c l) : l.length = n := by obtain ⟨⟨D, h1⟩, _⟩ := h; exact h1.len.2
theorem RAt.of_own {base : Nat} {D : List RR} (h : OwnRows w base A n c D l) : RAt w A n c l := ⟨⟨D, h.rows⟩, (own_cap h.own).1⟩
theorem RAt.most (h : RAt w A n c l) : n ≤ 65536 ∧ n ≤ c := by obtain ⟨⟨D, h1⟩, h2⟩ := h; exact ⟨h1.mx, h2⟩
theorem alc_ok (h : RAt w A n c l) (cf : Str.Cfg) (code width ge gc : Int) (hsm : ∀ r ∈ l, r.used.length ≤ 60000) {l' : List Str.Rw} {r g : Nat} (hf : Str.alcF cf l code width ge gc = .ok l' r g) :
    Calls Try.prog 9 #[cfV cf, .slice A n c, .int .i64 code, .int .i64 width, gnV ge gc] w fun e w' => ∃ A' c', e = .returned (.tuple #[.slice A' n c', stV (r : Nat) (g : Nat), .int .i64 0]) ∧ RAt w' A' n c' l' ∧ Below w.heap.size w w' := by
  obtain ⟨⟨D, h1⟩, h2⟩ := h
  refine (alloc_any h1 (Nat.le_refl _) h2 cf code width ge gc hsm).mono fun e w' h => ?_
  rw [hf] at h
  obtain ⟨A', c', E, he, ho, hb⟩ := h
  exact ⟨A', c', he, .of_own ho, hb⟩
theorem alc_full (h : RAt w A n c l) (cf : Str.Cfg) (code width ge gc : Int) (hsm : ∀ r ∈ l, r.used.length ≤ 60000) (hf : Str.alcF cf l code width ge gc = .full) :
    Calls Try.prog 9 #[cfV cf, .slice A n c, .int .i64 code, .int .i64 width, gnV ge gc] w fun e w' => e = .returned (.tuple #[.slice none 0 0, .agg #[.int .i64 0, .int .i64 0], .int .i64 16]) ∧ Below w.heap.size w w' := by
  obtain ⟨⟨D, h1⟩, h2⟩ := h
  refine (alloc_any h1 (Nat.le_refl _) h2 cf code width ge gc hsm).mono fun e w' h => ?_
  rw [hf] at h
  exact h
theorem alc_arg (h : RAt w A n c l) (cf : Str.Cfg) (code width ge gc : Int) (hsm : ∀ r ∈ l, r.used.length ≤ 60000) (hf : Str.alcF cf l code width ge gc = .arg) :
    Calls Try.prog 9 #[cfV cf, .slice A n c, .int .i64 code, .int .i64 width, gnV ge gc] w fun e w' => e = .returned (.tuple #[.slice none 0 0, .agg #[.int .i64 0, .int .i64 0], .int .i64 1]) ∧ Below w.heap.size w w' := by
  obtain ⟨⟨D, h1⟩, h2⟩ := h
  refine (alloc_any h1 (Nat.le_refl _) h2 cf code width ge gc hsm).mono fun e w' h => ?_
  rw [hf] at h
  exact h
theorem rel_ok (h : RAt w A n c l) (k : Nat) (g : Int) {q : Nat} (hi : Str.ixr l k g = (q : Int)) :
    Calls Try.prog 11 #[.slice A n c, stV (k : Nat) g] w fun e w' => ∃ A' c', e = .returned (.tuple #[.slice A' n c', .int .i64 0]) ∧ RAt w' A' n c' (Str.rel l k q) ∧ Below w.heap.size w w' := by
  obtain ⟨⟨D, h1⟩, h2⟩ := h
  refine (release_any h1 (Nat.le_refl _) h2 (k : Nat) g).mono fun e w' h => ?_
  obtain ⟨_, h4, hb⟩ := h
  obtain ⟨A', c', E, he, ho⟩ := h4 k q rfl hi
  exact ⟨A', c', he, .of_own ho, hb⟩
theorem find_r (h : RAt w A n c l) (r g : Int) :
    Calls Try.prog 10 #[.slice A n c, stV r g] w fun e w' => e = .returned (fndV (Str.fnd l r g)) ∧ Below w.heap.size w w' := by
  obtain ⟨⟨D, h1⟩, h2⟩ := h
  exact find_any h1 (Nat.le_refl _) h2 r g
theorem held_r (h : RAt w A n c l) (code : Int) :
    Calls Try.prog 17 #[.slice A n c, .int .i64 code] w fun e w' => e = .returned (.int .i64 (Str.held l code : Nat)) ∧ Below w.heap.size w w' := by
  obtain ⟨⟨D, h1⟩, h2⟩ := h
  exact held_any h1 (Nat.le_refl _) h2 code
theorem free_r (h : RAt w A n c l) :
    Calls Try.prog 21 #[.slice A n c] w fun e w' => e = .returned (.int .i64 (Str.held l (-1) : Nat)) ∧ Below w.heap.size w w' := by
  obtain ⟨⟨D, h1⟩, h2⟩ := h
  exact free_any h1 (Nat.le_refl _) h2
theorem valid_r (h : RAt w A n c l) (cf : Str.Cfg) :
    Calls Try.prog 22 #[cfV cf, .slice A n c] w fun e w' => e = .returned (.bool (Str.validB cf l)) ∧ Below w.heap.size w w' := by
  obtain ⟨⟨D, h1⟩, h2⟩ := h
  exact valid_any cf h1.wide (Nat.le_refl _) h2
theorem rvalid_r (h : RAt w A n c l) (cf : Str.Cfg) :
    Calls Try.prog 7 #[cfV cf, .slice A n c] w fun e w' => e = .returned (.bool (Str.validB cf l)) ∧ Below w.heap.size w w' := by
  obtain ⟨⟨D, h1⟩, h2⟩ := h
  exact rvalid_any cf h1.wide (Nat.le_refl _) h2
theorem same_r (h1 : RAt w A1 n c1 l) (h2 : RAt w A2 n c2 l) :
    Calls Try.prog 12 #[.slice A1 n c1, .slice A2 n c2] w fun e w' => e = .returned (.bool true) ∧ Below w.heap.size w w' := by
  obtain ⟨⟨D1, h1⟩, _⟩ := h1
  obtain ⟨⟨D2, h2⟩, _⟩ := h2
  exact sameR_eq h1 h2
/-- the first rows -/
theorem RAt.take (h : RAt w A n c l) {m : Nat} (hm : m ≤ n) : RAt w A m c (l.take m) := by
  obtain ⟨⟨D, h1⟩, h2⟩ := h
  refine ⟨⟨D.take m, ⟨?_, fun hp => ?_⟩, by rw [List.map_take, h1.rs], fun x hx => h1.us x (List.mem_of_mem_take hx), Nat.le_trans hm h1.mx⟩, Nat.le_trans hm h2⟩
  · rw [flatMap_len (fun x _ => rwL_len x), List.length_take, h1.len.1, Nat.min_eq_left hm]
  · obtain ⟨b, off, e, hb, hr⟩ := h1.rd.2 (by omega)
    refine ⟨b, off, e, hb, fun j u hu => hr j u ?_⟩
    have : (D.take m).flatMap rwL = (D.flatMap rwL).take (m * 3) := (flat_take (fun x _ => rwL_len x) m).symm
    rw [this] at hu
    rw [List.getElem?_take] at hu
    split at hu
    · exact hu
    · cases hu
end
end Go.Proofs.Ytcmgnjdhjnclkaa.S
