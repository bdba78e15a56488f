/- Allocate: what it gives, as a function of the rows. Conditions: the rows are kept, with at most 60000 used stripes each. -/
import Derived.Test.YtcmgnjdhjnclkaaStrO
import Derived.Test.YtcmgnjdhjnclkaaStrV
namespace Go.Proofs.Ytcmgnjdhjnclkaa.S
set_option linter.unusedVariables false
set_option linter.unusedSimpArgs false
open Go.RowKit
namespace Str
deriving instance DecidableEq for AR
def argsB (cf : Cfg) (code width : Int) : Bool := decide (0 ≤ code) && decide (code < 8) && decide (1 ≤ width) && decide (width ≤ 32) && decide (grp cf width ≠ 0)
def widthB (l : List Rw) (code width : Int) : Bool := l.all fun r => !decide (r.code = code) || decide (r.width = width)
theorem argsB_iff {cf : Cfg} {code width : Int} : argsB cf code width = true ↔ argsOk cf code width := by
  unfold argsB argsOk
  simp only [Bool.and_eq_true, decide_eq_true_iff, and_assoc]
theorem widthB_iff {l : List Rw} {code width : Int} : widthB l code width = true ↔ widthOk l code width := by
  unfold widthB widthOk
  rw [List.all_eq_true]
  constructor
  · intro h r hr hc
    have := h r hr
    simpa [hc] using this
  · intro h r hr
    by_cases hc : r.code = code
    · simp [hc, h r hr hc]
    · simp [hc]
/-- what Allocate gives -/
def alcF (cf : Cfg) (l : List Rw) (code width e c : Int) : AR :=
  if argsB cf code width && widthB l code width then
    match alcAt (grp cf width) l code with
    | some k => .ok (l.set k { l.getD k free with used := put (l.getD k free).used (gap (l.getD k free).used 0) e c }) k (gap (l.getD k free).used 0)
    | none => match alcFree l with
      | some k => .ok (l.set k ⟨code, width, [⟨0, e, c⟩]⟩) k 0
      | none => .full
  else .arg
theorem alcF_spec (cf : Cfg) (l : List Rw) (code width e c : Int) : Alc cf l code width e c (alcF cf l code width e c) := by
  unfold alcF
  cases hb : argsB cf code width && widthB l code width with
  | false =>
    rw [if_neg (by decide)]
    unfold Alc
    rintro ⟨h1, h2⟩
    rw [argsB_iff.2 h1, widthB_iff.2 h2] at hb
    cases hb
  | true =>
    rw [if_pos rfl]
    rw [Bool.and_eq_true, argsB_iff, widthB_iff] at hb
    obtain ⟨h1, h2⟩ := hb
    cases ha : alcAt (grp cf width) l code with
    | some k =>
      obtain ⟨x, hx, _, _⟩ := alcAt_some ha
      dsimp only
      rw [getD_of hx]
      exact ⟨h1, h2, .inl ⟨x, ha, hx, rfl, rfl⟩⟩
    | none =>
      dsimp only
      cases hf : alcFree l with
      | some k => exact ⟨h1, h2, .inr ⟨ha, hf, rfl, rfl⟩⟩
      | none => exact ⟨h1, h2, ha, hf⟩
theorem alcF_len {cf : Cfg} {l l' : List Rw} {code width e c : Int} {r g : Nat} (h : alcF cf l code width e c = .ok l' r g) : l'.length = l.length := by
  have hs := alcF_spec cf l code width e c
  rw [h] at hs
  obtain ⟨_, _, ⟨x, _, _, _, rfl⟩ | ⟨_, _, _, rfl⟩⟩ := hs <;> rw [List.length_set]
theorem Valid.small {cf : Cfg} {l : List Rw} (h : Valid cf l) : ∀ r ∈ l, r.used.length ≤ 64 := fun r hr => by
  rcases (h.rows r hr).ok with rfl | ⟨_, _, h3, h4, h5, h6, h7⟩
  · exact Nat.zero_le _
  · have hp : 0 < grp cf r.width := by
      cases hu : r.used with
      | nil => exact absurd hu h5
      | cons u us =>
        have h1 := h7 u (by rw [hu]; exact List.mem_cons_self ..)
        have h2 := h6.mem u (by rw [hu]; exact List.mem_cons_self ..)
        omega
    have hl := h6.len h7 (by omega)
    have hg : grp cf r.width ≤ 64 := by
      unfold grp
      split
      · rename_i hf
        have hd := Cfg.ok_d h.ok
        have := Int.tdiv_le_self r.width (show 0 ≤ cf.d - cf.sp by omega)
        omega
      · omega
    omega
end Str
/-- Allocate has given a -/
def AlcIs (w : World) (n : Nat) (a : Str.AR) (e : Ending) (w' : World) : Prop :=
  match a with
  | .arg => e = .returned (alcErr 1) ∧ Below w.heap.size w w'
  | .full => e = .returned (alcErr 16) ∧ Below w.heap.size w w'
  | .ok l' r g => ∃ A' c' E, e = .returned (.tuple #[.slice A' n c', stV (r : Nat) (g : Nat), .int .i64 0]) ∧ OwnRows w' w.heap.size A' n c' E l' ∧ Below w.heap.size w w'
theorem alloc_any {w : World} {B n c : Nat} {A : Option Addr} {D : List RR} {l : List Str.Rw} (h : RowsAt w B A n D l) (hB : B ≤ w.heap.size) (hnc : n ≤ c) (cf : Str.Cfg) (code width ge gc : Int) (hsm : ∀ r ∈ l, r.used.length ≤ 60000) :
    Calls Try.prog 9 #[cfV cf, .slice A n c, .int .i64 code, .int .i64 width, gnV ge gc] w (AlcIs w n (Str.alcF cf l code width ge gc)) := by
  by_cases hok : Str.argsOk cf code width
  · refine (alloc_ok h hB hnc cf code width ge gc hok hsm).mono fun e w' ⟨v, st, er, he, ho, hb⟩ => ?_
    unfold Str.alcF
    rw [Str.argsB_iff.2 hok, Bool.true_and]
    rcases ho with ⟨rfl, rfl, rfl, h4⟩ | ⟨h0, k, x, A', c', E, h1, h2, rfl, rfl, rfl, h6⟩ | ⟨h0, h1, k, A', c', E, h2, rfl, rfl, rfl, h6⟩ | ⟨h0, h1, h2, rfl, rfl, rfl⟩
    · rw [if_neg (fun e => h4 (Str.widthB_iff.1 e))]
      exact ⟨he, hb⟩
    · rw [if_pos (Str.widthB_iff.2 h0), h1]
      dsimp only
      rw [Str.getD_of h2]
      exact ⟨A', c', E, he, h6, hb⟩
    · rw [if_pos (Str.widthB_iff.2 h0), h1, h2]
      exact ⟨A', c', E, he, h6, hb⟩
    · rw [if_pos (Str.widthB_iff.2 h0), h1, h2]
      exact ⟨he, hb⟩
  · have e : Str.alcF cf l code width ge gc = .arg := by
      unfold Str.alcF
      rw [if_neg]
      intro hh
      rw [Bool.and_eq_true] at hh
      exact hok (Str.argsB_iff.1 hh.1)
    rw [e]
    exact (alloc_bad cf A n c code width ge gc w hok).mono fun e w' ⟨he, hb⟩ => ⟨he, hb⟩
end Go.Proofs.Ytcmgnjdhjnclkaa.S
