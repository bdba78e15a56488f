/- Charge, plain: a stranger is charged nothing; operations elsewhere leave a row's share as it is. No program in sight. -/
import Derived.Test.YtfllkaeaanahmaaGreatChaL
namespace Go.Proofs.YtfllkaeaanahmaaGreat
set_option linter.unusedVariables false
set_option linter.unusedSimpArgs false
open Go.RowKit
namespace Cha
def chunkAt (l : List Chk.Ck) (u : Chk.Un) : Option Chk.Ck := l.find? (fun c => !c.lost && decide (c.at_ = u))
theorem unitAt_eq (l : List Chk.Ck) (u : Chk.Un) : Chk.unitAt l u = (chunkAt l u).map (·.id) := rfl
theorem ckOf_mem {l : List Chk.Ck} (hI : Chk.Inv l) {c : Chk.Ck} (hc : c ∈ l) : ckOf l c.id = c := by
 obtain ⟨i, hi, rfl⟩ := List.getElem_of_mem hc
 cases hp : Chk.pos (Chk.ids l) (l[i]).id with
 | none => exact absurd rfl (Chk.pos_none hp _ (List.mem_map_of_mem (List.getElem_mem hi)))
 | some k =>
  have hk := Chk.pos_some hp
  have hki : (Chk.ids l)[i]? = some (l[i]).id := by rw [List.getElem?_map, List.getElem?_eq_getElem hi]; rfl
  have e : k = i := by
   rcases Nat.lt_trichotomy k i with h | h | h
   ·
    have := hI.up.lt h hk hki; omega
   ·
    exact h
   ·
    have := hI.up.lt h hki hk; omega
  subst e
  unfold ckOf Chk.nth
  rw [hp]
  show l.getD k _ = _
  rw [List.getD, List.getElem?_eq_getElem hi]; rfl
theorem live_chunk {l : List Chk.Ck} (hI : Chk.Inv l) {r g id : Int} (h : id ∈ Chk.live l r g) : ∃ n : Nat, n < 32 ∧ chunkAt l ⟨r, g, n⟩ = some (ckOf l id) ∧ (ckOf l id).id = id ∧ ckOf l id ∈ l := by
 unfold Chk.live at h
 obtain ⟨n, hn, hu⟩ := List.mem_flatMap.1 h
 rw [unitAt_eq] at hu
 cases hc : chunkAt l ⟨r, g, (n : Nat)⟩ with
 | none => rw [hc] at hu; simp at hu
 | some c =>
  rw [hc] at hu
  have e : id = c.id := by simpa using hu
  have hm : c ∈ l := List.mem_of_find?_eq_some hc
  subst e
  exact ⟨n, List.mem_range.1 hn, by rw [hc, ckOf_mem hI hm], by rw [ckOf_mem hI hm], by rw [ckOf_mem hI hm]; exact hm⟩
section
variable {l l' : List Chk.Ck} (hI : Chk.Inv l) (hI' : Chk.Inv l')
include hI hI'
end
section
variable {α : Type} {p : α → Bool} {l : List α}
end
theorem nth_elem {l : List Chk.Ck} {k : Nat} (hk : k < l.length) : l[k] = Chk.nth l k := by unfold Chk.nth; rw [List.getD, List.getElem?_eq_getElem hk]; rfl
theorem wsh_zero {T : Int} {ws : List Int} {j : Nat} (hj : ws.getD j 0 = 0) : (wsh T ws).getD j 0 = 0 := by
 by_cases hg : good T ws
 ·
  have hk := k_range hg
  rw [wsh_good hg (ordP_is _ _) hk.1 hk.2]
  by_cases hl : j < ws.length
  ·
   rw [W.rowL_get _ hl, W.sh_eq (ordP_is _ _) hk.2 hl]
   have hp := (W.val_pos hg).1
   have hn := (Spl.near (w := W.wOf ws) rfl hp (ordP_is _ _) hk.1 hk.2 (i := j)).2
   rw [show W.wOf ws j = 0 from hj] at hn
   rw [hj]
   rw [Int.mul_zero, Int.zero_ediv] at hn ⊢
   split
   ·
    rename_i hf
    rw [if_pos hf] at hn
    omega
   ·
    rfl
  ·
   rw [List.getD, List.getElem?_eq_none (by rw [W.rowL_len]; omega)]; rfl
 ·
  rw [wsh_bad hg]; simp
theorem dist_other {rs : List Chk.Rf} {sh : List Int} {t : Nat → Int} {j : Nat} (h : ∀ x ∈ rs, x.t.toNat ≠ j) : ∀ n, n ≤ rs.length → dist rs sh t n j = t j
 | 0, _ => rfl
 | n + 1, hn => by
  show put1 _ _ _ j = _
  unfold put1
  have hx : who rs n ≠ j := by
   unfold who
   rw [List.getD, List.getElem?_eq_getElem (show n < rs.length by omega)]
   exact h _ (List.getElem_mem _)
  rw [if_neg (fun e => hx e.symm)]
  exact dist_other h n (by omega)
theorem chunk_other {c : Chk.Ck} {cost : Int} {t : Nat → Int} {j : Nat} (h : ∀ x ∈ c.refs, x.t.toNat ≠ j) : chunkS c cost t j = t j := by
 unfold chunkS
 refine dist_other h _ ?_
 unfold shares
 by_cases hg : good cost (cnts c.refs)
 ·
  rw [wsh_len hg]; unfold cnts; rw [List.length_map]; exact Nat.le_refl _
 ·
  rw [wsh_bad hg]; exact Nat.zero_le _
theorem stripe_other {l : List Chk.Ck} {r g cost : Int} {s : Sh} {j : Nat} (h : ∀ id ∈ Chk.live l r g, ∀ x ∈ (ckOf l id).refs, x.t.toNat ≠ j) : (stripeS l r g cost s).t j = s.t j := by
 have hs : ∀ n, n ≤ (Chk.live l r g).length → liveS l (Chk.live l r g) cost s.t n j = s.t j := fun n => by
  induction n with
  | zero => intro _; rfl
  | succ n ih =>
   intro hn
   show chunkS _ _ _ j = _
   rw [chunk_other (h _ (getD_mem (by omega))), ih (by omega)]
 unfold stripeS
 split
 ·
  rfl
 ·
  exact hs _ (Nat.le_refl _)
def foundB (rs : List S.Str.Rw) (r g : Int) : Bool := decide (0 ≤ r ∧ r < rs.length) && (rs.getD r.toNat S.Str.free).used.any (fun u => decide (u.g = g))
theorem row_other {l : List Chk.Ck} (hI : Chk.Inv l) {rs : List S.Str.Rw} {j : Nat} (h : ∀ c ∈ l, ∀ x ∈ c.refs, x.t = (j : Int) → c.lost = false → foundB rs c.at_.r c.at_.g = true → False) (d : Int) {k : Nat} (hk : k < rs.length) : (rowAt l rs d k).t j = 0 := by
 unfold rowAt rowS
 have : ∀ n, n ≤ (rs.getD k S.Str.free).used.length → (usedS l k (rs.getD k S.Str.free).used d n).t j = 0 := fun n => by
  induction n with
  | zero => intro _; rfl
  | succ n ih =>
   intro hn
   show (stripeS l k _ _ _).t j = 0
   rw [stripe_other (fun id hid x hx e => ?_), ih (by omega)]
   obtain ⟨m, _, h1, _, h3⟩ := live_chunk hI hid
   have hp := List.find?_some h1
   rw [Bool.and_eq_true, decide_eq_true_iff] at hp
   have hx0 := ((hI.ok _ h3).refs.ten x hx).1
   refine h _ h3 x hx (by omega) (by simpa using hp.1) ?_
   rw [hp.2]
   unfold foundB
   rw [decide_eq_true (by dsimp only; omega), Bool.true_and, List.any_eq_true]
   refine ⟨(rs.getD k S.Str.free).used[n]'(by omega), by dsimp only; rw [Int.toNat_natCast]; exact List.getElem_mem _, ?_⟩
   have e : ∀ (us : List S.Str.Us) (h : n < us.length), us.getD n ⟨0, 0, 0⟩ = us[n] := fun us h => by
    rw [List.getD, List.getElem?_eq_getElem h]; rfl
   rw [← e _ (by omega)]
   exact decide_eq_true rfl
 exact this _ (Nat.le_refl _)
theorem ofS_other {l : List Chk.Ck} {rs : List S.Str.Rw} {d : Int} {m : Sh} {j : Nat} (h0 : m.t j = 0) (h : ∀ k, k < rs.length → (rowAt l rs d k).t j = 0) : ∀ n, n ≤ rs.length → (ofS l rs d m n).t j = 0
 | 0, _ => h0
 | n + 1, hn => by
  show wr ((ofS l rs d m n).t j + (rowAt l rs d n).t j) = 0
  rw [ofS_other h0 h n (by omega), h n (by omega)]
  exact IntWalk.wrap64_in _ (by omega)
theorem stranger {l : List Chk.Ck} (hI : Chk.Inv l) {cf : S.Str.Cfg} {rs : List S.Str.Rw} {bs : List Int} {s : Sh} {j : Nat} (hb : bs.getD j 0 = 0) (ho : ofO l cf rs bs = some s) (h : ∀ c ∈ l, ∀ x ∈ c.refs, x.t = (j : Int) → c.lost = false → foundB rs c.at_.r c.at_.g = true → False) : s.t j = 0 := by
 unfold ofO at ho
 cases hm : metaO cf bs with
 | none => rw [hm] at ho; cases ho
 | some m =>
  rw [hm] at ho
  dsimp only at ho
  by_cases hv : S.Str.validB cf rs = true
  ·
   rw [if_pos hv] at ho
   obtain rfl := (Option.some.inj ho).symm
   refine ofS_other ?_ (fun k hk => row_other hI h _ hk) _ (Nat.le_refl _)
   unfold metaO at hm
   by_cases hc : cf.ok = true ∧ blocksOk cf bs
   ·
    rw [if_pos hc] at hm
    obtain rfl := (Option.some.inj hm).symm
    unfold metaS
    by_cases hz : ∀ x ∈ bs, x = 0
    ·
     rw [if_pos hz]
    ·
     rw [if_neg hz]; exact wsh_zero hb
   ·
    rw [if_neg hc] at hm; cases hm
  ·
   rw [if_neg hv] at ho; cases ho
end Cha
end Go.Proofs.YtfllkaeaanahmaaGreat
