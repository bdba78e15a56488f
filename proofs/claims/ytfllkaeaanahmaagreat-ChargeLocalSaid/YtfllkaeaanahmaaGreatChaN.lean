/- Charge, plain: a stranger is charged nothing; operations elsewhere leave a row's share as it is. No program in sight. -/
import Derived.Test.YtfllkaeaanahmaaGreatChaL
namespace Go.Proofs.YtfllkaeaanahmaaGreat
set_option linter.unusedVariables false
set_option linter.unusedSimpArgs false
open Go.RowKit
namespace Cha
def chunkAt (l : List Chk.Ck) (u : Chk.Un) : Option Chk.Ck := l.find? (fun c => !c.lost && decide (c.at_ = u))
theorem unitAt_eq (l : List Chk.Ck) (u : Chk.Un) : Chk.unitAt l u = (chunkAt l u).map (·.id) := rfl
theorem ckOf_mem {l : List Chk.Ck} (hI : Chk.Inv l) {c : Chk.Ck} (hc : c ∈ l) : ckOf l c.id = c := by
 obtain ⟨i, hi, rfl⟩ := List.getElem_of_mem hc
 cases hp : Chk.pos (Chk.ids l) (l[i]).id with
 | none => exact absurd rfl (Chk.pos_none hp _ (List.mem_map_of_mem (List.getElem_mem hi)))
 | some k =>
  have hk := Chk.pos_some hp
  have hki : (Chk.ids l)[i]? = some (l[i]).id := by rw [List.getElem?_map, List.getElem?_eq_getElem hi]; rfl
  have e : k = i := by
   rcases Nat.lt_trichotomy k i with h | h | h
   ·
    have := hI.up.lt h hk hki; omega
   ·
    exact h
   ·
    have := hI.up.lt h hki hk; omega
  subst e
  unfold ckOf Chk.nth
  rw [hp]
  show l.getD k _ = _
  rw [List.getD, List.getElem?_eq_getElem hi]; rfl
theorem live_chunk {l : List Chk.Ck} (hI : Chk.Inv l) {r g id : Int} (h : id ∈ Chk.live l r g) : ∃ n : Nat, n < 32 ∧ chunkAt l ⟨r, g, n⟩ = some (ckOf l id) ∧ (ckOf l id).id = id ∧ ckOf l id ∈ l := by
 unfold Chk.live at h
 obtain ⟨n, hn, hu⟩ := List.mem_flatMap.1 h
 rw [unitAt_eq] at hu
 cases hc : chunkAt l ⟨r, g, (n : Nat)⟩ with
 | none => rw [hc] at hu; simp at hu
 | some c =>
  rw [hc] at hu
  have e : id = c.id := by simpa using hu
  have hm : c ∈ l := List.mem_of_find?_eq_some hc
  subst e
  exact ⟨n, List.mem_range.1 hn, by rw [hc, ckOf_mem hI hm], by rw [ckOf_mem hI hm], by rw [ckOf_mem hI hm]; exact hm⟩
theorem flat_congr {f g : Nat → List Int} : ∀ (xs : List Nat), (∀ n ∈ xs, f n = g n) → xs.flatMap f = xs.flatMap g
 | [], _ => rfl
 | x :: xs, h => by rw [List.flatMap_cons, List.flatMap_cons, h x (List.mem_cons_self ..), flat_congr xs fun n hn => h n (List.mem_cons_of_mem _ hn)]
section
variable {l l' : List Chk.Ck} (hI : Chk.Inv l) (hI' : Chk.Inv l')
include hI hI'
theorem stripe_same {r g cost : Int} {s : Sh} (h : ∀ n : Nat, n < 32 → chunkAt l ⟨r, g, n⟩ = chunkAt l' ⟨r, g, n⟩) : stripeS l r g cost s = stripeS l' r g cost s := by
 have hl : Chk.live l r g = Chk.live l' r g := by
  unfold Chk.live
  exact flat_congr _ fun n hn => by rw [unitAt_eq, unitAt_eq, h n (List.mem_range.1 hn)]
 have hc : ∀ id ∈ Chk.live l r g, ckOf l id = ckOf l' id := fun id hid => by
  obtain ⟨n, hn, h1, h2, h3⟩ := live_chunk hI hid
  rw [h n hn] at h1
  have hm : ckOf l id ∈ l' := List.mem_of_find?_eq_some h1
  have := ckOf_mem hI' hm
  rw [h2] at this
  exact this.symm
 have hs : ∀ n, n ≤ (Chk.live l r g).length → liveS l (Chk.live l r g) cost s.t n = liveS l' (Chk.live l r g) cost s.t n := fun n => by
  induction n with
  | zero => intro _; rfl
  | succ n ih =>
   intro hn
   show chunkS (ckOf l _) _ (liveS l _ _ _ n) = chunkS (ckOf l' _) _ (liveS l' _ _ _ n)
   rw [ih (by omega), hc _ (getD_mem (by omega))]
 unfold stripeS
 rw [← hl]
 by_cases h0 : (Chk.live l r g).length = 0
 ·
  rw [if_pos h0, if_pos h0]
 ·
  rw [if_neg h0, if_neg h0, hs _ (Nat.le_refl _)]
theorem row_same {row : Int} (h : ∀ u : Chk.Un, u.r = row → chunkAt l u = chunkAt l' u) (us : List S.Str.Us) (d : Int) : rowS l row us d = rowS l' row us d := by
 have : ∀ n, usedS l row us d n = usedS l' row us d n := fun n => by
  induction n with
  | zero => rfl
  | succ n ih =>
   show stripeS l row _ _ (usedS l row us d n) = stripeS l' row _ _ (usedS l' row us d n)
   rw [ih]
   exact stripe_same hI hI' fun m _ => h _ rfl
 exact this _
theorem rowF_same {row : Int} (h : ∀ u : Chk.Un, u.r = row → chunkAt l u = chunkAt l' u) (cf : S.Str.Cfg) (rs : List S.Str.Rw) : rowF l cf rs row = rowF l' cf rs row := by
 unfold rowF
 by_cases hv : S.Str.validB cf rs = true ∧ 0 ≤ row ∧ row < rs.length
 ·
  rw [if_pos hv, if_pos hv]
  unfold rowAt
  rw [Int.toNat_of_nonneg hv.2.1, row_same hI hI' h]
 ·
  rw [if_neg hv, if_neg hv]
end
section
variable {α : Type} {p : α → Bool} {l : List α}
theorem find_set {k : Nat} {c : α} (hk : k < l.length) (h1 : p l[k] = false) (h2 : p c = false) : (l.set k c).find? p = l.find? p := by
 conv => rhs; rw [← List.take_append_drop k l, List.drop_eq_getElem_cons hk]
 rw [List.set_eq_take_append_cons_drop, if_pos hk, List.find?_append, List.find?_append, List.find?_cons_of_neg (by simp [h2]), List.find?_cons_of_neg (by simp [h1])]
theorem find_erase {k : Nat} (hk : k < l.length) (h1 : p l[k] = false) : (l.eraseIdx k).find? p = l.find? p := by
 conv => rhs; rw [← List.take_append_drop k l, List.drop_eq_getElem_cons hk]
 rw [List.eraseIdx_eq_take_drop_succ, List.find?_append, List.find?_append, List.find?_cons_of_neg (by simp [h1])]
theorem find_ins (k : Nat) {c : α} (h : p c = false) : (l.take k ++ c :: l.drop k).find? p = l.find? p := by
 conv => rhs; rw [← List.take_append_drop k l]
 rw [List.find?_append, List.find?_append, List.find?_cons_of_neg (by simp [h])]
end
def keeps (l : List Chk.Ck) (o : Chk.Op) (row : Int) : Prop := ¬ ((o.kind = 1 ∨ o.kind = 4) ∧ o.u.r = row) ∧ ¬ (o.kind ≠ 1 ∧ ∃ k, Chk.pos (Chk.ids l) o.id = some k ∧ (Chk.nth l k).lost = false ∧ (Chk.nth l k).at_.r = row)
theorem nth_elem {l : List Chk.Ck} {k : Nat} (hk : k < l.length) : l[k] = Chk.nth l k := by unfold Chk.nth; rw [List.getD, List.getElem?_eq_getElem hk]; rfl
theorem step_row {l : List Chk.Ck} {o : Chk.Op} {row : Int} (h : keeps l o row) {u : Chk.Un} (hu : u.r = row) : chunkAt (Chk.step l o).1 u = chunkAt l u := by
 have hold : o.kind ≠ 1 → ∀ k, Chk.pos (Chk.ids l) o.id = some k → k < l.length ∧ (fun c : Chk.Ck => !c.lost && decide (c.at_ = u)) (Chk.nth l k) = false := fun h1 k hp => by
  refine ⟨(Chk.pos_lt hp).1, ?_⟩
  cases hl : (Chk.nth l k).lost with
  | true => simp [hl]
  | false =>
   have : (Chk.nth l k).at_.r ≠ row := fun e => h.2 ⟨h1, k, hp, hl, e⟩
   have hne : (Chk.nth l k).at_ ≠ u := fun e => this (by rw [e]; exact hu)
   simp [hl, hne]
 have hset : o.kind ≠ 1 → ∀ k, Chk.pos (Chk.ids l) o.id = some k → ∀ c : Chk.Ck, (fun c : Chk.Ck => !c.lost && decide (c.at_ = u)) c = false → chunkAt (l.set k c) u = chunkAt l u := fun h1 k hp c hc => by
  obtain ⟨hk, hf⟩ := hold h1 k hp
  exact find_set hk (by rw [nth_elem hk]; exact hf) hc
 unfold Chk.step
 by_cases k1 : o.kind = 1
 ·
  rw [if_pos k1]
  have hne : o.u ≠ u := fun e => h.1 ⟨.inl k1, by rw [e]; exact hu⟩
  unfold Chk.add
  split
  ·
   rfl
  ·
   split
   ·
    rfl
   ·
    split
    ·
     rfl
    ·
     exact find_ins _ (by simp [hne])
 rw [if_neg k1]
 by_cases k2 : o.kind = 2
 ·
  rw [if_pos k2]
  unfold Chk.refer
  cases hp : Chk.pos (Chk.ids l) o.id with
  | none => rfl
  | some k =>
   dsimp only
   split
   ·
    rfl
   ·
    split
    ·
     rfl
    ·
     exact hset k1 k hp _ (hold k1 k hp).2
 rw [if_neg k2]
 by_cases k3 : o.kind = 3
 ·
  rw [if_pos k3]
  unfold Chk.unrefer
  cases hp : Chk.pos (Chk.ids l) o.id with
  | none => rfl
  | some k =>
   dsimp only
   split
   ·
    rfl
   ·
    split
    ·
     rfl
    ·
     split
     ·
      exact find_erase (hold k1 k hp).1 (by rw [nth_elem (hold k1 k hp).1]; exact (hold k1 k hp).2)
     ·
      exact hset k1 k hp _ (hold k1 k hp).2
 rw [if_neg k3]
 by_cases k4 : o.kind = 4
 ·
  rw [if_pos k4]
  have hne : o.u ≠ u := fun e => h.1 ⟨.inr k4, by rw [e]; exact hu⟩
  unfold Chk.move
  cases hp : Chk.pos (Chk.ids l) o.id with
  | none => rfl
  | some k =>
   dsimp only
   split
   ·
    rfl
   ·
    split
    ·
     split
     ·
      rfl
     ·
      exact hset k1 k hp _ (by simp [hne])
    ·
     exact hset k1 k hp _ (by simp [hne])
 rw [if_neg k4]
 by_cases k5 : o.kind = 5
 ·
  rw [if_pos k5]
  unfold Chk.lose
  cases hp : Chk.pos (Chk.ids l) o.id with
  | none => rfl
  | some k => exact hset k1 k hp _ (by simp)
 rw [if_neg k5]
theorem wsh_zero {T : Int} {ws : List Int} {j : Nat} (hj : ws.getD j 0 = 0) : (wsh T ws).getD j 0 = 0 := by
 by_cases hg : good T ws
 ·
  have hk := k_range hg
  rw [wsh_good hg (ordP_is _ _) hk.1 hk.2]
  by_cases hl : j < ws.length
  ·
   rw [W.rowL_get _ hl, W.sh_eq (ordP_is _ _) hk.2 hl]
   have hp := (W.val_pos hg).1
   have hn := (Spl.near (w := W.wOf ws) rfl hp (ordP_is _ _) hk.1 hk.2 (i := j)).2
   rw [show W.wOf ws j = 0 from hj] at hn
   rw [hj]
   rw [Int.mul_zero, Int.zero_ediv] at hn ⊢
   split
   ·
    rename_i hf
    rw [if_pos hf] at hn
    omega
   ·
    rfl
  ·
   rw [List.getD, List.getElem?_eq_none (by rw [W.rowL_len]; omega)]; rfl
 ·
  rw [wsh_bad hg]; simp
theorem dist_other {rs : List Chk.Rf} {sh : List Int} {t : Nat → Int} {j : Nat} (h : ∀ x ∈ rs, x.t.toNat ≠ j) : ∀ n, n ≤ rs.length → dist rs sh t n j = t j
 | 0, _ => rfl
 | n + 1, hn => by
  show put1 _ _ _ j = _
  unfold put1
  have hx : who rs n ≠ j := by
   unfold who
   rw [List.getD, List.getElem?_eq_getElem (show n < rs.length by omega)]
   exact h _ (List.getElem_mem _)
  rw [if_neg (fun e => hx e.symm)]
  exact dist_other h n (by omega)
theorem chunk_other {c : Chk.Ck} {cost : Int} {t : Nat → Int} {j : Nat} (h : ∀ x ∈ c.refs, x.t.toNat ≠ j) : chunkS c cost t j = t j := by
 unfold chunkS
 refine dist_other h _ ?_
 unfold shares
 by_cases hg : good cost (cnts c.refs)
 ·
  rw [wsh_len hg]; unfold cnts; rw [List.length_map]; exact Nat.le_refl _
 ·
  rw [wsh_bad hg]; exact Nat.zero_le _
theorem stripe_other {l : List Chk.Ck} {r g cost : Int} {s : Sh} {j : Nat} (h : ∀ id ∈ Chk.live l r g, ∀ x ∈ (ckOf l id).refs, x.t.toNat ≠ j) : (stripeS l r g cost s).t j = s.t j := by
 have hs : ∀ n, n ≤ (Chk.live l r g).length → liveS l (Chk.live l r g) cost s.t n j = s.t j := fun n => by
  induction n with
  | zero => intro _; rfl
  | succ n ih =>
   intro hn
   show chunkS _ _ _ j = _
   rw [chunk_other (h _ (getD_mem (by omega))), ih (by omega)]
 unfold stripeS
 split
 ·
  rfl
 ·
  exact hs _ (Nat.le_refl _)
def foundB (rs : List S.Str.Rw) (r g : Int) : Bool := decide (0 ≤ r ∧ r < rs.length) && (rs.getD r.toNat S.Str.free).used.any (fun u => decide (u.g = g))
theorem row_other {l : List Chk.Ck} (hI : Chk.Inv l) {rs : List S.Str.Rw} {j : Nat} (h : ∀ c ∈ l, ∀ x ∈ c.refs, x.t = (j : Int) → c.lost = false → foundB rs c.at_.r c.at_.g = true → False) (d : Int) {k : Nat} (hk : k < rs.length) : (rowAt l rs d k).t j = 0 := by
 unfold rowAt rowS
 have : ∀ n, n ≤ (rs.getD k S.Str.free).used.length → (usedS l k (rs.getD k S.Str.free).used d n).t j = 0 := fun n => by
  induction n with
  | zero => intro _; rfl
  | succ n ih =>
   intro hn
   show (stripeS l k _ _ _).t j = 0
   rw [stripe_other (fun id hid x hx e => ?_), ih (by omega)]
   obtain ⟨m, _, h1, _, h3⟩ := live_chunk hI hid
   have hp := List.find?_some h1
   rw [Bool.and_eq_true, decide_eq_true_iff] at hp
   have hx0 := ((hI.ok _ h3).refs.ten x hx).1
   refine h _ h3 x hx (by omega) (by simpa using hp.1) ?_
   rw [hp.2]
   unfold foundB
   rw [decide_eq_true (by dsimp only; omega), Bool.true_and, List.any_eq_true]
   refine ⟨(rs.getD k S.Str.free).used[n]'(by omega), by dsimp only; rw [Int.toNat_natCast]; exact List.getElem_mem _, ?_⟩
   have e : ∀ (us : List S.Str.Us) (h : n < us.length), us.getD n ⟨0, 0, 0⟩ = us[n] := fun us h => by
    rw [List.getD, List.getElem?_eq_getElem h]; rfl
   rw [← e _ (by omega)]
   exact decide_eq_true rfl
 exact this _ (Nat.le_refl _)
theorem ofS_other {l : List Chk.Ck} {rs : List S.Str.Rw} {d : Int} {m : Sh} {j : Nat} (h0 : m.t j = 0) (h : ∀ k, k < rs.length → (rowAt l rs d k).t j = 0) : ∀ n, n ≤ rs.length → (ofS l rs d m n).t j = 0
 | 0, _ => h0
 | n + 1, hn => by
  show wr ((ofS l rs d m n).t j + (rowAt l rs d n).t j) = 0
  rw [ofS_other h0 h n (by omega), h n (by omega)]
  exact IntWalk.wrap64_in _ (by omega)
theorem stranger {l : List Chk.Ck} (hI : Chk.Inv l) {cf : S.Str.Cfg} {rs : List S.Str.Rw} {bs : List Int} {s : Sh} {j : Nat} (hb : bs.getD j 0 = 0) (ho : ofO l cf rs bs = some s) (h : ∀ c ∈ l, ∀ x ∈ c.refs, x.t = (j : Int) → c.lost = false → foundB rs c.at_.r c.at_.g = true → False) : s.t j = 0 := by
 unfold ofO at ho
 cases hm : metaO cf bs with
 | none => rw [hm] at ho; cases ho
 | some m =>
  rw [hm] at ho
  dsimp only at ho
  by_cases hv : S.Str.validB cf rs = true
  ·
   rw [if_pos hv] at ho
   obtain rfl := (Option.some.inj ho).symm
   refine ofS_other ?_ (fun k hk => row_other hI h _ hk) _ (Nat.le_refl _)
   unfold metaO at hm
   by_cases hc : cf.ok = true ∧ blocksOk cf bs
   ·
    rw [if_pos hc] at hm
    obtain rfl := (Option.some.inj hm).symm
    unfold metaS
    by_cases hz : ∀ x ∈ bs, x = 0
    ·
     rw [if_pos hz]
    ·
     rw [if_neg hz]; exact wsh_zero hb
   ·
    rw [if_neg hc] at hm; cases hm
  ·
   rw [if_neg hv] at ho; cases ho
end Cha
end Go.Proofs.YtfllkaeaanahmaaGreat
