/- Joined texts: ColA, ColM, ColE. Conditions: as each part says. -/
import Derived.Test.YtihhkcndcgljbaaGreatWirePlain
import Derived.Test.YtihhkcndcgljbaaGreatChkTab
import Derived.Test.YtihhkcndcgljbaaGreatStrG
namespace Go.Proofs.YtihhkcndcgljbaaGreat
set_option linter.unusedVariables false
set_option linter.unusedSimpArgs false
/-! Plain: the index of the smallest element, except for one; loads of which any two are more than d. Conditions: as each theorem says. -/
section
namespace Col
/-- the index of the first smallest value among the first n, except for one index -/
def sm (v : Nat → Int) (but : Option Nat) : Nat → Option Nat
  | 0 => none
  | n + 1 => if but = some n then sm v but n else match sm v but n with
    | none => some n
    | some o => if v n < v o then some n else some o
/-- as an int: none is -1 -/
def ix : Option Nat → Int
  | none => -1
  | some k => (k : Int)
theorem sm_some {v : Nat → Int} {but : Option Nat} : ∀ {n o : Nat}, sm v but n = some o → o < n ∧ but ≠ some o ∧ ∀ k, k < n → but ≠ some k → v o ≤ v k
  | 0, o, h => by simp [sm] at h
  | n + 1, o, h => by
    unfold sm at h
    by_cases hb : but = some n
    · rw [if_pos hb] at h
      obtain ⟨h1, h2, h3⟩ := sm_some h
      refine ⟨by omega, h2, fun k hk hkb => h3 k ?_ hkb⟩
      rcases Nat.lt_or_ge k n with e | e
      · exact e
      · exact absurd (show but = some k by rw [hb, show k = n by omega]) hkb
    · rw [if_neg hb] at h
      cases hs : sm v but n with
      | none =>
        rw [hs] at h; cases h
        refine ⟨by omega, hb, fun k hk hkb => ?_⟩
        rcases Nat.lt_or_ge k n with e | e
        · exact absurd hs (by
            intro hs'
            exact absurd hkb (by
              have : ∀ m, k < m → sm v but m = none → but = some k := by
                intro m
                induction m with
                | zero => intro hkm; omega
                | succ m ih =>
                  intro hkm hm
                  unfold sm at hm
                  by_cases hbm : but = some m
                  · rw [if_pos hbm] at hm
                    rcases Nat.lt_or_ge k m with e' | e'
                    · exact ih e' hm
                    · rw [hbm, show k = m by omega]
                  · rw [if_neg hbm] at hm
                    cases hsm : sm v but m with
                    | none => rw [hsm] at hm; cases hm
                    | some o' => rw [hsm] at hm; dsimp only at hm; split at hm <;> cases hm
              exact fun hne => hne (this n e hs')))
        · rw [show k = n by omega]; exact Int.le_refl _
      | some o' =>
        rw [hs] at h; dsimp only at h
        obtain ⟨h1, h2, h3⟩ := sm_some hs
        by_cases hv : v n < v o'
        · rw [if_pos hv] at h; cases h
          refine ⟨by omega, hb, fun k hk hkb => ?_⟩
          rcases Nat.lt_or_ge k n with e | e
          · have := h3 k e hkb; omega
          · rw [show k = n by omega]; exact Int.le_refl _
        · rw [if_neg hv] at h; cases h
          refine ⟨by omega, h2, fun k hk hkb => ?_⟩
          rcases Nat.lt_or_ge k n with e | e
          · exact h3 k e hkb
          · rw [show k = n by omega]; omega
/-- the two smallest -/
def two (v : Nat → Int) (n : Nat) : Option (Nat × Nat) :=
  match sm v none n with
  | none => none
  | some a => match sm v (some a) n with
    | none => none
    | some b => some (a, b)
theorem two_some {v : Nat → Int} {n a b : Nat} (h : two v n = some (a, b)) : a < n ∧ b < n ∧ a ≠ b ∧ sm v none n = some a ∧ sm v (some a) n = some b := by
  unfold two at h
  cases ha : sm v none n with
  | none => rw [ha] at h; cases h
  | some a' =>
    rw [ha] at h; dsimp only at h
    cases hb : sm v (some a') n with
    | none => rw [hb] at h; cases h
    | some b' =>
      rw [hb] at h; cases h
      have h1 := sm_some ha
      have h2 := sm_some hb
      exact ⟨h1.1, h2.1, fun e => h2.2.1 (by rw [e]), rfl, hb⟩
/-- sums -/
def sum : List Int → Int
  | [] => 0
  | x :: l => x + sum l
theorem sum_half {d : Int} : ∀ {l : List Int}, (∀ x ∈ l, d < 2 * x) → (l.length : Int) * d ≤ 2 * sum l
  | [], _ => by simp [sum]
  | x :: l, h => by
    have h1 := h x (by simp)
    have h2 := sum_half (l := l) fun y hy => h y (by simp [hy])
    rw [sum, List.length_cons, Int.natCast_add, Int.add_mul]
    have : ((1 : Nat) : Int) * d = d := by simp
    omega
def Prs (d : Int) (l : List Int) : Prop := l.Pairwise fun x y => d < x + y
theorem Prs.sum {d : Int} : ∀ {l : List Int}, Prs d l → 2 ≤ l.length → (l.length : Int) * d < 2 * Col.sum l
  | [], _, h => by simp at h
  | [x], _, h => by simp at h
  | x :: y :: l, hp, _ => by
    have hp' := hp
    unfold Prs at hp
    rw [List.pairwise_cons] at hp
    obtain ⟨hx, hr⟩ := hp
    have hxy := hx y (by simp)
    by_cases h2 : d < 2 * x
    · by_cases hl : 2 ≤ (y :: l).length
      · have := Prs.sum (l := y :: l) hr hl
        rw [Col.sum]
        have e : ((x :: y :: l).length : Int) * d = ((y :: l).length : Int) * d + d := by
          rw [List.length_cons (a := x), Int.natCast_add, Int.add_mul]; simp
        omega
      · have : l = [] := by cases l with | nil => rfl | cons z l => exact absurd (by simp) hl
        subst this
        simp only [List.length_cons, List.length_nil, Col.sum]
        omega
    · rw [List.pairwise_cons] at hr
      have hh := sum_half (d := d) (l := l) fun z hz => by
        have := hx z (by simp [hz])
        omega
      rw [Col.sum, Col.sum]
      have e : ((x :: y :: l).length : Int) * d = (l.length : Int) * d + 2 * d := by
        simp only [List.length_cons, Int.natCast_add, Int.add_mul]; omega
      omega
/-- the bound on the number of stripes -/
def bound (n d : Int) : Int := if n < 1 ∨ 2147483647 < n ∨ d < 1 ∨ 32 < d then 0 else 2 * ((n + d - 1) / d)
theorem Prs.bound {d : Int} {l : List Int} (h : Prs d l) (hl : 2 ≤ l.length) (h1 : 1 ≤ d) (h2 : d ≤ 32) (hm : Col.sum l ≤ 2147483647) (hp : 1 ≤ Col.sum l) : (l.length : Int) ≤ Col.bound (Col.sum l) d := by
  have hs := h.sum hl
  unfold Col.bound
  rw [if_neg (by omega)]
  have hd : Col.sum l ≤ d * ((Col.sum l + d - 1) / d) := by
    have e1 := Int.mul_ediv_add_emod (Col.sum l + d - 1) d
    have e2 := Int.emod_lt_of_pos (Col.sum l + d - 1) (show 0 < d by omega)
    omega
  have h3 : (l.length : Int) * d < (2 * ((Col.sum l + d - 1) / d)) * d := by
    have : (2 * ((Col.sum l + d - 1) / d)) * d = 2 * (d * ((Col.sum l + d - 1) / d)) := by
      rw [Int.mul_assoc, Int.mul_comm _ d]
    omega
  exact Int.le_of_lt (Int.lt_of_mul_lt_mul_right h3 (by omega))
end Col
end
/-! Plain: chunks are moved, one after another, tg the units 0, 1, .. of a stripe that has no live chunks. Conditions: as each theorem says. -/
section
namespace Col
open Chk (Ck Un Inv unitAt nth)
theorem unit_inj {l : List Ck} (h : Inv l) {u v : Un} {id : Int} (hu : unitAt l u = some id) (hv : unitAt l v = some id) : u = v := by
  obtain ⟨k, c, h1, h2, h3, h4⟩ := (Chk.unitAt_some h).1 hu
  obtain ⟨j, d, g1, g2, g3, g4⟩ := (Chk.unitAt_some h).1 hv
  have e := h.idx h1 g1 (by rw [h4, g4])
  subst e
  rw [h1] at g1; cases g1
  rw [← h3, ← g3]
theorem pos_get {l : List Ck} (h : Inv l) {k : Nat} {c : Ck} (hk : l[k]? = some c) : Chk.pos (Chk.ids l) c.id = some k := by
  cases hp : Chk.pos (Chk.ids l) c.id with
  | none => exact absurd rfl (Chk.pos_none hp c.id (List.mem_of_getElem? (i := k) (by rw [List.getElem?_map, hk]; rfl)))
  | some j =>
    obtain ⟨hj, hid⟩ := Chk.pos_lt hp
    rw [h.idx (Chk.nth_get hj) hk hid]
/-- one move -/
theorem move_one {l : List Ck} (h : Inv l) {id : Int} {u0 u : Un} (h0 : unitAt l u0 = some id) (hv : Chk.valid u) (hn : unitAt l u = none) :
    ∃ l', Chk.move l id u = (l', 0, 0) ∧ Inv l' ∧ unitAt l' = fun v => if v = u then some id else if v = u0 then none else unitAt l v := by
  obtain ⟨k, c, h1, h2, h3, h4⟩ := (Chk.unitAt_some h).1 h0
  have hp := pos_get h h1
  rw [h4] at hp
  have hk : k < l.length := (List.getElem?_eq_some_iff.1 h1).1
  have hc : nth l k = c := by have := Chk.nth_get hk; rw [h1] at this; exact (Option.some.inj this).symm
  have hm : Chk.move l id u = (l.set k { nth l k with at_ := u, lost := false }, 0, 0) := by
    unfold Chk.move
    rw [hp]; dsimp only
    rw [if_neg (fun e => e hv), hn]
  have hi := h.move id u
  rw [hm] at hi
  refine ⟨_, hm, hi, ?_⟩
  rw [Chk.unitAt_move h hk hi rfl]
  funext v
  dsimp only
  unfold Chk.leave
  rw [hc, h4]
  by_cases e : v = u
  · rw [if_pos e, if_pos e]
  · rw [if_neg e, if_neg e]
    by_cases e2 : v = u0
    · rw [if_pos e2, if_pos ⟨h2, by rw [e2, h3]⟩]
    · rw [if_neg e2, if_neg (fun q => e2 (by rw [q.2, h3]))]
/-! the live chunks of a stripe -/
theorem live_mem {l : List Ck} {r g id : Int} : id ∈ Chk.live l r g ↔ ∃ n : Nat, n < 32 ∧ unitAt l ⟨r, g, n⟩ = some id := by
  unfold Chk.live
  simp only [List.mem_flatMap, List.mem_range, Option.mem_toList]
theorem live_same {l l' : List Ck} {r g : Int} (h : ∀ n : Nat, n < 32 → unitAt l ⟨r, g, n⟩ = unitAt l' ⟨r, g, n⟩) : Chk.live l r g = Chk.live l' r g := by
  unfold Chk.live
  rw [List.flatMap_def, List.flatMap_def]
  congr 1
  refine List.map_congr_left fun n hn => ?_
  rw [h n (List.mem_range.1 hn)]
theorem live_nil {l : List Ck} {r g : Int} (h : ∀ n : Nat, n < 32 → unitAt l ⟨r, g, n⟩ = none) : Chk.live l r g = [] := by
  rw [List.eq_nil_iff_forall_not_mem]
  intro id hid
  obtain ⟨n, hn, e⟩ := live_mem.1 hid
  rw [h n hn] at e; cases e
theorem range_front (xs : List Int) : ∀ m : Nat, ((List.range m).flatMap fun n => (xs[n]?).toList) = xs.take m
  | 0 => by simp
  | m + 1 => by
    rw [List.range_succ, List.flatMap_append, range_front xs m, List.take_add_one]
    simp
theorem live_front {l : List Ck} {r g : Int} {xs : List Int} (hx : xs.length ≤ 32) (h : ∀ n : Nat, n < 32 → unitAt l ⟨r, g, n⟩ = xs[n]?) : Chk.live l r g = xs := by
  have e : Chk.live l r g = (List.range 32).flatMap fun n => (xs[n]?).toList := by
    unfold Chk.live
    rw [List.flatMap_def, List.flatMap_def]
    congr 1
    refine List.map_congr_left fun n hn => ?_
    rw [h n (List.mem_range.1 hn)]
  rw [e, range_front, List.take_of_length_le hx]
theorem liveN_nodup {l : List Ck} (h : Inv l) (r g : Int) : ∀ m, (liveN l r g m).Nodup
  | 0 => by simp [liveN]
  | m + 1 => by
    rw [liveN_succ, List.nodup_append]
    refine ⟨liveN_nodup h r g m, by cases unitAt l ⟨r, g, (m : Nat)⟩ <;> simp, ?_⟩
    intro a ha b hb e
    subst e
    rw [Option.mem_toList] at hb
    unfold liveN at ha
    simp only [List.mem_flatMap, List.mem_range, Option.mem_toList] at ha
    obtain ⟨n, hn, hn2⟩ := ha
    have := unit_inj h hn2 hb
    injection this with _ _ e3
    omega
theorem live_nodup {l : List Ck} (h : Inv l) (r g : Int) : (Chk.live l r g).Nodup := liveN_nodup h r g 32
theorem live_le (l : List Ck) (r g : Int) : (Chk.live l r g).length ≤ 32 := liveN_le l r g 32
theorem live_apart {l : List Ck} (h : Inv l) {a b : Int × Int} (hab : a ≠ b) : (Chk.live l a.1 a.2 ++ Chk.live l b.1 b.2).Nodup := by
  rw [List.nodup_append]
  refine ⟨live_nodup h _ _, live_nodup h _ _, ?_⟩
  intro x hx y hy e
  subst e
  obtain ⟨n, _, hn⟩ := live_mem.1 hx
  obtain ⟨m, _, hm⟩ := live_mem.1 hy
  have := unit_inj h hn hm
  injection this with e1 e2 _
  exact hab (Prod.ext e1 e2)
/-- the first j of the chunks xs have been moved -/
structure Mvd (l0 : List Ck) (tg : Int × Int) (xs : List Int) (j : Nat) (l : List Ck) : Prop where
  inv : Inv l
  to_ : ∀ n : Nat, n < 32 → unitAt l ⟨tg.1, tg.2, n⟩ = if n < j then xs[n]? else none
  el : ∀ v : Un, (v.r, v.g) ≠ tg → unitAt l v = (unitAt l0 v).bind fun id => if id ∈ xs.take j then none else some id
theorem Mvd.start {l0 : List Ck} {tg : Int × Int} (xs : List Int) (h : Inv l0) (ht : Chk.live l0 tg.1 tg.2 = []) : Mvd l0 tg xs 0 l0 := by
  refine ⟨h, fun n hn => ?_, fun v _ => ?_⟩
  · rw [if_neg (by omega)]
    cases hu : unitAt l0 ⟨tg.1, tg.2, n⟩ with
    | none => rfl
    | some id =>
      have := live_mem.2 ⟨n, hn, hu⟩
      rw [ht] at this; cases this
  · rw [List.take_zero]
    cases unitAt l0 v <;> simp
theorem Mvd.step {l0 l : List Ck} {tg : Int × Int} {xs : List Int} {j : Nat} (hI : Inv l0) (hv : ∀ n : Nat, n < 32 → Chk.valid ⟨tg.1, tg.2, n⟩) (hd : xs.Nodup)
    (hu : ∀ id ∈ xs, ∃ v : Un, (v.r, v.g) ≠ tg ∧ unitAt l0 v = some id) (h : Mvd l0 tg xs j l) (hj : j < xs.length) (h32 : xs.length ≤ 32) :
    ∃ l', Chk.move l xs[j] ⟨tg.1, tg.2, (j : Nat)⟩ = (l', 0, 0) ∧ Mvd l0 tg xs (j + 1) l' := by
  obtain ⟨id, hid⟩ : ∃ id, xs[j] = id := ⟨_, rfl⟩
  rw [hid]
  have hx : xs[j]? = some id := by rw [List.getElem?_eq_getElem hj, hid]
  obtain ⟨u0, hu1, hu2⟩ := hu id (List.mem_of_getElem? hx)
  have hnt : id ∉ xs.take j := by
    intro hm
    obtain ⟨i, hi, he⟩ := List.mem_iff_getElem.1 hm
    rw [List.length_take] at hi
    rw [List.getElem_take] at he
    have := List.pairwise_iff_getElem.1 hd i j (by omega) hj (by omega)
    exact this (by rw [he, hid])
  have h0 : unitAt l u0 = some id := by rw [h.el u0 hu1, hu2]; simp [hnt]
  have hn : unitAt l ⟨tg.1, tg.2, (j : Nat)⟩ = none := by rw [h.to_ j (by omega), if_neg (by omega)]
  obtain ⟨l', m1, m2, m3⟩ := move_one h.inv h0 (hv j (by omega)) hn
  refine ⟨l', m1, m2, fun n hn => ?_, fun v hvt => ?_⟩
  · rw [m3]; dsimp only
    by_cases e : n = j
    · subst e
      rw [if_pos rfl, if_pos (by omega), hx]
    · rw [if_neg (by intro q; injection q with _ _ q3; omega), if_neg (by intro q; exact hu1 (by rw [← q])), h.to_ n hn]
      by_cases e2 : n < j
      · rw [if_pos e2, if_pos (by omega)]
      · rw [if_neg e2, if_neg (by omega)]
  · rw [m3]; dsimp only
    rw [if_neg (by intro q; exact hvt (by rw [q]))]
    have ht : ∀ x : Int, x ∈ xs.take (j + 1) ↔ x ∈ xs.take j ∨ x = id := by
      intro x
      rw [List.take_add_one, hx]; simp
    by_cases e : v = u0
    · subst e
      rw [if_pos rfl, hu2]
      simp [ht]
    · rw [if_neg e, h.el v hvt]
      cases hl : unitAt l0 v with
      | none => rfl
      | some x =>
        have hxi : x ≠ id := by intro q; subst q; exact e (unit_inj hI hl hu2)
        simp only [Option.bind_some, ht, hxi, or_false]
/-- all have been moved: what the stripes hold then -/
theorem Mvd.all {l0 l : List Ck} {tg : Int × Int} {xs : List Int} (h : Mvd l0 tg xs xs.length l) (h32 : xs.length ≤ 32) : Chk.live l tg.1 tg.2 = xs := by
  refine live_front h32 fun n hn => ?_
  rw [h.to_ n hn]
  by_cases e : n < xs.length
  · rw [if_pos e]
  · rw [if_neg e, List.getElem?_eq_none (by omega)]
theorem Mvd.gone {l0 l : List Ck} {tg : Int × Int} {xs : List Int} (h : Mvd l0 tg xs xs.length l) {a : Int × Int} (ha : a ≠ tg) (hx : ∀ id ∈ Chk.live l0 a.1 a.2, id ∈ xs) : Chk.live l a.1 a.2 = [] := by
  refine live_nil fun n hn => ?_
  rw [h.el ⟨a.1, a.2, n⟩ ha, List.take_length]
  cases hl : unitAt l0 ⟨a.1, a.2, n⟩ with
  | none => rfl
  | some x => simp [hx x (live_mem.2 ⟨n, hn, hl⟩)]
theorem Mvd.same {l0 l : List Ck} {tg : Int × Int} {xs : List Int} (h : Mvd l0 tg xs xs.length l) {a : Int × Int} (ha : a ≠ tg) (hx : ∀ id ∈ Chk.live l0 a.1 a.2, id ∉ xs) : Chk.live l a.1 a.2 = Chk.live l0 a.1 a.2 := by
  refine live_same fun n hn => ?_
  rw [h.el ⟨a.1, a.2, n⟩ ha, List.take_length]
  cases hl : unitAt l0 ⟨a.1, a.2, n⟩ with
  | none => rfl
  | some x => simp [hx x (live_mem.2 ⟨n, hn, hl⟩)]
/-- the chunks of two stripes -/
def both (l : List Ck) (a b : Int × Int) : List Int := Chk.live l a.1 a.2 ++ Chk.live l b.1 b.2
theorem both_unit {l : List Ck} {a b tg : Int × Int} (ha : a ≠ tg) (hb : b ≠ tg) : ∀ id ∈ both l a b, ∃ v : Un, (v.r, v.g) ≠ tg ∧ unitAt l v = some id := by
  intro id hid
  rcases List.mem_append.1 hid with h | h
  · obtain ⟨n, _, e⟩ := live_mem.1 h; exact ⟨_, ha, e⟩
  · obtain ⟨n, _, e⟩ := live_mem.1 h; exact ⟨_, hb, e⟩
theorem both_not {l : List Ck} (h : Inv l) {a b s : Int × Int} (ha : s ≠ a) (hb : s ≠ b) : ∀ id ∈ Chk.live l s.1 s.2, id ∉ both l a b := by
  intro id hid hm
  obtain ⟨n, _, hn⟩ := live_mem.1 hid
  rcases List.mem_append.1 hm with q | q
  · obtain ⟨m, _, hm⟩ := live_mem.1 q
    have := unit_inj h hn hm
    injection this with e1 e2 _
    exact ha (Prod.ext e1 e2)
  · obtain ⟨m, _, hm⟩ := live_mem.1 q
    have := unit_inj h hn hm
    injection this with e1 e2 _
    exact hb (Prod.ext e1 e2)
end Col
end
/-! Plain: the loaded stripes of a code; what Next finds; merging makes them fewer. Conditions: as each theorem says. -/
section
namespace Col
open Chk (Ck Inv)
abbrev St := Int × Int
/-- the number of live chunks of a stripe -/
def cnt (l : List Ck) (s : St) : Int := ((Chk.live l s.1 s.2).length : Nat)
theorem cnt_nonneg (l : List Ck) (s : St) : 0 ≤ cnt l s := by unfold cnt; omega
theorem cnt_le (l : List Ck) (s : St) : cnt l s ≤ 32 := by unfold cnt; have := live_le l s.1 s.2; omega
/-- the stripes with live chunks -/
def nzl (l : List Ck) (ss : List St) : List St := ss.filter fun s => decide (cnt l s ≠ 0)
/-- what Next finds -/
def nextF (ss : List St) (l : List Ck) (d : Int) : Option (St × St) :=
  match two (fun k => cnt l ((nzl l ss).getD k (0, 0))) (nzl l ss).length with
  | none => none
  | some (a, b) => if 1 ≤ d ∧ d ≤ 32 ∧ cnt l ((nzl l ss).getD a (0, 0)) + cnt l ((nzl l ss).getD b (0, 0)) ≤ d then some ((nzl l ss).getD a (0, 0), (nzl l ss).getD b (0, 0)) else none
theorem getD_get {α : Type} {l : List α} {k : Nat} (z : α) (h : k < l.length) : l.getD k z = l[k] := by rw [List.getD, List.getElem?_eq_getElem h]; rfl
theorem nextF_some {ss : List St} {l : List Ck} {d : Int} {a b : St} (h : nextF ss l d = some (a, b)) : ∃ i j : Nat, i ≠ j ∧ (nzl l ss)[i]? = some a ∧ (nzl l ss)[j]? = some b ∧ 1 ≤ d ∧ d ≤ 32 ∧ cnt l a + cnt l b ≤ d := by
  unfold nextF at h
  cases ht : two (fun k => cnt l ((nzl l ss).getD k (0, 0))) (nzl l ss).length with
  | none => rw [ht] at h; cases h
  | some p =>
    obtain ⟨i, j⟩ := p
    rw [ht] at h; dsimp only at h
    obtain ⟨hi, hj, hij, _⟩ := two_some ht
    by_cases hd : 1 ≤ d ∧ d ≤ 32 ∧ cnt l ((nzl l ss).getD i (0, 0)) + cnt l ((nzl l ss).getD j (0, 0)) ≤ d
    · rw [if_pos hd] at h
      cases h
      refine ⟨i, j, hij, ?_, ?_, hd.1, hd.2.1, hd.2.2⟩
      · rw [getD_get _ hi, List.getElem?_eq_getElem hi]
      · rw [getD_get _ hj, List.getElem?_eq_getElem hj]
    · rw [if_neg hd] at h; cases h
theorem nodup_ne {α : Type} {l : List α} (h : l.Nodup) {i j : Nat} (hij : i ≠ j) {a b : α} (ha : l[i]? = some a) (hb : l[j]? = some b) : a ≠ b := by
  obtain ⟨hi, rfl⟩ := List.getElem?_eq_some_iff.1 ha
  obtain ⟨hj, rfl⟩ := List.getElem?_eq_some_iff.1 hb
  rcases Nat.lt_or_ge i j with e | e
  · exact List.pairwise_iff_getElem.1 h i j hi hj e
  · exact fun q => List.pairwise_iff_getElem.1 h j i hj hi (by omega) q.symm
theorem two_count {α : Type} (p : α → Bool) : ∀ {l : List α} {i j : Nat} {a b : α}, i < j → l[i]? = some a → l[j]? = some b → p a = true → p b = true → 2 ≤ l.countP p
  | [], i, j, a, b, _, h, _, _, _ => by simp at h
  | x :: l, 0, j + 1, a, b, _, h1, h2, h3, h4 => by
    simp only [List.getElem?_cons_zero, Option.some.injEq] at h1
    rw [List.getElem?_cons_succ] at h2
    have : 0 < l.countP p := List.countP_pos_iff.2 ⟨b, List.mem_of_getElem? h2, h4⟩
    rw [List.countP_cons, h1, h3, if_pos rfl]; omega
  | x :: l, i + 1, j + 1, a, b, hij, h1, h2, h3, h4 => by
    rw [List.getElem?_cons_succ] at h1 h2
    have := two_count p (l := l) (i := i) (j := j) (by omega) h1 h2 h3 h4
    rw [List.countP_cons]; omega
theorem split_count {α : Type} (p : α → Bool) (l : List α) : (l.filter p).length + l.countP (fun x => !p x) = l.length := by
  induction l with
  | nil => rfl
  | cons x l ih =>
    rw [List.filter_cons, List.countP_cons]
    cases h : p x <;> simp <;> omega
/-- a merge makes the loaded stripes fewer -/
theorem merged_less {ss : List St} {l l' : List Ck} {a b tg : St} {i j : Nat} (hij : i ≠ j) (ha : (nzl l ss)[i]? = some a) (hb : (nzl l ss)[j]? = some b)
    (h0a : cnt l' a = 0) (h0b : cnt l' b = 0) (hs : ∀ s ∈ ss, s ≠ a → s ≠ b → cnt l' s = cnt l s) : (nzl l' (ss ++ [tg])).length + 1 ≤ (nzl l ss).length := by
  have hle : (nzl l' ss).length + 2 ≤ (nzl l ss).length := by
    have e : nzl l' ss = (nzl l ss).filter fun s => !(decide (s = a) || decide (s = b)) := by
      unfold nzl
      rw [List.filter_filter]
      refine List.filter_congr fun s hs' => ?_
      by_cases e1 : s = a
      · subst e1; simp [h0a]
      · by_cases e2 : s = b
        · subst e2; simp [h0b]
        · simp [e1, e2, hs s hs' e1 e2]
    have h2 : 2 ≤ (nzl l ss).countP fun s => decide (s = a) || decide (s = b) := by
      rcases Nat.lt_or_ge i j with q | q
      · exact two_count _ q ha hb (by simp) (by simp)
      · exact two_count _ (show j < i by omega) hb ha (by simp) (by simp)
    have h3 := split_count (fun s => !(decide (s = a) || decide (s = b))) (nzl l ss)
    simp only [Bool.not_not] at h3
    rw [e]; omega
  unfold nzl at hle ⊢
  rw [List.filter_append, List.length_append]
  have : (([tg] : List St).filter fun s => decide (cnt l' s ≠ 0)).length ≤ 1 := by
    refine Nat.le_trans (List.length_filter_le _ _) (by simp)
  omega
/-! the stripes of rows -/
theorem strs_snoc (c : Int) (r : S.Str.Rw) : ∀ (rs : List S.Str.Rw) (j : Nat), S.Str.strs c (rs ++ [r]) j = S.Str.strs c rs j ++ (if r.code = c then r.used.map (fun u => (((j + rs.length : Nat) : Int), u.g)) else [])
  | [], j => by
    simp only [List.nil_append, S.Str.strs, List.length_nil, Nat.add_zero]
    split <;> simp
  | x :: rs, j => by
    rw [List.cons_append, S.Str.strs, S.Str.strs, strs_snoc c r rs (j + 1), List.length_cons, show j + 1 + rs.length = j + (rs.length + 1) by omega]
    by_cases h : x.code = c
    · rw [if_pos h, if_pos h, List.append_assoc]
    · rw [if_neg h, if_neg h]
theorem strs_row {c : Int} : ∀ {rs : List S.Str.Rw} {j : Nat} {s : St}, s ∈ S.Str.strs c rs j → (j : Int) ≤ s.1 ∧ s.1 < ((j + rs.length : Nat) : Int)
  | [], j, s, h => by simp [S.Str.strs] at h
  | x :: rs, j, s, h => by
    rw [S.Str.strs] at h
    rw [List.length_cons]
    have hr : s ∈ S.Str.strs c rs (j + 1) → (j : Int) ≤ s.1 ∧ s.1 < ((j + (rs.length + 1) : Nat) : Int) := fun q => by
      have := strs_row q; omega
    by_cases hx : x.code = c
    · rw [if_pos hx] at h
      rcases List.mem_append.1 h with q | q
      · obtain ⟨u, _, e⟩ := List.mem_map.1 q
        rw [← e]; dsimp only; omega
      · exact hr q
    · rw [if_neg hx] at h; exact hr h
theorem asc_nodup {j : Int} : ∀ {lo : Int} {us : List S.Str.Us}, S.Str.Asc lo us → (us.map fun u => ((j, u.g) : St)).Nodup
  | _, [], _ => by simp
  | lo, u :: us, h => by
    rw [List.map_cons, List.nodup_cons]
    refine ⟨fun hm => ?_, asc_nodup h.2⟩
    obtain ⟨v, hv, e⟩ := List.mem_map.1 hm
    have := h.2.mem v hv
    injection e with _ e2
    omega
theorem strs_nodup {c : Int} : ∀ {rs : List S.Str.Rw} {j : Nat}, (∀ r ∈ rs, r.code = c → S.Str.Asc 0 r.used) → (S.Str.strs c rs j).Nodup
  | [], j, _ => by simp [S.Str.strs]
  | x :: rs, j, h => by
    have ih := strs_nodup (c := c) (rs := rs) (j := j + 1) fun r hr => h r (by simp [hr])
    rw [S.Str.strs]
    by_cases hx : x.code = c
    · rw [if_pos hx, List.nodup_append]
      refine ⟨asc_nodup (h x (by simp) hx), ih, ?_⟩
      intro a ha b hb e
      subst e
      obtain ⟨u, _, e⟩ := List.mem_map.1 ha
      have := strs_row hb
      rw [← e] at this; dsimp only at this; omega
    · rw [if_neg hx]; exact ih
/-- the number of used stripes -/
def used : List S.Str.Rw → Nat
  | [] => 0
  | r :: l => r.used.length + used l
theorem strs_len {c : Int} : ∀ {rs : List S.Str.Rw} {j : Nat}, (S.Str.strs c rs j).length ≤ used rs
  | [], j => by simp [S.Str.strs]
  | x :: rs, j => by
    have ih := strs_len (c := c) (rs := rs) (j := j + 1)
    rw [S.Str.strs, used]
    by_cases hx : x.code = c
    · rw [if_pos hx, List.length_append, List.length_map]; omega
    · rw [if_neg hx]; omega
/-- the stripes that Loads lists -/
def lss (c : Int) (rs : List S.Str.Rw) : List St := if 0 ≤ c ∧ c < 8 then S.Str.strs c rs 0 else []
end Col
end
end Go.Proofs.YtihhkcndcgljbaaGreat
