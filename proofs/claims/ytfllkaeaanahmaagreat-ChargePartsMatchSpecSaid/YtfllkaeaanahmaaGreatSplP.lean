/- Joined texts: SortP, SplP. Conditions: as each part says. -/
namespace Go.Proofs.YtfllkaeaanahmaaGreat
set_option linter.unusedVariables false
set_option linter.unusedSimpArgs false
section
namespace So

def swapR (d : Nat → Int) (a b n : Nat) (t : Nat) : Int := if a ≤ t ∧ t < a + n then d (b + (t - a)) else if b ≤ t ∧ t < b + n then d (a + (t - b)) else d t
def rot (d : Nat → Int) (a m b : Nat) (t : Nat) : Int := if a ≤ t ∧ t < b then (if t < a + (b - m) then d (t + (m - a)) else d (t - (b - m))) else d t

theorem swapR_zero (d : Nat → Int) (a b : Nat) : swapR d a b 0 = d := by
 funext t; unfold swapR; rw [if_neg (by omega), if_neg (by omega)]
theorem swapR_succ (d : Nat → Int) {a b i : Nat} (h : a + i < b) (t : Nat) : swapR d a b (i + 1) t = if t = a + i then swapR d a b i (b + i) else if t = b + i then swapR d a b i (a + i) else swapR d a b i t := by
 unfold swapR
 by_cases h1 : t = a + i
 ·
  subst h1
  rw [if_pos (by omega), if_pos rfl, if_neg (by omega), if_neg (by omega)]
  congr 1; omega
 ·
  by_cases h2 : t = b + i
  ·
   subst h2
   rw [if_neg (by omega), if_pos (by omega), if_neg h1, if_pos rfl, if_neg (by omega), if_neg (by omega)]
   congr 1; omega
  ·
   rw [if_neg h1, if_neg h2]
   by_cases h3 : a ≤ t ∧ t < a + i
   ·
    rw [if_pos (by omega), if_pos h3]
   ·
    rw [if_neg (by omega), if_neg h3]
    by_cases h4 : b ≤ t ∧ t < b + i
    ·
     rw [if_pos (by omega), if_pos h4]
    ·
     rw [if_neg (by omega), if_neg h4]

def RotJ (R cur : Nat → Int) (m i j : Nat) : Prop := (∀ t, (t < m - i ∨ m + j ≤ t) → cur t = R t) ∧ ∀ t, m - i ≤ t → t < m + j → R t = if t < m - i + j then cur (t + i) else cur (t - j)
theorem rotJ_start (d : Nat → Int) {a m b : Nat} (h1 : a ≤ m) (h2 : m ≤ b) : RotJ (rot d a m b) d m (m - a) (b - m) := by
 refine ⟨fun t ht => ?_, fun t h3 h4 => ?_⟩
 ·
  unfold rot; rw [if_neg (by omega)]
 ·
  unfold rot; rw [if_pos (by omega)]
  have : m - (m - a) = a := by omega
  rw [this]
theorem rotJ_gt {R cur : Nat → Int} {m i j : Nat} (h : RotJ R cur m i j) (hi : i ≤ m) (hij : j < i) : RotJ R (swapR cur (m - i) m j) m (i - j) j := by
 obtain ⟨h1, h2⟩ := h
 refine ⟨fun t ht => ?_, fun t h3 h4 => ?_⟩
 ·
  unfold swapR
  by_cases hc : m - i ≤ t ∧ t < m - i + j
  ·
   rw [if_pos hc, h2 t (by omega) (by omega), if_pos (by omega)]
   congr 1; omega
  ·
   rw [if_neg hc]
   rw [if_neg (by omega)]
   exact h1 t (by omega)
 ·
  rw [h2 t (by omega) h4, if_neg (by omega)]
  unfold swapR
  by_cases hc : t < m - (i - j) + j
  ·
   rw [if_pos hc, if_neg (by omega), if_pos (by omega)]
   congr 1; omega
  ·
   rw [if_neg hc, if_neg (by omega), if_neg (by omega)]
theorem rotJ_lt {R cur : Nat → Int} {m i j : Nat} (h : RotJ R cur m i j) (hi : i ≤ m) (hij : i < j) : RotJ R (swapR cur (m - i) (m + j - i) i) m i (j - i) := by
 obtain ⟨h1, h2⟩ := h
 refine ⟨fun t ht => ?_, fun t h3 h4 => ?_⟩
 ·
  unfold swapR
  by_cases hc : m + j - i ≤ t ∧ t < m + j - i + i
  ·
   rw [if_neg (by omega), if_pos hc, h2 t (by omega) (by omega), if_neg (by omega)]
   congr 1; omega
  ·
   rw [if_neg (by omega), if_neg hc]
   exact h1 t (by omega)
 ·
  rw [h2 t h3 (by omega)]
  unfold swapR
  by_cases hc : t < m - i + (j - i)
  ·
   rw [if_pos (by omega), if_pos hc, if_neg (by omega), if_neg (by omega)]
  ·
   rw [if_neg hc]
   by_cases hd : t < m - i + j
   ·
    rw [if_pos hd, if_pos (by omega)]
    congr 1; omega
   ·
    rw [if_neg hd]
    by_cases he : m - i ≤ t - (j - i) ∧ t - (j - i) < m - i + i
    ·
     omega
    ·
     rw [if_neg he, if_neg (by omega)]
     omega
theorem rotJ_eq {R cur : Nat → Int} {m i : Nat} (h : RotJ R cur m i i) (hi : i ≤ m) : swapR cur (m - i) m i = R := by
 obtain ⟨h1, h2⟩ := h
 funext t
 unfold swapR
 by_cases hc : m - i ≤ t ∧ t < m - i + i
 ·
  rw [if_pos hc, h2 t (by omega) (by omega), if_pos (by omega)]
  congr 1; omega
 ·
  rw [if_neg hc]
  by_cases hd : m ≤ t ∧ t < m + i
  ·
   rw [if_pos hd, h2 t (by omega) (by omega), if_neg (by omega)]
   congr 1; omega
  ·
   rw [if_neg hd]
   exact h1 t (by omega)

def Mv (a b : Nat) (d d' : Nat → Int) : Prop := ∃ p : Nat → Nat, (∀ t, ¬ (a ≤ t ∧ t < b) → p t = t) ∧ (∀ t, a ≤ t → t < b → a ≤ p t ∧ p t < b) ∧ (∀ s t, p s = p t → s = t) ∧ ∀ t, d' t = d (p t)
theorem Mv.refl (a b : Nat) (d : Nat → Int) : Mv a b d d := ⟨id, fun _ _ => rfl, fun t h1 h2 => ⟨h1, h2⟩, fun _ _ h => h, fun _ => rfl⟩
theorem Mv.trans {a b : Nat} {d e f : Nat → Int} (h1 : Mv a b d e) (h2 : Mv a b e f) : Mv a b d f := by
 obtain ⟨p, p1, p2, p3, p4⟩ := h1
 obtain ⟨q, q1, q2, q3, q4⟩ := h2
 refine ⟨fun t => p (q t), fun t ht => by show p (q t) = t; rw [q1 t ht, p1 t ht], fun t h h' => ?_, fun s t h => q3 _ _ (p3 _ _ h), fun t => by rw [q4, p4]⟩
 have := q2 t h h'
 exact p2 _ this.1 this.2
theorem Mv.mono {a b a' b' : Nat} {d e : Nat → Int} (h : Mv a b d e) (ha : a' ≤ a) (hb : b ≤ b') : Mv a' b' d e := by
 obtain ⟨p, p1, p2, p3, p4⟩ := h
 refine ⟨p, fun t ht => p1 t (by omega), fun t h1 h2 => ?_, p3, p4⟩
 by_cases hc : a ≤ t ∧ t < b
 ·
  have := p2 t hc.1 hc.2; omega
 ·
  rw [p1 t hc]; exact ⟨h1, h2⟩
theorem Mv.out {a b : Nat} {d e : Nat → Int} (h : Mv a b d e) {t : Nat} (ht : ¬ (a ≤ t ∧ t < b)) : e t = d t := by
 obtain ⟨p, p1, _, _, p4⟩ := h
 rw [p4, p1 t ht]
theorem Mv.mem {a b : Nat} {d e : Nat → Int} (h : Mv a b d e) {t : Nat} (h1 : a ≤ t) (h2 : t < b) : ∃ s, a ≤ s ∧ s < b ∧ e t = d s := by
 obtain ⟨p, _, p2, _, p4⟩ := h
 exact ⟨p t, (p2 t h1 h2).1, (p2 t h1 h2).2, p4 t⟩
theorem Mv.swap {a b i j : Nat} (d : Nat → Int) (hi : a ≤ i ∧ i < b) (hj : a ≤ j ∧ j < b) : Mv a b d (fun t => if t = i then d j else if t = j then d i else d t) := by
 refine ⟨fun t => if t = i then j else if t = j then i else t, fun t ht => ?_, fun t h1 h2 => ?_, fun s t h => ?_, fun t => ?_⟩
 ·
  simp only []; rw [if_neg (by omega), if_neg (by omega)]
 ·
  simp only []; split
  ·
   exact hj
  ·
   split
   ·
    exact hi
   ·
    exact ⟨h1, h2⟩
 ·
  simp only [] at h
  split at h <;> split at h <;> (try split at h) <;> (try split at h) <;> omega
 ·
  simp only []
  split
  ·
   rfl
  ·
   split <;> rfl
theorem Mv.rot {a m b : Nat} (d : Nat → Int) (h1 : a ≤ m) (h2 : m ≤ b) : Mv a b d (rot d a m b) := by
 refine ⟨fun t => if a ≤ t ∧ t < b then (if t < a + (b - m) then t + (m - a) else t - (b - m)) else t, fun t ht => by simp only []; rw [if_neg ht], fun t h3 h4 => ?_, fun s t h => ?_, fun t => ?_⟩
 ·
  simp only []; rw [if_pos ⟨h3, h4⟩]; split <;> omega
 ·
  simp only [] at h
  split at h <;> split at h <;> (try split at h) <;> (try split at h) <;> omega
 ·
  unfold So.rot
  simp only []
  split
  ·
   split <;> rfl
  ·
   rfl

def Srt (R : Int → Int → Prop) (d : Nat → Int) (a b : Nat) : Prop := ∀ i j, a ≤ i → i < j → j < b → R (d i) (d j)
theorem Srt.one (R : Int → Int → Prop) (d : Nat → Int) {a b : Nat} (h : b ≤ a + 1) : Srt R d a b := fun i j h1 h2 h3 => by omega
theorem Srt.sub {R : Int → Int → Prop} {d : Nat → Int} {a b a' b' : Nat} (h : Srt R d a b) (ha : a ≤ a') (hb : b' ≤ b) : Srt R d a' b' := fun i j h1 h2 h3 => h i j (by omega) h2 (by omega)
theorem Srt.join {R : Int → Int → Prop} {d : Nat → Int} {a m b : Nat} (h1 : Srt R d a m) (h2 : Srt R d m b) (h : ∀ x y, a ≤ x → x < m → m ≤ y → y < b → R (d x) (d y)) : Srt R d a b := by
 intro i j hi hij hj
 rcases Nat.lt_or_ge j m with hm | hm
 ·
  exact h1 i j hi hij hm
 ·
  rcases Nat.lt_or_ge i m with hm' | hm'
  ·
   exact h i j hi hm' hm hj
  ·
   exact h2 i j hm' hij hj
theorem Srt.congr {R : Int → Int → Prop} {d e : Nat → Int} {a b : Nat} (h : Srt R d a b) (he : ∀ t, a ≤ t → t < b → e t = d t) : Srt R e a b := by
 intro i j hi hij hj
 rw [he i hi (by omega), he j (by omega) hj]
 exact h i j hi hij hj

def Cr (R : Int → Int → Prop) (ls : Int → Int → Bool) (x y : Int) : Prop := (ls y x = true → R y x) ∧ (ls y x = false → R x y)
structure Ord (R : Int → Int → Prop) : Prop where
 tr : ∀ {x y z}, R x y → R y z → R x z
 as : ∀ {x y}, R x y → R y x → False

structure Two (R : Int → Int → Prop) (ls : Int → Int → Bool) (d : Nat → Int) (a m b : Nat) : Prop where
 l : Srt R d a m
 r : Srt R d m b
 c : ∀ i j, a ≤ i → i < m → m ≤ j → j < b → Cr R ls (d i) (d j)

section
variable {R : Int → Int → Prop} {ls : Int → Int → Bool} {d e f g : Nat → Int} {a m b s t : Nat}
theorem Two.no (O : Ord R) (h : Two R ls d a m b) {i j i' j' : Nat} (h1 : a ≤ i) (h2 : i ≤ i') (h3 : i' < m) (h4 : m ≤ j') (h5 : j' ≤ j) (h6 : j < b) (hl : ls (d j') (d i') = false) : R (d i) (d j) := by
 have h0 := (h.c i' j' (by omega) h3 h4 (by omega)).2 hl
 have e1 : R (d i) (d j') := by
  rcases Nat.lt_or_ge i i' with hh | hh
  ·
   exact O.tr (h.l i i' h1 hh h3) h0
  ·
   obtain rfl : i = i' := by omega
   exact h0
 rcases Nat.lt_or_ge j' j with hh | hh
 ·
  exact O.tr e1 (h.r j' j h4 hh h6)
 ·
  obtain rfl : j = j' := by omega
  exact e1
theorem Two.yes (O : Ord R) (h : Two R ls d a m b) {i j i' j' : Nat} (h1 : a ≤ i') (h2 : i' ≤ i) (h3 : i < m) (h4 : m ≤ j) (h5 : j ≤ j') (h6 : j' < b) (hl : ls (d j') (d i') = true) : R (d j) (d i) := by
 have h0 := (h.c i' j' h1 (by omega) (by omega) h6).1 hl
 have e1 : R (d j') (d i) := by
  rcases Nat.lt_or_ge i' i with hh | hh
  ·
   exact O.tr h0 (h.l i' i h1 hh h3)
  ·
   obtain rfl : i = i' := by omega
   exact h0
 rcases Nat.lt_or_ge j j' with hh | hh
 ·
  exact O.tr (h.r j j' h4 hh h6) e1
 ·
  obtain rfl : j = j' := by omega
  exact e1

structure Cut (R : Int → Int → Prop) (d : Nat → Int) (a m b s t : Nat) : Prop where
 s1 : a ≤ s
 s2 : s ≤ m
 t1 : m ≤ t
 t2 : t ≤ b
 h1 : ∀ i j, a ≤ i → i < s → t ≤ j → j < b → R (d i) (d j)
 h2 : ∀ i j, s ≤ i → i < m → m ≤ j → j < t → R (d j) (d i)
theorem rot_a (C : Cut R d a m b s t) {x : Nat} (h : x < s) : rot d s m t x = d x := by unfold rot; rw [if_neg (by omega)]
theorem rot_b (C : Cut R d a m b s t) {x : Nat} (h1 : s ≤ x) (h2 : x < s + (t - m)) : rot d s m t x = d (x + (m - s)) := by
 have := C.s2; have := C.t1; unfold rot; rw [if_pos (by omega), if_pos h2]
theorem rot_c (C : Cut R d a m b s t) {x : Nat} (h1 : s + (t - m) ≤ x) (h2 : x < t) : rot d s m t x = d (x - (t - m)) := by
 have := C.s2; have := C.t1; unfold rot; rw [if_pos (by omega), if_neg (by omega)]
theorem rot_d (C : Cut R d a m b s t) {x : Nat} (h : t ≤ x) : rot d s m t x = d x := by unfold rot; rw [if_neg (by omega)]
theorem Cut.cross (O : Ord R) (h : Two R ls d a m b) (C : Cut R d a m b s t) (x y : Nat) (h1 : a ≤ x) (h2 : x < s + (t - m)) (h3 : s + (t - m) ≤ y) (h4 : y < b) : R (rot d s m t x) (rot d s m t y) := by
 obtain ⟨s1, s2, t1, t2, c1, c2⟩ := id C
 rcases Nat.lt_or_ge x s with hx | hx
 ·
  rw [rot_a C hx]
  rcases Nat.lt_or_ge y t with hy | hy
  ·
   rw [rot_c C h3 hy]; exact h.l _ _ h1 (by omega) (by omega)
  ·
   rw [rot_d C hy]; exact c1 _ _ h1 hx hy h4
 ·
  rw [rot_b C hx h2]
  rcases Nat.lt_or_ge y t with hy | hy
  ·
   rw [rot_c C h3 hy]; exact c2 _ _ (by omega) (by omega) (by omega) (by omega)
  ·
   rw [rot_d C hy]; exact h.r _ _ (by omega) (by omega) h4
theorem Cut.left (h : Two R ls d a m b) (C : Cut R d a m b s t) : Two R ls (rot d s m t) a s (s + (t - m)) := by
 obtain ⟨s1, s2, t1, t2, c1, c2⟩ := id C
 refine ⟨(h.l.sub (Nat.le_refl _) s2).congr fun x _ hx => rot_a C hx, fun i j h1 h2 h3 => ?_, fun i j h1 h2 h3 h4 => ?_⟩
 ·
  rw [rot_b C h1 (by omega), rot_b C (by omega) h3]; exact h.r _ _ (by omega) (by omega) (by omega)
 ·
  rw [rot_a C h2, rot_b C h3 h4]; exact h.c _ _ h1 (by omega) (by omega) (by omega)
theorem Cut.right (h : Two R ls d a m b) (C : Cut R d a m b s t) : Two R ls (rot d s m t) (s + (t - m)) t b := by
 obtain ⟨s1, s2, t1, t2, c1, c2⟩ := id C
 refine ⟨fun i j h1 h2 h3 => ?_, (h.r.sub t1 (Nat.le_refl _)).congr fun x hx _ => rot_d C hx, fun i j h1 h2 h3 h4 => ?_⟩
 ·
  rw [rot_c C h1 (by omega), rot_c C (by omega) h3]; exact h.l _ _ (by omega) (by omega) (by omega)
 ·
  rw [rot_c C h1 h2, rot_d C h3]; exact h.c _ _ (by omega) (by omega) (by omega) h4
theorem Cut.done (O : Ord R) (h : Two R ls d a m b) (C : Cut R d a m b s t) {k : Nat} (hk : k = s + (t - m)) (m1 : Mv a k (rot d s m t) f) (s1 : Srt R f a k) (m2 : Mv k b f g) (s2 : Srt R g k b) : Srt R g a b ∧ Mv a b d g := by
 subst hk
 obtain ⟨c1, c2, c3, c4, _, _⟩ := id C
 refine ⟨Srt.join (s1.congr fun x _ hx => m2.out (by omega)) s2 fun x y h1 h2 h3 h4 => ?_, ((Mv.rot d c2 c3).mono c1 c4).trans ((m1.mono (Nat.le_refl _) (by omega)).trans (m2.mono (by omega) (Nat.le_refl _)))⟩
 rw [m2.out (t := x) (by omega)]
 obtain ⟨y', hy1, hy2, hy3⟩ := m2.mem h3 h4
 rw [hy3, m1.out (t := y') (by omega)]
 obtain ⟨x', hx1, hx2, hx3⟩ := m1.mem h1 h2
 rw [hx3]
 exact C.cross O h x' y' hx1 hx2 hy1 hy2

theorem cut_of {mid n lo hi : Nat} (O : Ord R) (h : Two R ls d a m b) (hn : n = mid + m) (hmid : mid = (a + b) / 2) (ham : a < m) (hmb : m < b) (hlo : lo = if mid < m then n - b else a) (hhi : hi = if mid < m then mid else m)
  (h1 : lo ≤ s) (h2 : s ≤ hi) (p1 : lo < s → ls (d (n - s)) (d (s - 1)) = false) (p2 : s < hi → ls (d (n - 1 - s)) (d s) = true) : Cut R d a m b s (n - s) ∧ s + ((n - s) - m) = mid := by
 by_cases hm : mid < m
 ·
  rw [if_pos hm] at hlo hhi
  refine ⟨⟨by omega, by omega, by omega, by omega, fun i j h3 h4 h5 h6 => ?_, fun i j h3 h4 h5 h6 => ?_⟩, by omega⟩
  ·
   exact h.no O h3 (show i ≤ s - 1 by omega) (by omega) (show m ≤ n - s by omega) h5 h6 (p1 (by omega))
  ·
   exact h.yes O (show a ≤ s by omega) h3 h4 h5 (show j ≤ n - 1 - s by omega) (by omega) (p2 (by omega))
 ·
  rw [if_neg hm] at hlo hhi
  refine ⟨⟨by omega, by omega, by omega, by omega, fun i j h3 h4 h5 h6 => ?_, fun i j h3 h4 h5 h6 => ?_⟩, by omega⟩
  ·
   exact h.no O h3 (show i ≤ s - 1 by omega) (by omega) (show m ≤ n - s by omega) h5 h6 (p1 (by omega))
  ·
   exact h.yes O (show a ≤ s by omega) h3 h4 h5 (show j ≤ n - 1 - s by omega) (by omega) (p2 (by omega))
theorem merge_l (O : Ord R) (h : Two R ls d a m b) (hm : m = a + 1) (h1 : m ≤ t) (h2 : t ≤ b) (p1 : m < t → ls (d (t - 1)) (d a) = true) (p2 : t < b → ls (d t) (d a) = false) : Srt R (rot d a m t) a b ∧ Mv a b d (rot d a m t) := by
 have C : Cut R d a m b a t := ⟨Nat.le_refl _, by omega, h1, h2, fun i j h3 h4 => by omega, fun i j h3 h4 h5 h6 => h.yes O (Nat.le_refl a) h3 h4 h5 (show j ≤ t - 1 by omega) (by omega) (p1 (by omega))⟩
 refine C.done O h rfl (Mv.refl _ _ _) (C.left h).r (Mv.refl _ _ _) ?_
 have hr := C.right h
 refine Srt.join hr.l hr.r fun x y h3 h4 h5 h6 => ?_
 rw [rot_c C h3 h4, rot_d C h5]
 exact h.no O (by omega) (show x - (t - m) ≤ a by omega) (by omega) h1 h5 h6 (p2 (by omega))
theorem merge_r (O : Ord R) (h : Two R ls d a m b) (hm : b = m + 1) (h1 : a ≤ s) (h2 : s ≤ m) (p1 : a < s → ls (d m) (d (s - 1)) = false) (p2 : s < m → ls (d m) (d s) = true) : Srt R (rot d s m b) a b ∧ Mv a b d (rot d s m b) := by
 have C : Cut R d a m b s b := ⟨h1, h2, by omega, Nat.le_refl _, fun i j h3 h4 h5 h6 => by omega, fun i j h3 h4 h5 h6 => h.yes O h1 h3 h4 h5 (show j ≤ m by omega) (by omega) (p2 (by omega))⟩
 refine C.done O h rfl (Mv.refl _ _ _) ?_ (Mv.refl _ _ _) (C.right h).l
 have hl := C.left h
 refine Srt.join hl.l hl.r fun x y h3 h4 h5 h6 => ?_
 rw [rot_a C h4, rot_b C h5 h6]
 exact h.no O h3 (show x ≤ s - 1 by omega) (by omega) (Nat.le_refl _) (by omega) (by omega) (p1 (by omega))
end

theorem rot_id (d : Nat → Int) (a b : Nat) : rot d a b b = d := by
 funext t; unfold rot
 by_cases h : a ≤ t ∧ t < b
 ·
  rw [if_pos h, if_neg (by omega)]; congr 1; omega
 ·
  rw [if_neg h]
theorem rot_id' (d : Nat → Int) (a b : Nat) : rot d a a b = d := by
 funext t; unfold rot
 by_cases h : a ≤ t ∧ t < b
 ·
  rw [if_pos h, if_pos (by omega)]; congr 1; omega
 ·
  rw [if_neg h]
theorem rot_down (d : Nat → Int) {j i : Nat} (h : j + 1 ≤ i) (t : Nat) : rot d j i (i + 1) t = if t = j + 1 then rot d (j + 1) i (i + 1) j else if t = j then rot d (j + 1) i (i + 1) (j + 1) else rot d (j + 1) i (i + 1) t := by
 unfold rot
 by_cases h1 : t = j + 1
 ·
  subst h1; rw [if_pos (by omega), if_neg (by omega), if_pos rfl, if_neg (by omega)]; congr 1; omega
 ·
  by_cases h2 : t = j
  ·
   subst h2; rw [if_pos (by omega), if_pos (by omega), if_neg h1, if_pos rfl, if_pos (by omega), if_pos (by omega)]; congr 1; omega
  ·
   rw [if_neg h1, if_neg h2]
   by_cases h3 : j ≤ t ∧ t < i + 1
   ·
    rw [if_pos h3, if_neg (by omega), if_pos (by omega), if_neg (by omega)]
   ·
    rw [if_neg h3, if_neg (by omega)]
theorem rot_at (d : Nat → Int) {j i : Nat} (h : j ≤ i) : rot d j i (i + 1) j = d i := by
 unfold rot; rw [if_pos (by omega), if_pos (by omega)]; congr 1; omega
theorem rot_below (d : Nat → Int) {j i t : Nat} (h : t < j) (b : Nat) : rot d j i b t = d t := by
 unfold rot; rw [if_neg (by omega)]
theorem rot_up (d : Nat → Int) {a k : Nat} (h : a ≤ k) (t : Nat) : rot d a (a + 1) (k + 1 + 1) t = if t = k then rot d a (a + 1) (k + 1) (k + 1) else if t = k + 1 then rot d a (a + 1) (k + 1) k else rot d a (a + 1) (k + 1) t := by
 unfold rot
 by_cases h1 : t = k
 ·
  subst h1; rw [if_pos (by omega), if_pos (by omega), if_pos rfl, if_neg (by omega)]; congr 1; omega
 ·
  by_cases h2 : t = k + 1
  ·
   subst h2; rw [if_pos (by omega), if_neg (by omega), if_neg h1, if_pos rfl, if_pos (by omega), if_neg (by omega)]; congr 1; omega
  ·
   rw [if_neg h1, if_neg h2]
   by_cases h3 : a ≤ t ∧ t < k + 1
   ·
    rw [if_pos (by omega), if_pos (by omega), if_pos h3, if_pos (by omega)]
   ·
    rw [if_neg (by omega), if_neg h3]

def Inc (R : Int → Int → Prop) (ls : Int → Int → Bool) (d : Nat → Int) (n : Nat) : Prop := ∀ x y, x < y → y < n → Cr R ls (d x) (d y)
structure Part (R : Int → Int → Prop) (d cur : Nat → Int) (a b : Nat) : Prop where
 s : Srt R cur a b
 m : ∀ t, a ≤ t → t < b → ∃ s, a ≤ s ∧ s < b ∧ cur t = d s
section
variable {R : Int → Int → Prop} {ls : Int → Int → Bool} {d cur f : Nat → Int} {a m b n : Nat}
theorem Part.two (hI : Inc R ls d n) (h1 : Part R d cur a m) (h2 : Part R d cur m b) (hb : b ≤ n) : Two R ls cur a m b := by
 refine ⟨h1.s, h2.s, fun i j hi hi' hj hj' => ?_⟩
 obtain ⟨s, s1, s2, s3⟩ := h1.m i hi hi'
 obtain ⟨t, t1, t2, t3⟩ := h2.m j hj hj'
 rw [s3, t3]
 exact hI s t (by omega) (by omega)
theorem Part.join (h1 : Part R d cur a m) (h2 : Part R d cur m b) (ham : a ≤ m) (hmb : m ≤ b) (hs : Srt R f a b) (hm : Mv a b cur f) : Part R d f a b := by
 refine ⟨hs, fun t ht ht' => ?_⟩
 obtain ⟨s, s1, s2, s3⟩ := hm.mem ht ht'
 rw [s3]
 rcases Nat.lt_or_ge s m with h | h
 ·
  obtain ⟨q, q1, q2, q3⟩ := h1.m s s1 h
  exact ⟨q, q1, by omega, q3⟩
 ·
  obtain ⟨q, q1, q2, q3⟩ := h2.m s h s2
  exact ⟨q, by omega, q2, q3⟩
theorem Part.congr (h : Part R d cur a b) (he : ∀ t, a ≤ t → t < b → f t = cur t) : Part R d f a b := by
 refine ⟨h.s.congr he, fun t h1 h2 => ?_⟩
 rw [he t h1 h2]; exact h.m t h1 h2
theorem Part.one (R : Int → Int → Prop) (d : Nat → Int) (a : Nat) : Part R d d a (a + 1) := ⟨Srt.one R d (Nat.le_refl _), fun t h1 h2 => ⟨t, h1, h2, rfl⟩⟩
theorem Part.none (R : Int → Int → Prop) (d cur : Nat → Int) (h : b ≤ a) : Part R d cur a b := ⟨Srt.one R cur (by omega), fun t h1 h2 => by omega⟩

def Blocks (R : Int → Int → Prop) (d cur : Nat → Int) (n z : Nat) (lo : Nat) : Prop := ∀ q, lo ≤ q * z → Part R d cur (q * z) (min n (q * z + z))
def Upto (R : Int → Int → Prop) (d cur : Nat → Int) (n z : Nat) (hi : Nat) : Prop := ∀ q, q * z < hi → Part R d cur (q * z) (min n (q * z + z))
theorem Upto.more {z hi hi' : Nat} (h : Upto R d cur n z (hi * z)) (hm : Mv (hi * z) (min n (hi * z + z)) cur f) (hp : Part R d f (hi * z) (min n (hi * z + z))) (hh : hi' = (hi + 1) * z) : Upto R d f n z hi' := by
 intro q hq
 subst hh
 rcases Nat.lt_or_ge q hi with hlt | hge
 ·
  have h1 : (q + 1) * z ≤ hi * z := Nat.mul_le_mul_right z hlt
  rw [Nat.succ_mul] at h1
  refine (h q (by have := Nat.pos_of_ne_zero (fun e : z = 0 => by subst e; simp at hq); omega)).congr fun t _ ht => hm.out (by omega)
 ·
  rcases Nat.lt_or_ge hi q with hlt | hge'
  ·
   have h1 : (hi + 1) * z ≤ q * z := Nat.mul_le_mul_right z hlt
   omega
  ·
   obtain rfl : q = hi := by omega
   exact hp
theorem Upto.all {z hi : Nat} (h : Upto R d cur n z hi) (hn : n ≤ hi) : Blocks R d cur n z 0 := by
 intro q _
 rcases Nat.lt_or_ge (q * z) hi with h1 | h1
 ·
  exact h q h1
 ·
  exact Part.none R d cur (by omega)
theorem Blocks.rest {z lo : Nat} (h : Blocks R d cur n z (lo * z)) (hm : Mv (lo * z) (min n (lo * z + z)) cur f) : Blocks R d f n z ((lo + 1) * z) := by
 intro q hq
 rcases Nat.lt_or_ge q (lo + 1) with h1 | h1
 ·
  have h2 : q * z ≤ lo * z := Nat.mul_le_mul_right z (by omega)
  rw [Nat.succ_mul] at hq
  have : z = 0 := by omega
  subst this
  exact Part.none R d f (by omega)
 ·
  rw [Nat.succ_mul] at hq
  exact (h q (by omega)).congr fun t ht _ => hm.out (by omega)
end
end So
end
section
namespace Spl
open So
theorem surj : ∀ (n : Nat) (p : Nat → Nat), (∀ t, t < n → p t < n) → (∀ s t, s < n → t < n → p s = p t → s = t) → ∀ y, y < n → ∃ t, t < n ∧ p t = y := by
 intro n
 induction n with
 | zero => intro p _ _ y hy; omega
 | succ n ih =>
  intro p hp hi y hy
  by_cases hn : ∃ t, t < n ∧ p t = n
  ·
   obtain ⟨t0, ht0, h0⟩ := hn
   have hv : p n < n := by
    have h1 := hp n (by omega)
    have h2 : p n ≠ n := fun e => by have := hi t0 n (by omega) (by omega) (by omega); omega
    omega
   have h := ih (fun t => if t = t0 then p n else p t) (fun t ht => by
    show (if t = t0 then p n else p t) < n
    split
    ·
     exact hv
    ·
     rename_i hne
     have h1 := hp t (by omega)
     have h2 : p t ≠ n := fun e => hne (hi t t0 (by omega) (by omega) (by omega))
     omega) (fun s t hs ht e => by
    try simp only [] at e
    split at e <;> split at e
    ·
     omega
    ·
     have := hi n t (by omega) (by omega) e; omega
    ·
     have := hi s n (by omega) (by omega) e; omega
    ·
     exact hi s t (by omega) (by omega) e)
   by_cases hyn : y = n
   ·
    exact ⟨t0, by omega, by omega⟩
   ·
    obtain ⟨t, ht, e⟩ := h y (by omega)
    try simp only [] at e
    split at e
    ·
     exact ⟨n, by omega, e⟩
    ·
     exact ⟨t, by omega, e⟩
  ·
   have h := ih p (fun t ht => by
    have h1 := hp t (by omega)
    have h2 : p t ≠ n := fun e => hn ⟨t, ht, e⟩
    omega) (fun s t hs ht e => hi s t (by omega) (by omega) e)
   have hpn : p n = n := by
    have h1 := hp n (by omega)
    rcases Nat.lt_or_ge (p n) n with h2 | h2
    ·
     obtain ⟨t, ht, e⟩ := h (p n) h2
     have := hi t n (by omega) (by omega) e; omega
    ·
     omega
   by_cases hyn : y = n
   ·
    exact ⟨n, by omega, by omega⟩
   ·
    obtain ⟨t, ht, e⟩ := h y (by omega)
    exact ⟨t, by omega, e⟩
def sumTo (f : Nat → Int) : Nat → Int
 | 0 => 0
 | n + 1 => sumTo f n + f n
theorem sumTo_congr {f g : Nat → Int} {n : Nat} (h : ∀ t, t < n → f t = g t) : sumTo f n = sumTo g n := by
 induction n with
 | zero => rfl
 | succ n ih => unfold sumTo; rw [ih fun t ht => h t (by omega), h n (by omega)]
theorem sumTo_upd (f : Nat → Int) {n k : Nat} (hk : k < n) (v : Int) : sumTo (fun t => if t = k then v else f t) n = sumTo f n - f k + v := by
 induction n with
 | zero => omega
 | succ n ih =>
  unfold sumTo
  by_cases e : k = n
  ·
   subst e
   rw [if_pos rfl, sumTo_congr (g := f) (fun t ht => by simp [show t ≠ k by omega])]
   omega
  ·
   rw [ih (by omega), if_neg (by omega)]; omega
theorem sumTo_perm : ∀ (n : Nat) (p : Nat → Nat) (f : Nat → Int), (∀ t, t < n → p t < n) → (∀ s t, s < n → t < n → p s = p t → s = t) → sumTo (fun t => f (p t)) n = sumTo f n := by
 intro n
 induction n with
 | zero => intros; rfl
 | succ n ih =>
  intro p f hp hi
  obtain ⟨t0, ht0, h0⟩ := surj (n + 1) p hp hi n (by omega)
  by_cases e : t0 = n
  ·
   subst e
   have h := ih p f (fun t ht => by
    have h1 := hp t (by omega)
    have h2 : p t ≠ t0 := fun e => by have := hi t t0 (by omega) (by omega) (by omega); omega
    omega) (fun s t hs ht e => hi s t (by omega) (by omega) e)
   unfold sumTo
   rw [h, h0]
  ·
   have hv : p n < n := by
    have h1 := hp n (by omega)
    have h2 : p n ≠ n := fun e' => e (hi t0 n (by omega) (by omega) (by omega))
    omega
   have h := ih (fun t => if t = t0 then p n else p t) f (fun t ht => by
    show (if t = t0 then p n else p t) < n
    split
    ·
     exact hv
    ·
     rename_i hne
     have h1 := hp t (by omega)
     have h2 : p t ≠ n := fun e => hne (hi t t0 (by omega) (by omega) (by omega))
     omega) (fun s t hs ht e => by
    try simp only [] at e
    split at e <;> split at e
    ·
     omega
    ·
     have := hi n t (by omega) (by omega) e; omega
    ·
     have := hi s n (by omega) (by omega) e; omega
    ·
     exact hi s t (by omega) (by omega) e)
   have h1 : sumTo (fun t => f (if t = t0 then p n else p t)) n = sumTo (fun t => f (p t)) n - f (p t0) + f (p n) := by
    rw [← sumTo_upd (fun t => f (p t)) (show t0 < n by omega) (f (p n))]
    exact sumTo_congr fun t _ => by split <;> rfl
   unfold sumTo
   show sumTo (fun t => f (p t)) n + f (p n) = sumTo f n + f n
   have h2 : sumTo (fun t => f (if t = t0 then p n else p t)) n = sumTo f n := h
   rw [h1, h0] at h2
   omega

variable {key : Nat → Int} {n : Nat} {p : Nat → Nat}
def Bef (key : Nat → Int) (i k : Nat) : Prop := key k < key i ∨ key i = key k ∧ i < k
theorem bef_asym {i k : Nat} (h : Bef key i k) (h' : Bef key k i) : False := by unfold Bef at *; omega
theorem bef_total {i k : Nat} (h : i ≠ k) : Bef key i k ∨ Bef key k i := by unfold Bef; omega
structure Ordr (key : Nat → Int) (n : Nat) (p : Nat → Nat) : Prop where
 lt : ∀ t, t < n → p t < n
 inj : ∀ s t, s < n → t < n → p s = p t → s = t
 srt : ∀ s t, s < t → t < n → Bef key (p s) (p t)
def Fst (p : Nat → Nat) (k i : Nat) : Prop := ∃ t, t < k ∧ p t = i
instance (p : Nat → Nat) (k i : Nat) : Decidable (Fst p k i) := inferInstanceAs (Decidable (∃ t, t < k ∧ p t = i))
theorem fst_down (O : Ordr key n p) {k i j : Nat} (hk : k ≤ n) (hi : i < n) (hb : Bef key i j) (hj : Fst p k j) : Fst p k i := by
 obtain ⟨t, ht, rfl⟩ := hj
 obtain ⟨s, hs, rfl⟩ := surj n p O.lt O.inj i hi
 rcases Nat.lt_trichotomy s t with h | h | h
 ·
  exact ⟨s, by omega, rfl⟩
 ·
  subst h; exact ⟨s, ht, rfl⟩
 ·
  exact (bef_asym hb (O.srt t s h hs)).elim
theorem fst_succ (p : Nat → Nat) (k i : Nat) : Fst p (k + 1) i ↔ Fst p k i ∨ p k = i := by
 constructor
 ·
  intro ⟨t, ht, e⟩
  by_cases h : t = k
  ·
   subst h; exact Or.inr e
  ·
   exact Or.inl ⟨t, by omega, e⟩
 ·
  rintro (⟨t, ht, e⟩ | e)
  ·
   exact ⟨t, by omega, e⟩
  ·
   exact ⟨k, by omega, e⟩
theorem fst_new (O : Ordr key n p) {k : Nat} (hk : k < n) : ¬ Fst p k (p k) := fun ⟨t, ht, e⟩ => by have := O.inj t k (by omega) hk e; omega
def bump (p : Nat → Nat) (l : List Int) : Nat → List Int
 | 0 => l
 | k + 1 => (bump p l k).set (p k) ((bump p l k).getD (p k) 0 + 1)
theorem bump_len (p : Nat → Nat) (l : List Int) (k : Nat) : (bump p l k).length = l.length := by
 induction k with
 | zero => rfl
 | succ k ih => unfold bump; rw [List.length_set]; exact ih
theorem bump_get (O : Ordr key n p) (l : List Int) {k : Nat} (hl : l.length = n) (hk : k ≤ n) (i : Nat) : (bump p l k).getD i 0 = l.getD i 0 + if Fst p k i then 1 else 0 := by
 induction k with
 | zero => rw [if_neg (by rintro ⟨t, ht, _⟩; omega)]; simp [bump]
 | succ k ih =>
  have ih := ih (by omega)
  have hb := bump_len p l k
  unfold bump
  by_cases e : p k = i
  ·
   subst e
   rw [if_pos ((fst_succ _ _ _).2 (Or.inr rfl))]
   have hlt : p k < (bump p l k).length := by rw [hb, hl]; exact O.lt k (by omega)
   have hn := fst_new O (show k < n by omega)
   rw [if_neg hn] at ih
   simp only [List.getD, List.getElem?_set_self hlt, Option.getD_some] at *
   omega
  ·
   have h2 : Fst p (k + 1) i ↔ Fst p k i := by rw [fst_succ]; simp [e]
   have h3 : ((bump p l k).set (p k) ((bump p l k).getD (p k) 0 + 1)).getD i 0 = (bump p l k).getD i 0 := by
    simp only [List.getD, List.getElem?_set_ne e]
   rw [h3, ih]
   by_cases hf : Fst p k i
   ·
    rw [if_pos hf, if_pos (h2.2 hf)]
   ·
    rw [if_neg hf, if_neg (fun h => hf (h2.1 h))]
theorem left_mul (T W : Int) (w : Nat → Int) (n : Nat) (hW : sumTo w n = W) : (T - sumTo (fun t => T * w t / W) n) * W = sumTo (fun t => T * w t % W) n := by
 have h : ∀ k, T * sumTo w k = sumTo (fun t => T * w t / W) k * W + sumTo (fun t => T * w t % W) k := by
  intro k
  induction k with
  | zero => simp [sumTo]
  | succ k ih =>
   unfold sumTo
   rw [Int.mul_add, ih, Int.add_mul]
   have := Int.mul_ediv_add_emod (T * w k) W
   rw [Int.mul_comm] at this
   omega
 have := h n
 rw [hW] at this
 rw [Int.sub_mul]; omega
theorem sum_bound {f : Nat → Int} {n : Nat} {b : Int} (h : ∀ t, t < n → 0 ≤ f t ∧ f t ≤ b) : 0 ≤ sumTo f n ∧ sumTo f n ≤ n * b := by
 induction n with
 | zero => simp [sumTo]
 | succ n ih =>
  have h1 := ih fun t ht => h t (by omega)
  have h2 := h n (by omega)
  unfold sumTo
  have : ((n + 1 : Nat) : Int) * b = n * b + b := by rw [Int.natCast_add, Int.add_mul]; simp
  omega
theorem left_range {T W : Int} {w : Nat → Int} {n : Nat} (hW : sumTo w n = W) (h0 : 0 < W) (hn : 0 < n) : 0 ≤ T - sumTo (fun t => T * w t / W) n ∧ T - sumTo (fun t => T * w t / W) n < n := by
 have h := left_mul T W w n hW
 have hb := sum_bound (f := fun t => T * w t % W) (n := n) (b := W - 1) fun t _ => ⟨Int.emod_nonneg _ (by omega), by have := Int.emod_lt_of_pos (T * w t) h0; omega⟩
 generalize T - sumTo (fun t => T * w t / W) n = q at *
 rw [← h] at hb
 constructor
 ·
  rcases Int.lt_or_le q 0 with h1 | h1
  ·
   have : q * W ≤ (-1) * W := Int.mul_le_mul_of_nonneg_right (by omega) (by omega)
   omega
  ·
   exact h1
 ·
  rcases Int.lt_or_le q n with h1 | h1
  ·
   exact h1
  ·
   have h2 : (n : Int) * W ≤ q * W := Int.mul_le_mul_of_nonneg_right h1 (by omega)
   have h3 : (n : Int) * (W - 1) = n * W - n := by rw [Int.mul_sub]; simp
   omega
theorem fst_pos {T W : Int} {w : Nat → Int} {n : Nat} (hW : sumTo w n = W) (h0 : 0 < W) (O : Ordr (fun t => T * w t % W) n p) {k i : Nat} (hk : (k : Int) = T - sumTo (fun t => T * w t / W) n) (hkn : k ≤ n) (hf : Fst p k i) : 0 < T * w i % W := by
 obtain ⟨t, ht, rfl⟩ := hf
 have hnn : ∀ x, 0 ≤ T * w x % W := fun x => Int.emod_nonneg _ (by omega)
 rcases Int.lt_or_le 0 (T * w (p t) % W) with h1 | h1
 ·
  exact h1
 ·
  exfalso
  have hz : ∀ s, t ≤ s → s < n → T * w (p s) % W = 0 := by
   intro s hs hsn
   have := hnn (p s)
   have := hnn (p t)
   rcases Nat.lt_or_ge t s with h2 | h2
   ·
    have := O.srt t s h2 hsn
    unfold Bef at this
    simp only [] at this
    omega
   ·
    obtain rfl : s = t := by omega
    omega
  have h2 := left_mul T W w n hW
  rw [← hk, ← sumTo_perm n p (fun t => T * w t % W) O.lt O.inj] at h2
  have h3 : ∀ m, m ≤ n → t ≤ m → sumTo (fun s => T * w (p s) % W) m = sumTo (fun s => T * w (p s) % W) t := by
   intro m
   induction m with
   | zero =>
    intro _ h
    obtain rfl : t = 0 := by omega
    rfl
   | succ m ih =>
    intro hm htm
    rcases Nat.lt_or_ge t (m + 1) with h4 | h4
    ·
     show sumTo (fun s => T * w (p s) % W) m + T * w (p m) % W = _
     rw [ih (by omega) (by omega), hz m (by omega) (by omega)]; omega
    ·
     obtain rfl : t = m + 1 := by omega
     rfl
  rw [h3 n (Nat.le_refl _) (by omega)] at h2
  have hb := sum_bound (f := fun s => T * w (p s) % W) (n := t) (b := W - 1) fun s _ => ⟨hnn _, by have := Int.emod_lt_of_pos (T * w (p s)) h0; omega⟩
  rw [← h2] at hb
  have h5 : ((t : Int) + 1) * W ≤ k * W := Int.mul_le_mul_of_nonneg_right (by omega) (by omega)
  have h6 : (t : Int) * (W - 1) = t * W - t := by rw [Int.mul_sub]; simp
  have h7 : ((t : Int) + 1) * W = t * W + W := by rw [Int.add_mul]; simp
  omega
theorem near {T W : Int} {w : Nat → Int} {n : Nat} (hW : sumTo w n = W) (h0 : 0 < W) (O : Ordr (fun t => T * w t % W) n p) {k i : Nat} (hk : (k : Int) = T - sumTo (fun t => T * w t / W) n) (hkn : k ≤ n) :
  -W < (T * w i / W + if Fst p k i then 1 else 0) * W - T * w i ∧ (T * w i / W + if Fst p k i then 1 else 0) * W - T * w i < W := by
 have h1 := Int.mul_ediv_add_emod (T * w i) W
 rw [Int.mul_comm] at h1
 have h2 := Int.emod_lt_of_pos (T * w i) h0
 have h3 := Int.emod_nonneg (T * w i) (show W ≠ 0 by omega)
 rw [Int.add_mul]
 by_cases hf : Fst p k i
 ·
  have h4 := fst_pos hW h0 O hk hkn hf
  rw [if_pos hf]; omega
 ·
  rw [if_neg hf]; omega
theorem mono {T W : Int} {w : Nat → Int} {n : Nat} (h0 : 0 < W) (hT : 0 ≤ T) (hW : sumTo w n = W) (O : Ordr (fun t => T * w t % W) n p) {k i j : Nat} (hk : (k : Int) = T - sumTo (fun t => T * w t / W) n) (hkn : k ≤ n) (hi : i < n) (hij : w j < w i) :
  (T * w j / W + if Fst p k j then 1 else 0) ≤ (T * w i / W + if Fst p k i then 1 else 0) := by
 have hle : T * w j ≤ T * w i := Int.mul_le_mul_of_nonneg_left (by omega) hT
 have hd := Int.ediv_le_ediv h0 hle
 rcases Int.lt_or_le (T * w j / W) (T * w i / W) with h | h
 ·
  split <;> split <;> omega
 ·
  have he : T * w j / W = T * w i / W := by omega
  by_cases hf : Fst p k j
  ·
   have hp := fst_pos hW h0 O hk hkn hf
   have hT' : 0 < T := by
    rcases Int.lt_or_le 0 T with h1 | h1
    ·
     exact h1
    ·
     have : T = 0 := by omega
     subst this
     simp at hp
   have hlt : T * w j < T * w i := Int.mul_lt_mul_of_pos_left hij hT'
   have h1 := Int.mul_ediv_add_emod (T * w i) W
   have h2 := Int.mul_ediv_add_emod (T * w j) W
   rw [he] at h2
   have hb : Bef (fun t => T * w t % W) i j := Or.inl (by show T * w j % W < T * w i % W; omega)
   rw [if_pos hf, if_pos (fst_down O hkn hi hb hf)]; omega
  ·
   rw [if_neg hf]; split <;> omega
theorem next_is (O : Ordr key n p) {k b : Nat} (hk : k < n) (hb : b < n) (hnf : ¬ Fst p k b) (hbest : ∀ i, i < n → ¬ Fst p k i → i ≠ b → Bef key b i) : b = p k := by
 by_cases h : p k = b
 ·
  exact h.symm
 ·
  have h1 := hbest (p k) (O.lt k hk) (fst_new O hk) h
  obtain ⟨s, hs, rfl⟩ := surj n p O.lt O.inj b hb
  have hsk : k < s := by
   rcases Nat.lt_trichotomy s k with h2 | h2 | h2
   ·
    exact (hnf ⟨s, h2, rfl⟩).elim
   ·
    subst h2; exact (h rfl).elim
   ·
    exact h2
  exact (bef_asym h1 (O.srt k s hsk hs)).elim
end Spl
end
end Go.Proofs.YtfllkaeaanahmaaGreat
