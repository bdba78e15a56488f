/- Joined texts: ChkP, ChkQ, ChkR, ChkE. Conditions: as each part says. -/
import Derived.Test.YtfllkaeaanahmaaGreatWirePlain
namespace Go.Proofs.YtfllkaeaanahmaaGreat
set_option linter.unusedVariables false
set_option linter.unusedSimpArgs false
section
namespace Chk
structure Un where
 r : Int
 g : Int
 u : Int
deriving DecidableEq
structure Rf where
 t : Int
 n : Int
deriving DecidableEq
structure Ck where
 id : Int
 dg : List UInt8
 pr : Int
 at_ : Un
 lost : Bool
 refs : List Rf
deriving DecidableEq
abbrev most : Int := 2147483647
def lb : List Int → Int → Nat
 | [], _ => 0
 | k :: l, x => if k < x then lb l x + 1 else 0
theorem lb_le : ∀ (l : List Int) (x : Int), lb l x ≤ l.length
 | [], _ => Nat.le_refl _
 | k :: l, x => by unfold lb; by_cases h : k < x <;> simp [h, lb_le l x]
def Up (l : List Int) : Prop := l.Pairwise (· < ·)
theorem Up.lt {l : List Int} (h : Up l) {i j : Nat} {a b : Int} (hij : i < j) (hi : l[i]? = some a) (hj : l[j]? = some b) : a < b := by
 obtain ⟨hi', rfl⟩ := List.getElem?_eq_some_iff.1 hi
 obtain ⟨hj', rfl⟩ := List.getElem?_eq_some_iff.1 hj
 exact List.pairwise_iff_getElem.1 h i j hi' hj' hij
theorem lb_spec : ∀ {l : List Int} {x : Int} {k : Nat}, (∀ j a, j < k → l[j]? = some a → a < x) → k ≤ l.length → (∀ a, l[k]? = some a → ¬ a < x) → lb l x = k
 | [], x, k, _, h2, _ => by simp at h2; subst h2; rfl
 | b :: l, x, 0, _, _, h3 => by unfold lb; rw [if_neg (h3 b rfl)]
 | b :: l, x, k + 1, h1, h2, h3 => by
  unfold lb
  rw [if_pos (h1 0 b (by omega) rfl)]
  congr 1
  exact lb_spec (fun j a hj ha => h1 (j + 1) a (by omega) (by simpa using ha)) (by simpa using h2) (fun a ha => h3 a (by simpa using ha))
theorem lb_below : ∀ (l : List Int) (x : Int) (j : Nat) (a : Int), j < lb l x → l[j]? = some a → a < x
 | [], _, j, a, h, _ => by simp [lb] at h
 | b :: l, x, j, a, h, ha => by
  unfold lb at h
  by_cases hb : b < x
  ·
   rw [if_pos hb] at h
   cases j with
   | zero => simp at ha; omega
   | succ j => exact lb_below l x j a (by omega) (by simpa using ha)
  ·
   rw [if_neg hb] at h; omega
theorem lb_above : ∀ (l : List Int) (x : Int) (a : Int), l[lb l x]? = some a → ¬ a < x
 | [], _, a, h => by simp at h
 | b :: l, x, a, h => by
  unfold lb at h
  by_cases hb : b < x
  ·
   rw [if_pos hb] at h
   exact lb_above l x a (by simpa using h)
  ·
   rw [if_neg hb] at h; simp at h; omega
def pos (l : List Int) (x : Int) : Option Nat := l.findIdx? (fun k => decide (k = x))
theorem pos_lb : ∀ {l : List Int}, Up l → ∀ x, pos l x = if l[lb l x]? = some x then some (lb l x) else none
 | [], _, x => by simp [pos, lb]
 | b :: l, h, x => by
  have h2 := List.pairwise_cons.1 h
  have ih := pos_lb h2.2 x
  unfold pos at *
  unfold lb
  rw [List.findIdx?_cons]
  by_cases hb : b < x
  ·
   rw [if_neg (by simpa using (show b ≠ x by omega)), ih, if_pos hb]
   simp only [List.getElem?_cons_succ]
   by_cases hf : l[lb l x]? = some x
   ·
    rw [if_pos hf, if_pos hf]; rfl
   ·
    rw [if_neg hf, if_neg hf]; rfl
  ·
   by_cases he : b = x
   ·
    subst he; rw [if_neg hb]; simp
   ·
    rw [if_neg (by simpa using he), ih, if_neg hb]
    have : lb l x = 0 := lb_spec (fun j a hj _ => by omega) (Nat.zero_le _) (fun a ha => by have := h2.1 a (List.mem_of_getElem? ha); omega)
    rw [this]
    simp only [List.getElem?_cons_zero]
    have h3 : ¬ l[0]? = some x := fun e => by have := h2.1 x (List.mem_of_getElem? e); omega
    have h4 : ¬ (some b = some x) := fun e => he (Option.some.inj e)
    rw [if_neg h3, if_neg h4]; rfl
theorem pos_some {l : List Int} {x : Int} {k : Nat} (h : pos l x = some k) : l[k]? = some x := by
 unfold pos at h
 rw [List.findIdx?_eq_some_iff_getElem] at h
 obtain ⟨h1, h2, _⟩ := h
 rw [List.getElem?_eq_getElem h1]; simpa using h2
theorem pos_none {l : List Int} {x : Int} (h : pos l x = none) : ∀ a ∈ l, a ≠ x := by
 unfold pos at h
 rw [List.findIdx?_eq_none_iff] at h
 intro a ha; simpa using h a ha
def gapF : List Int → Nat → Nat
 | [], k => k
 | a :: l, k => if a = (k : Int) + 1 then gapF l (k + 1) else k
def gap (l : List Int) : Nat := gapF l 0
theorem gapF_spec : ∀ {l : List Int} {b k : Nat}, (∀ j a, j < k → l[j]? = some a → a = ((b + j : Nat) : Int) + 1) → k ≤ l.length → (∀ a, l[k]? = some a → a ≠ ((b + k : Nat) : Int) + 1) → gapF l b = b + k
 | [], b, k, _, h2, _ => by simp at h2; subst h2; rfl
 | a :: l, b, 0, _, _, h3 => by unfold gapF; rw [if_neg (by have := h3 a rfl; simpa using this)]; rfl
 | a :: l, b, k + 1, h1, h2, h3 => by
  unfold gapF
  rw [if_pos (by have := h1 0 a (by omega) rfl; simpa using this)]
  rw [gapF_spec (k := k) (fun j x hj hx => by rw [h1 (j + 1) x (by omega) (by simpa using hx)]; congr 2; omega) (by simpa using h2) (fun x hx => by have := h3 x (by simpa using hx); rw [show b + 1 + k = b + (k + 1) by omega]; exact this)]
  omega
theorem gap_spec {l : List Int} {k : Nat} (h1 : ∀ j a, j < k → l[j]? = some a → a = (j : Int) + 1) (h2 : k ≤ l.length) (h3 : ∀ a, l[k]? = some a → a ≠ (k : Int) + 1) : gap l = k := by
 have := gapF_spec (b := 0) (fun j a hj ha => by rw [h1 j a hj ha]; simp) h2 (fun a ha => by have := h3 a ha; simpa using this)
 simpa [gap] using this
theorem gapF_le : ∀ (l : List Int) (b : Nat), gapF l b ≤ b + l.length
 | [], b => by simp [gapF]
 | a :: l, b => by
  unfold gapF
  by_cases h : a = (b : Int) + 1
  ·
   rw [if_pos h]; have := gapF_le l (b + 1); rw [List.length_cons]; omega
  ·
   rw [if_neg h]; omega
theorem gap_le (l : List Int) : gap l ≤ l.length := by have := gapF_le l 0; unfold gap; omega
theorem gapF_ge : ∀ (l : List Int) (b : Nat), b ≤ gapF l b
 | [], b => Nat.le_refl _
 | a :: l, b => by
  unfold gapF
  by_cases h : a = (b : Int) + 1
  ·
   rw [if_pos h]; have := gapF_ge l (b + 1); omega
  ·
   rw [if_neg h]; omega
theorem gapF_below : ∀ (l : List Int) (b j : Nat) (a : Int), b + j < gapF l b → l[j]? = some a → a = ((b + j : Nat) : Int) + 1
 | [], b, j, a, h, ha => by simp at ha
 | c :: l, b, j, a, h, ha => by
  unfold gapF at h
  by_cases hc : c = (b : Int) + 1
  ·
   rw [if_pos hc] at h
   cases j with
   | zero => simp at ha; omega
   | succ j =>
    have := gapF_below l (b + 1) j a (by omega) (by simpa using ha)
    rw [this]; congr 2; omega
  ·
   rw [if_neg hc] at h; omega
theorem gapF_above : ∀ (l : List Int) (b : Nat) (a : Int), l[gapF l b - b]? = some a → a ≠ (gapF l b : Int) + 1
 | [], b, a, ha => by simp at ha
 | c :: l, b, a, ha => by
  unfold gapF at ha ⊢
  by_cases hc : c = (b : Int) + 1
  ·
   rw [if_pos hc] at ha ⊢
   have h1 := gapF_ge l (b + 1)
   rw [show gapF l (b + 1) - b = (gapF l (b + 1) - (b + 1)) + 1 by omega] at ha
   exact gapF_above l (b + 1) a (by simpa using ha)
  ·
   rw [if_neg hc] at ha ⊢
   simp at ha; omega
theorem gap_below (l : List Int) (j : Nat) (a : Int) (h : j < gap l) (ha : l[j]? = some a) : a = (j : Int) + 1 := by
 have := gapF_below l 0 j a (by unfold gap at h; omega) ha
 simpa using this
theorem gap_above (l : List Int) (a : Int) (ha : l[gap l]? = some a) : a ≠ (gap l : Int) + 1 := gapF_above l 0 a (by simpa [gap] using ha)
theorem Up.pos_ge : ∀ {l : List Int} {b : Int}, Up l → (∀ a ∈ l, b + 1 ≤ a) → ∀ (j : Nat) (a : Int), l[j]? = some a → b + (j : Int) + 1 ≤ a
 | [], _, _, _, j, a, h => by simp at h
 | c :: l, b, hu, hp, 0, a, h => by simp at h; have := hp c (List.mem_cons_self ..); omega
 | c :: l, b, hu, hp, j + 1, a, h => by
  have h2 := List.pairwise_cons.1 hu
  have hc := hp c (List.mem_cons_self ..)
  have := Up.pos_ge (b := b + 1) h2.2 (fun x hx => by have := h2.1 x hx; omega) j a (by simpa using h)
  push_cast; omega
theorem gap_search {l : List Int} (hu : Up l) (hp : ∀ a ∈ l, 1 ≤ a) {k : Nat} (h1 : ∀ a, 0 < k → l[k - 1]? = some a → ¬ ((k - 1 : Nat) : Int) + 1 < a) (h2 : k ≤ l.length) (h3 : ∀ a, l[k]? = some a → (k : Int) + 1 < a) : gap l = k := by
 have hg := hu.pos_ge (b := 0) (by simpa using hp)
 refine gap_spec (fun j a hj ha => ?_) h2 (fun a ha => by have := h3 a ha; omega)
 have hkl : k - 1 < l.length := by omega
 have h4 := h1 l[k - 1] (by omega) (List.getElem?_eq_getElem hkl)
 have h5 := hg j a ha
 by_cases hjk : j = k - 1
 ·
  subst hjk
  rw [List.getElem?_eq_getElem hkl] at ha
  have := Option.some.inj ha
  omega
 ·
  -- the keys between grow by at least one each
  have h6 : ∀ d, j + d ≤ k - 1 → ∀ x, l[j + d]? = some x → a + (d : Int) ≤ x := by
   intro d
   induction d with
   | zero => intro _ x hx; rw [Nat.add_zero, ha] at hx; have := Option.some.inj hx; omega
   | succ d ih =>
    intro hd x hx
    have hlt : j + d < l.length := by omega
    have e1 := ih (by omega) l[j + d] (List.getElem?_eq_getElem hlt)
    have e2 := hu.lt (show j + d < j + (d + 1) by omega) (List.getElem?_eq_getElem hlt) hx
    push_cast; omega
  have h7 := h6 (k - 1 - j) (by omega) l[k - 1] (by rw [show j + (k - 1 - j) = k - 1 by omega]; exact List.getElem?_eq_getElem hkl)
  omega
def keys (l : List Rf) : List Int := l.map (·.t)
def held (l : List Rf) (t : Int) : Int := ((l.find? (fun r => decide (r.t = t))).map (·.n)).getD 0
def total : List Rf → Int
 | [] => 0
 | r :: l => r.n + total l
def withR (l : List Rf) (t n : Int) : List Rf := l.takeWhile (fun r => decide (r.t < t)) ++ ((if 0 < n then [⟨t, n⟩] else []) ++ l.filter (fun r => decide (t < r.t)))
theorem lb_take (l : List Rf) (t : Int) : l.takeWhile (fun r => decide (r.t < t)) = l.take (lb (keys l) t) := by
 induction l with
 | nil => rfl
 | cons r l ih =>
  unfold keys at *
  rw [List.map_cons, List.takeWhile_cons]
  unfold lb
  by_cases h : r.t < t
  ·
   rw [if_pos (by simpa using h), if_pos h, List.take_succ_cons, ih]
  ·
   rw [if_neg (by simpa using h), if_neg h]; rfl
theorem up_filter : ∀ {l : List Rf} {t : Int}, Up (keys l) → l.filter (fun r => decide (t < r.t)) = l.drop (if (keys l)[lb (keys l) t]? = some t then lb (keys l) t + 1 else lb (keys l) t)
 | [], t, _ => by simp
 | r :: l, t, h => by
  have h2 := List.pairwise_cons.1 h
  have ih := up_filter (t := t) h2.2
  unfold keys at *
  rw [List.map_cons]
  unfold lb
  rw [List.filter_cons]
  by_cases h3 : r.t < t
  ·
   rw [if_neg (by simp; omega), if_pos h3, ih]
   simp only [List.getElem?_cons_succ]
   by_cases h4 : (l.map (·.t))[lb (l.map (·.t)) t]? = some t
   ·
    rw [if_pos h4, if_pos h4]; rfl
   ·
    rw [if_neg h4, if_neg h4]; rfl
  ·
   rw [if_neg h3]
   simp only [List.getElem?_cons_zero]
   have hall : ∀ x ∈ l, r.t < x.t := fun x hx => h2.1 x.t (List.mem_map_of_mem hx)
   have hfl : l.filter (fun r => decide (t < r.t)) = l := List.filter_eq_self.2 fun x hx => by have := hall x hx; simp; omega
   by_cases h4 : r.t = t
   ·
    rw [if_neg (by simp; omega), if_pos (by rw [h4])]; simpa using hfl
   ·
    rw [if_pos (by simp; omega), if_neg (fun e => h4 (Option.some.inj e)), hfl]; rfl
theorem withR_new {l : List Rf} {t n : Int} (hu : Up (keys l)) (hn : 0 < n) (h : ¬ (keys l)[lb (keys l) t]? = some t) : withR l t n = l.take (lb (keys l) t) ++ ⟨t, n⟩ :: l.drop (lb (keys l) t) := by
 unfold withR; rw [lb_take, up_filter hu, if_neg h, if_pos hn]; rfl
theorem withR_none {l : List Rf} {t : Int} (hu : Up (keys l)) (h : (keys l)[lb (keys l) t]? = some t) : withR l t 0 = l.take (lb (keys l) t) ++ l.drop (lb (keys l) t + 1) := by
 unfold withR; rw [lb_take, up_filter hu, if_pos h, if_neg (by omega)]; rfl
theorem withR_set {l : List Rf} {t n : Int} (hu : Up (keys l)) (hn : 0 < n) (h : (keys l)[lb (keys l) t]? = some t) : withR l t n = l.set (lb (keys l) t) ⟨t, n⟩ := by
 unfold withR; rw [lb_take, up_filter hu, if_pos h, if_pos hn]
 have hlt : lb (keys l) t < l.length := by have := (List.getElem?_eq_some_iff.1 h).1; simpa [keys] using this
 rw [List.set_eq_take_append_cons_drop, if_pos hlt]; rfl
theorem held_lb {l : List Rf} {t : Int} (hu : Up (keys l)) : held l t = if (keys l)[lb (keys l) t]? = some t then (l.getD (lb (keys l) t) ⟨0, 0⟩).n else 0 := by
 unfold held
 induction l with
 | nil => simp [keys]
 | cons r l ih =>
  have h2 := List.pairwise_cons.1 (show Up (r.t :: keys l) from hu)
  have ih := ih h2.2
  rw [List.find?_cons]
  show _ = if (r.t :: keys l)[lb (r.t :: keys l) t]? = some t then ((r :: l).getD (lb (r.t :: keys l) t) ⟨0, 0⟩).n else 0
  unfold lb
  by_cases h3 : r.t < t
  ·
   rw [if_pos h3, show decide (r.t = t) = false by simp; omega]
   simp only [List.getElem?_cons_succ, List.getD_cons_succ]
   exact ih
  ·
   rw [if_neg h3]
   by_cases h4 : r.t = t
   ·
    simp [h4]
   ·
    rw [show decide (r.t = t) = false by simpa using h4]
    simp only [List.getElem?_cons_zero]
    rw [if_neg (fun e => h4 (Option.some.inj e))]
    have : l.find? (fun r => decide (r.t = t)) = none := by
     rw [List.find?_eq_none]; intro x hx; have := h2.1 x.t (List.mem_map_of_mem hx); simp; omega
    simp [this]
end Chk
end
section
namespace Chk
abbrev ids (l : List Ck) : List Int := l.map (·.id)
def inR (n m : Int) : Prop := 0 ≤ n ∧ n < m
instance (n m : Int) : Decidable (inR n m) := by unfold inR; infer_instance
def valid (u : Un) : Prop := inR u.r 4096 ∧ inR u.g 64 ∧ inR u.u 32
instance (u : Un) : Decidable (valid u) := by unfold valid; infer_instance
def tenant (n : Int) : Prop := inR n 16
instance (n : Int) : Decidable (tenant n) := by unfold tenant; infer_instance
def unitAt (l : List Ck) (u : Un) : Option Int := (l.find? (fun c => !c.lost && decide (c.at_ = u))).map (·.id)
def z : Un := ⟨0, 0, 0⟩
def add (l : List Ck) (dg : List UInt8) (pr : Int) (u : Un) (t : Int) : List Ck × Int × Int :=
 if ¬ (valid u ∧ tenant t) then (l, 0, 1) else if (unitAt l u).isSome then (l, 0, 20) else if 65536 ≤ l.length then (l, 0, 2)
 else (l.take (gap (ids l)) ++ ⟨(gap (ids l) : Int) + 1, dg, pr, u, false, [⟨t, 1⟩]⟩ :: l.drop (gap (ids l)), (gap (ids l) : Int) + 1, 0)
def nth (l : List Ck) (k : Nat) : Ck := l.getD k ⟨0, [], 0, z, false, []⟩
def setRefs (l : List Ck) (k : Nat) (rs : List Rf) : List Ck := l.set k { nth l k with refs := rs }
def refer (l : List Ck) (id t n : Int) : List Ck × Int × Int :=
 match pos (ids l) id with
 | none => (l, 0, 12)
 | some k => if ¬ (tenant t ∧ 1 ≤ n ∧ n ≤ most) then (l, 0, 1) else if most < total (nth l k).refs + n then (l, 0, 2)
  else (setRefs l k (withR (nth l k).refs t (held (nth l k).refs t + n)), 0, 0)
def unrefer (l : List Ck) (id t n : Int) : List Ck × Int × Int :=
 match pos (ids l) id with
 | none => (l, 0, 12)
 | some k => if ¬ (tenant t ∧ 1 ≤ n ∧ n ≤ most) then (l, 0, 1) else if held (nth l k).refs t < n then (l, 0, 12)
  else if withR (nth l k).refs t (held (nth l k).refs t - n) = [] then (l.eraseIdx k, 1, 0) else (setRefs l k (withR (nth l k).refs t (held (nth l k).refs t - n)), 0, 0)
def move (l : List Ck) (id : Int) (u : Un) : List Ck × Int × Int :=
 match pos (ids l) id with
 | none => (l, 0, 12)
 | some k => if ¬ valid u then (l, 0, 1) else match unitAt l u with
  | some o => if o ≠ id then (l, 0, 20) else (l.set k { nth l k with at_ := u, lost := false }, 0, 0)
  | none => (l.set k { nth l k with at_ := u, lost := false }, 0, 0)
def lose (l : List Ck) (id : Int) : List Ck × Int × Int :=
 match pos (ids l) id with
 | none => (l, 0, 12)
 | some k => (l.set k { nth l k with at_ := z, lost := true }, 0, 0)
structure Op where
 kind : Int
 id : Int
 t : Int
 n : Int
 u : Un
 d : UInt8
 pr : Int
def dig (d : UInt8) : List UInt8 := List.replicate 16 d
def step (l : List Ck) (o : Op) : List Ck × Int × Int :=
 if o.kind = 1 then add l (dig o.d) o.pr o.u o.t else if o.kind = 2 then refer l o.id o.t o.n else if o.kind = 3 then unrefer l o.id o.t o.n else if o.kind = 4 then move l o.id o.u else if o.kind = 5 then lose l o.id else (l, 0, 0)
def run (l : List Ck) (ops : List Op) : List Ck := ops.foldl (fun l o => (step l o).1) l
structure RefsOk (rs : List Rf) : Prop where
 up : Up (keys rs)
 ten : ∀ r ∈ rs, tenant r.t
 pos : ∀ r ∈ rs, 1 ≤ r.n
 tot : total rs ≤ most
structure CkOk (c : Ck) : Prop where
 id1 : 1 ≤ c.id
 id2 : c.id ≤ 65536
 dg : c.dg.length = 16
 pr : inR c.pr 4294967296
 un : c.lost = false → valid c.at_
 lo : c.lost = true → c.at_ = z
 refs : RefsOk c.refs
 some : c.refs ≠ []
structure Inv (l : List Ck) : Prop where
 up : Up (ids l)
 ok : ∀ c ∈ l, CkOk c
 un : ∀ (i j : Nat) (a b : Ck), l[i]? = some a → l[j]? = some b → a.lost = false → b.lost = false → a.at_ = b.at_ → i = j
theorem Inv.nil : Inv [] := ⟨List.Pairwise.nil, by simp, by simp⟩
theorem nth_get {l : List Ck} {k : Nat} (h : k < l.length) : l[k]? = some (nth l k) := by unfold nth; rw [List.getD, List.getElem?_eq_getElem h]; rfl
theorem pos_lt {l : List Ck} {id : Int} {k : Nat} (h : pos (ids l) id = some k) : k < l.length ∧ (nth l k).id = id := by
 have h1 := pos_some h
 have h2 := (List.getElem?_eq_some_iff.1 h1).1
 have h3 : k < l.length := by simpa using h2
 refine ⟨h3, ?_⟩
 rw [List.getElem?_map, nth_get h3] at h1
 exact Option.some.inj h1
theorem Inv.nth {l : List Ck} (h : Inv l) {k : Nat} (hk : k < l.length) : CkOk (nth l k) := h.ok _ (List.mem_of_getElem? (nth_get hk))
theorem total_app : ∀ a b : List Rf, total (a ++ b) = total a + total b
 | [], b => by simp [total]
 | r :: a, b => by rw [List.cons_append, total, total, total_app a b]; omega
theorem total_nonneg {l : List Rf} (h : ∀ r ∈ l, 1 ≤ r.n) : 0 ≤ total l := by
 induction l with
 | nil => exact Int.le_refl _
 | cons r l ih => rw [total]; have := h r (List.mem_cons_self ..); have := ih fun x hx => h x (List.mem_cons_of_mem _ hx); omega
theorem total_split {l : List Rf} (hu : Up (keys l)) (t : Int) : total l = total (l.takeWhile (fun r => decide (r.t < t))) + held l t + total (l.filter (fun r => decide (t < r.t))) := by
 induction l with
 | nil => rfl
 | cons r l ih =>
  have h2 := List.pairwise_cons.1 (show Up (r.t :: keys l) from hu)
  have ih := ih h2.2
  have hall : ∀ x ∈ l, r.t < x.t := fun x hx => h2.1 x.t (List.mem_map_of_mem hx)
  rw [List.takeWhile_cons, List.filter_cons, total]
  unfold held at *
  rw [List.find?_cons]
  by_cases h3 : r.t < t
  ·
   rw [if_pos (by simpa using h3), if_neg (by simp; omega), show decide (r.t = t) = false by simp; omega, total]
   simp only
   omega
  ·
   have hn : l.find? (fun r => decide (r.t = t)) = none := by rw [List.find?_eq_none]; intro x hx; have := hall x hx; simp; omega
   have hf : l.filter (fun r => decide (t < r.t)) = l := List.filter_eq_self.2 fun x hx => by have := hall x hx; simp; omega
   rw [if_neg (by simpa using h3), hf]
   by_cases h4 : r.t = t
   ·
    rw [if_neg (by simp; omega), show decide (r.t = t) = true by simpa using h4]
    simp [total]
   ·
    rw [if_pos (by simp; omega), show decide (r.t = t) = false by simpa using h4, hn]
    simp [total]
theorem total_withR {l : List Rf} (hu : Up (keys l)) (t n : Int) (hn : 0 ≤ n) : total (withR l t n) = total l - held l t + n := by
 unfold withR
 rw [total_app, total_app, total_split hu t]
 by_cases h : 0 < n
 ·
  rw [if_pos h]; simp [total]; omega
 ·
  rw [if_neg h]; simp [total]; omega
theorem held_nonneg {l : List Rf} (h : ∀ r ∈ l, 1 ≤ r.n) (t : Int) : 0 ≤ held l t := by
 unfold held
 cases hf : l.find? (fun r => decide (r.t = t)) with
 | none => exact Int.le_refl _
 | some r => have := h r (List.mem_of_find?_eq_some hf); simp; omega
theorem held_le {l : List Rf} (h : ∀ r ∈ l, 1 ≤ r.n) (hu : Up (keys l)) (t : Int) : held l t ≤ total l := by
 rw [total_split hu t]
 have h1 := total_nonneg (l := l.takeWhile (fun r => decide (r.t < t))) fun r hr => h r ((List.takeWhile_prefix _).subset hr)
 have h2 := total_nonneg (l := l.filter (fun r => decide (t < r.t))) fun r hr => h r (List.mem_filter.1 hr).1
 omega
theorem mem_takeWhile_lt {l : List Rf} {t : Int} : ∀ r ∈ l.takeWhile (fun r => decide (r.t < t)), r.t < t := by
 induction l with
 | nil => intro r hr; simp at hr
 | cons a l ih =>
  intro r hr
  rw [List.takeWhile_cons] at hr
  by_cases h : a.t < t
  ·
   rw [if_pos (by simpa using h)] at hr
   rcases List.mem_cons.1 hr with rfl | hr
   ·
    exact h
   ·
    exact ih r hr
  ·
   rw [if_neg (by simpa using h)] at hr; cases hr
theorem refsOk_with {l : List Rf} (h : RefsOk l) {t n : Int} (ht : tenant t) (hn : 0 ≤ n) (hm : total l - held l t + n ≤ most) : RefsOk (withR l t n) := by
 have h1 : (l.takeWhile (fun r => decide (r.t < t))).Sublist l := List.takeWhile_sublist _
 have h2 : (l.filter (fun r => decide (t < r.t))).Sublist l := List.filter_sublist
 have hmem : ∀ r ∈ withR l t n, r ∈ l ∨ (r = ⟨t, n⟩ ∧ 0 < n) := fun r hr => by
  unfold withR at hr
  rcases List.mem_append.1 hr with hr | hr
  ·
   exact .inl (h1.subset hr)
  ·
   rcases List.mem_append.1 hr with hr | hr
   ·
    by_cases hp : 0 < n
    ·
     rw [if_pos hp] at hr; exact .inr ⟨List.mem_singleton.1 hr, hp⟩
    ·
     rw [if_neg hp] at hr; cases hr
   ·
    exact .inl (h2.subset hr)
 refine ⟨?_, fun r hr => ?_, fun r hr => ?_, ?_⟩
 ·
  unfold withR keys Up
  rw [List.map_append, List.map_append, List.pairwise_append, List.pairwise_append]
  have hmid : ∀ x ∈ (if 0 < n then [(⟨t, n⟩ : Rf)] else []).map (·.t), x = t := fun x hx => by
   by_cases hp : 0 < n
   ·
    rw [if_pos hp] at hx; simpa using hx
   ·
    rw [if_neg hp] at hx; cases hx
  have hlo : ∀ x ∈ (l.takeWhile (fun r => decide (r.t < t))).map (·.t), x < t := fun x hx => by
   obtain ⟨r, hr, rfl⟩ := List.mem_map.1 hx; exact mem_takeWhile_lt r hr
  have hhi : ∀ x ∈ (l.filter (fun r => decide (t < r.t))).map (·.t), t < x := fun x hx => by
   obtain ⟨r, hr, rfl⟩ := List.mem_map.1 hx; simpa using (List.mem_filter.1 hr).2
  refine ⟨List.Pairwise.sublist (h1.map _) h.up, ⟨?_, List.Pairwise.sublist (h2.map _) h.up, fun a ha b hb => ?_⟩, fun a ha b hb => ?_⟩
  ·
   by_cases hp : 0 < n
   ·
    rw [if_pos hp]; exact List.pairwise_singleton _ _
   ·
    rw [if_neg hp]; exact List.Pairwise.nil
  ·
   rw [hmid a ha]; exact hhi b hb
  ·
   have := hlo a ha
   rcases List.mem_append.1 hb with hb | hb
   ·
    rw [hmid b hb]; exact this
   ·
    have := hhi b hb; omega
 ·
  rcases hmem r hr with hr | ⟨rfl, _⟩
  ·
   exact h.ten r hr
  ·
   exact ht
 ·
  rcases hmem r hr with hr | ⟨rfl, hp⟩
  ·
   exact h.pos r hr
  ·
   show 1 ≤ n; omega
 ·
  rw [total_withR h.up t n hn]; exact hm
theorem ids_set {l : List Ck} {k : Nat} {c : Ck} (hk : k < l.length) (hid : c.id = (nth l k).id) : ids (l.set k c) = ids l := by
 unfold ids
 rw [List.map_set, hid]
 apply List.ext_getElem?
 intro i
 rw [List.getElem?_set]
 by_cases h : k = i
 ·
  subst h; rw [if_pos rfl, if_pos (by simpa using hk), List.getElem?_map, nth_get hk]; rfl
 ·
  rw [if_neg h]
theorem Inv.set {l : List Ck} (h : Inv l) {k : Nat} {c : Ck} (hk : k < l.length) (hid : c.id = (Chk.nth l k).id) (hc : CkOk c) (hun : c.lost = false → ∀ (j : Nat) (b : Ck), j ≠ k → l[j]? = some b → b.lost = false → b.at_ ≠ c.at_) : Inv (l.set k c) := by
 refine ⟨by rw [ids_set hk hid]; exact h.up, fun x hx => ?_, fun i j a b hi hj ha hb hab => ?_⟩
 ·
  rcases List.mem_or_eq_of_mem_set hx with hx | rfl
  ·
   exact h.ok x hx
  ·
   exact hc
 ·
  rw [List.getElem?_set] at hi hj
  by_cases h1 : k = i
  ·
   by_cases h2 : k = j
   ·
    omega
   ·
    rw [if_pos h1, if_pos (by omega)] at hi
    rw [if_neg h2] at hj
    have := Option.some.inj hi
    subst this
    exact absurd hab.symm (hun ha j b (fun e => h2 e.symm) hj hb)
  ·
   rw [if_neg h1] at hi
   by_cases h2 : k = j
   ·
    rw [if_pos h2, if_pos (by omega)] at hj
    have := Option.some.inj hj
    subst this
    exact absurd hab (hun hb i a (fun e => h1 e.symm) hi ha)
   ·
    rw [if_neg h2] at hj
    exact h.un i j a b hi hj ha hb hab
theorem unitAt_some {l : List Ck} (h : Inv l) {u : Un} {id : Int} : unitAt l u = some id ↔ ∃ (k : Nat) (c : Ck), l[k]? = some c ∧ c.lost = false ∧ c.at_ = u ∧ c.id = id := by
 unfold unitAt
 constructor
 ·
  intro hh
  obtain ⟨c, hc, rfl⟩ := Option.map_eq_some_iff.1 hh
  obtain ⟨k, hk⟩ := List.getElem?_of_mem (List.mem_of_find?_eq_some hc)
  have := List.find?_some hc
  simp at this
  exact ⟨k, c, hk, this.1, this.2, rfl⟩
 ·
  rintro ⟨k, c, hk, h1, h2, rfl⟩
  cases hf : l.find? (fun c => !c.lost && decide (c.at_ = u)) with
  | none =>
   rw [List.find?_eq_none] at hf
   exact absurd (by simp [h1, h2]) (hf c (List.mem_of_getElem? hk))
  | some d =>
   obtain ⟨j, hj⟩ := List.getElem?_of_mem (List.mem_of_find?_eq_some hf)
   have hd := List.find?_some hf
   simp at hd
   obtain rfl := h.un k j c d hk hj h1 hd.1 (by rw [h2, hd.2])
   rw [hk] at hj
   rw [Option.some.inj hj]; rfl
theorem unitAt_none {l : List Ck} {u : Un} : unitAt l u = none ↔ ∀ (k : Nat) (c : Ck), l[k]? = some c → c.lost = false → c.at_ ≠ u := by
 unfold unitAt
 rw [Option.map_eq_none_iff, List.find?_eq_none]
 constructor
 ·
  intro h k c hk h1 h2
  exact h c (List.mem_of_getElem? hk) (by simp [h1, h2])
 ·
  intro h c hc hh
  obtain ⟨k, hk⟩ := List.getElem?_of_mem hc
  simp at hh
  exact h k c hk hh.1 hh.2
theorem ids_take (l : List Ck) (k : Nat) : ids (l.take k) = (ids l).take k := by simp [ids, List.map_take]
theorem ids_drop (l : List Ck) (k : Nat) : ids (l.drop k) = (ids l).drop k := by simp [ids, List.map_drop]
theorem mem_put {l : List Ck} {k : Nat} {c x : Ck} (h : x ∈ l.take k ++ c :: l.drop k) : x ∈ l ∨ x = c := by
 rcases List.mem_append.1 h with h | h
 ·
  exact .inl (List.mem_of_mem_take h)
 ·
  rcases List.mem_cons.1 h with rfl | h
  ·
   exact .inr rfl
  ·
   exact .inl (List.mem_of_mem_drop h)
theorem get_put {l : List Ck} {k : Nat} {c x : Ck} (hk : k ≤ l.length) {i : Nat} (h : (l.take k ++ c :: l.drop k)[i]? = some x) : (i < k ∧ l[i]? = some x) ∨ (i = k ∧ x = c) ∨ (k < i ∧ l[i - 1]? = some x) := by
 have hl : (l.take k).length = k := by rw [List.length_take]; omega
 rcases Nat.lt_trichotomy i k with hi | hi | hi
 ·
  rw [List.getElem?_append_left (by omega), List.getElem?_take, if_pos hi] at h
  exact .inl ⟨hi, h⟩
 ·
  subst hi
  rw [List.getElem?_append_right (by omega), hl, Nat.sub_self] at h
  exact .inr (.inl ⟨rfl, (Option.some.inj h).symm⟩)
 ·
  rw [List.getElem?_append_right (by omega), hl, show i - k = (i - 1 - k) + 1 by omega, List.getElem?_cons_succ, List.getElem?_drop, show k + (i - 1 - k) = i - 1 by omega] at h
  exact .inr (.inr ⟨hi, h⟩)
theorem Inv.put {l : List Ck} (h : Inv l) {c : Ck} (hid : c.id = (gap (ids l) : Int) + 1) (hc : CkOk c) (hun : c.lost = false → unitAt l c.at_ = none) : Inv (l.take (gap (ids l)) ++ c :: l.drop (gap (ids l))) := by
 have hgl : gap (ids l) ≤ l.length := by have := gap_le (ids l); simpa using this
 have hge := h.up.pos_ge (b := 0) (fun a ha => by
  obtain ⟨c, hc, rfl⟩ := List.mem_map.1 ha
  have := (h.ok c hc).id1; omega)
 have hb : ∀ (j : Nat) (a : Int), (ids l)[gap (ids l) + j]? = some a → (gap (ids l) : Int) + 1 < a := by
  intro j a ha
  have h0 : gap (ids l) < (ids l).length := by have := (List.getElem?_eq_some_iff.1 ha).1; omega
  have h1 := gap_above (ids l) _ (List.getElem?_eq_getElem h0)
  have h2 := hge _ _ (List.getElem?_eq_getElem h0)
  have h3 : (ids l)[gap (ids l)] ≤ a := by
   cases j with
   | zero => rw [Nat.add_zero, List.getElem?_eq_getElem h0] at ha; have := Option.some.inj ha; omega
   | succ j => have := h.up.lt (show gap (ids l) < gap (ids l) + (j + 1) by omega) (List.getElem?_eq_getElem h0) ha; omega
  omega
 refine ⟨?_, fun x hx => ?_, fun i j a b hi hj ha hb' hab => ?_⟩
 ·
  show Up (List.map _ _)
  rw [List.map_append, List.map_cons]
  show Up (ids (l.take (gap (ids l))) ++ c.id :: ids (l.drop (gap (ids l))))
  rw [ids_take, ids_drop]
  unfold Up
  rw [List.pairwise_append, List.pairwise_cons]
  refine ⟨List.Pairwise.sublist (List.take_sublist _ _) h.up, ⟨fun a ha => ?_, List.Pairwise.sublist (List.drop_sublist _ _) h.up⟩, fun a ha b hb2 => ?_⟩
  ·
   obtain ⟨j, hj⟩ := List.getElem?_of_mem ha
   rw [List.getElem?_drop] at hj
   have := hb j a hj; omega
  ·
   obtain ⟨i, hi⟩ := List.getElem?_of_mem ha
   rw [List.getElem?_take] at hi
   by_cases hig : i < gap (ids l)
   ·
    rw [if_pos hig] at hi
    have h1 := gap_below (ids l) i a hig hi
    rcases List.mem_cons.1 hb2 with rfl | hb2
    ·
     omega
    ·
     obtain ⟨j, hj⟩ := List.getElem?_of_mem hb2
     rw [List.getElem?_drop] at hj
     have := hb j b hj; omega
   ·
    rw [if_neg hig] at hi; cases hi
 ·
  rcases mem_put hx with hx | rfl
  ·
   exact h.ok x hx
  ·
   exact hc
 ·
  have hnone : ∀ (k : Nat) (x : Ck), c.lost = false → l[k]? = some x → x.lost = false → x.at_ ≠ c.at_ := fun k x hcl hk hx => unitAt_none.1 (hun hcl) k x hk hx
  rcases get_put hgl hi with ⟨h1, h2⟩ | ⟨h1, h2⟩ | ⟨h1, h2⟩ <;> rcases get_put hgl hj with ⟨h3, h4⟩ | ⟨h3, h4⟩ | ⟨h3, h4⟩
  ·
   exact h.un _ _ _ _ h2 h4 ha hb' hab
  ·
   subst h4; exact absurd hab (hnone _ _ hb' h2 ha)
  ·
   have := h.un _ _ _ _ h2 h4 ha hb' hab; omega
  ·
   subst h2; exact absurd hab.symm (hnone _ _ ha h4 hb')
  ·
   omega
  ·
   subst h2; exact absurd hab.symm (hnone _ _ ha h4 hb')
  ·
   have := h.un _ _ _ _ h2 h4 ha hb' hab; omega
  ·
   subst h4; exact absurd hab (hnone _ _ hb' h2 ha)
  ·
   have := h.un _ _ _ _ h2 h4 ha hb' hab; omega
theorem Inv.erase {l : List Ck} (h : Inv l) (k : Nat) : Inv (l.eraseIdx k) := by
 have hs : (l.eraseIdx k).Sublist l := List.eraseIdx_sublist _ _
 refine ⟨List.Pairwise.sublist (hs.map _) h.up, fun x hx => h.ok x (hs.subset hx), fun i j a b hi hj ha hb hab => ?_⟩
 rw [List.getElem?_eraseIdx] at hi hj
 by_cases h1 : i < k
 ·
  rw [if_pos h1] at hi
  by_cases h2 : j < k
  ·
   rw [if_pos h2] at hj; exact h.un _ _ _ _ hi hj ha hb hab
  ·
   rw [if_neg h2] at hj; have := h.un _ _ _ _ hi hj ha hb hab; omega
 ·
  rw [if_neg h1] at hi
  by_cases h2 : j < k
  ·
   rw [if_pos h2] at hj; have := h.un _ _ _ _ hi hj ha hb hab; omega
  ·
   rw [if_neg h2] at hj; have := h.un _ _ _ _ hi hj ha hb hab; omega
theorem Inv.add {l : List Ck} (h : Inv l) {dg : List UInt8} {pr : Int} (u : Un) (t : Int) (hd : dg.length = 16) (hp : inR pr 4294967296) : Inv (add l dg pr u t).1 := by
 unfold Chk.add
 by_cases h1 : valid u ∧ tenant t
 ·
  rw [if_neg (fun e => e h1)]
  by_cases h2 : (unitAt l u).isSome
  ·
   rw [if_pos h2]; exact h
  ·
   rw [if_neg h2]
   by_cases h3 : 65536 ≤ l.length
   ·
    rw [if_pos h3]; exact h
   ·
    rw [if_neg h3]
    have hgl : gap (ids l) ≤ l.length := by have := gap_le (ids l); simpa using this
    refine h.put rfl ⟨by show 1 ≤ (gap (ids l) : Int) + 1; omega, by show (gap (ids l) : Int) + 1 ≤ 65536; omega, hd, hp, fun _ => h1.1, (fun e => by cases e), ⟨List.pairwise_singleton _ _, ?_, ?_, ?_⟩, by simp⟩ fun _ => by simpa using h2
    ·
     intro r hr; obtain rfl := List.mem_singleton.1 hr; exact h1.2
    ·
     intro r hr; obtain rfl := List.mem_singleton.1 hr; exact Int.le_refl _
    ·
     show (1 : Int) + 0 ≤ 2147483647; decide
 ·
  rw [if_pos h1]; exact h
theorem Inv.setRefs {l : List Ck} (h : Inv l) {k : Nat} (hk : k < l.length) {rs : List Rf} (hr : RefsOk rs) (hne : rs ≠ []) : Inv (setRefs l k rs) := by
 have hc := h.nth hk
 refine h.set hk rfl ⟨hc.id1, hc.id2, hc.dg, hc.pr, hc.un, hc.lo, hr, hne⟩ fun hl j b hj hb hbl e => hj (h.un j k b _ hb (nth_get hk) hbl hl e)
theorem Inv.refer {l : List Ck} (h : Inv l) (id t n : Int) : Inv (refer l id t n).1 := by
 unfold Chk.refer
 cases hp : pos (ids l) id with
 | none => exact h
 | some k =>
  obtain ⟨hk, _⟩ := pos_lt hp
  have hc := h.nth hk
  show Inv (ite _ (_ : List Ck × Int × Int) _).1
  by_cases h1 : tenant t ∧ 1 ≤ n ∧ n ≤ most
  ·
   rw [if_neg (fun e => e h1)]
   by_cases h2 : most < total (Chk.nth l k).refs + n
   ·
    rw [if_pos h2]; exact h
   ·
    rw [if_neg h2]
    have h0 := held_nonneg hc.refs.pos t
    refine h.setRefs hk (refsOk_with hc.refs h1.1 (by omega) (by omega)) fun e => ?_
    have := congrArg List.length e
    unfold withR at this
    rw [if_pos (by omega)] at this
    simp at this
  ·
   rw [if_pos h1]; exact h
theorem Inv.unrefer {l : List Ck} (h : Inv l) (id t n : Int) : Inv (unrefer l id t n).1 := by
 unfold Chk.unrefer
 cases hp : pos (ids l) id with
 | none => exact h
 | some k =>
  obtain ⟨hk, _⟩ := pos_lt hp
  have hc := h.nth hk
  show Inv (ite _ (_ : List Ck × Int × Int) _).1
  by_cases h1 : tenant t ∧ 1 ≤ n ∧ n ≤ most
  ·
   rw [if_neg (fun e => e h1)]
   by_cases h2 : held (Chk.nth l k).refs t < n
   ·
    rw [if_pos h2]; exact h
   ·
    rw [if_neg h2]
    by_cases h3 : withR (Chk.nth l k).refs t (held (Chk.nth l k).refs t - n) = []
    ·
     rw [if_pos h3]; exact h.erase k
    ·
     rw [if_neg h3]
     have := hc.refs.tot
     exact h.setRefs hk (refsOk_with hc.refs h1.1 (by omega) (by omega)) h3
  ·
   rw [if_pos h1]; exact h
theorem Inv.move {l : List Ck} (h : Inv l) (id : Int) (u : Un) : Inv (move l id u).1 := by
 unfold Chk.move
 cases hp : pos (ids l) id with
 | none => exact h
 | some k =>
  obtain ⟨hk, hid⟩ := pos_lt hp
  have hc := h.nth hk
  show Inv (ite _ (_ : List Ck × Int × Int) _).1
  by_cases h1 : valid u
  ·
   rw [if_neg (fun e => e h1)]
   have key : (∀ (j : Nat) (b : Ck), j ≠ k → l[j]? = some b → b.lost = false → b.at_ ≠ u) → Inv (l.set k { Chk.nth l k with at_ := u, lost := false }) := fun hh =>
    h.set hk rfl ⟨hc.id1, hc.id2, hc.dg, hc.pr, fun _ => h1, (fun e => by cases e), hc.refs, hc.some⟩ fun _ => hh
   cases hu : unitAt l u with
   | none => exact key fun j b _ hb hbl => unitAt_none.1 hu j b hb hbl
   | some o =>
    show Inv (ite _ (_ : List Ck × Int × Int) _).1
    by_cases h2 : o = id
    ·
     rw [if_neg (fun e => e h2)]
     refine key fun j b hj hb hbl hbu => ?_
     obtain ⟨k', c', hk', hl', hu', hid'⟩ := (unitAt_some h).1 hu
     have e1 := h.un j k' b c' hb hk' hbl hl' (by rw [hbu, hu'])
     -- the keys grow: the same Id is the same place
     have e2 : k' = k := by
      have a1 : (ids l)[k']? = some id := by rw [List.getElem?_map, hk']; simp [hid', h2]
      have a2 : (ids l)[k]? = some id := by rw [List.getElem?_map, nth_get hk]; simp [hid]
      rcases Nat.lt_trichotomy k' k with hlt | he | hlt
      ·
       have := h.up.lt hlt a1 a2; omega
      ·
       exact he
      ·
       have := h.up.lt hlt a2 a1; omega
     omega
    ·
     rw [if_pos h2]; exact h
  ·
   rw [if_pos h1]; exact h
theorem Inv.lose {l : List Ck} (h : Inv l) (id : Int) : Inv (lose l id).1 := by
 unfold Chk.lose
 cases hp : pos (ids l) id with
 | none => exact h
 | some k =>
  obtain ⟨hk, _⟩ := pos_lt hp
  have hc := h.nth hk
  exact h.set hk rfl ⟨hc.id1, hc.id2, hc.dg, hc.pr, (fun e => by cases e), fun _ => rfl, hc.refs, hc.some⟩ (fun e => by cases e)
theorem Inv.step {l : List Ck} (h : Inv l) (o : Op) (hp : inR o.pr 4294967296) : Inv (step l o).1 := by
 unfold Chk.step
 by_cases h1 : o.kind = 1
 ·
  rw [if_pos h1]; exact h.add _ _ (by simp [dig]) hp
 ·
  rw [if_neg h1]
  by_cases h2 : o.kind = 2
  ·
   rw [if_pos h2]; exact h.refer _ _ _
  ·
   rw [if_neg h2]
   by_cases h3 : o.kind = 3
   ·
    rw [if_pos h3]; exact h.unrefer _ _ _
   ·
    rw [if_neg h3]
    by_cases h4 : o.kind = 4
    ·
     rw [if_pos h4]; exact h.move _ _
    ·
     rw [if_neg h4]
     by_cases h5 : o.kind = 5
     ·
      rw [if_pos h5]; exact h.lose _
     ·
      rw [if_neg h5]; exact h
end Chk
end
section
namespace Chk
theorem opt_ext {α : Type} {a b : Option α} (h : ∀ x, a = some x ↔ b = some x) : a = b := by
 cases a with
 | none =>
  cases b with
  | none => rfl
  | some y => have := (h y).2 rfl; cases this
 | some x => exact ((h x).1 rfl).symm
theorem Inv.idx {l : List Ck} (h : Inv l) {i j : Nat} {a b : Ck} (hi : l[i]? = some a) (hj : l[j]? = some b) (he : a.id = b.id) : i = j := by
 have a1 : (ids l)[i]? = some a.id := by rw [List.getElem?_map, hi]; rfl
 have a2 : (ids l)[j]? = some b.id := by rw [List.getElem?_map, hj]; rfl
 rcases Nat.lt_trichotomy i j with hlt | he | hlt
 ·
  have := h.up.lt hlt a1 a2; omega
 ·
  exact he
 ·
  have := h.up.lt hlt a2 a1; omega
def leave (M : Un → Option Int) (c : Ck) : Un → Option Int := fun v => if c.lost = false ∧ v = c.at_ then none else M v
theorem unitAt_leave {l : List Ck} (h : Inv l) {k : Nat} (hk : k < l.length) (v : Un) (id : Int) : leave (unitAt l) (nth l k) v = some id ↔ ∃ (j : Nat) (c : Ck), j ≠ k ∧ l[j]? = some c ∧ c.lost = false ∧ c.at_ = v ∧ c.id = id := by
 unfold leave
 by_cases hc : (nth l k).lost = false ∧ v = (nth l k).at_
 ·
  rw [if_pos hc]
  refine ⟨fun e => (by cases e), fun ⟨j, c, hj, hl, h1, h2, h3⟩ => absurd (h.un j k c _ hl (nth_get hk) h1 hc.1 (by rw [h2, hc.2])) hj⟩
 ·
  rw [if_neg hc, unitAt_some h]
  refine ⟨fun ⟨j, c, hl, h1, h2, h3⟩ => ⟨j, c, fun e => hc ?_, hl, h1, h2, h3⟩, fun ⟨j, c, _, r⟩ => ⟨j, c, r⟩⟩
  subst e
  rw [nth_get hk] at hl
  obtain rfl := Option.some.inj hl
  exact ⟨h1, h2.symm⟩
theorem get_set {l : List Ck} {k : Nat} (hk : k < l.length) {c x : Ck} {j : Nat} : (l.set k c)[j]? = some x ↔ (j = k ∧ x = c) ∨ (j ≠ k ∧ l[j]? = some x) := by
 rw [List.getElem?_set]
 by_cases h : k = j
 ·
  subst h
  rw [if_pos rfl, if_pos hk]
  simp [eq_comm]
 ·
  rw [if_neg h]
  simp [Ne.symm h]
theorem unitAt_lose {l : List Ck} (h : Inv l) {k : Nat} (hk : k < l.length) {c : Ck} (h' : Inv (l.set k c)) (hc : c.lost = true) : unitAt (l.set k c) = leave (unitAt l) (nth l k) := by
 funext v
 refine opt_ext fun id => ?_
 rw [unitAt_leave h hk, unitAt_some h']
 constructor
 ·
  rintro ⟨j, x, hj, h1, h2, h3⟩
  rcases (get_set hk).1 hj with ⟨_, rfl⟩ | ⟨e1, e2⟩
  ·
   rw [hc] at h1; cases h1
  ·
   exact ⟨j, x, e1, e2, h1, h2, h3⟩
 ·
  rintro ⟨j, x, e1, e2, r⟩
  exact ⟨j, x, (get_set hk).2 (.inr ⟨e1, e2⟩), r⟩
theorem unitAt_move {l : List Ck} (h : Inv l) {k : Nat} (hk : k < l.length) {c : Ck} (h' : Inv (l.set k c)) (hc : c.lost = false) : unitAt (l.set k c) = fun v => if v = c.at_ then some c.id else leave (unitAt l) (nth l k) v := by
 funext v
 refine opt_ext fun id => ?_
 rw [unitAt_some h']
 by_cases hv : v = c.at_
 ·
  rw [if_pos hv]
  constructor
  ·
   rintro ⟨j, x, hj, h1, h2, h3⟩
   have hk2 : (l.set k c)[k]? = some c := (get_set hk).2 (.inl ⟨rfl, rfl⟩)
   have := h'.un j k x c hj hk2 h1 hc (by rw [h2, hv])
   subst this
   rw [hk2] at hj
   rw [← h3, Option.some.inj hj]
  ·
   intro e
   exact ⟨k, c, (get_set hk).2 (.inl ⟨rfl, rfl⟩), hc, hv.symm, Option.some.inj e⟩
 ·
  rw [if_neg hv, unitAt_leave h hk]
  constructor
  ·
   rintro ⟨j, x, hj, h1, h2, h3⟩
   rcases (get_set hk).1 hj with ⟨_, rfl⟩ | ⟨e1, e2⟩
   ·
    exact absurd h2.symm hv
   ·
    exact ⟨j, x, e1, e2, h1, h2, h3⟩
  ·
   rintro ⟨j, x, e1, e2, r⟩
   exact ⟨j, x, (get_set hk).2 (.inr ⟨e1, e2⟩), r⟩
theorem unitAt_refs {l : List Ck} {k : Nat} (hk : k < l.length) (rs : List Rf) (h : Inv l) (h' : Inv (setRefs l k rs)) : unitAt (setRefs l k rs) = unitAt l := by
 funext v
 refine opt_ext fun id => ?_
 rw [unitAt_some h, unitAt_some h']
 constructor
 ·
  rintro ⟨j, x, hj, h1, h2, h3⟩
  rcases (get_set hk).1 hj with ⟨rfl, rfl⟩ | ⟨e1, e2⟩
  ·
   exact ⟨j, _, nth_get hk, h1, h2, h3⟩
  ·
   exact ⟨j, x, e2, h1, h2, h3⟩
 ·
  rintro ⟨j, x, hj, h1, h2, h3⟩
  by_cases e : j = k
  ·
   subst e
   rw [nth_get hk] at hj
   obtain rfl := Option.some.inj hj
   exact ⟨j, _, (get_set hk).2 (.inl ⟨rfl, rfl⟩), h1, h2, h3⟩
  ·
   exact ⟨j, x, (get_set hk).2 (.inr ⟨e, hj⟩), h1, h2, h3⟩
theorem unitAt_erase {l : List Ck} (h : Inv l) {k : Nat} (hk : k < l.length) : unitAt (l.eraseIdx k) = leave (unitAt l) (nth l k) := by
 funext v
 refine opt_ext fun id => ?_
 rw [unitAt_leave h hk, unitAt_some (h.erase k)]
 constructor
 ·
  rintro ⟨j, x, hj, r⟩
  rw [List.getElem?_eraseIdx] at hj
  by_cases hjk : j < k
  ·
   rw [if_pos hjk] at hj; exact ⟨j, x, by omega, hj, r⟩
  ·
   rw [if_neg hjk] at hj; exact ⟨j + 1, x, by omega, hj, r⟩
 ·
  rintro ⟨j, x, e1, e2, r⟩
  by_cases hjk : j < k
  ·
   exact ⟨j, x, by rw [List.getElem?_eraseIdx, if_pos hjk]; exact e2, r⟩
  ·
   exact ⟨j - 1, x, by rw [List.getElem?_eraseIdx, if_neg (by omega), show j - 1 + 1 = j by omega]; exact e2, r⟩
theorem unitAt_put {l : List Ck} (h : Inv l) {k : Nat} (hk : k ≤ l.length) {c : Ck} (h' : Inv (l.take k ++ c :: l.drop k)) (hc : c.lost = false) : unitAt (l.take k ++ c :: l.drop k) = fun v => if v = c.at_ then some c.id else unitAt l v := by
 have hl : (l.take k).length = k := by rw [List.length_take]; omega
 have hin : (l.take k ++ c :: l.drop k)[k]? = some c := by rw [List.getElem?_append_right (by omega), hl, Nat.sub_self]; rfl
 have hup : ∀ (j : Nat) (x : Ck), l[j]? = some x → ∃ i : Nat, (l.take k ++ c :: l.drop k)[i]? = some x := fun j x hj => by
  by_cases hjk : j < k
  ·
   exact ⟨j, by rw [List.getElem?_append_left (by omega), List.getElem?_take, if_pos hjk]; exact hj⟩
  ·
   exact ⟨j + 1, by rw [List.getElem?_append_right (by omega), hl, show j + 1 - k = (j - k) + 1 by omega, List.getElem?_cons_succ, List.getElem?_drop, show k + (j - k) = j by omega]; exact hj⟩
 funext v
 refine opt_ext fun id => ?_
 rw [unitAt_some h']
 by_cases hv : v = c.at_
 ·
  rw [if_pos hv]
  constructor
  ·
   rintro ⟨j, x, hj, h1, h2, h3⟩
   have := h'.un j k x c hj hin h1 hc (by rw [h2, hv])
   subst this
   rw [hin] at hj
   rw [← h3, Option.some.inj hj]
  ·
   intro e
   exact ⟨k, c, hin, hc, hv.symm, Option.some.inj e⟩
 ·
  rw [if_neg hv, unitAt_some h]
  constructor
  ·
   rintro ⟨j, x, hj, h1, h2, h3⟩
   rcases get_put hk hj with ⟨_, e⟩ | ⟨_, rfl⟩ | ⟨_, e⟩
   ·
    exact ⟨j, x, e, h1, h2, h3⟩
   ·
    exact absurd h2.symm hv
   ·
    exact ⟨_, x, e, h1, h2, h3⟩
  ·
   rintro ⟨j, x, hj, r⟩
   obtain ⟨i, hi⟩ := hup j x hj
   exact ⟨i, x, hi, r⟩
def count (l : List Ck) (t : Int) : Int := (l.map fun c => held c.refs t).sum
theorem held_one' (t n x : Int) : held [⟨t, n⟩] x = if t = x then n else 0 := by unfold held; by_cases h : t = x <;> simp [h]
theorem held_with {l : List Rf} (hu : Up (keys l)) (t n x : Int) (hn : 0 ≤ n) : held (withR l t n) x = if x = t then n else held l x := by
 have hfind : ∀ (p q : List Rf), held (p ++ q) x = if p.find? (fun r => decide (r.t = x)) = none then held q x else held p x := fun p q => by
  unfold held
  rw [List.find?_append]
  cases hp : p.find? (fun r => decide (r.t = x)) <;> simp
 unfold withR
 have htw : ∀ y : Int, ¬ y < t → (l.takeWhile (fun r => decide (r.t < t))).find? (fun r => decide (r.t = y)) = none := fun y hy => by
  rw [List.find?_eq_none]; intro r hr; have := mem_takeWhile_lt r hr; simp; omega
 have hfl : ∀ y : Int, ¬ t < y → (l.filter (fun r => decide (t < r.t))).find? (fun r => decide (r.t = y)) = none := fun y hy => by
  rw [List.find?_eq_none]; intro r hr; have := (List.mem_filter.1 hr).2; simp at this ⊢; omega
 have hmid : (if 0 < n then [(⟨t, n⟩ : Rf)] else []).find? (fun r => decide (r.t = x)) = if x = t ∧ 0 < n then some ⟨t, n⟩ else none := by
  by_cases h0 : 0 < n
  ·
   rw [if_pos h0]
   by_cases hx : x = t
   ·
    subst hx; simp [h0]
   ·
    rw [if_neg (fun e => hx e.1)]; simp; omega
  ·
   rw [if_neg h0, if_neg (fun e => h0 e.2)]; rfl
 by_cases hx : x = t
 ·
  subst hx
  rw [if_pos rfl, hfind, if_pos (htw x (by omega)), hfind, hmid]
  by_cases h0 : 0 < n
  ·
   have e1 : (if x = x ∧ 0 < n then some (⟨x, n⟩ : Rf) else none) ≠ none := by rw [if_pos ⟨rfl, h0⟩]; exact fun e => by cases e
   rw [if_neg e1, if_pos h0, held_one', if_pos rfl]
  ·
   have e1 : (if x = x ∧ 0 < n then some (⟨x, n⟩ : Rf) else none) = none := if_neg fun e => h0 e.2
   rw [if_pos e1]
   unfold held; rw [hfl x (by omega)]; simp; omega
 ·
  rw [if_neg hx]
  have hmid' : (if 0 < n then [(⟨t, n⟩ : Rf)] else []).find? (fun r => decide (r.t = x)) = none := by rw [hmid, if_neg (fun e => hx e.1)]
  by_cases hlt : x < t
  ·
   -- in the front
   have e1 : held l x = held (l.takeWhile (fun r => decide (r.t < t))) x := by
    clear hmid hmid' hfl htw hfind hn
    induction l with
    | nil => rfl
    | cons r l ih =>
     have h2 := List.pairwise_cons.1 (show Up (r.t :: keys l) from hu)
     rw [List.takeWhile_cons]
     by_cases h3 : r.t < t
     ·
      rw [if_pos (by simpa using h3)]
      have ih := ih h2.2
      unfold held at *
      rw [List.find?_cons, List.find?_cons]
      by_cases h4 : r.t = x
      ·
       simp [h4]
      ·
       simp [h4]; exact ih
     ·
      rw [if_neg (by simpa using h3)]
      unfold held
      have : (r :: l).find? (fun r => decide (r.t = x)) = none := by
       rw [List.find?_eq_none]; intro y hy
       rcases List.mem_cons.1 hy with rfl | hy
       ·
        simp; omega
       ·
        have := h2.1 y.t (List.mem_map_of_mem hy); simp; omega
      rw [this]; rfl
   rw [hfind]
   by_cases hn2 : (l.takeWhile (fun r => decide (r.t < t))).find? (fun r => decide (r.t = x)) = none
   ·
    rw [if_pos hn2, hfind, if_pos hmid', e1]
    unfold held; rw [hn2, hfl x (by omega)]
   ·
    rw [if_neg hn2, e1]
  ·
   rw [hfind, if_pos (htw x hlt), hfind, if_pos hmid']
   clear hmid hmid' htw hfl hfind
   unfold held
   congr 2
   rw [List.find?_filter]
   congr 1
   funext r
   by_cases h4 : r.t = x
   ·
    simp [h4]; omega
   ·
    simp [h4]
def delta (o : Op) (e : Int) (t : Int) : Int := if e = 0 ∧ o.t = t then (if o.kind = 1 then 1 else if o.kind = 2 then o.n else if o.kind = 3 then - o.n else 0) else 0
end Chk
end
section
namespace Chk
open Wire (enc dec)
structure Rdr where
 b : List UInt8
 e : Int
def num (s : Rdr) (lo hi : Int) : Int × Rdr :=
 if s.e ≠ 0 then (0, s) else if (dec s.b).2.2 ≠ 0 then (0, ⟨s.b, (dec s.b).2.2⟩) else if lo ≤ (dec s.b).1 ∧ (dec s.b).1 ≤ hi then ((dec s.b).1, ⟨s.b.drop (dec s.b).2.1, 0⟩) else (0, ⟨s.b, 6⟩)
def dgs (s : Rdr) : List UInt8 × Rdr :=
 if s.e ≠ 0 then (List.replicate 16 0, s) else if s.b.length < 16 then (List.replicate 16 0, ⟨s.b, 5⟩) else (s.b.take 16, ⟨s.b.drop 16, 0⟩)
def unit (s : Rdr) : Un × Rdr :=
 let a := num s 0 4095; let b := num a.2 0 63; let c := num b.2 0 31
 (⟨a.1, b.1, c.1⟩, c.2)
def refsN : Nat → List Rf → Int → Rdr → List Rf × Rdr
 | 0, acc, _, s => (acc, s)
 | k + 1, acc, t, s =>
  let a := num s (t + 1) 15; let b := num a.2 1 (most - total acc)
  refsN k (acc ++ [⟨a.1, b.1⟩]) a.1 b.2
def place (l : List Ck) (s : Rdr) : Bool × Un × Rdr :=
 let a := num s 0 1
 if a.1 = 1 then (true, z, a.2) else
  let u := unit a.2
  (false, u.1, if u.2.e = 0 ∧ (unitAt l u.1).isSome then ⟨u.2.b, 6⟩ else u.2)
def decC (l : List Ck) (last : Int) (s : Rdr) : Ck × Rdr :=
 let a := num s (last + 1) 65536; let d := dgs a.2; let p := num d.2 0 4294967295; let q := place l p.2; let n := num q.2.2 1 16; let r := refsN n.1.toNat [] (-1) n.2
 (⟨a.1, d.1, p.1, q.2.1, q.1, r.1⟩, r.2)
def decN : Nat → List Ck → Int → Rdr → List Ck × Rdr
 | 0, l, _, s => (l, s)
 | k + 1, l, last, s => if (decC l last s).2.e ≠ 0 then (l, (decC l last s).2) else decN k (l ++ [(decC l last s).1]) (decC l last s).1.id (decC l last s).2
end Chk
end
end Go.Proofs.YtfllkaeaanahmaaGreat
