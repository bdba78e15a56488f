/- The decoding of a table of chunks, in plain: what is decoded was encoded, and what is encoded is decoded. No program in sight. -/
import Derived.Test.YtcicfneekmbamaaChkPl
namespace Go.Proofs.Ytcicfneekmbamaa
set_option linter.unusedVariables false
set_option linter.unusedSimpArgs false
namespace Chk
open Wire (enc dec)
theorem dgs_ok {s s' : Rdr} {D : List UInt8} (h : dgs s = (D, s')) (he : s'.e = 0) : s.e = 0 ∧ D.length = 16 ∧ s.b = D ++ s'.b := by
  unfold dgs at h
  by_cases h0 : s.e = 0
  · rw [if_neg (fun e => e h0)] at h
    by_cases h1 : s.b.length < 16
    · rw [if_pos h1] at h
      have := (Prod.mk.inj h).2
      subst this; cases he
    · rw [if_neg h1] at h
      obtain ⟨rfl, rfl⟩ := Prod.mk.inj h
      exact ⟨h0, by rw [List.length_take]; omega, (List.take_append_drop 16 s.b).symm⟩
  · rw [if_pos h0] at h
    have := (Prod.mk.inj h).2
    subst this; exact absurd he h0
theorem dgs_enc {D r : List UInt8} (hD : D.length = 16) : dgs ⟨D ++ r, 0⟩ = (D, ⟨r, 0⟩) := by
  unfold dgs
  rw [if_neg (fun e => e rfl), if_neg (show ¬ (D ++ r).length < 16 by rw [List.length_append]; omega)]
  show ((D ++ r).take 16, (⟨(D ++ r).drop 16, 0⟩ : Rdr)) = _
  rw [← hD, List.take_left, List.drop_left]
theorem unit_ok {s s' : Rdr} {u : Un} (h : unit s = (u, s')) (he : s'.e = 0) : s.e = 0 ∧ valid u ∧ s.b = enc u.r ++ (enc u.g ++ (enc u.u ++ s'.b)) := by
  obtain ⟨x1, s1, h1⟩ : ∃ x s1, num s 0 4095 = (x, s1) := ⟨_, _, rfl⟩
  obtain ⟨x2, s2, h2⟩ : ∃ x s2, num s1 0 63 = (x, s2) := ⟨_, _, rfl⟩
  obtain ⟨x3, s3, h3⟩ : ∃ x s3, num s2 0 31 = (x, s3) := ⟨_, _, rfl⟩
  have e : unit s = (⟨x1, x2, x3⟩, s3) := by unfold unit; simp only [h1, h2, h3]
  rw [h] at e
  obtain ⟨rfl, rfl⟩ := Prod.mk.inj e
  obtain ⟨e2, a3, b3, c3⟩ := num_ok h3 he
  obtain ⟨e1, a2, b2, c2⟩ := num_ok h2 e2
  obtain ⟨e0, a1, b1, c1⟩ := num_ok h1 e1
  exact ⟨e0, ⟨⟨a1, by show x1 < 4096; omega⟩, ⟨a2, by show x2 < 64; omega⟩, ⟨a3, by show x3 < 32; omega⟩⟩, by rw [c1, c2, c3]⟩
theorem unit_enc {u : Un} (h : valid u) (r : List UInt8) : unit ⟨enc u.r ++ (enc u.g ++ (enc u.u ++ r)), 0⟩ = (u, ⟨r, 0⟩) := by
  obtain ⟨⟨a1, b1⟩, ⟨a2, b2⟩, ⟨a3, b3⟩⟩ := h
  unfold unit
  simp only [num_enc (x := u.r) (lo := 0) (hi := 4095) (by omega) (by omega) a1 (by omega), num_enc (x := u.g) (lo := 0) (hi := 63) (by omega) (by omega) a2 (by omega), num_enc (x := u.u) (lo := 0) (hi := 31) (by omega) (by omega) a3 (by omega)]
def encR (rs : List Rf) : List UInt8 := rs.flatMap fun r => enc r.t ++ enc r.n
theorem Up.snoc {l : List Int} {t x : Int} (h : Up l) (ht : ∀ a ∈ l, a ≤ t) (hx : t < x) : Up (l ++ [x]) := by
  unfold Up at *
  rw [List.pairwise_append]
  exact ⟨h, List.pairwise_singleton _ _, fun a ha b hb => by rw [List.mem_singleton] at hb; subst hb; have := ht a ha; omega⟩
theorem refsN_ok : ∀ (k : Nat) (acc : List Rf) (t : Int) (s : Rdr) (rs : List Rf) (s' : Rdr), refsN k acc t s = (rs, s') → s'.e = 0 → RefsOk acc → (∀ a ∈ keys acc, a ≤ t) → -1 ≤ t →
    s.e = 0 ∧ RefsOk rs ∧ ∃ new, rs = acc ++ new ∧ new.length = k ∧ s.b = encR new ++ s'.b
  | 0, acc, t, s, rs, s', h, he, ha, _, _ => by
    obtain ⟨rfl, rfl⟩ := Prod.mk.inj (show (acc, s) = (rs, s') from h)
    exact ⟨he, ha, [], by simp, rfl, by simp [encR]⟩
  | k + 1, acc, t, s, rs, s', h, he, ha, hk, ht => by
    obtain ⟨x, s1, h1⟩ : ∃ x s1, num s (t + 1) 15 = (x, s1) := ⟨_, _, rfl⟩
    obtain ⟨y, s2, h2⟩ : ∃ x s2, num s1 1 (most - total acc) = (x, s2) := ⟨_, _, rfl⟩
    have h' : refsN k (acc ++ [⟨x, y⟩]) x s2 = (rs, s') := by
      have : refsN (k + 1) acc t s = refsN k (acc ++ [⟨(num s (t + 1) 15).1, (num (num s (t + 1) 15).2 1 (most - total acc)).1⟩]) (num s (t + 1) 15).1 (num (num s (t + 1) 15).2 1 (most - total acc)).2 := rfl
      rw [h1] at this
      simp only [h2] at this
      rw [← this]; exact h
    by_cases he2 : s2.e = 0
    · obtain ⟨e1, a2, b2, c2⟩ := num_ok h2 he2
      obtain ⟨e0, a1, b1, c1⟩ := num_ok h1 e1
      have hk' : keys (acc ++ [⟨x, y⟩]) = keys acc ++ [x] := by simp [keys]
      have hacc : RefsOk (acc ++ [⟨x, y⟩]) := by
        refine ⟨by rw [hk']; exact ha.up.snoc hk (by omega), fun r hr => ?_, fun r hr => ?_, ?_⟩
        · rcases List.mem_append.1 hr with hr | hr
          · exact ha.ten r hr
          · rw [List.mem_singleton] at hr; subst hr; exact ⟨by show 0 ≤ x; omega, by show x < 16; omega⟩
        · rcases List.mem_append.1 hr with hr | hr
          · exact ha.pos r hr
          · rw [List.mem_singleton] at hr; subst hr; exact a2
        · rw [total_app]; show total acc + (y + 0) ≤ most; omega
      obtain ⟨_, h3, new, h4, h5, h6⟩ := refsN_ok k _ x s2 rs s' h' he hacc (fun a h => by
        rw [hk'] at h
        rcases List.mem_append.1 h with h | h
        · have := hk a h; omega
        · rw [List.mem_singleton] at h; omega) (by omega)
      refine ⟨e0, h3, ⟨x, y⟩ :: new, by rw [h4]; simp, by simp [h5], ?_⟩
      rw [c1, c2, h6]
      simp [encR]
    · have := refsN_err k (acc ++ [⟨x, y⟩]) x he2
      rw [h'] at this
      have this : s' = s2 := this
      rw [this] at he; exact absurd he he2
theorem refsN_enc : ∀ (new acc : List Rf) (t : Int) (r : List UInt8), RefsOk (acc ++ new) → (∀ a ∈ keys new, t < a) → -1 ≤ t → refsN new.length acc t ⟨encR new ++ r, 0⟩ = (acc ++ new, ⟨r, 0⟩)
  | [], acc, t, r, _, _, _ => by simp [refsN, encR]
  | ⟨x, y⟩ :: new, acc, t, r, h, hk, ht => by
    have hx := h.ten ⟨x, y⟩ (by simp)
    have hy := h.pos ⟨x, y⟩ (by simp)
    have hxt := hk x (by simp [keys])
    have htot := h.tot
    have hn : 0 ≤ total new := total_nonneg fun q hq => h.pos q (by simp [hq])
    rw [total_app, total] at htot
    have htot : total acc + (y + total new) ≤ 2147483647 := htot
    have hmost : most = 2147483647 := rfl
    have ha0 : 0 ≤ total acc := total_nonneg fun q hq => h.pos q (by simp [hq])
    have hx2 : x < 16 := hx.2
    have hx1 : (0 : Int) ≤ x := hx.1
    have hy' : (1 : Int) ≤ y := hy
    have e1 : encR (⟨x, y⟩ :: new) ++ r = enc x ++ (enc y ++ (encR new ++ r)) := by simp [encR]
    have e2 : refsN (new.length + 1) acc t ⟨enc x ++ (enc y ++ (encR new ++ r)), 0⟩ = refsN new.length (acc ++ [⟨x, y⟩]) x ⟨encR new ++ r, 0⟩ := by
      have : refsN (new.length + 1) acc t ⟨enc x ++ (enc y ++ (encR new ++ r)), 0⟩ = refsN new.length (acc ++ [⟨(num ⟨enc x ++ (enc y ++ (encR new ++ r)), 0⟩ (t + 1) 15).1, (num (num ⟨enc x ++ (enc y ++ (encR new ++ r)), 0⟩ (t + 1) 15).2 1 (most - total acc)).1⟩]) (num ⟨enc x ++ (enc y ++ (encR new ++ r)), 0⟩ (t + 1) 15).1 (num (num ⟨enc x ++ (enc y ++ (encR new ++ r)), 0⟩ (t + 1) 15).2 1 (most - total acc)).2 := rfl
      rw [this, num_enc (x := x) (by omega) (by omega) (by omega) (by omega)]
      simp only
      rw [num_enc (x := y) (by omega) (by omega) hy' (by omega)]
    rw [e1, List.length_cons, e2]
    have e3 : acc ++ ⟨x, y⟩ :: new = (acc ++ [⟨x, y⟩]) ++ new := by simp
    rw [e3]
    rw [e3] at h
    refine refsN_enc new (acc ++ [⟨x, y⟩]) x r h (fun a ha => ?_) (by omega)
    have hup := h.up
    have e4 : keys (acc ++ [⟨x, y⟩] ++ new) = keys acc ++ ([x] ++ keys new) := by simp [keys]
    rw [e4] at hup
    unfold Up at hup
    rw [List.pairwise_append] at hup
    have h2 := hup.2.1
    rw [List.pairwise_append] at h2
    exact h2.2.2 x (by simp) a ha
theorem place_ok {l : List Ck} {s s' : Rdr} {lo : Bool} {u : Un} (h : place l s = (lo, u, s')) (he : s'.e = 0) :
    s.e = 0 ∧ (lo = false → valid u ∧ unitAt l u = none) ∧ (lo = true → u = z) ∧ s.b = (if lo then enc 1 else enc 0 ++ (enc u.r ++ (enc u.g ++ enc u.u))) ++ s'.b := by
  obtain ⟨x1, s1, h1⟩ : ∃ x s1, num s 0 1 = (x, s1) := ⟨_, _, rfl⟩
  obtain ⟨u2, s2, h2⟩ : ∃ x s2, unit s1 = (x, s2) := ⟨_, _, rfl⟩
  have e : place l s = if x1 = 1 then (true, z, s1) else (false, u2, if s2.e = 0 ∧ (unitAt l u2).isSome then ⟨s2.b, 6⟩ else s2) := by
    unfold place; rw [h1]; simp only [h2]
  rw [h] at e
  by_cases hx : x1 = 1
  · rw [if_pos hx] at e
    injection e with e1 e2
    injection e2 with e2 e3
    subst e1 e2 e3
    obtain ⟨e0, a1, b1, c1⟩ := num_ok h1 he
    exact ⟨e0, (fun h => by cases h), fun _ => rfl, by rw [c1, hx]; rfl⟩
  · rw [if_neg hx] at e
    injection e with e1 e2
    injection e2 with e2 e3
    subst e1 e2
    by_cases hc : s2.e = 0 ∧ (unitAt l u).isSome
    · rw [if_pos hc] at e3; subst e3; cases he
    · rw [if_neg hc] at e3
      subst e3
      obtain ⟨e1, hv, c2⟩ := unit_ok h2 he
      obtain ⟨e0, a1, b1, c1⟩ := num_ok h1 e1
      have hx0 : x1 = 0 := by omega
      refine ⟨e0, fun _ => ⟨hv, ?_⟩, (fun h => by cases h), by rw [c1, c2, hx0]; simp⟩
      cases hu : unitAt l u with
      | none => rfl
      | some y => exact absurd ⟨he, by rw [hu]; rfl⟩ hc
theorem place_enc {l : List Ck} {lo : Bool} {u : Un} (h0 : lo = false → valid u ∧ unitAt l u = none) (h1 : lo = true → u = z) (r : List UInt8) :
    place l ⟨(if lo then enc 1 else enc 0 ++ (enc u.r ++ (enc u.g ++ enc u.u))) ++ r, 0⟩ = (lo, u, ⟨r, 0⟩) := by
  unfold place
  cases lo with
  | true =>
    rw [h1 rfl]
    simp only [if_true]
    rw [num_enc (x := 1) (by omega) (by omega) (by omega) (by omega)]
    simp
  | false =>
    obtain ⟨hv, hn⟩ := h0 rfl
    have e : (if false = true then enc 1 else enc 0 ++ (enc u.r ++ (enc u.g ++ enc u.u))) ++ r = enc 0 ++ (enc u.r ++ (enc u.g ++ (enc u.u ++ r))) := by simp
    rw [e, num_enc (x := 0) (by omega) (by omega) (by omega) (by omega)]
    simp only
    rw [if_neg (by decide), unit_enc hv]
    simp only
    rw [if_neg (by rw [hn]; simp)]
/-- a chunk behind those of a table -/
theorem Inv.snoc {l : List Ck} (h : Inv l) {c : Ck} {last : Int} (hl : ∀ x ∈ l, x.id ≤ last) (hid : last < c.id) (hc : CkOk c) (hun : c.lost = false → unitAt l c.at_ = none) : Inv (l ++ [c]) := by
  have hi : ids (l ++ [c]) = ids l ++ [c.id] := by simp
  refine ⟨by rw [hi]; exact h.up.snoc (fun a ha => by obtain ⟨x, hx, rfl⟩ := List.mem_map.1 ha; exact hl x hx) hid, fun x hx => ?_, fun i j a b hi hj ha hb hab => ?_⟩
  · rcases List.mem_append.1 hx with hx | hx
    · exact h.ok x hx
    · rw [List.mem_singleton] at hx; subst hx; exact hc
  · have key : ∀ (k : Nat) (x : Ck), (l ++ [c])[k]? = some x → (k < l.length ∧ l[k]? = some x) ∨ (k = l.length ∧ x = c) := fun k x hx => by
      rcases Nat.lt_or_ge k l.length with hk | hk
      · rw [List.getElem?_append_left hk] at hx; exact .inl ⟨hk, hx⟩
      · rw [List.getElem?_append_right hk] at hx
        rcases Nat.eq_or_lt_of_le hk with e | e
        · rw [show k - l.length = 0 by omega] at hx
          exact .inr ⟨e.symm, (Option.some.inj hx).symm⟩
        · rw [List.getElem?_eq_none (by simp; omega)] at hx; cases hx
    rcases key i a hi with ⟨h1, h2⟩ | ⟨h1, rfl⟩ <;> rcases key j b hj with ⟨h3, h4⟩ | ⟨h3, rfl⟩
    · exact h.un i j a b h2 h4 ha hb hab
    · exact absurd hab (unitAt_none.1 (hun hb) i a h2 ha)
    · exact absurd hab.symm (unitAt_none.1 (hun ha) j b h4 hb)
    · omega
theorem decC_ok {l : List Ck} {last : Int} {s s' : Rdr} {c : Ck} (h : decC l last s = (c, s')) (he : s'.e = 0) (h0 : 0 ≤ last) :
    s.e = 0 ∧ CkOk c ∧ last < c.id ∧ (c.lost = false → unitAt l c.at_ = none) ∧ s.b = encC c ++ s'.b := by
  obtain ⟨x1, s1, h1⟩ : ∃ x s1, num s (last + 1) 65536 = (x, s1) := ⟨_, _, rfl⟩
  obtain ⟨x2, s2, h2⟩ : ∃ x s2, dgs s1 = (x, s2) := ⟨_, _, rfl⟩
  obtain ⟨x3, s3, h3⟩ : ∃ x s3, num s2 0 4294967295 = (x, s3) := ⟨_, _, rfl⟩
  obtain ⟨lo, u, s4, h4⟩ : ∃ lo u s4, place l s3 = (lo, u, s4) := ⟨_, _, _, rfl⟩
  obtain ⟨x5, s5, h5⟩ : ∃ x s5, num s4 1 16 = (x, s5) := ⟨_, _, rfl⟩
  obtain ⟨rs, s6, h6⟩ : ∃ x s6, refsN x5.toNat [] (-1) s5 = (x, s6) := ⟨_, _, rfl⟩
  have e : decC l last s = (⟨x1, x2, x3, u, lo, rs⟩, s6) := by unfold decC; simp only [h1, h2, h3, h4, h5, h6]
  rw [h] at e
  obtain ⟨rfl, rfl⟩ := Prod.mk.inj e
  obtain ⟨e5, hr, new, hn1, hn2, c6⟩ := refsN_ok _ _ _ _ _ _ h6 he ⟨List.Pairwise.nil, by simp, by simp, by simp [total, most]⟩ (by simp [keys]) (by omega)
  obtain ⟨e4, a5, b5, c5⟩ := num_ok h5 e5
  obtain ⟨e3, hu, hz, c4⟩ := place_ok h4 e4
  obtain ⟨e2, a3, b3, c3⟩ := num_ok h3 e3
  obtain ⟨e1, hd, c2⟩ := dgs_ok h2 e2
  obtain ⟨e0, a1, b1, c1⟩ := num_ok h1 e1
  simp only [List.nil_append] at hn1
  subst hn1
  have hlen : ((rs.length : Nat) : Int) = x5 := by omega
  refine ⟨e0, ⟨by show 1 ≤ x1; omega, b1, hd, ⟨a3, by show x3 < 4294967296; omega⟩, fun h => (hu h).1, hz, hr, fun h => by rw [show rs = [] from h] at hlen; simp at hlen; omega⟩, by show last < x1; omega, fun h => (hu h).2, ?_⟩
  rw [c1, c2, c3, c4, c5, c6]
  unfold encC encR
  simp only [hlen, List.append_assoc]
theorem decC_enc {l : List Ck} {last : Int} {c : Ck} (hc : CkOk c) (h0 : 0 ≤ last) (hl : last < c.id) (hu : c.lost = false → unitAt l c.at_ = none) (r : List UInt8) : decC l last ⟨encC c ++ r, 0⟩ = (c, ⟨r, 0⟩) := by
  have hp := hc.pr
  have hp1 := hp.1
  have hp2 := hp.2
  have hid := hc.id2
  have hrl : c.refs.length ≤ 16 := by
    have h1 := hc.refs.up.pos_ge (b := -1) (fun a ha => by obtain ⟨x, hx, rfl⟩ := List.mem_map.1 ha; have := (hc.refs.ten x hx).1; omega)
    rcases Nat.lt_or_ge 16 c.refs.length with h2 | h2
    · have h3 : 16 < (keys c.refs).length := by simpa [keys] using h2
      have h4 := h1 16 _ (List.getElem?_eq_getElem h3)
      have h5 : (keys c.refs)[16] ∈ keys c.refs := List.getElem_mem h3
      obtain ⟨x, hx, hxe⟩ := List.mem_map.1 h5
      have := (hc.refs.ten x hx).2
      rw [hxe] at this
      omega
    · exact h2
  have hr1 : 1 ≤ c.refs.length := by
    rcases Nat.eq_zero_or_pos c.refs.length with h | h
    · exact absurd (List.eq_nil_of_length_eq_zero h) hc.some
    · exact h
  have hpl := place_enc (l := l) (lo := c.lost) (u := c.at_) (fun h => ⟨hc.un h, hu h⟩) hc.lo (enc c.refs.length ++ (encR c.refs ++ r))
  have hrn := refsN_enc c.refs [] (-1) r (by simpa using hc.refs) (fun a ha => by obtain ⟨x, hx, rfl⟩ := List.mem_map.1 ha; have := (hc.refs.ten x hx).1; omega) (by omega)
  have e : encC c ++ r = enc c.id ++ (c.dg ++ (enc c.pr ++ ((if c.lost then enc 1 else enc 0 ++ (enc c.at_.r ++ (enc c.at_.g ++ enc c.at_.u))) ++ (enc c.refs.length ++ (encR c.refs ++ r))))) := by
    unfold encC encR; simp only [List.append_assoc]
  rw [e]
  unfold decC
  rw [num_enc (x := c.id) (by omega) (by omega) (by omega) hid]
  simp only
  rw [dgs_enc hc.dg]
  simp only
  rw [num_enc (x := c.pr) (by omega) (by omega) hp1 (by omega)]
  simp only
  rw [hpl]
  simp only
  rw [num_enc (x := (c.refs.length : Int)) (by omega) (by omega) (by omega) (by omega)]
  simp only
  rw [Int.toNat_natCast, hrn]
  simp
theorem decN_ok : ∀ (k : Nat) (l : List Ck) (last : Int) (s : Rdr) (l' : List Ck) (s' : Rdr), decN k l last s = (l', s') → s'.e = 0 → Inv l → (∀ x ∈ l, x.id ≤ last) → 0 ≤ last →
    s.e = 0 ∧ Inv l' ∧ ∃ new, l' = l ++ new ∧ new.length = k ∧ s.b = new.flatMap encC ++ s'.b
  | 0, l, last, s, l', s', h, he, hi, _, _ => by
    obtain ⟨rfl, rfl⟩ := Prod.mk.inj (show (l, s) = (l', s') from h)
    exact ⟨he, hi, [], by simp, rfl, by simp⟩
  | k + 1, l, last, s, l', s', h, he, hi, hl, h0 => by
    obtain ⟨c, s1, h1⟩ : ∃ c s1, decC l last s = (c, s1) := ⟨_, _, rfl⟩
    have h' : (if s1.e ≠ 0 then (l, s1) else decN k (l ++ [c]) c.id s1) = (l', s') := by
      have : decN (k + 1) l last s = if (decC l last s).2.e ≠ 0 then (l, (decC l last s).2) else decN k (l ++ [(decC l last s).1]) (decC l last s).1.id (decC l last s).2 := rfl
      rw [h1] at this
      rw [← h, this]
    by_cases he1 : s1.e = 0
    · rw [if_neg (fun h => h he1)] at h'
      obtain ⟨e0, hc, hid, hun, c1⟩ := decC_ok h1 he1 h0
      obtain ⟨_, hi', new, h3, h4, h5⟩ := decN_ok k _ _ _ _ _ h' he (hi.snoc hl hid hc hun) (fun x hx => by
        rcases List.mem_append.1 hx with hx | hx
        · have := hl x hx; omega
        · rw [List.mem_singleton] at hx; subst hx; exact Int.le_refl _) (by omega)
      exact ⟨e0, hi', c :: new, by rw [h3]; simp, by simp [h4], by rw [c1, h5]; simp⟩
    · rw [if_pos he1] at h'
      have := (Prod.mk.inj h').2
      subst this; exact absurd he he1
theorem decN_enc : ∀ (new l : List Ck) (last : Int) (r : List UInt8), Inv (l ++ new) → (∀ c ∈ new, last < c.id) → 0 ≤ last → decN new.length l last ⟨new.flatMap encC ++ r, 0⟩ = (l ++ new, ⟨r, 0⟩)
  | [], l, last, r, _, _, _ => by simp [decN]
  | c :: new, l, last, r, h, hl, h0 => by
    have hc : CkOk c := h.ok c (by simp)
    have hun : c.lost = false → unitAt l c.at_ = none := fun hlo => unitAt_none.2 fun k x hx hxl hxa => by
      have hk : k < l.length := (List.getElem?_eq_some_iff.1 hx).1
      have := h.un k l.length x c (by rw [List.getElem?_append_left hk]; exact hx) (by simp) hxl hlo hxa
      omega
    have e1 : (c :: new).flatMap encC ++ r = encC c ++ (new.flatMap encC ++ r) := by simp
    have e2 : decN (new.length + 1) l last ⟨encC c ++ (new.flatMap encC ++ r), 0⟩ = decN new.length (l ++ [c]) c.id ⟨new.flatMap encC ++ r, 0⟩ := by
      have : ∀ s, decN (new.length + 1) l last s = if (decC l last s).2.e ≠ 0 then (l, (decC l last s).2) else decN new.length (l ++ [(decC l last s).1]) (decC l last s).1.id (decC l last s).2 := fun _ => rfl
      rw [this, decC_enc hc h0 (hl c (by simp)) hun]
      simp
    have e3 : l ++ c :: new = (l ++ [c]) ++ new := by simp
    rw [e1, List.length_cons, e2, e3]
    rw [e3] at h
    refine decN_enc new (l ++ [c]) c.id r h (fun x hx => ?_) (by have := hc.id1; omega)
    have hup := h.up
    have e4 : ids (l ++ [c] ++ new) = ids l ++ ([c.id] ++ ids new) := by simp
    rw [e4] at hup
    unfold Up at hup
    rw [List.pairwise_append] at hup
    have h2 := hup.2.1
    rw [List.pairwise_append] at h2
    exact h2.2.2 c.id (by simp) x.id (List.mem_map_of_mem hx)
theorem decT_eq {b : List UInt8} {n : Int} {s1 s2 : Rdr} {l : List Ck} (h1 : num ⟨b, 0⟩ 0 65536 = (n, s1)) (h2 : decN n.toNat [] 0 s1 = (l, s2)) : decT b = if s2.e ≠ 0 then .inr s2.e else if s2.b = [] then .inl l else .inr 6 := by
  unfold decT; simp only [h1, h2]
theorem decT_ok {b : List UInt8} {l : List Ck} (h : decT b = .inl l) : Inv l ∧ encT l = b := by
  obtain ⟨n, s1, h1⟩ : ∃ x s1, num ⟨b, 0⟩ 0 65536 = (x, s1) := ⟨_, _, rfl⟩
  obtain ⟨l', s2, h2⟩ : ∃ x s2, decN n.toNat [] 0 s1 = (x, s2) := ⟨_, _, rfl⟩
  rw [decT_eq h1 h2] at h
  by_cases he : s2.e = 0
  · rw [if_neg (fun h => h he)] at h
    by_cases hb : s2.b = []
    · rw [if_pos hb] at h
      injection h with h
      subst h
      obtain ⟨e1, hi, new, h3, h4, h5⟩ := decN_ok _ _ _ _ _ _ h2 he Inv.nil (by simp) (by omega)
      obtain ⟨_, a1, b1, c1⟩ := num_ok h1 e1
      simp only [List.nil_append] at h3
      subst h3
      refine ⟨hi, ?_⟩
      unfold encT
      have hn : ((l'.length : Nat) : Int) = n := by omega
      have c1 : b = enc n ++ s1.b := c1
      rw [hn, c1, h5, hb]; simp
    · rw [if_neg hb] at h; cases h
  · rw [if_pos he] at h; cases h
theorem Inv.len {l : List Ck} (h : Inv l) : l.length ≤ 65536 := by
  rcases Nat.eq_zero_or_pos l.length with h0 | h0
  · omega
  · have hk : l.length - 1 < l.length := by omega
    have h1 := h.up.pos_ge (b := 0) (fun x hx => by obtain ⟨c, hc, rfl⟩ := List.mem_map.1 hx; have := (h.ok c hc).id1; omega) (l.length - 1) (Chk.nth l (l.length - 1)).id (by rw [List.getElem?_map, Chk.nth_get hk]; rfl)
    have h2 := (h.nth hk).id2
    omega
theorem decT_enc {l : List Ck} (h : Inv l) : decT (encT l) = .inl l := by
  have hl := h.len
  have h1 : num ⟨encT l, 0⟩ 0 65536 = ((l.length : Int), ⟨l.flatMap encC, 0⟩) := by
    unfold encT
    exact num_enc (x := (l.length : Int)) (by omega) (by omega) (by omega) (by omega) _
  have h2 : decN ((l.length : Int)).toNat [] 0 ⟨l.flatMap encC, 0⟩ = (l, ⟨[], 0⟩) := by
    rw [Int.toNat_natCast]
    have := decN_enc l [] 0 [] (by simpa using h) (fun c hc => by have := (h.ok c hc).id1; omega) (by omega)
    simpa using this
  rw [decT_eq h1 h2, if_neg (fun h => h rfl), if_pos rfl]
theorem decT_err {b : List UInt8} {e : Int} (h : decT b = .inr e) : e ≠ 0 := by
  obtain ⟨n, s1, h1⟩ : ∃ x s1, num ⟨b, 0⟩ 0 65536 = (x, s1) := ⟨_, _, rfl⟩
  obtain ⟨l', s2, h2⟩ : ∃ x s2, decN n.toNat [] 0 s1 = (x, s2) := ⟨_, _, rfl⟩
  rw [decT_eq h1 h2] at h
  by_cases he : s2.e = 0
  · rw [if_neg (fun h => h he)] at h
    by_cases hb : s2.b = []
    · rw [if_pos hb] at h; cases h
    · rw [if_neg hb] at h; injection h with h; omega
  · rw [if_pos he] at h; injection h with h; omega
end Chk
end Go.Proofs.Ytcicfneekmbamaa
