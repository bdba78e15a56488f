/- The index's encoding and its decoder on lists of bytes: no program in sight. -/
import Derived.Test.YtnehbcopbioenaaIPlayP
import Derived.Test.YtnehbcopbioenaaWirePlain
namespace Go.Proofs.Ytnehbcopbioenaa
set_option linter.unusedVariables false
set_option linter.unusedSimpArgs false

/-- one entry's encoding; an index's -/
def encE (e : Int × Int) : List UInt8 := Wire.enc e.1 ++ Wire.enc e.2
def encX (cap : Int) (L : List (Int × Int)) : List UInt8 := Wire.enc cap ++ Wire.enc L.length ++ L.flatMap encE
/-- a reader reads a number from lo to hi: the number, the bytes that are left, the first error -/
def num (b : List UInt8) (e lo hi : Int) : Int × List UInt8 × Int :=
  if e = 0 then
    (if (Wire.dec b).2.2 = 0 then (if (Wire.dec b).1 < lo ∨ hi < (Wire.dec b).1 then (0, b, 6) else ((Wire.dec b).1, b.drop (Wire.dec b).2.1, 0)) else (0, b, (Wire.dec b).2.2))
  else (0, b, e)
/-- a state of the decoder: the bytes, the error, the entries -/
abbrev DSt := List UInt8 × Int × List (Int × Int)
def dstep (s : DSt) : DSt :=
  let r1 := num s.1 s.2.1 0 4294967295
  let r2 := num r1.2.1 r1.2.2 1 65536
  (r2.2.1, (if r2.2.2 = 0 ∧ r2.1 ∈ s.2.2.map (·.2) then 6 else r2.2.2), s.2.2 ++ [(r1.1, r2.1)])
def dloop : Nat → DSt → DSt
  | 0, s => s
  | k + 1, s => if s.2.1 = 0 then dloop k (dstep s) else s
/-- the error, the capacity, the entries -/
def decX (b : List UInt8) : Int × Int × List (Int × Int) :=
  let r1 := num b 0 1 4096
  let r2 := num r1.2.1 r1.2.2 0 r1.1
  let s := dloop r2.1.toNat (r2.2.1, r2.2.2, [])
  ((if s.2.1 = 0 ∧ s.1 ≠ [] then 6 else s.2.1), r1.1, s.2.2)

theorem num_stop {b : List UInt8} {e lo hi : Int} (he : e ≠ 0) : num b e lo hi = (0, b, e) := by unfold num; rw [if_neg he]
theorem num_ok {b : List UInt8} {lo hi : Int} (h : (num b 0 lo hi).2.2 = 0) : ∃ (n : Int) (u : Nat), Wire.dec b = (n, u, 0) ∧ lo ≤ n ∧ n ≤ hi ∧ num b 0 lo hi = (n, b.drop u, 0) := by
  unfold num at h ⊢
  rw [if_pos rfl] at h ⊢
  by_cases h0 : (Wire.dec b).2.2 = 0
  · rw [if_pos h0] at h ⊢
    by_cases h1 : (Wire.dec b).1 < lo ∨ hi < (Wire.dec b).1
    · rw [if_pos h1] at h; simp at h
    · rw [if_neg h1]
      exact ⟨_, _, by rw [← h0], by omega, by omega, rfl⟩
  · rw [if_neg h0] at h; exact absurd h h0
theorem num_bad {b : List UInt8} {lo hi : Int} (h : (num b 0 lo hi).2.2 ≠ 0) : num b 0 lo hi = (0, b, (num b 0 lo hi).2.2) ∧ ((num b 0 lo hi).2.2 = 5 ∨ (num b 0 lo hi).2.2 = 6) := by
  unfold num at h ⊢
  rw [if_pos rfl] at h ⊢
  by_cases h0 : (Wire.dec b).2.2 = 0
  · rw [if_pos h0] at h ⊢
    by_cases h1 : (Wire.dec b).1 < lo ∨ hi < (Wire.dec b).1
    · rw [if_pos h1]; exact ⟨rfl, .inr rfl⟩
    · rw [if_neg h1] at h; exact absurd rfl h
  · rw [if_neg h0]
    rcases Wire.dec_err (show Wire.dec b = ((Wire.dec b).1, (Wire.dec b).2.1, (Wire.dec b).2.2) from rfl) with h1 | h1
    · exact absurd h1 h0
    · exact ⟨rfl, h1.1⟩
def IsErr (e : Int) : Prop := e = 0 ∨ e = 5 ∨ e = 6
/-- what a number comes to, whatever the bytes -/
theorem num_any {b : List UInt8} {e lo hi : Int} (he : IsErr e) : IsErr (num b e lo hi).2.2 ∧ (num b e lo hi).2.1.length ≤ b.length ∧ ((num b e lo hi).2.2 = 0 → lo ≤ (num b e lo hi).1 ∧ (num b e lo hi).1 ≤ hi) ∧ ((num b e lo hi).2.2 ≠ 0 → (num b e lo hi).1 = 0) := by
  by_cases h0 : e = 0
  · subst h0
    by_cases h : (num b 0 lo hi).2.2 = 0
    · obtain ⟨n, u, h1, h2, h3, h4⟩ := num_ok h
      rw [h4]
      exact ⟨.inl rfl, by simp, fun _ => ⟨h2, h3⟩, fun h => absurd rfl h⟩
    · obtain ⟨h1, h2⟩ := num_bad h
      refine ⟨.inr h2, by rw [h1]; exact Nat.le_refl _, fun h3 => absurd h3 h, fun _ => by rw [h1]⟩
  · rw [num_stop h0]
    exact ⟨he, Nat.le_refl _, fun h => absurd h h0, fun _ => rfl⟩
theorem num_enc {n lo hi : Int} (h1 : lo ≤ n) (h2 : n ≤ hi) (h3 : -9223372036854775808 ≤ n) (h4 : n ≤ 9223372036854775807) (r : List UInt8) : num (Wire.enc n ++ r) 0 lo hi = (n, r, 0) := by
  unfold num
  rw [if_pos rfl, Wire.dec_enc h3 h4 r]
  simp only [if_true]
  rw [if_neg (by omega)]
  simp
theorem dstep_enc {e : Int × Int} {l : List (Int × Int)} (hp : 0 ≤ e.1 ∧ e.1 ≤ 4294967295) (hc : 1 ≤ e.2 ∧ e.2 ≤ 65536) (hn : e.2 ∉ l.map (·.2)) (r : List UInt8) : dstep (encE e ++ r, 0, l) = (r, 0, l ++ [e]) := by
  unfold dstep encE
  simp only [List.append_assoc]
  rw [num_enc hp.1 hp.2 (by omega) (by omega)]
  simp only []
  rw [num_enc hc.1 hc.2 (by omega) (by omega)]
  simp only [true_and]
  rw [if_neg hn]
theorem dloop_enc {L : List (Int × Int)} : ∀ {l : List (Int × Int)} (_ : ((l ++ L).map (·.2)).Nodup) (_ : ∀ e ∈ L, 1 ≤ e.2 ∧ e.2 ≤ 65536) (_ : ∀ e ∈ L, 0 ≤ e.1 ∧ e.1 ≤ 4294967295) (r : List UInt8), dloop L.length (L.flatMap encE ++ r, 0, l) = (r, 0, l ++ L) := by
  induction L with
  | nil => intro l _ _ _ r; simp [dloop]
  | cons e L ih =>
    intro l hn hc hp r
    have hm : e.2 ∉ l.map (·.2) := by
      rw [List.map_append, List.nodup_append] at hn
      exact fun h => hn.2.2 _ h e.2 (by simp) rfl
    rw [List.length_cons, dloop, if_pos rfl, List.flatMap_cons, List.append_assoc, dstep_enc (hp e (by simp)) (hc e (by simp)) hm]
    rw [ih (by simpa using hn) (fun x hx => hc x (by simp [hx])) (fun x hx => hp x (by simp [hx]))]
    simp
theorem decX_enc {cap : Int} {L : List (Int × Int)} (h1 : 1 ≤ cap) (h2 : cap ≤ 4096) (h : Inv cap L) : decX (encX cap L) = (0, cap, L) := by
  have hl := h.len
  unfold decX encX
  simp only [List.append_assoc]
  rw [num_enc h1 h2 (by omega) (by omega)]
  simp only []
  rw [num_enc (by omega) hl (by omega) (by omega)]
  simp only [Int.toNat_natCast]
  have := dloop_enc (L := L) (l := []) (by simpa using h.good.1) h.chunk h.print []
  rw [List.append_nil] at this
  rw [this]
  simp
theorem dloop_stop {k : Nat} {s : DSt} (h : s.2.1 ≠ 0) : dloop k s = s := by cases k <;> simp [dloop, h]
theorem dstep_ok {b : List UInt8} {l : List (Int × Int)} (h : (dstep (b, 0, l)).2.1 = 0) : ∃ (e : Int × Int) (b' : List UInt8), b = encE e ++ b' ∧ 1 ≤ e.2 ∧ e.2 ≤ 65536 ∧ 0 ≤ e.1 ∧ e.1 ≤ 4294967295 ∧ e.2 ∉ l.map (·.2) ∧ dstep (b, 0, l) = (b', 0, l ++ [e]) := by
  unfold dstep at h ⊢
  simp only at h ⊢
  by_cases h1 : (num b 0 0 4294967295).2.2 = 0
  · obtain ⟨n, u, d1, l1, u1, e1⟩ := num_ok h1
    rw [e1] at h ⊢
    simp only at h ⊢
    by_cases h2 : (num (b.drop u) 0 1 65536).2.2 = 0
    · obtain ⟨n2, u2, d2, l2, hu2, e2⟩ := num_ok h2
      rw [e2] at h ⊢
      simp only [true_and] at h ⊢
      by_cases hm : n2 ∈ l.map (·.2)
      · rw [if_pos hm] at h; simp at h
      · rw [if_neg hm]
        obtain ⟨_, _, _, _, _, t1⟩ := Wire.dec_ok d1
        obtain ⟨_, _, _, _, _, t2⟩ := Wire.dec_ok d2
        refine ⟨(n, n2), (b.drop u).drop u2, ?_, l2, hu2, l1, u1, hm, rfl⟩
        show b = (Wire.enc n ++ Wire.enc n2) ++ _
        rw [← t1, ← t2, List.append_assoc, List.take_append_drop, List.take_append_drop]
    · exfalso
      rw [if_neg (fun h => h2 h.1)] at h
      exact h2 h
  · obtain ⟨e1, _⟩ := num_bad h1
    exfalso
    rw [e1] at h
    simp only at h
    rw [num_stop h1] at h
    simp only at h
    rw [if_neg (fun h => h1 h.1)] at h
    exact h1 h
theorem dloop_ok {k : Nat} : ∀ {b b' : List UInt8} {e : Int} {l l' : List (Int × Int)} (_ : dloop k (b, e, l) = (b', 0, l')) (_ : (l.map (·.2)).Nodup), e = 0 ∧ ∃ L, l' = l ++ L ∧ L.length = k ∧ b = L.flatMap encE ++ b' ∧ (∀ x ∈ L, 1 ≤ x.2 ∧ x.2 ≤ 65536) ∧ (∀ x ∈ L, 0 ≤ x.1 ∧ x.1 ≤ 4294967295) ∧ (l'.map (·.2)).Nodup := by
  induction k with
  | zero =>
    intro b b' e l l' h hn
    simp only [dloop, Prod.mk.injEq] at h
    obtain ⟨rfl, rfl, rfl⟩ := h
    exact ⟨rfl, [], by simp, rfl, by simp, by simp, by simp, hn⟩
  | succ k ih =>
    intro b b' e l l' h hn
    by_cases he : e = 0
    · subst he
      rw [dloop, if_pos rfl] at h
      by_cases hd : (dstep (b, 0, l)).2.1 = 0
      · obtain ⟨x, b1, rfl, c1, c2, p1, p2, hm, hs⟩ := dstep_ok hd
        rw [hs] at h
        have hn1 : ((l ++ [x]).map (·.2)).Nodup := by
          rw [List.map_append, List.nodup_append]
          refine ⟨hn, by simp, ?_⟩
          intro a ha c hc
          simp only [List.map_cons, List.map_nil, List.mem_singleton] at hc
          rintro rfl
          exact hm (hc ▸ ha)
        obtain ⟨_, L, rfl, hl, rfl, q1, q2, q3⟩ := ih h hn1
        refine ⟨rfl, x :: L, by simp, by simp [hl], by simp, ?_, ?_, by simpa using q3⟩
        · intro y hy
          rcases List.mem_cons.1 hy with h0 | h0
          · rw [h0]; exact ⟨c1, c2⟩
          · exact q1 y h0
        · intro y hy
          rcases List.mem_cons.1 hy with h0 | h0
          · rw [h0]; exact ⟨p1, p2⟩
          · exact q2 y h0
      · rw [dloop_stop hd] at h
        rw [h] at hd
        exact absurd rfl hd
    · rw [dloop_stop he] at h
      simp only [Prod.mk.injEq] at h
      exact absurd h.2.1 he
theorem decX_ok {b : List UInt8} {cap : Int} {L : List (Int × Int)} (h : decX b = (0, cap, L)) : b = encX cap L ∧ 1 ≤ cap ∧ cap ≤ 4096 ∧ Inv cap L := by
  unfold decX at h
  simp only at h
  simp only [Prod.mk.injEq] at h
  obtain ⟨h1, h2, h3⟩ := h
  by_cases e1 : (num b 0 1 4096).2.2 = 0
  · obtain ⟨n, u, d1, l1, u1, q1⟩ := num_ok e1
    rw [q1] at h1 h2 h3
    simp only at h1 h2 h3
    subst h2
    by_cases e2 : (num (b.drop u) 0 0 n).2.2 = 0
    · obtain ⟨m, u2, d2, l2, hu2, q2⟩ := num_ok e2
      rw [q2] at h1 h3
      simp only at h1 h3
      obtain ⟨s, hs⟩ : ∃ s, dloop m.toNat ((b.drop u).drop u2, 0, []) = s := ⟨_, rfl⟩
      rw [hs] at h1 h3
      obtain ⟨b', e', l'⟩ := s
      simp only at h1 h3
      subst h3
      by_cases e3 : e' = 0
      · subst e3
        have hb : b' = [] := by
          apply Decidable.byContradiction
          intro hb
          rw [if_pos ⟨rfl, hb⟩] at h1
          simp at h1
        subst hb
        obtain ⟨_, L, hL, hl, hbb, q1, q2, q3⟩ := dloop_ok hs (by simp)
        simp only [List.nil_append] at hL
        subst hL
        obtain ⟨_, _, _, _, _, t1⟩ := Wire.dec_ok d1
        obtain ⟨_, _, _, _, _, t2⟩ := Wire.dec_ok d2
        have hlen : (l'.length : Int) = m := by omega
        refine ⟨?_, l1, u1, ⟨⟨q3, fun e he => by have := q1 e he; omega⟩, by omega, q1, q2⟩⟩
        unfold encX
        rw [hlen, ← t1, ← t2, List.append_assoc]
        rw [List.append_nil] at hbb
        rw [← hbb, List.take_append_drop, List.take_append_drop]
      · rw [if_neg (fun h => e3 h.1)] at h1
        exact absurd h1 e3
    · exfalso
      obtain ⟨q2, _⟩ := num_bad e2
      rw [q2] at h1
      simp only at h1
      rw [dloop_stop (by exact e2)] at h1
      simp only at h1
      rw [if_neg (fun h => e2 h.1)] at h1
      exact e2 h1
  · exfalso
    obtain ⟨q1, _⟩ := num_bad e1
    rw [q1] at h1
    simp only at h1
    rw [num_stop e1] at h1
    simp only at h1
    rw [dloop_stop (by exact e1)] at h1
    simp only at h1
    rw [if_neg (fun h => e1 h.1)] at h1
    exact e1 h1
theorem encX_len {cap : Int} {L : List (Int × Int)} : (encX cap L).length ≤ 18 + 18 * L.length := by
  have h1 := Wire.enc_length_le cap
  have h2 := Wire.enc_length_le L.length
  have h3 : ∀ L : List (Int × Int), (L.flatMap encE).length ≤ 18 * L.length := by
    intro L
    induction L with
    | nil => simp
    | cons e L ih =>
      have a1 := Wire.enc_length_le e.1
      have a2 := Wire.enc_length_le e.2
      simp only [List.flatMap_cons, List.length_append, encE, List.length_cons]
      omega
  have h4 := h3 L
  unfold encX
  simp only [List.length_append]
  omega
end Go.Proofs.Ytnehbcopbioenaa
