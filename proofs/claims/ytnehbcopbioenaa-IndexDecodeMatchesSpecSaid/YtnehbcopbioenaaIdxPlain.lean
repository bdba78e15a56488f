/- The index as plain data: a state of links, the list of entries that it stands for, and what join, drop, add and put do to both. No program in sight. -/
namespace Go.Proofs.Ytnehbcopbioenaa
set_option linter.unusedVariables false
set_option linter.unusedSimpArgs false

/-- an index: its capacity, its links (the print, the chunk before, the chunk after), their number, the first and the last chunk -/
structure ISt where
  cap : Int
  M : Int → Option (Int × Int × Int)
  n : Nat
  f : Int
  l : Int
def ISt.join1 (s : ISt) (b a : Int) : ISt :=
  match s.M b with
  | some v => { s with M := fun x => if x = b then some (v.1, v.2.1, a) else s.M x }
  | none => { s with f := a }
def ISt.join2 (s : ISt) (b a : Int) : ISt :=
  match s.M a with
  | some v => { s with M := fun x => if x = a then some (v.1, b, v.2.2) else s.M x }
  | none => { s with l := b }
def ISt.join (s : ISt) (b a : Int) : ISt := (s.join1 b a).join2 b a
def ISt.drop (s : ISt) (c : Int) : ISt :=
  match s.M c with
  | some v => { s.join v.2.1 v.2.2 with M := fun x => if x = c then none else (s.join v.2.1 v.2.2).M x, n := if ((s.join v.2.1 v.2.2).M c).isSome then (s.join v.2.1 v.2.2).n - 1 else (s.join v.2.1 v.2.2).n }
  | none => s
/-- the entry of a new chunk, at the head of the links -/
def ISt.add (s : ISt) (p c : Int) : ISt :=
  (({ s with M := fun x => if x = c then some (p, 0, 0) else s.M x, n := if (s.M c).isSome then s.n else s.n + 1 } : ISt).join c s.f).join 0 c
/-- Put of a valid chunk: the state and the chunk that is reported -/
def ISt.put (s : ISt) (p c : Int) : ISt × Int :=
  if (s.M c).isSome = false ∧ s.n = s.cap then (((s.drop c).drop (s.drop c).l).add p c, (s.drop c).l) else ((s.drop c).add p c, 0)

/-! An entry is a pair: the print, the chunk. -/
def hd (nxt : Int) : List (Int × Int) → Int
  | [] => nxt
  | e :: _ => e.2
def lst (prev : Int) : List (Int × Int) → Int
  | [] => prev
  | e :: L => lst e.2 L
def seg (prev nxt : Int) : List (Int × Int) → Int → Option (Int × Int × Int)
  | [], _ => none
  | e :: L, x => if x = e.2 then some (e.1, prev, hd nxt L) else seg e.2 nxt L x

theorem hd_append (n : Int) (A B : List (Int × Int)) : hd n (A ++ B) = hd (hd n B) A := by cases A <;> rfl
theorem lst_append (p : Int) (A B : List (Int × Int)) : lst p (A ++ B) = lst (lst p A) B := by
  induction A generalizing p with
  | nil => rfl
  | cons e A ih => exact ih e.2
theorem seg_append (p n : Int) (A B : List (Int × Int)) (x : Int) : seg p n (A ++ B) x = (seg p (hd n B) A x).or (seg (lst p A) n B x) := by
  induction A generalizing p with
  | nil => rfl
  | cons e A ih =>
    simp only [List.cons_append, seg, lst]
    split
    · rw [hd_append]; rfl
    · exact ih e.2
theorem seg_none {p n : Int} {L : List (Int × Int)} {x : Int} : seg p n L x = none ↔ x ∉ L.map (·.2) := by
  induction L generalizing p with
  | nil => simp [seg]
  | cons e L ih =>
    simp only [seg, List.map_cons, List.mem_cons]
    split
    · next h => simp [h]
    · next h => rw [ih]; simp [h]
theorem lst_mem {p : Int} {L : List (Int × Int)} (h : L ≠ []) : lst p L ∈ L.map (·.2) := by
  induction L generalizing p with
  | nil => exact absurd rfl h
  | cons e L ih =>
    cases L with
    | nil => simp [lst]
    | cons e' L => simp only [lst, List.map_cons]; exact List.mem_cons_of_mem _ (ih (p := e.2) (by simp))
/-- what the chunk after the last one is, shows at the last one alone -/
theorem seg_last {p n n' : Int} {L : List (Int × Int)} (hn : (L.map (·.2)).Nodup) (h : L ≠ []) :
    ∃ q b, seg p n L (lst p L) = some (q, b, n) ∧ ∀ x, seg p n' L x = if x = lst p L then some (q, b, n') else seg p n L x := by
  induction L generalizing p with
  | nil => exact absurd rfl h
  | cons e L ih =>
    cases L with
    | nil => refine ⟨e.1, p, by simp [seg, lst, hd], fun x => ?_⟩; simp only [seg, lst, hd]; split <;> rfl
    | cons e' L =>
      rw [List.map_cons, List.nodup_cons] at hn
      obtain ⟨q, b, h1, h2⟩ := ih (p := e.2) hn.2 (by simp)
      have hne : lst e.2 (e' :: L) ≠ e.2 := fun h => hn.1 (h ▸ lst_mem (p := e.2) (by simp))
      refine ⟨q, b, ?_, fun x => ?_⟩
      · show (if lst e.2 (e' :: L) = e.2 then _ else _) = _
        rw [if_neg hne]; exact h1
      · show (if x = e.2 then some (e.1, p, hd n' (e' :: L)) else seg e.2 n' (e' :: L) x) = if x = lst e.2 (e' :: L) then some (q, b, n') else if x = e.2 then some (e.1, p, hd n (e' :: L)) else seg e.2 n (e' :: L) x
        rw [h2 x]
        by_cases hx : x = e.2
        · rw [if_pos hx, if_neg (by rw [hx]; exact fun h => hne h.symm), if_pos hx]; rfl
        · rw [if_neg hx, if_neg hx]

def Good (L : List (Int × Int)) : Prop := (L.map (·.2)).Nodup ∧ ∀ e ∈ L, e.2 ≠ 0
/-- the links are the list L, the most recently used entry first -/
def Rep (s : ISt) (L : List (Int × Int)) : Prop := s.f = hd 0 L ∧ s.l = lst 0 L ∧ (∀ x, s.M x = seg 0 0 L x) ∧ s.n = L.length

theorem seg_zero {p n : Int} {L : List (Int × Int)} (g : ∀ e ∈ L, e.2 ≠ 0) : seg p n L 0 = none := by
  rw [seg_none]
  intro h
  rw [List.mem_map] at h
  obtain ⟨e, he, h0⟩ := h
  exact g e he h0

/-- the chunks before and behind the hole c become neighbours -/
theorem join_hole {s : ISt} {c p1 n1 : Int} {A B : List (Int × Int)} (gA : Good A) (gB : Good B) (hd1 : ∀ e ∈ A, ∀ e' ∈ B, e.2 ≠ e'.2) (hcA : c ∉ A.map (·.2)) (hcB : c ∉ B.map (·.2)) (hc : c ≠ 0)
    (hM : ∀ x, x ≠ c → s.M x = (seg 0 n1 A x).or (seg p1 0 B x)) :
    (∀ x, x ≠ c → (s.join (lst 0 A) (hd 0 B)).M x = (seg 0 (hd 0 B) A x).or (seg (lst 0 A) 0 B x)) ∧ (s.join (lst 0 A) (hd 0 B)).M c = s.M c ∧
    (s.join (lst 0 A) (hd 0 B)).f = (if A = [] then hd 0 B else s.f) ∧ (s.join (lst 0 A) (hd 0 B)).l = (if B = [] then lst 0 A else s.l) ∧ (s.join (lst 0 A) (hd 0 B)).n = s.n ∧ (s.join (lst 0 A) (hd 0 B)).cap = s.cap := by
  have hM0 : s.M 0 = none := by rw [hM 0 (fun h => hc h.symm), seg_zero gA.2, seg_zero gB.2]; rfl
  obtain ⟨s1, hs1⟩ : ∃ s1, s.join1 (lst 0 A) (hd 0 B) = s1 := ⟨_, rfl⟩
  have e1 : (∀ x, x ≠ c → s1.M x = (seg 0 (hd 0 B) A x).or (seg p1 0 B x)) ∧ s1.M c = s.M c ∧ s1.f = (if A = [] then hd 0 B else s.f) ∧ s1.l = s.l ∧ s1.n = s.n ∧ s1.cap = s.cap := by
    rw [← hs1]
    cases A with
    | nil =>
      have : s.join1 (lst 0 []) (hd 0 B) = { s with f := hd 0 B } := by unfold ISt.join1; rw [show lst 0 [] = 0 from rfl, hM0]
      rw [this]
      exact ⟨fun x hx => hM x hx, rfl, by simp, rfl, rfl, rfl⟩
    | cons e A =>
      have hl := lst_mem (p := 0) (L := e :: A) (by simp)
      have hlc : lst 0 (e :: A) ≠ c := fun h => hcA (h ▸ hl)
      obtain ⟨q, b, h1, h2⟩ := seg_last (p := 0) (n := n1) (n' := hd 0 B) (L := e :: A) gA.1 (by simp)
      have hMl : s.M (lst 0 (e :: A)) = some (q, b, n1) := by rw [hM _ hlc, h1]; rfl
      have : s.join1 (lst 0 (e :: A)) (hd 0 B) = { s with M := fun x => if x = lst 0 (e :: A) then some (q, b, hd 0 B) else s.M x } := by unfold ISt.join1; rw [hMl]
      rw [this]
      refine ⟨fun x hx => ?_, ?_, by simp, rfl, rfl, rfl⟩
      · show (if x = lst 0 (e :: A) then some (q, b, hd 0 B) else s.M x) = _
        rw [h2 x]
        split
        · rfl
        · exact hM x hx
      · show (if c = lst 0 (e :: A) then some (q, b, hd 0 B) else s.M c) = _
        rw [if_neg (fun h => hlc h.symm)]
  obtain ⟨hM1, hc1, hf1, hl1, hn1, hcap1⟩ := e1
  have hM10 : s1.M 0 = none := by rw [hM1 0 (fun h => hc h.symm), seg_zero gA.2, seg_zero gB.2]; rfl
  have ej : s.join (lst 0 A) (hd 0 B) = s1.join2 (lst 0 A) (hd 0 B) := by unfold ISt.join; rw [hs1]
  rw [ej]
  cases B with
  | nil =>
    have : s1.join2 (lst 0 A) (hd 0 []) = { s1 with l := lst 0 A } := by unfold ISt.join2; rw [show hd 0 [] = 0 from rfl, hM10]
    rw [this]
    exact ⟨fun x hx => hM1 x hx, hc1, hf1, by simp, hn1, hcap1⟩
  | cons e B =>
    have hec : e.2 ≠ c := fun h => hcB (by simp [h])
    have heA : e.2 ∉ A.map (·.2) := by
      intro h
      rw [List.mem_map] at h
      obtain ⟨e', he', h0⟩ := h
      exact hd1 e' he' e (by simp) h0
    have hMe : s1.M e.2 = some (e.1, p1, hd 0 B) := by rw [hM1 _ hec, seg_none.2 heA]; simp [seg]
    have : s1.join2 (lst 0 A) (hd 0 (e :: B)) = { s1 with M := fun x => if x = e.2 then some (e.1, lst 0 A, hd 0 B) else s1.M x } := by unfold ISt.join2; rw [show hd 0 (e :: B) = e.2 from rfl, hMe]
    rw [this]
    refine ⟨fun x hx => ?_, ?_, hf1, by simp [hl1], hn1, hcap1⟩
    · show (if x = e.2 then some (e.1, lst 0 A, hd 0 B) else s1.M x) = _
      by_cases hxe : x = e.2
      · rw [if_pos hxe, hxe, seg_none.2 heA]; simp [seg]
      · rw [if_neg hxe, hM1 x hx]; simp only [seg, if_neg hxe]
    · show (if c = e.2 then some (e.1, lst 0 A, hd 0 B) else s1.M c) = _
      rw [if_neg (fun h => hec h.symm), hc1]

def del (c : Int) (L : List (Int × Int)) : List (Int × Int) := L.filter fun e => e.2 != c
theorem del_none {c : Int} {L : List (Int × Int)} (h : c ∉ L.map (·.2)) : del c L = L := by
  unfold del
  rw [List.filter_eq_self]
  intro e he
  simp only [bne_iff_ne, ne_eq]
  intro h0
  exact h (List.mem_map.2 ⟨e, he, h0⟩)
theorem del_append (c : Int) (A B : List (Int × Int)) : del c (A ++ B) = del c A ++ del c B := by simp [del]
theorem del_split {c q : Int} {A B : List (Int × Int)} (hA : c ∉ A.map (·.2)) (hB : c ∉ B.map (·.2)) : del c (A ++ (q, c) :: B) = A ++ B := by
  rw [del_append, del_none hA]
  unfold del
  rw [List.filter_cons_of_neg (by simp)]
  rw [show B.filter (fun e => e.2 != c) = B from del_none hB]
theorem Good.split {c q : Int} {A B : List (Int × Int)} (g : Good (A ++ (q, c) :: B)) : Good A ∧ Good B ∧ (∀ e ∈ A, ∀ e' ∈ B, e.2 ≠ e'.2) ∧ c ∉ A.map (·.2) ∧ c ∉ B.map (·.2) ∧ c ≠ 0 := by
  obtain ⟨h1, h2⟩ := g
  rw [List.map_append, List.map_cons, List.nodup_append] at h1
  obtain ⟨hA, hB, hAB⟩ := h1
  rw [List.nodup_cons] at hB
  refine ⟨⟨hA, fun e he => h2 e (by simp [he])⟩, ⟨hB.2, fun e he => h2 e (by simp [he])⟩, fun e he e' he' => ?_, fun hc => ?_, hB.1, h2 (q, c) (by simp)⟩
  · exact hAB _ (List.mem_map.2 ⟨e, he, rfl⟩) _ (List.mem_cons_of_mem _ (List.mem_map.2 ⟨e', he', rfl⟩))
  · exact hAB c hc c (by simp) rfl
theorem Good.del {L : List (Int × Int)} (g : Good L) (c : Int) : Good (del c L) :=
  ⟨List.Nodup.sublist (List.Sublist.map _ List.filter_sublist) g.1, fun e he => g.2 e (List.mem_filter.1 he).1⟩
theorem not_mem_del (c : Int) (L : List (Int × Int)) : c ∉ (Go.Proofs.Ytnehbcopbioenaa.del c L).map (·.2) := by
  intro h
  rw [List.mem_map] at h
  obtain ⟨e, he, h0⟩ := h
  have := (List.mem_filter.1 he).2
  simp only [bne_iff_ne, ne_eq] at this
  exact this h0
theorem split_at {c : Int} {L : List (Int × Int)} (h : c ∈ L.map (·.2)) : ∃ A q B, L = A ++ (q, c) :: B := by
  rw [List.mem_map] at h
  obtain ⟨e, he, h0⟩ := h
  obtain ⟨A, B, rfl⟩ := List.append_of_mem he
  exact ⟨A, e.1, B, by rw [← h0]⟩
theorem Rep.has {s : ISt} {L : List (Int × Int)} (h : Rep s L) (c : Int) : (s.M c).isSome = decide (c ∈ L.map (·.2)) := by
  rw [h.2.2.1 c]
  by_cases hm : c ∈ L.map (·.2)
  · rw [decide_eq_true hm, Option.isSome_iff_ne_none, Ne, seg_none]; exact fun h => h hm
  · rw [decide_eq_false hm, seg_none.2 hm]; rfl

theorem Rep.drop {s : ISt} {L : List (Int × Int)} (h : Rep s L) (g : Good L) (c : Int) : Rep (s.drop c) (del c L) ∧ (s.drop c).cap = s.cap := by
  by_cases hm : c ∈ L.map (·.2)
  · obtain ⟨A, q, B, rfl⟩ := split_at hm
    obtain ⟨gA, gB, hAB, hcA, hcB, hc0⟩ := g.split
    obtain ⟨hf, hl, hM, hn⟩ := h
    have hMc : s.M c = some (q, lst 0 A, hd 0 B) := by rw [hM c, seg_append, seg_none.2 hcA]; simp [seg]
    have hM' : ∀ x, x ≠ c → s.M x = (seg 0 c A x).or (seg c 0 B x) := by
      intro x hx
      rw [hM x, seg_append]
      simp only [hd, seg, if_neg hx]
    obtain ⟨k1, k2, k3, k4, k5, k6⟩ := join_hole (s := s) gA gB hAB hcA hcB hc0 hM'
    have e : s.drop c = { s.join (lst 0 A) (hd 0 B) with M := fun x => if x = c then none else (s.join (lst 0 A) (hd 0 B)).M x, n := if ((s.join (lst 0 A) (hd 0 B)).M c).isSome then (s.join (lst 0 A) (hd 0 B)).n - 1 else (s.join (lst 0 A) (hd 0 B)).n } := by
      unfold ISt.drop; rw [hMc]
    rw [e, del_split hcA hcB]
    refine ⟨⟨?_, ?_, fun x => ?_, ?_⟩, k6⟩
    · show (s.join (lst 0 A) (hd 0 B)).f = _
      rw [k3, hd_append]
      cases A with
      | nil => rfl
      | cons e A => rw [if_neg (by simp), hf, hd_append]; rfl
    · show (s.join (lst 0 A) (hd 0 B)).l = _
      rw [k4, lst_append]
      cases B with
      | nil => rfl
      | cons e B => rw [if_neg (by simp), hl, lst_append]; rfl
    · show (if x = c then none else (s.join (lst 0 A) (hd 0 B)).M x) = _
      rw [seg_append]
      by_cases hx : x = c
      · rw [if_pos hx, hx, seg_none.2 hcA, seg_none.2 hcB]; rfl
      · rw [if_neg hx, k1 x hx]
    · show (if ((s.join (lst 0 A) (hd 0 B)).M c).isSome then (s.join (lst 0 A) (hd 0 B)).n - 1 else (s.join (lst 0 A) (hd 0 B)).n) = _
      rw [k2, hMc, k5, hn]
      simp
  · have e : s.drop c = s := by
      have := h.2.2.1 c
      rw [seg_none.2 hm] at this
      unfold ISt.drop; rw [this]
    rw [e, del_none hm]
    exact ⟨h, rfl⟩

theorem Rep.add {s : ISt} {L : List (Int × Int)} (h : Rep s L) (g : Good L) (p c : Int) (hc : c ≠ 0) (hm : c ∉ L.map (·.2)) : Rep (s.add p c) ((p, c) :: L) ∧ (s.add p c).cap = s.cap := by
  obtain ⟨hf, hl, hM, hn⟩ := h
  have hMc : s.M c = none := by rw [hM c, seg_none.2 hm]
  have h0 : s.M 0 = none := by rw [hM 0, seg_zero g.2]
  obtain ⟨s1, hs1⟩ : ∃ s1, ({ s with M := fun x => if x = c then some (p, 0, 0) else s.M x, n := if (s.M c).isSome then s.n else s.n + 1 } : ISt) = s1 := ⟨_, rfl⟩
  have e1 : s1.M c = some (p, 0, 0) ∧ (∀ x, x ≠ c → s1.M x = s.M x) ∧ s1.f = s.f ∧ s1.l = s.l ∧ s1.n = s.n + 1 ∧ s1.cap = s.cap := by
    rw [← hs1]
    exact ⟨by simp, fun x hx => by simp [hx], rfl, rfl, by simp [hMc], rfl⟩
  obtain ⟨a1, a2, a3, a4, a5, a6⟩ := e1
  obtain ⟨s2, hs2⟩ : ∃ s2, s1.join1 c s.f = s2 := ⟨_, rfl⟩
  have e2 : s2.M c = some (p, 0, s.f) ∧ (∀ x, x ≠ c → s2.M x = s.M x) ∧ s2.f = s.f ∧ s2.l = s.l ∧ s2.n = s.n + 1 ∧ s2.cap = s.cap := by
    rw [← hs2]
    unfold ISt.join1
    rw [a1]
    exact ⟨by simp, fun x hx => by simp [hx, a2 x hx], a3, a4, a5, a6⟩
  obtain ⟨b1, b2, b3, b4, b5, b6⟩ := e2
  obtain ⟨s3, hs3⟩ : ∃ s3, s2.join2 c s.f = s3 := ⟨_, rfl⟩
  have e3 : (∀ x, s3.M x = seg 0 0 ((p, c) :: L) x) ∧ s3.f = s.f ∧ s3.l = lst 0 ((p, c) :: L) ∧ s3.n = s.n + 1 ∧ s3.cap = s.cap := by
    rw [← hs3]
    cases L with
    | nil =>
      have hf0 : s.f = 0 := hf
      have : s2.join2 c s.f = { s2 with l := c } := by unfold ISt.join2; rw [hf0, b2 0 (fun h => hc h.symm), h0]
      rw [this]
      refine ⟨fun x => ?_, b3, rfl, b5, b6⟩
      show s2.M x = _
      by_cases hx : x = c
      · rw [hx, b1, hf0]; simp [seg, hd]
      · rw [b2 x hx, hM x]; simp [seg, hx]
    | cons e L =>
      have hfe : s.f = e.2 := hf
      have hec : e.2 ≠ c := fun h => hm (by simp [h])
      have hMe : s2.M e.2 = some (e.1, 0, hd 0 L) := by rw [b2 _ hec, hM]; simp [seg]
      have : s2.join2 c s.f = { s2 with M := fun x => if x = e.2 then some (e.1, c, hd 0 L) else s2.M x } := by unfold ISt.join2; rw [hfe, hMe]
      rw [this]
      refine ⟨fun x => ?_, b3, by show s2.l = _; rw [b4, hl]; rfl, b5, b6⟩
      show (if x = e.2 then some (e.1, c, hd 0 L) else s2.M x) = _
      by_cases hxc : x = c
      · rw [if_neg (by rw [hxc]; exact fun h => hec h.symm), hxc, b1, hfe]; simp [seg, hd]
      · simp only [seg, if_neg hxc]
        by_cases hxe : x = e.2
        · rw [if_pos hxe, if_pos hxe]
        · rw [if_neg hxe, if_neg hxe, b2 x hxc, hM x]; simp only [seg, if_neg hxe]
  obtain ⟨d1, d2, d3, d4, d5⟩ := e3
  have ea : s.add p c = (s3.join1 0 c).join2 0 c := by unfold ISt.add ISt.join; rw [hs1, hs2, hs3]
  have z0 : s3.M 0 = none := by
    rw [d1]
    have h1 : (0 : Int) ≠ c := fun h => hc h.symm
    simp only [seg, if_neg h1]
    exact seg_zero g.2
  have ej : s3.join1 0 c = { s3 with f := c } := by unfold ISt.join1; rw [z0]
  have hc3 : s3.M c = some (p, 0, hd 0 L) := by rw [d1]; simp [seg]
  rw [ea, ej]
  have ek : ({ s3 with f := c } : ISt).join2 0 c = { s3 with f := c, M := fun x => if x = c then some (p, 0, hd 0 L) else s3.M x } := by
    unfold ISt.join2
    show (match s3.M c with | some v => _ | none => _) = _
    rw [hc3]
  rw [ek]
  refine ⟨⟨rfl, d3, fun x => ?_, by show s3.n = _; rw [d4, hn]; rfl⟩, d5⟩
  show (if x = c then some (p, 0, hd 0 L) else s3.M x) = _
  split
  · next h => rw [h, ← d1, hc3]
  · exact d1 x

/-! Put on the list of entries. -/
def lput (cap : Int) (L : List (Int × Int)) (p c : Int) : List (Int × Int) × Int :=
  if c ∉ L.map (·.2) ∧ (L.length : Int) = cap then ((p, c) :: L.dropLast, lst 0 L) else ((p, c) :: del c L, 0)
theorem dropLast_del {L : List (Int × Int)} (hn : (L.map (·.2)).Nodup) (h : L ≠ []) : del (lst 0 L) L = L.dropLast := by
  obtain ⟨A, e, rfl⟩ : ∃ A e, L = A ++ [e] := ⟨L.dropLast, L.getLast h, (List.dropLast_concat_getLast h).symm⟩
  rw [lst_append, List.dropLast_concat, del_append]
  rw [List.map_append, List.nodup_append] at hn
  have he : e.2 ∉ A.map (·.2) := fun h0 => hn.2.2 _ h0 e.2 (by simp) rfl
  show del e.2 A ++ del e.2 [e] = A
  rw [del_none he]
  simp [del]
theorem lput_good {cap : Int} {L : List (Int × Int)} (g : Good L) (p c : Int) (hc : c ≠ 0) : Good (lput cap L p c).1 := by
  have key : ∀ L', Good L' → c ∉ L'.map (·.2) → Good ((p, c) :: L') := fun L' g' h =>
    ⟨by rw [List.map_cons, List.nodup_cons]; exact ⟨h, g'.1⟩, fun e he => by
      rcases List.mem_cons.1 he with h | h
      · rw [h]; exact hc
      · exact g'.2 e h⟩
  unfold lput
  split
  · next h =>
    refine key _ ⟨List.Nodup.sublist (List.Sublist.map _ (List.dropLast_sublist L)) g.1, fun e he => g.2 e (List.dropLast_subset L he)⟩ fun h0 => h.1 ?_
    rw [List.mem_map] at h0 ⊢
    obtain ⟨e, he, h1⟩ := h0
    exact ⟨e, List.dropLast_subset L he, h1⟩
  · exact key _ (g.del c) (not_mem_del c L)
theorem Rep.put {s : ISt} {L : List (Int × Int)} (h : Rep s L) (g : Good L) (p c : Int) (hc : c ≠ 0) (hcap : 1 ≤ s.cap) : Rep (s.put p c).1 (lput s.cap L p c).1 ∧ (s.put p c).1.cap = s.cap ∧ (s.put p c).2 = (lput s.cap L p c).2 := by
  have hhas := h.has c
  obtain ⟨hd1, hcap1⟩ := h.drop g c
  unfold ISt.put lput
  rw [hhas, h.2.2.2]
  by_cases hm : c ∉ L.map (·.2) ∧ (L.length : Int) = s.cap
  · rw [if_pos ⟨by simpa using hm.1, hm.2⟩, if_pos hm]
    rw [del_none hm.1] at hd1
    have hne : L ≠ [] := by rintro rfl; have := hm.2; simp at this; omega
    have hl : (s.drop c).l = lst 0 L := hd1.2.1
    rw [hl]
    obtain ⟨k1, k2⟩ := hd1.drop g (lst 0 L)
    rw [dropLast_del g.1 hne] at k1
    have hm' : c ∉ L.dropLast.map (·.2) := by
      intro h0
      refine hm.1 ?_
      rw [List.mem_map] at h0 ⊢
      obtain ⟨e, he, h1⟩ := h0
      exact ⟨e, List.dropLast_subset L he, h1⟩
    have g' : Good L.dropLast := ⟨List.Nodup.sublist (List.Sublist.map _ (List.dropLast_sublist L)) g.1, fun e he => g.2 e (List.dropLast_subset L he)⟩
    obtain ⟨j1, j2⟩ := k1.add g' p c hc hm'
    exact ⟨j1, j2.trans (k2.trans hcap1), rfl⟩
  · rw [if_neg (fun h => hm ⟨by simpa using h.1, h.2⟩), if_neg hm]
    obtain ⟨j1, j2⟩ := hd1.add (g.del c) p c hc (not_mem_del c L)
    exact ⟨j1, j2.trans hcap1, rfl⟩
end Go.Proofs.Ytnehbcopbioenaa
