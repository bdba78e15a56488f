/- Joined texts: BilU6, BilU7. Conditions: as each part says. -/
import Derived.Test.YtkjomnakolhdcaaDoorBilUA
namespace Go.Proofs.YtkjomnakolhdcaaDoor
set_option linter.unusedVariables false
set_option linter.unusedSimpArgs false
/-! Layer 35's reference: the memory of a copy while it is made. Conditions: the ledger reads as told. -/
section
open Go.RowKit
section
variable {w W W0 W1 : World} {e : TypeId} {sz c n : Nat} {A : Option Addr} {L : List (List Value)}
theorem ORow.of_own {base : Nat} (h : w.ownsRow base e sz (.slice A n c) n L.flatten) (hl : ∀ x ∈ L, x.length = sz) (hn : L.length = n) : ORow w e sz A c L := by
  refine ⟨hl, ?_⟩
  rcases h.2 with ⟨hv, h0⟩ | ⟨g, cap, cur, hv, hb, hh, h1, h2, h3, h4⟩
  · injection hv with hA _ hc
    subst h0
    exact .inl ⟨hA, hc, List.eq_nil_of_length_eq_zero hn⟩
  · injection hv with hA _ hc
    subst hA hc
    refine .inr ⟨g, 0, cur, rfl, hh, by omega, h2, by omega, fun j u hu => ?_⟩
    rw [← h4, List.getElem?_take] at hu
    split at hu
    · rw [Nat.zero_add]; simpa using hu
    · cases hu
theorem ORow.rd (h : ORow w e sz A c L) (hn : L.length = n) : Rd w w.heap.size sz A n L.flatten := by
  obtain ⟨hl, h⟩ := h
  refine ⟨by rw [flat_len hl, hn], fun h0 => ?_⟩
  rcases h with ⟨_, _, rfl⟩ | ⟨g, off, cur, rfl, h1, h2, h3, h4, h5⟩
  · simp at hn; omega
  · exact ⟨g, off, rfl, (Array.getElem?_eq_some_iff.1 h1).1, fun j u hu => by rw [cell_of_row w g _ cur _ (0, 0) h1]; exact h5 j u hu⟩
end
/-- a kept bill but for where its credits lie -/
def RA.strip (k : RA) : RA := { k with bg := 0, cg := 0 }
theorem strip_bill (n : Nat) {a b : List RA} (h : a.map RA.strip = b.map RA.strip) : a.map (RA.bill n) = b.map (RA.bill n) := by
  have e : RA.bill n = RA.bill n ∘ RA.strip := rfl
  rw [e, ← List.map_map, ← List.map_map, h]
theorem strip_a {a b : List RA} (h : a.map RA.strip = b.map RA.strip) : a.map RA.a = b.map RA.a := by
  have e : RA.a = RA.a ∘ RA.strip := rfl
  rw [e, ← List.map_map, ← List.map_map, h]
/-- a copy with the credits of its first kept bills -/
structure RCl (w W : World) (bc : Nat) (col cl : Nat → Nat) (l : Bil.Lg) (ks done : List RA) (Ak : Option Addr) (ck : Nat) (Ag : Option Addr) (cg bp cp bq cq : Nat) : Prop where
  row : IsRow W bc 76 (rcs l.n l.periods l.head bp cp bq cq (.slice Ak ks.length ck) (.slice Ag done.length cg))
  pend : FRow W bp l.n (fun t => l.pending.getD t 0)
  paid : FRow W bq l.n (fun t => l.paid.getD t 0)
  krow : ORow W 31 6 Ak ck (ks.map (RA.bill l.n))
  grow : ORow W 29 1 Ag cg (done.map (RA.gr l.n))
  strip : done.map RA.strip = (ks.take done.length).map RA.strip
  kat : ∀ d ∈ done, RKat W cl l.n d
  cbl : cl bc = 1
  cbp : cl bp = 2
  cbq : cl bq = 3
  cka : ∀ a, Ak = some a → cl a.block = 4
  cga : ∀ a, Ag = some a → cl a.block = 5
  fresh : ∀ b, cl b ≠ 0 → w.heap.size ≤ b ∨ (col b = 6 ∧ cl b = 6)
  six : ∀ b, col b = 6 → cl b = 6
  lt : ∀ b, cl b ≠ 0 → b < W.heap.size
  below : Below w.heap.size w W
/-- what the reference's Clone gives: the copy shares the lists of the kept bills alone -/
def RCloneRes (w : World) (col : Nat → Nat) (l : Bil.Lg) (e : Ending) (w' : World) : Prop := ∃ bc cl m', e = .returned (.pointer (some ⟨bc, 0, none⟩)) ∧ RAt w' bc cl m' l ∧ (∀ b, cl b ≠ 0 → w.heap.size ≤ b ∨ (col b = 6 ∧ cl b = 6)) ∧ (∀ b, col b = 6 → cl b = 6) ∧ Below w.heap.size w w'
section
variable {w W W0 W1 w2 : World} {bl bc ck cg bp cp bq cq : Nat} {col cl : Nat → Nat} {m : RM} {l : Bil.Lg} {done : List RA} {Ak Ag : Option Addr}
theorem RCl.keepB (h : RCl w W bc col cl l m.ks done Ak ck Ag cg bp cp bq cq) (hb : Below W.heap.size W W0) : RCl w W0 bc col cl l m.ks done Ak ck Ag cg bp cp bq cq :=
  ⟨h.row.below' hb, h.pend.below hb, h.paid.below hb, h.krow.below hb, h.grow.below hb, h.strip, fun d hd => (h.kat d hd).keeps (S := fun _ => False) (Keep.of_below hb) (fun _ h => h.elim), h.cbl, h.cbp, h.cbq, h.cka, h.cga, h.fresh, h.six, fun b hb' => Nat.lt_of_lt_of_le (h.lt b hb') hb.size, h.below.trans (hb.mono h.below.size)⟩
/-- the finished copy -/
theorem RCl.fin (h : RCl w W bc col cl l m.ks done Ak ck Ag cg bp cp bq cq) (hl : RAt w bl col m l) (hd : done.length = m.ks.length) (ht : 2 < w.heap.size ∧ 0 < w.heap.size ∧ 1 < w.heap.size) : RAt W bc cl ⟨Ak, ck, Ag, cg, done, bp, cp, bq, cq⟩ l := by
  have hs := h.strip
  rw [hd, List.take_of_length_le (Nat.le_refl _)] at hs
  have tz : ∀ x, x < w.heap.size → col x = 0 → cl x = 0 := fun x hx hx0 => by
    rcases Nat.eq_zero_or_pos (cl x) with h0 | h0
    · exact h0
    · rcases h.fresh x (by omega) with h1 | h1 <;> omega
  refine ⟨?_, hl.h16, hl.n1, hl.n2, hl.per, by show done.length ≤ 16; rw [hd]; exact hl.len, h.pend, h.paid, hl.lp, hl.lq, ?_, ?_, h.grow, h.kat, h.cbl, h.cbp, h.cbq, h.cka, h.cga, h.lt, ⟨tz _ ht.1 hl.tab.1, tz _ ht.2.1 hl.tab.2.1, tz _ ht.2.2 hl.tab.2.2⟩⟩
  · have := h.row
    rw [← hd] at this
    exact this
  · rw [hl.kept]; exact (strip_a hs).symm
  · rw [strip_bill l.n hs]; exact h.krow
/-- a row of credits more -/
theorem RCl.push (h : RCl w W bc col cl l m.ks done Ak ck Ag cg bp cp bq cq) (hl : RAt w bl col m l) {k : Nat} (hk : done.length = k) (hkm : k < m.ks.length) (hb : Below W.heap.size W W0) {b cb gg og gc : Nat} (f : FRow W0 b l.n (fun t => ((m.ks[k]'hkm).a.granted).getD t 0)) (hbl : W.heap.size ≤ b)
    (hg : W0.grownBy W1 (some gg)) (hK : ORow W1 29 1 (some ⟨gg, og, none⟩) gc (done.map (RA.gr l.n) ++ [[.slice (some ⟨b, 0, none⟩) l.n cb]])) (hor : (∃ o, Ag = some ⟨gg, o, none⟩) ∨ gg = W0.heap.size) :
    ∃ cl', RCl w (W1.setCell ⟨bc, 21, none⟩ (.slice (some ⟨gg, og, none⟩) (k + 1) gc)) bc col cl' l m.ks (done ++ [{ m.ks[k]'hkm with bg := b, cg := cb }]) Ak ck (some ⟨gg, og, none⟩) gc bp cp bq cq := by
  subst hk
  have hrw := h.row
  have hbcl := hrw.lt
  have hz := hb.size
  have hz2 := hg.size
  have hfl := f.lt
  have hzw := h.below.size
  have hold : (∃ o, Ag = some ⟨gg, o, none⟩) → cl gg = 5 ∧ gg < W.heap.size := fun ⟨o, ho⟩ => ⟨h.cga _ ho, h.grow.lt ho⟩
  have hnb : gg ≠ bc := fun e => by
    rcases hor with ho | ho
    · have h1 := (hold ho).1; have h2 := h.cbl; rw [e] at h1; omega
    · omega
  have hne : b ≠ gg := fun e => by
    rcases hor with ho | ho
    · have := (hold ho).2; omega
    · omega
  have hgl : gg < W1.heap.size := hK.lt rfl
  have hgw : w.heap.size ≤ gg := by
    rcases hor with ho | ho
    · rcases h.fresh gg (by have := (hold ho).1; omega) with h1 | h1
      · exact h1
      · have := (hold ho).1; omega
    · omega
  have zb : cl b = 0 := by
    rcases Nat.eq_zero_or_pos (cl b) with h0 | h0
    · exact h0
    · have := h.lt b (by omega); omega
  have hgs := grown_setCell W1 bc 21 (.slice (some ⟨gg, og, none⟩) (done.length + 1) gc)
  have zs : (W1.setCell ⟨bc, 21, none⟩ (.slice (some ⟨gg, og, none⟩) (done.length + 1) gc)).heap.size = W1.heap.size := by simp
  have K2 : Keep (fun q => q = bc ∨ q = gg) W (W1.setCell ⟨bc, 21, none⟩ (.slice (some ⟨gg, og, none⟩) (done.length + 1) gc)) := by
    refine ((Keep.of_below hb).grown hg fun k e => ?_).grown hgs fun k e => .inl (.inl (Option.some.inj e).symm)
    have e := Option.some.inj e
    subst e
    exact .inl (.inr rfl)
  have hlt : ∀ q, cl q ≠ 0 → q < W.heap.size := h.lt
  let cl' : Nat → Nat := fun x => if x = gg then 5 else if x = b then 7 + (m.ks[done.length]'hkm).a.bill.period.toNat else cl x
  have hdef : ∀ x, cl' x = if x = gg then 5 else if x = b then 7 + (m.ks[done.length]'hkm).a.bill.period.toNat else cl x := fun x => rfl
  have hgo : ∀ x q, cl x = q → q ≠ 0 → q ≠ 5 → x ≠ gg := fun x q hq h0 h5 e => by
    subst e
    rcases hor with ho | ho
    · have := (hold ho).1; omega
    · have := hlt x (by omega); omega
  have hc : ∀ x q, cl x = q → q ≠ 0 → q ≠ 5 → cl' x = q := fun x q hq h0 h5 => by
    rw [hdef, if_neg (hgo x q hq h0 h5), if_neg (fun e => by subst e; omega), hq]
  have hgg' : cl' gg = 5 := by rw [hdef, if_pos rfl]
  have hb' : cl' b = 7 + (m.ks[done.length]'hkm).a.bill.period.toNat := by rw [hdef, if_neg hne, if_pos rfl]
  have far : ∀ x q, cl x = q → q ≠ 0 → q ≠ 1 → q ≠ 5 → ¬ (x = bc ∨ x = gg) := fun x q hq h0 h1 h5 e => by
    rcases e with e | e
    · subst e; rw [h.cbl] at hq; omega
    · exact hgo x q hq h0 h5 e
  have src := hl.kat _ (List.getElem_mem hkm)
  have far2 : ∀ x, col x = 6 → ¬ (x = bc ∨ x = gg) := fun x hx => far x 6 (h.six x hx) (by omega) (by omega) (by omega)
  have k6 : ∀ {x : Nat} {d : Nat → Int}, FRow w x l.n d → col x = 6 → FRow (W1.setCell ⟨bc, 21, none⟩ (.slice (some ⟨gg, og, none⟩) (done.length + 1) gc)) x l.n d := fun hf hx => (hf.below h.below).keeps K2 (far2 _ hx)
  refine ⟨cl', ?_, h.pend.keeps K2 (far _ _ h.cbp (by omega) (by omega) (by omega)), h.paid.keeps K2 (far _ _ h.cbq (by omega) (by omega) (by omega)), ?_, ?_, ?_, fun d hd => ?_, hc _ _ h.cbl (by omega) (by omega), hc _ _ h.cbp (by omega) (by omega), hc _ _ h.cbq (by omega) (by omega), fun a ha => hc _ _ (h.cka a ha) (by omega) (by omega), fun a ha => by obtain rfl := Option.some.inj ha; exact hgg', fun x hx => ?_, fun x hx => hc _ _ (h.six x hx) (by omega) (by omega), fun x hx => ?_, ?_⟩
  · have := ((hrw.below' hb).grown hg (by intro e; exact hnb (Option.some.inj e))).set 21 (.slice (some ⟨gg, og, none⟩) (done.length + 1) gc)
    rw [rcs_set21 hl.h16] at this
    rw [List.length_append, List.length_singleton]; exact this
  · exact h.krow.keep fun a ha => K2.block a.block (h.krow.lt ha) (far _ _ (h.cka a ha) (by omega) (by omega) (by omega))
  · rw [List.map_append]
    exact hK.keep fun a ha => by
      have hal := hK.lt ha
      obtain rfl := Option.some.inj ha
      exact hgs.block _ hal (fun e => hnb (Option.some.inj e))
  · rw [List.length_append, List.length_singleton, List.map_append, h.strip, List.take_succ_eq_append_getElem hkm, List.map_append]
    rfl
  · rcases List.mem_append.1 hd with hd | hd
    · have x := h.kat d hd
      exact ⟨x.c.keeps K2 (far _ _ x.qc (by omega) (by omega) (by omega)), x.r.keeps K2 (far _ _ x.qr (by omega) (by omega) (by omega)), x.t.keeps K2 (far _ _ x.qt (by omega) (by omega) (by omega)), x.g.keeps K2 (far _ _ x.qg (by omega) (by omega) (by omega)), x.lc, x.lr, x.lt, x.lg, hc _ _ x.qc (by omega) (by omega), hc _ _ x.qr (by omega) (by omega), hc _ _ x.qt (by omega) (by omega), hc _ _ x.qg (by omega) (by omega)⟩
    · obtain rfl := List.mem_singleton.1 hd
      have fb : FRow (W1.setCell ⟨bc, 21, none⟩ (.slice (some ⟨gg, og, none⟩) (done.length + 1) gc)) b l.n (fun t => ((m.ks[done.length]'hkm).a.granted).getD t 0) := (f.keep (hg.block _ hfl (fun e => hne (Option.some.inj e)))).keep (hgs.block _ (by omega) (fun e => by have := Option.some.inj e; omega))
      exact ⟨k6 src.c src.qc, k6 src.r src.qr, k6 src.t src.qt, fb, src.lc, src.lr, src.lt, src.lg, hc _ _ (h.six _ src.qc) (by omega) (by omega), hc _ _ (h.six _ src.qr) (by omega) (by omega), hc _ _ (h.six _ src.qt) (by omega) (by omega), hb'⟩
  · rw [hdef] at hx ⊢
    by_cases e1 : x = gg
    · subst e1; exact .inl hgw
    · by_cases e2 : x = b
      · subst e2; exact .inl (by omega)
      · rw [if_neg e1, if_neg e2] at hx ⊢
        exact h.fresh x hx
  · rw [zs]
    rw [hdef] at hx
    by_cases e1 : x = gg
    · subst e1; exact hgl
    · by_cases e2 : x = b
      · subst e2; omega
      · rw [if_neg e1, if_neg e2] at hx
        have := hlt x hx; omega
  · exact (h.below.trans ((hb.mono hzw))).grown hg (by omega) (fun j hj => by have := Option.some.inj hj; omega) |>.grown hgs (by omega) (fun j hj => by have := Option.some.inj hj; have : w.heap.size ≤ bc := (by rcases h.fresh bc (by have := h.cbl; omega) with h1 | h1; exact h1; have := h.cbl; omega); omega)
/-- the copy as it stands ahead of the loop -/
theorem rcl_start {g2 g3 : Nat} (hl : RAt w bl col m l) (hb : Below w.heap.size w W) (hr : IsRow W bc 76 (rcs l.n l.periods l.head g2 cp g3 cq (.slice Ak m.ks.length ck) (.slice none 0 0))) (f2 : FRow W g2 l.n (fun t => l.pending.getD t 0)) (f3 : FRow W g3 l.n (fun t => l.paid.getD t 0)) (hk : ORow W 31 6 Ak ck (m.ks.map (RA.bill l.n)))
    (h1 : w.heap.size ≤ bc) (h2 : bc < g2) (h3 : g2 < g3) (h4 : ∀ a, Ak = some a → g3 < a.block) : ∃ cl, RCl w W bc col cl l m.ks [] Ak ck none 0 g2 cp g3 cq := by
  let cl : Nat → Nat := fun x => if x = bc then 1 else if x = g2 then 2 else if x = g3 then 3 else if (∃ a, Ak = some a ∧ x = a.block) then 4 else if col x = 6 then 6 else 0
  have hdef : ∀ x, cl x = if x = bc then 1 else if x = g2 then 2 else if x = g3 then 3 else if (∃ a, Ak = some a ∧ x = a.block) then 4 else if col x = 6 then 6 else 0 := fun x => rfl
  have hlt6 : ∀ x, col x = 6 → x < w.heap.size := fun x hx => hl.lt x (by omega)
  refine ⟨cl, hr, f2, f3, hk, ORow.nil _ _ _, rfl, by simp, ?_, ?_, ?_, fun a ha => ?_, fun a ha => (by cases ha), fun x hx => ?_, fun x hx => ?_, fun x hx => ?_, hb⟩
  · rw [hdef, if_pos rfl]
  · rw [hdef, if_neg (by omega), if_pos rfl]
  · rw [hdef, if_neg (by omega), if_neg (by omega), if_pos rfl]
  · have := h4 a ha
    rw [hdef, if_neg (by omega), if_neg (by omega), if_neg (by omega), if_pos ⟨a, ha, rfl⟩]
  · rw [hdef] at hx ⊢
    by_cases e1 : x = bc
    · exact .inl (by omega)
    · by_cases e2 : x = g2
      · exact .inl (by omega)
      · by_cases e3 : x = g3
        · exact .inl (by omega)
        · by_cases e4 : ∃ a, Ak = some a ∧ x = a.block
          · obtain ⟨a, ha, e⟩ := e4
            have := h4 a ha
            exact .inl (by omega)
          · rw [if_neg e1, if_neg e2, if_neg e3, if_neg e4] at hx ⊢
            by_cases e5 : col x = 6
            · rw [if_pos e5]; exact .inr ⟨e5, rfl⟩
            · rw [if_neg e5] at hx; omega
  · have := hlt6 x hx
    have n4 : ¬ ∃ a, Ak = some a ∧ x = a.block := fun ⟨a, ha, e⟩ => by have := h4 a ha; omega
    rw [hdef, if_neg (by omega), if_neg (by omega), if_neg (by omega), if_neg n4, if_pos hx]
  · rw [hdef] at hx
    have := hb.size
    by_cases e1 : x = bc
    · subst e1; exact hr.lt
    · by_cases e2 : x = g2
      · subst e2; exact f2.lt
      · by_cases e3 : x = g3
        · subst e3; exact f3.lt
        · by_cases e4 : ∃ a, Ak = some a ∧ x = a.block
          · obtain ⟨a, ha, e⟩ := e4
            subst e; exact hk.lt ha
          · rw [if_neg e1, if_neg e2, if_neg e3, if_neg e4] at hx
            by_cases e5 : col x = 6
            · have := hlt6 x e5; omega
            · rw [if_neg e5] at hx; omega
end
end
/-! Layer 35's reference: Clone. Conditions: the ledger reads as told; the tables of the digest are in memory. -/
section
open Go.RowKit
def rl4 (n p : Int) (hd : List UInt8) (a b c d : Value) : List Value := ([.int .i64 n, .int .i64 p] : List Value) ++ bvs hd ++ ([a, b, c, d] : List Value)
theorem rl4_tail {hd : List UInt8} (h : hd.length = 16) (n p : Int) (a b c d : Value) (j : Nat) : (rl4 n p hd a b c d)[18 + j]? = ([a, b, c, d] : List Value)[j]? := by
  unfold rl4
  rw [List.getElem?_append_right (by simp [h])]
  simp [h]
theorem rl4_set {hd : List UInt8} (h : hd.length = 16) (n p : Int) (a b c d v : Value) : (rl4 n p hd a b c d).set 18 v = rl4 n p hd v b c d ∧ (rl4 n p hd a b c d).set 19 v = rl4 n p hd a v c d ∧ (rl4 n p hd a b c d).set 20 v = rl4 n p hd a b v d := by
  have hc : (bvs hd).length = 16 := by rw [bvs_len, h]
  unfold rl4
  obtain ⟨a0, a1, a2, a3, a4, a5, a6, a7, a8, a9, a10, a11, a12, a13, a14, a15, e⟩ := list16 (bvs hd) hc
  rw [e]; exact ⟨rfl, rfl, rfl⟩
theorem built_rl3 (n p : Int) (hd : List UInt8) (h : hd.length = 16) : Tryd.prog.built 76 [(0, .int .i64 n), (1, .int .i64 p), (2, dv hd)] = some (rl4 n p hd (.slice none 0 0) (.slice none 0 0) (.slice none 0 0) (.slice none 0 0)).toArray := by
  have hc : (bvs hd).length = 16 := by rw [bvs_len, h]
  unfold rl4
  show Tryd.prog.built 76 [(0, .int .i64 n), (1, .int .i64 p), (2, .agg (bvs hd).toArray)] = _
  obtain ⟨a0, a1, a2, a3, a4, a5, a6, a7, a8, a9, a10, a11, a12, a13, a14, a15, e⟩ := list16 (bvs hd) hc
  rw [e]
  kernel_rfl
theorem y_build012 {ops : Array Oper} {S : World → Prop} {o : Oper} {a : Act} (hw : Region.wanted o (yielded ops a.tmps) = true) (t : TypeId) (x y z : Operand) (ho : o.op = .build t #[(0, x), (1, y), (2, z)]) (u v s : Value) (hx : a.eval x = u) (hy : a.eval y = v) (hz : a.eval z = s) (cells : Array Value)
    (hf : Tryd.prog.built t [(0, u), (1, v), (2, s)] = some cells) : YieldsIf Tryd.prog ops S o (.agg cells) a := by
  subst hx hy hz
  refine .inl ⟨hw, fun W _ => ?_⟩
  have hr := run_build (P := Tryd.prog) W t #[(0, a.eval x), (1, a.eval y), (2, a.eval z)] cells hf
  unfold execOp
  simp only [ho, List.map_toArray, List.map_cons, List.map_nil, Sem.run_bind, Sem.run_pure, Result.andThen_ok, hr]
theorem below_of_grown {w w' : World} (h : w.grownBy w' none) : Below w.heap.size w w' := ⟨h.os, h.tape, h.output, h.size, fun k hk => h.block k hk (by simp)⟩
theorem wpList_arun {P : Program} {w w' : World} {ops : Array Oper} {rest : List Oper} {o : Oper} {a : Act} {Q : Exit → Act → World → Prop} (hgd : o.guard = none) (s x : Operand) (t : TypeId) (ho : o.op = .call { callee := .builtin .append, args := #[s, x], argTypes := #[t, t] }) (vs vx v : Value) (hs : a.eval s = vs) (hx : a.eval x = vx)
    (hrun : (Builtin.append_ #[t, t] o.type #[vs, vx]).run P w = .ok v w') (h : wpList P ops Q rest (a.put o.dst v) w') : wpList P ops Q (o :: rest) a w :=
  wpList_plain hgd fun K hK => wp_arun s x t ho vs vx v hs hx hrun (hK _ _ h)
theorem bills_one (n : Nat) (ks : List RA) : ∀ u ∈ (ks.map (RA.bill n)).flatten, u.oneCell' = true := by
  intro u hu
  obtain ⟨x, hx, hu⟩ := List.mem_flatten.1 hu
  obtain ⟨k, _, rfl⟩ := List.mem_map.1 hx
  simp only [RA.bill, List.mem_cons, List.not_mem_nil, or_false] at hu
  rcases hu with rfl | rfl | rfl | rfl | rfl | rfl <;> rfl
/-- behind the copy of what is owed -/
structure RC2 (w wx : World) (bc g2 c2 N P : Nat) (l : Bil.Lg) : Prop where
  b : Below w.heap.size w wx
  o : w.heap.size ≤ bc ∧ bc < g2
  row : IsRow wx bc 76 (rl4 (N : Int) (P : Int) l.head (.slice (some ⟨g2, 0, none⟩) N c2) (.slice none 0 0) (.slice none 0 0) (.slice none 0 0))
  f2 : FRow wx g2 N (fun t => l.pending.getD t 0)
/-- behind the copy of what was paid -/
structure RC3 (w wx : World) (bc g2 c2 g3 c3 N P : Nat) (l : Bil.Lg) : Prop where
  b : Below w.heap.size w wx
  o : w.heap.size ≤ bc ∧ bc < g2 ∧ g2 < g3
  row : IsRow wx bc 76 (rl4 (N : Int) (P : Int) l.head (.slice (some ⟨g2, 0, none⟩) N c2) (.slice (some ⟨g3, 0, none⟩) N c3) (.slice none 0 0) (.slice none 0 0))
  f2 : FRow wx g2 N (fun t => l.pending.getD t 0)
  f3 : FRow wx g3 N (fun t => l.paid.getD t 0)
set_option maxRecDepth 100000 in
set_option maxHeartbeats 16000000 in
theorem rclone_any (bl : Nat) (col : Nat → Nat) (m : RM) (l : Bil.Lg) (w : World) (h : RAt w bl col m l) (hT : Tabs w) (hR : RTab w) :
    Calls Tryd.prog 18 #[.pointer (some ⟨bl, 0, none⟩)] w (RCloneRes w col l) := by
  have HL := Lib.hid h
  have HTT := Lib.hid (And.intro hT.k.lt (And.intro hT.s.lt hR.r.lt))
  have HN := Lib.hid (And.intro h.n1 h.n2)
  have hrw := h.rcs
  obtain ⟨N, hN⟩ : ∃ x, l.n = x := ⟨_, rfl⟩
  obtain ⟨P, hP⟩ : ∃ x, l.periods = x := ⟨_, rfl⟩
  obtain ⟨Lk, hLk⟩ : ∃ x, m.ks.length = x := ⟨_, rfl⟩
  rw [hN] at HN
  have HEQ := Lib.hid (And.intro hN (And.intro hP hLk))
  have HCL : Hid (w.cell? ⟨bl, 0, none⟩ = some (.int .i64 (N : Int)) ∧ w.cell? ⟨bl, 1, none⟩ = some (.int .i64 (P : Int)) ∧ w.cell? ⟨bl, 18, none⟩ = some (.slice (some ⟨m.bp, 0, none⟩) N m.cp) ∧ w.cell? ⟨bl, 19, none⟩ = some (.slice (some ⟨m.bq, 0, none⟩) N m.cq) ∧ w.cell? ⟨bl, 20, none⟩ = some (.slice m.A Lk m.c) ∧ w.cell? ⟨bl, 21, none⟩ = some (.slice m.G Lk m.d) ∧ bl < w.heap.size) := Lib.hid (by
    rw [hN, hP, hLk] at hrw
    exact ⟨hrw.cell 0, hrw.cell 1, (hrw.cell 18).trans (rcs_tail h.h16 N P m.bp m.cp m.bq m.cq _ _ 0), (hrw.cell 19).trans (rcs_tail h.h16 N P m.bp m.cp m.bq m.cq _ _ 1), (hrw.cell 20).trans (rcs_tail h.h16 N P m.bp m.cp m.bq m.cq _ _ 2), (hrw.cell 21).trans (rcs_tail h.h16 N P m.bp m.cp m.bq m.cq _ _ 3), hrw.lt⟩)
  have HRG : Hid (∀ W, Below w.heap.size w W → W.rangeAt bl 2 (bvs l.head)) := Lib.hid (fun W hW => fun j v hv => by rw [((h.below hW).row).cell]; exact RM.cells_head h.h16 j v hv)
  obtain ⟨hd, hhd⟩ : ∃ x, l.head = x := ⟨_, rfl⟩
  have HHD := Lib.hid hhd
  have H16 : Hid (hd.length = 16) := Lib.hid (by rw [← hhd]; exact h.h16)
  rw [hhd] at HRG
  have HJ : Hid ((0 + N) * 8 ≤ 140737488355328 ∧ 0 + N ≤ maxLen ∧ (0 + Lk) * 96 ≤ 140737488355328 ∧ 0 + Lk ≤ maxLen) := Lib.hid (by have := h.len; have := h.n2; unfold maxLen; omega)
  have HPD := Lib.hid (And.intro h.lp h.lq)
  rw [hN] at HPD
  have HRP : Hid (∀ W, Below w.heap.size w W → Rd W W.heap.size 1 (some ⟨m.bp, 0, none⟩) N (ivs l.pending) ∧ Rd W W.heap.size 1 (some ⟨m.bq, 0, none⟩) N (ivs l.paid) ∧ Rd W W.heap.size 6 m.A Lk (m.ks.map (RA.bill N)).flatten) := Lib.hid (fun W hW => by
    have h1 := h.below hW
    rw [← hN]
    exact ⟨h1.pend.rd h1.lp, h1.paid.rd h1.lq, h1.krow.rd (by rw [List.length_map, hLk])⟩)
  clear h hT hR hrw hN hP hLk hhd
  go_enter Tryd.func18, Tryd.ntmps18
  go_upto_region 1 with fail
  go_cut [3] (fun u3 wx => ∃ bc, u3 = .pointer (some ⟨bc, 0, none⟩) ∧ Hid (w.heap.size ≤ bc ∧ Below w.heap.size w wx ∧ IsRow wx bc 76 (rl4 (N : Int) (P : Int) hd (.slice none 0 0) (.slice none 0 0) (.slice none 0 0) (.slice none 0 0))))
  case first => as_aux_lemma =>
    go_wp2_with fail
    have hv0 : Below w.heap.size w w.drew := (Below.refl _ _).drew
    refine wp_region_held_drew (S := fun W => Below w.heap.size w W) (by kernel_rfl) (hv0) (fun hHeld => ?_)
    obtain ⟨wd, hwd⟩ : ∃ x, w.drew = x := ⟨_, rfl⟩
    rw [hwd] at hv0 hHeld ⊢
    clear hwd
    refine wpAnyH_take (i := 0) (oi := { dst := some 6, op := Op.move (Operand.tmp 0), type := 40, pos := "ref.go:143", after := #[], guard := none }) (v := ?v0_1) rfl (by kernel_rfl) (by kernel_rfl) (by kernel_rfl) (fun _ _ _ h => h) (Or.inl ⟨by rfl, ?h0_1⟩) (by assumption) ?r0_1
    case h0_1 =>
      intro W hSW
      try dsimp only at hSW
      go_simp
      try with_reducible rfl
    try simp only [Act.put, List.setIfInBounds_toArray, List.set_cons_zero, List.set_cons_succ]
    refine wpAnyH_take (i := 1) (oi := { dst := some 7, op := Op.nilCheck (Operand.tmp 6), type := 0, pos := "ref.go:143", after := #[{ on := 0, ground := Ground.data }], guard := none }) (v := ?v1_2) rfl (by kernel_rfl) (by kernel_rfl) (by kernel_rfl) (fun _ _ _ h => h) (Or.inl ⟨by rfl, ?h1_2⟩) (by assumption) ?r1_2
    case h1_2 =>
      intro W hSW
      try dsimp only at hSW
      go_simp
      try with_reducible rfl
    try simp only [Act.put, List.setIfInBounds_toArray, List.set_cons_zero, List.set_cons_succ]
    refine wpAnyH_take (i := 2) (oi := { dst := some 8, op := Op.fieldAddr 76 (Operand.tmp 7) 0, type := 0, pos := "ref.go:143", after := #[{ on := 1, ground := Ground.data }], guard := none }) (v := ?v2_3) rfl (by kernel_rfl) (by kernel_rfl) (by kernel_rfl) (fun _ _ _ h => h) (Or.inl ⟨by rfl, ?h2_3⟩) (by assumption) ?r2_3
    case h2_3 =>
      intro W hSW
      try dsimp only at hSW
      go_simp
      try with_reducible rfl
    try simp only [Act.put, List.setIfInBounds_toArray, List.set_cons_zero, List.set_cons_succ]
    refine wpAnyH_take (i := 3) (oi := { dst := some 9, op := Op.load 3 (Operand.tmp 8), type := 3, pos := "ref.go:143", after := #[{ on := 2, ground := Ground.data }], guard := none }) (v := ?v3_4) rfl (by kernel_rfl) (by kernel_rfl) (by kernel_rfl) (fun _ _ _ h => h) (Or.inl ⟨by rfl, ?h3_4⟩) (by assumption) ?r3_4
    case h3_4 =>
      intro W hSW
      try dsimp only at hSW
      have hcc := (hSW.cell (p := ⟨bl, 0, none⟩) HCL.out.2.2.2.2.2.2).trans HCL.out.1
      go_simp
      try with_reducible rfl
    try simp only [Act.put, List.setIfInBounds_toArray, List.set_cons_zero, List.set_cons_succ]
    refine wpAnyH_take (i := 4) (oi := { dst := some 10, op := Op.move (Operand.tmp 0), type := 40, pos := "ref.go:143", after := #[], guard := none }) (v := ?v4_5) rfl (by kernel_rfl) (by kernel_rfl) (by kernel_rfl) (fun _ _ _ h => h) (Or.inl ⟨by rfl, ?h4_5⟩) (by assumption) ?r4_5
    case h4_5 =>
      intro W hSW
      try dsimp only at hSW
      go_simp
      try with_reducible rfl
    try simp only [Act.put, List.setIfInBounds_toArray, List.set_cons_zero, List.set_cons_succ]
    refine wpAnyH_take (i := 5) (oi := { dst := some 11, op := Op.nilCheck (Operand.tmp 10), type := 0, pos := "ref.go:143", after := #[{ on := 4, ground := Ground.data }], guard := none }) (v := ?v5_6) rfl (by kernel_rfl) (by kernel_rfl) (by kernel_rfl) (fun _ _ _ h => h) (Or.inl ⟨by rfl, ?h5_6⟩) (by assumption) ?r5_6
    case h5_6 =>
      intro W hSW
      try dsimp only at hSW
      go_simp
      try with_reducible rfl
    try simp only [Act.put, List.setIfInBounds_toArray, List.set_cons_zero, List.set_cons_succ]
    refine wpAnyH_take (i := 6) (oi := { dst := some 12, op := Op.fieldAddr 76 (Operand.tmp 11) 1, type := 0, pos := "ref.go:143", after := #[{ on := 5, ground := Ground.data }], guard := none }) (v := ?v6_7) rfl (by kernel_rfl) (by kernel_rfl) (by kernel_rfl) (fun _ _ _ h => h) (Or.inl ⟨by rfl, ?h6_7⟩) (by assumption) ?r6_7
    case h6_7 =>
      intro W hSW
      try dsimp only at hSW
      go_simp
      try with_reducible rfl
    try simp only [Act.put, List.setIfInBounds_toArray, List.set_cons_zero, List.set_cons_succ]
    refine wpAnyH_take (i := 7) (oi := { dst := some 13, op := Op.load 3 (Operand.tmp 12), type := 3, pos := "ref.go:143", after := #[{ on := 6, ground := Ground.data }], guard := none }) (v := ?v7_8) rfl (by kernel_rfl) (by kernel_rfl) (by kernel_rfl) (fun _ _ _ h => h) (Or.inl ⟨by rfl, ?h7_8⟩) (by assumption) ?r7_8
    case h7_8 =>
      intro W hSW
      try dsimp only at hSW
      have hcc := (hSW.cell (p := ⟨bl, 1, none⟩) HCL.out.2.2.2.2.2.2).trans HCL.out.2.1
      go_simp
      try with_reducible rfl
    try simp only [Act.put, List.setIfInBounds_toArray, List.set_cons_zero, List.set_cons_succ]
    refine wpAnyH_take (i := 8) (oi := { dst := some 14, op := Op.move (Operand.tmp 0), type := 40, pos := "ref.go:143", after := #[], guard := none }) (v := ?v8_9) rfl (by kernel_rfl) (by kernel_rfl) (by kernel_rfl) (fun _ _ _ h => h) (Or.inl ⟨by rfl, ?h8_9⟩) (by assumption) ?r8_9
    case h8_9 =>
      intro W hSW
      try dsimp only at hSW
      go_simp
      try with_reducible rfl
    try simp only [Act.put, List.setIfInBounds_toArray, List.set_cons_zero, List.set_cons_succ]
    refine wpAnyH_take (i := 9) (oi := { dst := some 15, op := Op.nilCheck (Operand.tmp 14), type := 0, pos := "ref.go:143", after := #[{ on := 8, ground := Ground.data }], guard := none }) (v := ?v9_10) rfl (by kernel_rfl) (by kernel_rfl) (by kernel_rfl) (fun _ _ _ h => h) (Or.inl ⟨by rfl, ?h9_10⟩) (by assumption) ?r9_10
    case h9_10 =>
      intro W hSW
      try dsimp only at hSW
      go_simp
      try with_reducible rfl
    try simp only [Act.put, List.setIfInBounds_toArray, List.set_cons_zero, List.set_cons_succ]
    refine wpAnyH_take (i := 10) (oi := { dst := some 16, op := Op.fieldAddr 76 (Operand.tmp 15) 2, type := 0, pos := "ref.go:143", after := #[{ on := 9, ground := Ground.data }], guard := none }) (v := ?v10_11) rfl (by kernel_rfl) (by kernel_rfl) (by kernel_rfl) (fun _ _ _ h => h) (Or.inl ⟨by rfl, ?h10_11⟩) (by assumption) ?r10_11
    case h10_11 =>
      intro W hSW
      try dsimp only at hSW
      go_simp
      try with_reducible rfl
    try simp only [Act.put, List.setIfInBounds_toArray, List.set_cons_zero, List.set_cons_succ]
    refine wpAnyH_take (i := 11) (oi := { dst := some 17, op := Op.load 66 (Operand.tmp 16), type := 66, pos := "ref.go:143", after := #[{ on := 10, ground := Ground.data }], guard := none }) (v := _) rfl (by kernel_rfl) (by kernel_rfl) (by kernel_rfl) (fun _ _ _ h => h) (yieldsIf_load_mid rfl _ (.tmp 16) rfl bl 2 rfl (bvs hd) _ (fun W hW => HRG.out W hW) Tryd.underlying66 rfl (by rw [bvs_len, H16.out]; exact size16)) (by assumption) ?_
    try simp only [Act.put, List.setIfInBounds_toArray, List.set_cons_zero, List.set_cons_succ]
    refine wpAnyH_take (i := 12) (oi := { dst := some 18, op := Op.build 76 #[(0, Operand.tmp 9), (1, Operand.tmp 13), (2, Operand.tmp 17)], type := 76, pos := "ref.go:143", after := #[{ on := 3, ground := Ground.data }, { on := 7, ground := Ground.data }, { on := 11, ground := Ground.data }], guard := none }) (v := _) rfl (by kernel_rfl) (by kernel_rfl) (by kernel_rfl) (fun _ _ _ h => h) (y_build012 rfl 76 (.tmp 9) (.tmp 13) (.tmp 17) rfl (.int .i64 (N : Int)) (.int .i64 (P : Int)) (dv hd) rfl rfl rfl _ (built_rl3 (N : Int) (P : Int) hd H16.out)) (by assumption) ?_
    try simp only [Act.put, List.setIfInBounds_toArray, List.set_cons_zero, List.set_cons_succ]
    refine wpAnyH_ready (rs := [13]) (by kernel_rfl) (by simp) ?_
    refine AllReadyH.cons (o := { dst := some 19, op := Op.box 76 (Operand.tmp 18), type := 40, pos := "ref.go:143", after := #[{ on := 12, ground := Ground.data }], guard := none }) rfl (fun K hK => ?_) AllReadyH.nil
    rw [if_pos (by rfl)]
    refine wp_boxRow 76 (.tmp 18) rfl (rl4 (N : Int) (P : Int) hd (.slice none 0 0) (.slice none 0 0) (.slice none 0 0) (.slice none 0 0)) rfl ?_
    obtain ⟨bc, hbc⟩ : ∃ x, wd.heap.size = x := ⟨_, rfl⟩
    have rbl := IsRow.new wd 76 (rl4 (N : Int) (P : Int) hd (.slice none 0 0) (.slice none 0 0) (.slice none 0 0) (.slice none 0 0))
    obtain ⟨w40, hw40⟩ : ∃ x, wd.alloc (.cells (rl4 (N : Int) (P : Int) hd (.slice none 0 0) (.slice none 0 0) (.slice none 0 0) (.slice none 0 0)).toArray 76) = x := ⟨_, rfl⟩
    rw [hw40, hbc] at rbl
    rw [hw40, hbc]
    have b40 : Below wd.heap.size wd w40 := by rw [← hw40]; exact (Below.refl _ _).alloc (Nat.le_refl _) _
    have hv40 : Below w.heap.size w w40 := hv0.trans (b40.mono hv0.size)
    have hlb : w.heap.size ≤ bc := hbc ▸ hv0.size
    clear hw40 b40 hbc
    refine hK.out _ _ (hv40) (fun hHeld => ?_)
    clear hK K
    try simp only [Act.put, List.setIfInBounds_toArray, List.set_cons_zero, List.set_cons_succ]
    refine wpAnyH_take (i := 14) (oi := { dst := some 3, op := Op.assign (Operand.tmp 19), type := 40, pos := "ref.go:143", after := #[{ on := 13, ground := Ground.data }, { on := 0, ground := Ground.phase }, { on := 1, ground := Ground.phase }, { on := 2, ground := Ground.phase }, { on := 3, ground := Ground.phase }, { on := 4, ground := Ground.phase }, { on := 5, ground := Ground.phase }, { on := 6, ground := Ground.phase }, { on := 7, ground := Ground.phase }, { on := 8, ground := Ground.phase }, { on := 9, ground := Ground.phase }, { on := 10, ground := Ground.phase }, { on := 11, ground := Ground.phase }, { on := 12, ground := Ground.phase }, { on := 13, ground := Ground.phase }], guard := none }) (v := ?v14_14) rfl (by kernel_rfl) (by kernel_rfl) (by kernel_rfl) (fun _ _ _ h => h) (Or.inl ⟨by rfl, ?h14_14⟩) (by assumption) ?r14_14
    case h14_14 =>
      intro W hSW
      try dsimp only at hSW
      go_simp
      try with_reducible rfl
    try simp only [Act.put, List.setIfInBounds_toArray, List.set_cons_zero, List.set_cons_succ]
    refine wpAnyH_done (by kernel_rfl) ?_ _
    have HFI := Lib.hid (And.intro hlb (And.intro hv40 rbl))
    clear hv40 hlb rbl
    go_wp2_with fail
    go_meet
    exact ⟨bc, rfl, HFI⟩
  case rest => as_aux_lemma =>
    obtain ⟨bc, rfl, HS1⟩ := hcut
    obtain ⟨w1, hw1⟩ : ∃ x, wc = x := ⟨_, rfl⟩
    try rw [hw1] at HS1 ⊢
    clear hw1
    go_upto_region 2 with fail
    go_cut [] (fun wx => ∃ g2 c2, Hid (RC2 w wx bc g2 c2 N P l))
    case first => as_aux_lemma =>
      go_wp2_with fail
      have hv0 : Below w1.heap.size w1 w1.drew := (Below.refl _ _).drew
      refine wp_region_late (fun W => Below w1.heap.size w1 W) [12] (by kernel_rfl) (hv0) (fun hHeld => ?_)
      obtain ⟨wd, hwd⟩ : ∃ x, w1.drew = x := ⟨_, rfl⟩
      rw [hwd] at hv0 hHeld ⊢
      clear hwd
      refine wpAnyL_take (i := 0) (oi := { dst := some 20, op := Op.move (Operand.tmp 3), type := 40, pos := "ref.go:144", after := #[], guard := none }) (v := ?v0_201) rfl (by kernel_rfl) (by kernel_rfl) (by kernel_rfl) (by kernel_rfl) (fun _ _ _ h => h) (Or.inl ⟨by rfl, ?h0_201⟩) (by assumption) ?r0_201
      case h0_201 =>
        intro W hSW
        try dsimp only at hSW
        go_simp
        try with_reducible rfl
      try simp only [Act.put, List.setIfInBounds_toArray, List.set_cons_zero, List.set_cons_succ]
      refine wpAnyL_take (i := 1) (oi := { dst := some 21, op := Op.move (Operand.tmp 3), type := 40, pos := "ref.go:144", after := #[], guard := none }) (v := ?v1_202) rfl (by kernel_rfl) (by kernel_rfl) (by kernel_rfl) (by kernel_rfl) (fun _ _ _ h => h) (Or.inl ⟨by rfl, ?h1_202⟩) (by assumption) ?r1_202
      case h1_202 =>
        intro W hSW
        try dsimp only at hSW
        go_simp
        try with_reducible rfl
      try simp only [Act.put, List.setIfInBounds_toArray, List.set_cons_zero, List.set_cons_succ]
      refine wpAnyL_take (i := 2) (oi := { dst := some 22, op := Op.nilCheck (Operand.tmp 21), type := 0, pos := "ref.go:144", after := #[{ on := 1, ground := Ground.data }], guard := none }) (v := ?v2_203) rfl (by kernel_rfl) (by kernel_rfl) (by kernel_rfl) (by kernel_rfl) (fun _ _ _ h => h) (Or.inl ⟨by rfl, ?h2_203⟩) (by assumption) ?r2_203
      case h2_203 =>
        intro W hSW
        try dsimp only at hSW
        go_simp
        try with_reducible rfl
      try simp only [Act.put, List.setIfInBounds_toArray, List.set_cons_zero, List.set_cons_succ]
      refine wpAnyL_take (i := 3) (oi := { dst := some 23, op := Op.fieldAddr 76 (Operand.tmp 22) 3, type := 0, pos := "ref.go:144", after := #[{ on := 2, ground := Ground.data }], guard := none }) (v := ?v3_204) rfl (by kernel_rfl) (by kernel_rfl) (by kernel_rfl) (by kernel_rfl) (fun _ _ _ h => h) (Or.inl ⟨by rfl, ?h3_204⟩) (by assumption) ?r3_204
      case h3_204 =>
        intro W hSW
        try dsimp only at hSW
        go_simp
        try with_reducible rfl
      try simp only [Act.put, List.setIfInBounds_toArray, List.set_cons_zero, List.set_cons_succ]
      refine wpAnyL_take (i := 4) (oi := { dst := some 24, op := Op.load 29 (Operand.tmp 23), type := 29, pos := "ref.go:144", after := #[{ on := 3, ground := Ground.data }], guard := none }) (v := ?v4_205) rfl (by kernel_rfl) (by kernel_rfl) (by kernel_rfl) (by kernel_rfl) (fun _ _ _ h => h) (Or.inl ⟨by rfl, ?h4_205⟩) (by assumption) ?r4_205
      case h4_205 =>
        intro W hSW
        try dsimp only at hSW
        have hcc := ((HS1.out.2.2).below' hSW).cell 18
        rw [show (rl4 _ _ _ _ _ _ _)[18]? = some (.slice none 0 0) from rl4_tail (by first | exact H16.out | exact HL.out.h16) _ _ _ _ _ _ 0] at hcc
        go_simp
        try with_reducible rfl
      try simp only [Act.put, List.setIfInBounds_toArray, List.set_cons_zero, List.set_cons_succ]
      refine wpAnyL_take (i := 5) (oi := { dst := some 25, op := Op.move (Operand.tmp 0), type := 40, pos := "ref.go:144", after := #[], guard := none }) (v := ?v5_206) rfl (by kernel_rfl) (by kernel_rfl) (by kernel_rfl) (by kernel_rfl) (fun _ _ _ h => h) (Or.inl ⟨by rfl, ?h5_206⟩) (by assumption) ?r5_206
      case h5_206 =>
        intro W hSW
        try dsimp only at hSW
        go_simp
        try with_reducible rfl
      try simp only [Act.put, List.setIfInBounds_toArray, List.set_cons_zero, List.set_cons_succ]
      refine wpAnyL_take (i := 6) (oi := { dst := some 26, op := Op.nilCheck (Operand.tmp 25), type := 0, pos := "ref.go:144", after := #[{ on := 5, ground := Ground.data }], guard := none }) (v := ?v6_207) rfl (by kernel_rfl) (by kernel_rfl) (by kernel_rfl) (by kernel_rfl) (fun _ _ _ h => h) (Or.inl ⟨by rfl, ?h6_207⟩) (by assumption) ?r6_207
      case h6_207 =>
        intro W hSW
        try dsimp only at hSW
        go_simp
        try with_reducible rfl
      try simp only [Act.put, List.setIfInBounds_toArray, List.set_cons_zero, List.set_cons_succ]
      refine wpAnyL_take (i := 7) (oi := { dst := some 27, op := Op.fieldAddr 76 (Operand.tmp 26) 3, type := 0, pos := "ref.go:144", after := #[{ on := 6, ground := Ground.data }], guard := none }) (v := ?v7_208) rfl (by kernel_rfl) (by kernel_rfl) (by kernel_rfl) (by kernel_rfl) (fun _ _ _ h => h) (Or.inl ⟨by rfl, ?h7_208⟩) (by assumption) ?r7_208
      case h7_208 =>
        intro W hSW
        try dsimp only at hSW
        go_simp
        try with_reducible rfl
      try simp only [Act.put, List.setIfInBounds_toArray, List.set_cons_zero, List.set_cons_succ]
      refine wpAnyL_take (i := 8) (oi := { dst := some 28, op := Op.load 29 (Operand.tmp 27), type := 29, pos := "ref.go:144", after := #[{ on := 7, ground := Ground.data }], guard := none }) (v := ?v8_209) rfl (by kernel_rfl) (by kernel_rfl) (by kernel_rfl) (by kernel_rfl) (fun _ _ _ h => h) (Or.inl ⟨by rfl, ?h8_209⟩) (by assumption) ?r8_209
      case h8_209 =>
        intro W hSW
        try dsimp only at hSW
        have hcc := ((HS1.out.2.1.trans (hSW.mono HS1.out.2.1.size)).cell (p := ⟨bl, 18, none⟩) HCL.out.2.2.2.2.2.2).trans HCL.out.2.2.1
        go_simp
        try with_reducible rfl
      try simp only [Act.put, List.setIfInBounds_toArray, List.set_cons_zero, List.set_cons_succ]
      refine wpAnyL_ready (rs := [9]) (by kernel_rfl) (by simp) ?_
      refine AllReadyL.cons (o := { dst := some 29, op := Op.call { callee := Callee.builtin Builtin.append, args := #[Operand.tmp 24, Operand.tmp 28], argTypes := #[29, 29] }, type := 29, pos := "ref.go:144", after := #[{ on := 4, ground := Ground.data }, { on := 8, ground := Ground.data }], guard := none }) rfl (fun K hK => ?_) AllReadyL.nil
      rw [if_pos (by rfl)]
      refine wp_app _ (.tmp 24) (.tmp 28) 29 rfl w1.heap.size 3 (.int .i64 0) 1 8 bintT none 0 0 [] rfl (World.ownsRow_nil _ _ _ _) wd.heap.size (some ⟨m.bp, 0, none⟩) N m.cp (ivs l.pending) rfl (HRP.out wd (HS1.out.2.1.trans (hv0.mono HS1.out.2.1.size))).1 (ivs_one _) HJ.out.1 HJ.out.2.1 hv0.size ?_
      intro A' c' w100 own100 gr100 hA100
      simp only [Nat.zero_add, List.nil_append] at own100
      simp only [Nat.zero_add]
      obtain ⟨g2, rfl, hg2, f2⟩ := FRow.of_own own100 HN.out.1
      have b100 := below_of_grown gr100
      have hv100 : Below w1.heap.size w1 w100 := hv0.trans (b100.mono hv0.size)
      have hk1 := ((HS1.out.2.2).below' hv100).cell 18
      rw [show (rl4 _ _ _ _ _ _ _)[18]? = some (.slice none 0 0) from rl4_tail (by first | exact H16.out | exact HL.out.h16) _ _ _ _ _ _ 0] at hk1
      have hf1 := ((HS1.out.2.2).below' hv100).frozen 18
      clear own100 gr100 hA100 b100
      refine hK.out _ _ (hv100) (fun hHeld => ?_)
      clear hK K
      try simp only [Act.put, List.setIfInBounds_toArray, List.set_cons_zero, List.set_cons_succ]
      refine wpAnyL_take (i := 10) (oi := { dst := some 30, op := Op.nilCheck (Operand.tmp 20), type := 0, pos := "ref.go:144", after := #[{ on := 0, ground := Ground.data }, { on := 0, ground := Ground.phase }, { on := 1, ground := Ground.phase }, { on := 2, ground := Ground.phase }, { on := 3, ground := Ground.phase }, { on := 4, ground := Ground.phase }, { on := 5, ground := Ground.phase }, { on := 6, ground := Ground.phase }, { on := 7, ground := Ground.phase }, { on := 8, ground := Ground.phase }, { on := 9, ground := Ground.phase }], guard := none }) (v := ?v10_210) rfl (by kernel_rfl) (by kernel_rfl) (by kernel_rfl) (by kernel_rfl) (fun _ _ _ h => h) (Or.inl ⟨by rfl, ?h10_210⟩) (by assumption) ?r10_210
      case h10_210 =>
        intro W hSW
        try dsimp only at hSW
        go_simp
        try with_reducible rfl
      try simp only [Act.put, List.setIfInBounds_toArray, List.set_cons_zero, List.set_cons_succ]
      refine wpAnyL_take (i := 11) (oi := { dst := some 31, op := Op.fieldAddr 76 (Operand.tmp 30) 3, type := 0, pos := "ref.go:144", after := #[{ on := 10, ground := Ground.data }, { on := 0, ground := Ground.phase }, { on := 1, ground := Ground.phase }, { on := 2, ground := Ground.phase }, { on := 3, ground := Ground.phase }, { on := 4, ground := Ground.phase }, { on := 5, ground := Ground.phase }, { on := 6, ground := Ground.phase }, { on := 7, ground := Ground.phase }, { on := 8, ground := Ground.phase }, { on := 9, ground := Ground.phase }], guard := none }) (v := ?v11_211) rfl (by kernel_rfl) (by kernel_rfl) (by kernel_rfl) (by kernel_rfl) (fun _ _ _ h => h) (Or.inl ⟨by rfl, ?h11_211⟩) (by assumption) ?r11_211
      case h11_211 =>
        intro W hSW
        try dsimp only at hSW
        go_simp
        try with_reducible rfl
      try simp only [Act.put, List.setIfInBounds_toArray, List.set_cons_zero, List.set_cons_succ]
      refine wpAnyL_ready (rs := [12]) (by kernel_rfl) (by simp) ?_
      refine AllReadyL.late (o := { dst := none, op := Op.store 29 (Operand.tmp 31) (Operand.tmp 29), type := 0, pos := "ref.go:144", after := #[{ on := 11, ground := Ground.data }, { on := 9, ground := Ground.data }, { on := 9, ground := Ground.chain }, { on := 0, ground := Ground.phase }, { on := 1, ground := Ground.phase }, { on := 2, ground := Ground.phase }, { on := 3, ground := Ground.phase }, { on := 4, ground := Ground.phase }, { on := 5, ground := Ground.phase }, { on := 6, ground := Ground.phase }, { on := 7, ground := Ground.phase }, { on := 8, ground := Ground.phase }, { on := 9, ground := Ground.phase }], guard := none }) rfl (by rfl) (fun K hK => ?_) AllReadyL.nil
      rw [if_pos (by rfl)]
      go_simp
      obtain ⟨w101, hw101⟩ : ∃ x, w100.setCell ⟨bc, 18, none⟩ (.slice (some ⟨g2, 0, none⟩) N c') = x := ⟨_, rfl⟩
      rw [hw101]
      have HFI : Hid (RC2 w w101 bc g2 c' N P l) := Lib.hid (by have h1 := ((HS1.out.2.2).below' hv100).set 18 (.slice (some ⟨g2, 0, none⟩) N c'); rw [(rl4_set H16.out _ _ _ _ _ _ _).1, hw101] at h1; have hl1 := HS1.out.2.2.lt; have hs1 := HS1.out.2.1.size; refine ⟨(HS1.out.2.1.trans (hv100.mono hs1)).grown (by rw [← hw101]; exact grown_setCell _ _ _ _) (Nat.le_trans hs1 hv100.size) (fun j hj => by have hj := Option.some.inj hj; have := HS1.out.1; omega), ⟨HS1.out.1, by omega⟩, by rw [HHD.out]; exact h1, by rw [← hw101]; exact f2.keep ((grown_setCell _ bc 18 _).block _ f2.lt (fun e => by have := Option.some.inj e; omega))⟩)
      have hv101 := HFI
      clear hw101 hk1 hf1 f2 hg2
      refine hK.out _ _ ?_
      clear hK K
      try simp only [Act.put, List.setIfInBounds_toArray, List.set_cons_zero, List.set_cons_succ]
      refine wpAnyL_done (by kernel_rfl) ?_ _
      go_wp2_with fail
      go_meet
      exact ⟨g2, c', HFI⟩
    case rest => as_aux_lemma =>
      obtain ⟨g2, c2, HS2⟩ := hcut
      obtain ⟨w2, hw2⟩ : ∃ x, wc = x := ⟨_, rfl⟩
      try rw [hw2] at HS2 ⊢
      clear hw2 HS1
      go_upto_region 3 with fail
      go_cut [] (fun wx => ∃ g3 c3, Hid (RC3 w wx bc g2 c2 g3 c3 N P l))
      case first => as_aux_lemma =>
        go_wp2_with fail
        have hv0 : Below w2.heap.size w2 w2.drew := (Below.refl _ _).drew
        refine wp_region_late (fun W => Below w2.heap.size w2 W) [12] (by kernel_rfl) (hv0) (fun hHeld => ?_)
        obtain ⟨wd, hwd⟩ : ∃ x, w2.drew = x := ⟨_, rfl⟩
        rw [hwd] at hv0 hHeld ⊢
        clear hwd
        refine wpAnyL_take (i := 0) (oi := { dst := some 32, op := Op.move (Operand.tmp 3), type := 40, pos := "ref.go:145", after := #[], guard := none }) (v := ?v0_301) rfl (by kernel_rfl) (by kernel_rfl) (by kernel_rfl) (by kernel_rfl) (fun _ _ _ h => h) (Or.inl ⟨by rfl, ?h0_301⟩) (by assumption) ?r0_301
        case h0_301 =>
          intro W hSW
          try dsimp only at hSW
          go_simp
          try with_reducible rfl
        try simp only [Act.put, List.setIfInBounds_toArray, List.set_cons_zero, List.set_cons_succ]
        refine wpAnyL_take (i := 1) (oi := { dst := some 33, op := Op.move (Operand.tmp 3), type := 40, pos := "ref.go:145", after := #[], guard := none }) (v := ?v1_302) rfl (by kernel_rfl) (by kernel_rfl) (by kernel_rfl) (by kernel_rfl) (fun _ _ _ h => h) (Or.inl ⟨by rfl, ?h1_302⟩) (by assumption) ?r1_302
        case h1_302 =>
          intro W hSW
          try dsimp only at hSW
          go_simp
          try with_reducible rfl
        try simp only [Act.put, List.setIfInBounds_toArray, List.set_cons_zero, List.set_cons_succ]
        refine wpAnyL_take (i := 2) (oi := { dst := some 34, op := Op.nilCheck (Operand.tmp 33), type := 0, pos := "ref.go:145", after := #[{ on := 1, ground := Ground.data }], guard := none }) (v := ?v2_303) rfl (by kernel_rfl) (by kernel_rfl) (by kernel_rfl) (by kernel_rfl) (fun _ _ _ h => h) (Or.inl ⟨by rfl, ?h2_303⟩) (by assumption) ?r2_303
        case h2_303 =>
          intro W hSW
          try dsimp only at hSW
          go_simp
          try with_reducible rfl
        try simp only [Act.put, List.setIfInBounds_toArray, List.set_cons_zero, List.set_cons_succ]
        refine wpAnyL_take (i := 3) (oi := { dst := some 35, op := Op.fieldAddr 76 (Operand.tmp 34) 4, type := 0, pos := "ref.go:145", after := #[{ on := 2, ground := Ground.data }], guard := none }) (v := ?v3_304) rfl (by kernel_rfl) (by kernel_rfl) (by kernel_rfl) (by kernel_rfl) (fun _ _ _ h => h) (Or.inl ⟨by rfl, ?h3_304⟩) (by assumption) ?r3_304
        case h3_304 =>
          intro W hSW
          try dsimp only at hSW
          go_simp
          try with_reducible rfl
        try simp only [Act.put, List.setIfInBounds_toArray, List.set_cons_zero, List.set_cons_succ]
        refine wpAnyL_take (i := 4) (oi := { dst := some 36, op := Op.load 29 (Operand.tmp 35), type := 29, pos := "ref.go:145", after := #[{ on := 3, ground := Ground.data }], guard := none }) (v := ?v4_305) rfl (by kernel_rfl) (by kernel_rfl) (by kernel_rfl) (by kernel_rfl) (fun _ _ _ h => h) (Or.inl ⟨by rfl, ?h4_305⟩) (by assumption) ?r4_305
        case h4_305 =>
          intro W hSW
          try dsimp only at hSW
          have hcc := ((HS2.out.row).below' hSW).cell 19
          rw [show (rl4 _ _ _ _ _ _ _)[19]? = some (.slice none 0 0) from rl4_tail (by first | exact H16.out | exact HL.out.h16) _ _ _ _ _ _ 1] at hcc
          go_simp
          try with_reducible rfl
        try simp only [Act.put, List.setIfInBounds_toArray, List.set_cons_zero, List.set_cons_succ]
        refine wpAnyL_take (i := 5) (oi := { dst := some 37, op := Op.move (Operand.tmp 0), type := 40, pos := "ref.go:145", after := #[], guard := none }) (v := ?v5_306) rfl (by kernel_rfl) (by kernel_rfl) (by kernel_rfl) (by kernel_rfl) (fun _ _ _ h => h) (Or.inl ⟨by rfl, ?h5_306⟩) (by assumption) ?r5_306
        case h5_306 =>
          intro W hSW
          try dsimp only at hSW
          go_simp
          try with_reducible rfl
        try simp only [Act.put, List.setIfInBounds_toArray, List.set_cons_zero, List.set_cons_succ]
        refine wpAnyL_take (i := 6) (oi := { dst := some 38, op := Op.nilCheck (Operand.tmp 37), type := 0, pos := "ref.go:145", after := #[{ on := 5, ground := Ground.data }], guard := none }) (v := ?v6_307) rfl (by kernel_rfl) (by kernel_rfl) (by kernel_rfl) (by kernel_rfl) (fun _ _ _ h => h) (Or.inl ⟨by rfl, ?h6_307⟩) (by assumption) ?r6_307
        case h6_307 =>
          intro W hSW
          try dsimp only at hSW
          go_simp
          try with_reducible rfl
        try simp only [Act.put, List.setIfInBounds_toArray, List.set_cons_zero, List.set_cons_succ]
        refine wpAnyL_take (i := 7) (oi := { dst := some 39, op := Op.fieldAddr 76 (Operand.tmp 38) 4, type := 0, pos := "ref.go:145", after := #[{ on := 6, ground := Ground.data }], guard := none }) (v := ?v7_308) rfl (by kernel_rfl) (by kernel_rfl) (by kernel_rfl) (by kernel_rfl) (fun _ _ _ h => h) (Or.inl ⟨by rfl, ?h7_308⟩) (by assumption) ?r7_308
        case h7_308 =>
          intro W hSW
          try dsimp only at hSW
          go_simp
          try with_reducible rfl
        try simp only [Act.put, List.setIfInBounds_toArray, List.set_cons_zero, List.set_cons_succ]
        refine wpAnyL_take (i := 8) (oi := { dst := some 40, op := Op.load 29 (Operand.tmp 39), type := 29, pos := "ref.go:145", after := #[{ on := 7, ground := Ground.data }], guard := none }) (v := ?v8_309) rfl (by kernel_rfl) (by kernel_rfl) (by kernel_rfl) (by kernel_rfl) (fun _ _ _ h => h) (Or.inl ⟨by rfl, ?h8_309⟩) (by assumption) ?r8_309
        case h8_309 =>
          intro W hSW
          try dsimp only at hSW
          have hcc := ((HS2.out.b.trans (hSW.mono HS2.out.b.size)).cell (p := ⟨bl, 19, none⟩) HCL.out.2.2.2.2.2.2).trans HCL.out.2.2.2.1
          go_simp
          try with_reducible rfl
        try simp only [Act.put, List.setIfInBounds_toArray, List.set_cons_zero, List.set_cons_succ]
        refine wpAnyL_ready (rs := [9]) (by kernel_rfl) (by simp) ?_
        refine AllReadyL.cons (o := { dst := some 41, op := Op.call { callee := Callee.builtin Builtin.append, args := #[Operand.tmp 36, Operand.tmp 40], argTypes := #[29, 29] }, type := 29, pos := "ref.go:145", after := #[{ on := 4, ground := Ground.data }, { on := 8, ground := Ground.data }], guard := none }) rfl (fun K hK => ?_) AllReadyL.nil
        rw [if_pos (by rfl)]
        refine wp_app _ (.tmp 36) (.tmp 40) 29 rfl w2.heap.size 3 (.int .i64 0) 1 8 bintT none 0 0 [] rfl (World.ownsRow_nil _ _ _ _) wd.heap.size (some ⟨m.bq, 0, none⟩) N m.cq (ivs l.paid) rfl (HRP.out wd (HS2.out.b.trans (hv0.mono HS2.out.b.size))).2.1 (ivs_one _) HJ.out.1 HJ.out.2.1 hv0.size ?_
        intro A' c' w200 own200 gr200 hA200
        simp only [Nat.zero_add, List.nil_append] at own200
        simp only [Nat.zero_add]
        obtain ⟨g3, rfl, hg3, f3⟩ := FRow.of_own own200 HN.out.1
        have b200 := below_of_grown gr200
        have hv200 : Below w2.heap.size w2 w200 := hv0.trans (b200.mono hv0.size)
        have hk1 := ((HS2.out.row).below' hv200).cell 19
        rw [show (rl4 _ _ _ _ _ _ _)[19]? = some (.slice none 0 0) from rl4_tail (by first | exact H16.out | exact HL.out.h16) _ _ _ _ _ _ 1] at hk1
        have hf1 := ((HS2.out.row).below' hv200).frozen 19
        clear own200 gr200 hA200 b200
        refine hK.out _ _ (hv200) (fun hHeld => ?_)
        clear hK K
        try simp only [Act.put, List.setIfInBounds_toArray, List.set_cons_zero, List.set_cons_succ]
        refine wpAnyL_take (i := 10) (oi := { dst := some 42, op := Op.nilCheck (Operand.tmp 32), type := 0, pos := "ref.go:145", after := #[{ on := 0, ground := Ground.data }, { on := 0, ground := Ground.phase }, { on := 1, ground := Ground.phase }, { on := 2, ground := Ground.phase }, { on := 3, ground := Ground.phase }, { on := 4, ground := Ground.phase }, { on := 5, ground := Ground.phase }, { on := 6, ground := Ground.phase }, { on := 7, ground := Ground.phase }, { on := 8, ground := Ground.phase }, { on := 9, ground := Ground.phase }], guard := none }) (v := ?v10_310) rfl (by kernel_rfl) (by kernel_rfl) (by kernel_rfl) (by kernel_rfl) (fun _ _ _ h => h) (Or.inl ⟨by rfl, ?h10_310⟩) (by assumption) ?r10_310
        case h10_310 =>
          intro W hSW
          try dsimp only at hSW
          go_simp
          try with_reducible rfl
        try simp only [Act.put, List.setIfInBounds_toArray, List.set_cons_zero, List.set_cons_succ]
        refine wpAnyL_take (i := 11) (oi := { dst := some 43, op := Op.fieldAddr 76 (Operand.tmp 42) 4, type := 0, pos := "ref.go:145", after := #[{ on := 10, ground := Ground.data }, { on := 0, ground := Ground.phase }, { on := 1, ground := Ground.phase }, { on := 2, ground := Ground.phase }, { on := 3, ground := Ground.phase }, { on := 4, ground := Ground.phase }, { on := 5, ground := Ground.phase }, { on := 6, ground := Ground.phase }, { on := 7, ground := Ground.phase }, { on := 8, ground := Ground.phase }, { on := 9, ground := Ground.phase }], guard := none }) (v := ?v11_311) rfl (by kernel_rfl) (by kernel_rfl) (by kernel_rfl) (by kernel_rfl) (fun _ _ _ h => h) (Or.inl ⟨by rfl, ?h11_311⟩) (by assumption) ?r11_311
        case h11_311 =>
          intro W hSW
          try dsimp only at hSW
          go_simp
          try with_reducible rfl
        try simp only [Act.put, List.setIfInBounds_toArray, List.set_cons_zero, List.set_cons_succ]
        refine wpAnyL_ready (rs := [12]) (by kernel_rfl) (by simp) ?_
        refine AllReadyL.late (o := { dst := none, op := Op.store 29 (Operand.tmp 43) (Operand.tmp 41), type := 0, pos := "ref.go:145", after := #[{ on := 11, ground := Ground.data }, { on := 9, ground := Ground.data }, { on := 9, ground := Ground.chain }, { on := 0, ground := Ground.phase }, { on := 1, ground := Ground.phase }, { on := 2, ground := Ground.phase }, { on := 3, ground := Ground.phase }, { on := 4, ground := Ground.phase }, { on := 5, ground := Ground.phase }, { on := 6, ground := Ground.phase }, { on := 7, ground := Ground.phase }, { on := 8, ground := Ground.phase }, { on := 9, ground := Ground.phase }], guard := none }) rfl (by rfl) (fun K hK => ?_) AllReadyL.nil
        rw [if_pos (by rfl)]
        go_simp
        obtain ⟨w201, hw201⟩ : ∃ x, w200.setCell ⟨bc, 19, none⟩ (.slice (some ⟨g3, 0, none⟩) N c') = x := ⟨_, rfl⟩
        rw [hw201]
        have HFI : Hid (RC3 w w201 bc g2 c2 g3 c' N P l) := Lib.hid (by have h1 := ((HS2.out.row).below' hv200).set 19 (.slice (some ⟨g3, 0, none⟩) N c'); rw [(rl4_set HL.out.h16 _ _ _ _ _ _ _).2.1, hw201] at h1; have hl1 := HS2.out.row.lt; have hl2 := HS2.out.f2.lt; have hs1 := HS2.out.b.size; have ho := HS2.out.o; refine ⟨(HS2.out.b.trans (hv200.mono hs1)).grown (by rw [← hw201]; exact grown_setCell _ _ _ _) (Nat.le_trans hs1 hv200.size) (fun j hj => by have hj := Option.some.inj hj; omega), ⟨ho.1, ho.2, by omega⟩, h1, by rw [← hw201]; exact (HS2.out.f2.below hv200).keep ((grown_setCell _ bc 19 _).block _ (HS2.out.f2.below hv200).lt (fun e => by have := Option.some.inj e; omega)), by rw [← hw201]; exact f3.keep ((grown_setCell _ bc 19 _).block _ f3.lt (fun e => by have := Option.some.inj e; omega))⟩)
        have hv201 := HFI
        clear hw201 hk1 hf1 f3 hg3
        refine hK.out _ _ ?_
        clear hK K
        try simp only [Act.put, List.setIfInBounds_toArray, List.set_cons_zero, List.set_cons_succ]
        refine wpAnyL_done (by kernel_rfl) ?_ _
        go_wp2_with fail
        go_meet
        exact ⟨g3, c', HFI⟩
      case rest => as_aux_lemma =>
        obtain ⟨g3, c3, HS3⟩ := hcut
        obtain ⟨w3, hw3⟩ : ∃ x, wc = x := ⟨_, rfl⟩
        try rw [hw3] at HS3 ⊢
        clear hw3 HS2
        go_upto_region 4 with fail
        go_cut [] (fun wx => ∃ Ak ck cl, Hid (RCl w wx bc col cl l m.ks [] Ak ck none 0 g2 c2 g3 c3))
        case first => as_aux_lemma =>
          go_wp2_with fail
          have hv0 : Below w3.heap.size w3 w3.drew := (Below.refl _ _).drew
          refine wp_region_late (fun W => Below w3.heap.size w3 W) [12] (by kernel_rfl) (hv0) (fun hHeld => ?_)
          obtain ⟨wd, hwd⟩ : ∃ x, w3.drew = x := ⟨_, rfl⟩
          rw [hwd] at hv0 hHeld ⊢
          clear hwd
          refine wpAnyL_take (i := 0) (oi := { dst := some 44, op := Op.move (Operand.tmp 3), type := 40, pos := "ref.go:146", after := #[], guard := none }) (v := ?v0_401) rfl (by kernel_rfl) (by kernel_rfl) (by kernel_rfl) (by kernel_rfl) (fun _ _ _ h => h) (Or.inl ⟨by rfl, ?h0_401⟩) (by assumption) ?r0_401
          case h0_401 =>
            intro W hSW
            try dsimp only at hSW
            go_simp
            try with_reducible rfl
          try simp only [Act.put, List.setIfInBounds_toArray, List.set_cons_zero, List.set_cons_succ]
          refine wpAnyL_take (i := 1) (oi := { dst := some 45, op := Op.move (Operand.tmp 3), type := 40, pos := "ref.go:146", after := #[], guard := none }) (v := ?v1_402) rfl (by kernel_rfl) (by kernel_rfl) (by kernel_rfl) (by kernel_rfl) (fun _ _ _ h => h) (Or.inl ⟨by rfl, ?h1_402⟩) (by assumption) ?r1_402
          case h1_402 =>
            intro W hSW
            try dsimp only at hSW
            go_simp
            try with_reducible rfl
          try simp only [Act.put, List.setIfInBounds_toArray, List.set_cons_zero, List.set_cons_succ]
          refine wpAnyL_take (i := 2) (oi := { dst := some 46, op := Op.nilCheck (Operand.tmp 45), type := 0, pos := "ref.go:146", after := #[{ on := 1, ground := Ground.data }], guard := none }) (v := ?v2_403) rfl (by kernel_rfl) (by kernel_rfl) (by kernel_rfl) (by kernel_rfl) (fun _ _ _ h => h) (Or.inl ⟨by rfl, ?h2_403⟩) (by assumption) ?r2_403
          case h2_403 =>
            intro W hSW
            try dsimp only at hSW
            go_simp
            try with_reducible rfl
          try simp only [Act.put, List.setIfInBounds_toArray, List.set_cons_zero, List.set_cons_succ]
          refine wpAnyL_take (i := 3) (oi := { dst := some 47, op := Op.fieldAddr 76 (Operand.tmp 46) 5, type := 0, pos := "ref.go:146", after := #[{ on := 2, ground := Ground.data }], guard := none }) (v := ?v3_404) rfl (by kernel_rfl) (by kernel_rfl) (by kernel_rfl) (by kernel_rfl) (fun _ _ _ h => h) (Or.inl ⟨by rfl, ?h3_404⟩) (by assumption) ?r3_404
          case h3_404 =>
            intro W hSW
            try dsimp only at hSW
            go_simp
            try with_reducible rfl
          try simp only [Act.put, List.setIfInBounds_toArray, List.set_cons_zero, List.set_cons_succ]
          refine wpAnyL_take (i := 4) (oi := { dst := some 48, op := Op.load 74 (Operand.tmp 47), type := 74, pos := "ref.go:146", after := #[{ on := 3, ground := Ground.data }], guard := none }) (v := ?v4_405) rfl (by kernel_rfl) (by kernel_rfl) (by kernel_rfl) (by kernel_rfl) (fun _ _ _ h => h) (Or.inl ⟨by rfl, ?h4_405⟩) (by assumption) ?r4_405
          case h4_405 =>
            intro W hSW
            try dsimp only at hSW
            have hcc := ((HS3.out.row).below' hSW).cell 20
            rw [show (rl4 _ _ _ _ _ _ _)[20]? = some (.slice none 0 0) from rl4_tail HL.out.h16 _ _ _ _ _ _ 2] at hcc
            go_simp
            try with_reducible rfl
          try simp only [Act.put, List.setIfInBounds_toArray, List.set_cons_zero, List.set_cons_succ]
          refine wpAnyL_take (i := 5) (oi := { dst := some 49, op := Op.move (Operand.tmp 0), type := 40, pos := "ref.go:146", after := #[], guard := none }) (v := ?v5_406) rfl (by kernel_rfl) (by kernel_rfl) (by kernel_rfl) (by kernel_rfl) (fun _ _ _ h => h) (Or.inl ⟨by rfl, ?h5_406⟩) (by assumption) ?r5_406
          case h5_406 =>
            intro W hSW
            try dsimp only at hSW
            go_simp
            try with_reducible rfl
          try simp only [Act.put, List.setIfInBounds_toArray, List.set_cons_zero, List.set_cons_succ]
          refine wpAnyL_take (i := 6) (oi := { dst := some 50, op := Op.nilCheck (Operand.tmp 49), type := 0, pos := "ref.go:146", after := #[{ on := 5, ground := Ground.data }], guard := none }) (v := ?v6_407) rfl (by kernel_rfl) (by kernel_rfl) (by kernel_rfl) (by kernel_rfl) (fun _ _ _ h => h) (Or.inl ⟨by rfl, ?h6_407⟩) (by assumption) ?r6_407
          case h6_407 =>
            intro W hSW
            try dsimp only at hSW
            go_simp
            try with_reducible rfl
          try simp only [Act.put, List.setIfInBounds_toArray, List.set_cons_zero, List.set_cons_succ]
          refine wpAnyL_take (i := 7) (oi := { dst := some 51, op := Op.fieldAddr 76 (Operand.tmp 50) 5, type := 0, pos := "ref.go:146", after := #[{ on := 6, ground := Ground.data }], guard := none }) (v := ?v7_408) rfl (by kernel_rfl) (by kernel_rfl) (by kernel_rfl) (by kernel_rfl) (fun _ _ _ h => h) (Or.inl ⟨by rfl, ?h7_408⟩) (by assumption) ?r7_408
          case h7_408 =>
            intro W hSW
            try dsimp only at hSW
            go_simp
            try with_reducible rfl
          try simp only [Act.put, List.setIfInBounds_toArray, List.set_cons_zero, List.set_cons_succ]
          refine wpAnyL_take (i := 8) (oi := { dst := some 52, op := Op.load 74 (Operand.tmp 51), type := 74, pos := "ref.go:146", after := #[{ on := 7, ground := Ground.data }], guard := none }) (v := ?v8_409) rfl (by kernel_rfl) (by kernel_rfl) (by kernel_rfl) (by kernel_rfl) (fun _ _ _ h => h) (Or.inl ⟨by rfl, ?h8_409⟩) (by assumption) ?r8_409
          case h8_409 =>
            intro W hSW
            try dsimp only at hSW
            have hcc := ((HS3.out.b.trans (hSW.mono HS3.out.b.size)).cell (p := ⟨bl, 20, none⟩) HCL.out.2.2.2.2.2.2).trans HCL.out.2.2.2.2.1
            go_simp
            try with_reducible rfl
          try simp only [Act.put, List.setIfInBounds_toArray, List.set_cons_zero, List.set_cons_succ]
          refine wpAnyL_ready (rs := [9]) (by kernel_rfl) (by simp) ?_
          refine AllReadyL.cons (o := { dst := some 53, op := Op.call { callee := Callee.builtin Builtin.append, args := #[Operand.tmp 48, Operand.tmp 52], argTypes := #[74, 74] }, type := 74, pos := "ref.go:146", after := #[{ on := 4, ground := Ground.data }, { on := 8, ground := Ground.data }], guard := none }) rfl (fun K hK => ?_) AllReadyL.nil
          rw [if_pos (by rfl)]
          refine wp_app _ (.tmp 48) (.tmp 52) 74 rfl w3.heap.size 31 _ 6 96 billT none 0 0 [] rfl (World.ownsRow_nil _ _ _ _) wd.heap.size m.A Lk m.c (m.ks.map (RA.bill N)).flatten rfl (HRP.out wd (HS3.out.b.trans (hv0.mono HS3.out.b.size))).2.2 (bills_one N m.ks) HJ.out.2.2.1 HJ.out.2.2.2 hv0.size ?_
          intro A' c' w400 own400 gr400 hA400
          simp only [Nat.zero_add, List.nil_append] at own400
          simp only [Nat.zero_add]
          have hor400 := ORow.of_own own400 (by intro x hx; obtain ⟨k, _, rfl⟩ := List.mem_map.1 hx; rfl) (by rw [List.length_map, HEQ.out.2.2])
          have b400 := below_of_grown gr400
          have hv400 : Below w3.heap.size w3 w400 := hv0.trans (b400.mono hv0.size)
          have hz := hv0.size
          have HAK : Hid (∀ a, A' = some a → w3.heap.size ≤ a.block) := Lib.hid (fun a ha => by rcases hA400 with e | ⟨a', e, hb⟩; (· rw [e] at ha; cases ha); rw [e] at ha; obtain rfl := Option.some.inj ha; omega)
          have HOR := Lib.hid hor400
          have hk1 := ((HS3.out.row).below' hv400).cell 20
          rw [show (rl4 _ _ _ _ _ _ _)[20]? = some (.slice none 0 0) from rl4_tail HL.out.h16 _ _ _ _ _ _ 2] at hk1
          have hf1 := ((HS3.out.row).below' hv400).frozen 20
          clear own400 gr400 hA400 b400 hor400 hz
          refine hK.out _ _ (hv400) (fun hHeld => ?_)
          clear hK K
          try simp only [Act.put, List.setIfInBounds_toArray, List.set_cons_zero, List.set_cons_succ]
          refine wpAnyL_take (i := 10) (oi := { dst := some 54, op := Op.nilCheck (Operand.tmp 44), type := 0, pos := "ref.go:146", after := #[{ on := 0, ground := Ground.data }, { on := 0, ground := Ground.phase }, { on := 1, ground := Ground.phase }, { on := 2, ground := Ground.phase }, { on := 3, ground := Ground.phase }, { on := 4, ground := Ground.phase }, { on := 5, ground := Ground.phase }, { on := 6, ground := Ground.phase }, { on := 7, ground := Ground.phase }, { on := 8, ground := Ground.phase }, { on := 9, ground := Ground.phase }], guard := none }) (v := ?v10_410) rfl (by kernel_rfl) (by kernel_rfl) (by kernel_rfl) (by kernel_rfl) (fun _ _ _ h => h) (Or.inl ⟨by rfl, ?h10_410⟩) (by assumption) ?r10_410
          case h10_410 =>
            intro W hSW
            try dsimp only at hSW
            go_simp
            try with_reducible rfl
          try simp only [Act.put, List.setIfInBounds_toArray, List.set_cons_zero, List.set_cons_succ]
          refine wpAnyL_take (i := 11) (oi := { dst := some 55, op := Op.fieldAddr 76 (Operand.tmp 54) 5, type := 0, pos := "ref.go:146", after := #[{ on := 10, ground := Ground.data }, { on := 0, ground := Ground.phase }, { on := 1, ground := Ground.phase }, { on := 2, ground := Ground.phase }, { on := 3, ground := Ground.phase }, { on := 4, ground := Ground.phase }, { on := 5, ground := Ground.phase }, { on := 6, ground := Ground.phase }, { on := 7, ground := Ground.phase }, { on := 8, ground := Ground.phase }, { on := 9, ground := Ground.phase }], guard := none }) (v := ?v11_411) rfl (by kernel_rfl) (by kernel_rfl) (by kernel_rfl) (by kernel_rfl) (fun _ _ _ h => h) (Or.inl ⟨by rfl, ?h11_411⟩) (by assumption) ?r11_411
          case h11_411 =>
            intro W hSW
            try dsimp only at hSW
            go_simp
            try with_reducible rfl
          try simp only [Act.put, List.setIfInBounds_toArray, List.set_cons_zero, List.set_cons_succ]
          refine wpAnyL_ready (rs := [12]) (by kernel_rfl) (by simp) ?_
          refine AllReadyL.late (o := { dst := none, op := Op.store 74 (Operand.tmp 55) (Operand.tmp 53), type := 0, pos := "ref.go:146", after := #[{ on := 11, ground := Ground.data }, { on := 9, ground := Ground.data }, { on := 9, ground := Ground.chain }, { on := 0, ground := Ground.phase }, { on := 1, ground := Ground.phase }, { on := 2, ground := Ground.phase }, { on := 3, ground := Ground.phase }, { on := 4, ground := Ground.phase }, { on := 5, ground := Ground.phase }, { on := 6, ground := Ground.phase }, { on := 7, ground := Ground.phase }, { on := 8, ground := Ground.phase }, { on := 9, ground := Ground.phase }], guard := none }) rfl (by rfl) (fun K hK => ?_) AllReadyL.nil
          rw [if_pos (by rfl)]
          go_simp
          obtain ⟨w401, hw401⟩ : ∃ x, w400.setCell ⟨bc, 20, none⟩ (.slice A' Lk c') = x := ⟨_, rfl⟩
          rw [hw401]
          have hgs : w400.grownBy w401 (some bc) := by rw [← hw401]; exact grown_setCell _ _ _ _
          have h1 := ((HS3.out.row).below' hv400).set 20 (.slice A' Lk c')
          rw [(rl4_set HL.out.h16 _ _ _ _ _ _ _).2.2, hw401] at h1
          have ho := HS3.out.o
          have hs1 := HS3.out.b.size
          have hl3 := HS3.out.f3.lt
          have hbb : Below w.heap.size w w401 := (HS3.out.b.trans (hv400.mono hs1)).grown hgs (Nat.le_trans hs1 hv400.size) (fun j hj => by have hj := Option.some.inj hj; omega)
          have hf2 := (HS3.out.f2.below hv400).keep (hgs.block _ (HS3.out.f2.below hv400).lt (fun e => by have := Option.some.inj e; omega))
          have hf3 := (HS3.out.f3.below hv400).keep (hgs.block _ (HS3.out.f3.below hv400).lt (fun e => by have := Option.some.inj e; omega))
          have hko := HOR.out.keep (w' := w401) fun a ha => hgs.block a.block (HOR.out.lt ha) (fun e => by have h3 := Option.some.inj e; have h4 := HAK.out a ha; have h5 := HS3.out.row.lt; omega)
          have h1' : IsRow w401 bc 76 (rcs l.n l.periods l.head g2 c2 g3 c3 (.slice A' m.ks.length c') (.slice none 0 0)) := by rw [HEQ.out.1, HEQ.out.2.1, HEQ.out.2.2]; exact h1
          have HFI := Lib.hid (rcl_start HL.out hbb h1' (by rw [HEQ.out.1]; exact hf2) (by rw [HEQ.out.1]; exact hf3) (by rw [HEQ.out.1]; exact hko) ho.1 ho.2.1 ho.2.2 (fun a ha => by have := HAK.out a ha; omega))
          have hv401 := HFI
          clear hw401 hk1 hf1 hgs h1 ho hs1 hl3 hbb hf2 hf3 hko h1'
          refine hK.out _ _ ?_
          clear hK K
          try simp only [Act.put, List.setIfInBounds_toArray, List.set_cons_zero, List.set_cons_succ]
          refine wpAnyL_done (by kernel_rfl) ?_ _
          obtain ⟨cl, hcl⟩ := HFI.out
          have HCLF := Lib.hid hcl
          clear hcl
          go_wp2_with fail
          go_meet
          exact ⟨A', c', cl, HCLF⟩
        case rest => as_aux_lemma =>
          obtain ⟨Ak, ck, cl0, HS4⟩ := hcut
          obtain ⟨w4, hw4⟩ : ∃ x, wc = x := ⟨_, rfl⟩
          try rw [hw4] at HS4 ⊢
          clear hw4 HS3
          go_wp2_with fail
          go_loopw [4] (fun u4 wr => ∃ k : Nat, k ≤ Lk ∧ u4 = .int .i64 k ∧ ∃ cl Ag cg done, Hid (done.length = k ∧ RCl w wr bc col cl l m.ks done Ak ck Ag cg g2 c2 g3 c3)) (fun u4 _ => Lk - (intOf u4).toNat)
          case atStart => exact ⟨0, Nat.zero_le _, rfl, cl0, none, 0, [], Lib.hid ⟨rfl, HS4.out⟩⟩
          case round =>
            obtain ⟨k, hk, rfl, cl, Ag, cg, done, HSK⟩ := hrel
            have c21 : wr.cell? ⟨bl, 21, none⟩ = some (.slice m.G Lk m.d) := (HSK.out.2.below.cell (p := ⟨bl, 21, none⟩) HCL.out.2.2.2.2.2.2).trans HCL.out.2.2.2.2.2.1
            by_cases hlt : k < Lk
            · have hkm : k < m.ks.length := by rw [HEQ.out.2.2]; exact hlt
              obtain ⟨gG, oG, hG, _, gform⟩ := HL.out.grow.form (by rw [List.length_map]; omega)
              have hcg := gform k (by rw [List.length_map]; exact hkm) 0 (.slice (some ⟨(m.ks[k]'hkm).bg, 0, none⟩) N (m.ks[k]'hkm).cg) (by rw [List.getElem_map, ← HEQ.out.1]; rfl)
              have hgl : gG < w.heap.size := HL.out.grow.lt hG
              have hkat := HL.out.kat _ (List.getElem_mem hkm)
              obtain ⟨ka, hka⟩ : ∃ x, m.ks[k]'hkm = x := ⟨_, rfl⟩
              rw [hka] at hcg hkat
              have HKA := Lib.hid (show ∀ hj : k < m.ks.length, m.ks[k]'hj = ka from fun _ => hka)
              have HG9 : Hid (∀ W, Below wr.heap.size wr W → W.cell? ⟨bl, 21, none⟩ = some (.slice (some ⟨gG, oG, none⟩) Lk m.d) ∧ W.cell? ⟨gG, oG + k, none⟩ = some (.slice (some ⟨ka.bg, 0, none⟩) N ka.cg) ∧ Rd W W.heap.size 1 (some ⟨ka.bg, 0, none⟩) N (ivs ka.a.granted)) := Lib.hid (fun W hW => by
                have hb := HSK.out.2.below.trans (hW.mono HSK.out.2.below.size)
                have hg1 : FRow w ka.bg N (fun t => ka.a.granted.getD t 0) := by rw [← HEQ.out.1]; exact hkat.g
                refine ⟨?_, ?_, (hg1.below hb).rd (by rw [hkat.lg]; exact HEQ.out.1)⟩
                · rw [← hG]; exact (hb.cell (p := ⟨bl, 21, none⟩) HCL.out.2.2.2.2.2.2).trans HCL.out.2.2.2.2.2.1
                · exact (hb.cell (p := ⟨gG, oG + k, none⟩) hgl).trans (by simpa using hcg))
              have HLG := Lib.hid (show ka.a.granted.length = N from by rw [hkat.lg]; exact HEQ.out.1)
              have i0 : (0 : Int) ≤ (k : Int) := by omega
              have i1 : (k : Int) < (Lk : Int) := by omega
              have HLT := Lib.hid hlt
              clear hG gform hcg hgl hkat hka hkm HS4
              go_upto_region 9 with fail
              go_cut [5] (fun u5 wx => ∃ b cb, u5 = .slice (some ⟨b, 0, none⟩) N cb ∧ Hid (FRow wx b N (fun t => ka.a.granted.getD t 0) ∧ wr.heap.size ≤ b ∧ Below wr.heap.size wr wx))
              case first => as_aux_lemma =>
                obtain ⟨q1, q2, q3⟩ := HG9.out wr (Below.refl _ _)
                have HQ3 := Lib.hid q3
                clear q3
                try clear c21
                go_wp2_with (at_builtin; refine wpList_appR rfl (.tmp 65) (.tmp 72) 29 rfl wr.heap.size 3 _ 1 8 bintT none 0 0 [] (some ⟨ka.bg, 0, none⟩) N ka.cg (ivs ka.a.granted) rfl rfl (World.ownsRow_nil _ _ _ _) HQ3.out (ivs_one _) (Below.refl wr.heap.size _) HJ.out.1 (Nat.le_refl _) (Nat.le_refl _) ?_; intro A1 c1 w1 own1 hb1; simp only [Nat.zero_add, List.nil_append] at own1; have HO1 := Lib.hid (And.intro own1 hb1); clear own1 hb1)
                go_meet
                obtain ⟨b5, rfl, hb5, f5⟩ := FRow.of_own HO1.out.1 HN.out.1
                exact ⟨b5, c1, by simp, Lib.hid ⟨f5, hb5, HO1.out.2⟩⟩
              case rest => as_aux_lemma =>
                obtain ⟨b5, cb, rfl, HS9⟩ := hcut
                obtain ⟨w9, hw9⟩ : ∃ x, wc = x := ⟨_, rfl⟩
                try rw [hw9] at HS9 ⊢
                clear hw9 c21
                have HRC := Lib.hid (HSK.out.2.keepB HS9.out.2.2)
                have c21 : w9.cell? ⟨bc, 21, none⟩ = some (.slice Ag k cg) := by have := (rcell_g HRC.out.row HL.out.h16).1; rwa [HSK.out.1] at this
                have r80 := IsRow.new w9 29 [.slice (some ⟨b5, 0, none⟩) N cb]
                rw [show ([.slice (some ⟨b5, 0, none⟩) N cb] : List Value).toArray = #[.slice (some ⟨b5, 0, none⟩) N cb] from rfl] at r80
                have hbw : Below w9.heap.size w9 (w9.alloc (.cells #[.slice (some ⟨b5, 0, none⟩) N cb] 29)) := (Below.refl _ _).alloc (Nat.le_refl _) _
                obtain ⟨w10, hw10⟩ : ∃ x, w9.alloc (.cells #[.slice (some ⟨b5, 0, none⟩) N cb] 29) = x := ⟨_, rfl⟩
                rw [hw10] at r80 hbw
                have hgr0 : ORow w10 29 1 Ag cg (done.map (RA.gr N)) := by rw [← HEQ.out.1]; exact HRC.out.grow.below hbw
                have hl16 : done.length ≤ 16 := by rw [HSK.out.1]; have := HL.out.len; have := HEQ.out.2.2; omega
                obtain ⟨gg, og, gc, w11, hrun, hKR, hor, hgr⟩ := run_oapp rintsT hgr0 [.slice (some ⟨b5, 0, none⟩) N cb] rfl (by intro u hu; obtain rfl := List.mem_singleton.1 hu; rfl) w9.heap.size (fun j u hu => by rw [r80.cell]; exact hu) (by rw [List.length_map]; omega) (by rw [List.length_map]; omega) 39
                rw [List.length_map, HSK.out.1] at hrun
                have HRW := HRC.out.row.below' hbw
                have hnb : gg ≠ bc := fun e => by
                  rcases hor with ⟨o, ho⟩ | ho
                  · have h1 : cl gg = 5 := HRC.out.cga _ ho
                    have h2 := HRC.out.cbl
                    rw [e] at h1; omega
                  · have := HRW.lt; omega
                have hrw := HRW.grown hgr (by intro e; exact hnb (Option.some.inj e))
                have hk1 := (rcell_g hrw HL.out.h16).1
                have hf1 := (rcell_g hrw HL.out.h16).2
                have hkm : k < m.ks.length := by rw [HEQ.out.2.2]; exact HLT.out
                have hsb : wr.heap.size ≤ b5 := HS9.out.2.1
                have hpush := RCl.push HSK.out.2 HL.out HSK.out.1 hkm (W0 := w10) (HS9.out.2.2.trans (hbw.mono HS9.out.2.2.size)) (by rw [HKA.out hkm, HEQ.out.1]; exact HS9.out.1.below hbw) hsb hgr (by rw [HEQ.out.1]; exact hKR) hor
                have HPF := Lib.hid hpush
                have HW10 := Lib.hid hw10
                have HRUN := Lib.hid hrun
                have hL16 : Lk ≤ 16 := by have := HL.out.len; have := HEQ.out.2.2; omega
                clear hpush
                clear r80 hbw hgr0 hl16 hrun hKR hor hgr HRW hnb hrw hsb hw10
                go_wp2_with (at_builtin; rw [show _ = w10 from HW10.out]; refine wpList_arun rfl (.tmp 78) (.tmp 80) 39 rfl _ _ _ rfl rfl HRUN.out ?_)
                go_roundw
                case rel =>
                  obtain ⟨cl', hcl'⟩ := HPF.out
                  exact ⟨k + 1, HLT.out, by go_num, cl', _, _, _, Lib.hid ⟨by rw [List.length_append, List.length_singleton, HSK.out.1], hcl'⟩⟩
                case measure => have hkl := HLT.out; simp [intOf]; omega
            · obtain rfl : k = Lk := by omega
              go_wp2_with fail
              go_ret
              exact ⟨bc, cl, _, rfl, RCl.fin HSK.out.2 HL.out (by rw [HSK.out.1, HEQ.out.2.2]) HTT.out, HSK.out.2.fresh, HSK.out.2.six, HSK.out.2.below⟩
end
end Go.Proofs.YtkjomnakolhdcaaDoor
