/- Layer 35: the program's Decode. Conditions: at most 2000 bytes; the tables lie in older memory. -/
import Derived.Test.YtkjomnakolhdcaaDoorHeld2
import Derived.Test.YtkjomnakolhdcaaDoorBilDa
import Derived.Test.YtkjomnakolhdcaaDoorBilM
import Derived.Shelf.Spec.SlicesInsert
namespace Go.Proofs.YtkjomnakolhdcaaDoor
set_option linter.unusedVariables false
set_option linter.unusedSimpArgs false
open Go.RowKit
abbrev oDd0 : Oper := { dst := some 31, op := Op.move (Operand.tmp 6), type := 25, pos := "bills.go:245", after := #[], guard := none }
abbrev oDd1 : Oper := { dst := some 32, op := Op.nilCheck (Operand.tmp 31), type := 0, pos := "bills.go:245", after := #[{ on := 0, ground := Ground.data }], guard := none }
abbrev oDd2 : Oper := { dst := some 33, op := Op.fieldAddr 71 (Operand.tmp 32) 4, type := 0, pos := "bills.go:245", after := #[{ on := 1, ground := Ground.data }], guard := none }
abbrev oDd3 : Oper := { dst := some 34, op := Op.slice 66 (Operand.tmp 33) none none none, type := 58, pos := "bills.go:245", after := #[{ on := 2, ground := Ground.data }], guard := none }
abbrev oDd4 : Oper := { dst := some 35, op := Op.move (Operand.tmp 4), type := 98, pos := "bills.go:245", after := #[], guard := none }
abbrev oDd5 : Oper := { dst := some 36, op := Op.nilCheck (Operand.tmp 35), type := 0, pos := "bills.go:245", after := #[{ on := 4, ground := Ground.data }], guard := none }
abbrev oDd6 : Oper := { dst := some 37, op := Op.fieldAddr 100 (Operand.tmp 36) 0, type := 0, pos := "bills.go:245", after := #[{ on := 5, ground := Ground.data }], guard := none }
abbrev oDd7 : Oper := { dst := some 38, op := Op.load 58 (Operand.tmp 37), type := 58, pos := "bills.go:245", after := #[{ on := 6, ground := Ground.data }], guard := none }
abbrev oDd8 : Oper := { dst := some 39, op := Op.call { callee := Callee.builtin Builtin.copy, args := #[Operand.tmp 34, Operand.tmp 38], argTypes := #[58, 58] }, type := 3, pos := "bills.go:245", after := #[{ on := 3, ground := Ground.data }, { on := 7, ground := Ground.data }], guard := none }
abbrev oDd9 : Oper := { dst := some 77, op := Op.move (Operand.tmp 6), type := 25, pos := "bills.go:251", after := #[], guard := none }
abbrev oDd10 : Oper := { dst := some 78, op := Op.move (Operand.tmp 6), type := 25, pos := "bills.go:251", after := #[], guard := none }
abbrev oDd11 : Oper := { dst := some 79, op := Op.nilCheck (Operand.tmp 78), type := 0, pos := "bills.go:251", after := #[{ on := 1, ground := Ground.data }], guard := none }
abbrev oDd12 : Oper := { dst := some 80, op := Op.fieldAddr 71 (Operand.tmp 79) 1, type := 0, pos := "bills.go:251", after := #[{ on := 2, ground := Ground.data }], guard := none }
abbrev oDd13 : Oper := { dst := some 81, op := Op.load 69 (Operand.tmp 80), type := 69, pos := "bills.go:251", after := #[{ on := 3, ground := Ground.data }], guard := none }
abbrev oDd14 : Oper := { dst := some 82, op := Op.move (Operand.tmp 4), type := 98, pos := "bills.go:251", after := #[], guard := none }
abbrev oDd15 : Oper := { dst := some 83, op := Op.move (Operand.tmp 9), type := 3, pos := "bills.go:251", after := #[], guard := none }
abbrev oDd16 : Oper := { dst := some 84, op := Op.move (Operand.tmp 5), type := 3, pos := "bills.go:251", after := #[], guard := none }
abbrev oDd17 : Oper := { dst := some 85, op := Op.call { callee := Callee.value (Operand.func 63), args := #[Operand.tmp 82, Operand.tmp 83, Operand.tmp 84], argTypes := #[98, 3, 3] }, type := 79, pos := "bills.go:251", after := #[{ on := 5, ground := Ground.data }, { on := 6, ground := Ground.data }, { on := 7, ground := Ground.data }], guard := none }
abbrev oDd18 : Oper := { dst := some 86, op := Op.buildSlice 69 1 #[(0, Operand.tmp 85)], type := 69, pos := "bills.go:251", after := #[{ on := 8, ground := Ground.data }], guard := none }
abbrev oDd19 : Oper := { dst := some 87, op := Op.call { callee := Callee.builtin Builtin.append, args := #[Operand.tmp 81, Operand.tmp 86], argTypes := #[69, 69] }, type := 69, pos := "bills.go:251", after := #[{ on := 4, ground := Ground.data }, { on := 9, ground := Ground.data }, { on := 8, ground := Ground.chain }], guard := none }
abbrev oDd20 : Oper := { dst := some 88, op := Op.nilCheck (Operand.tmp 77), type := 0, pos := "bills.go:251", after := #[{ on := 0, ground := Ground.data }, { on := 0, ground := Ground.phase }, { on := 1, ground := Ground.phase }, { on := 2, ground := Ground.phase }, { on := 3, ground := Ground.phase }, { on := 4, ground := Ground.phase }, { on := 5, ground := Ground.phase }, { on := 6, ground := Ground.phase }, { on := 7, ground := Ground.phase }, { on := 8, ground := Ground.phase }, { on := 9, ground := Ground.phase }, { on := 10, ground := Ground.phase }], guard := none }
abbrev oDd21 : Oper := { dst := some 89, op := Op.fieldAddr 71 (Operand.tmp 88) 1, type := 0, pos := "bills.go:251", after := #[{ on := 11, ground := Ground.data }, { on := 0, ground := Ground.phase }, { on := 1, ground := Ground.phase }, { on := 2, ground := Ground.phase }, { on := 3, ground := Ground.phase }, { on := 4, ground := Ground.phase }, { on := 5, ground := Ground.phase }, { on := 6, ground := Ground.phase }, { on := 7, ground := Ground.phase }, { on := 8, ground := Ground.phase }, { on := 9, ground := Ground.phase }, { on := 10, ground := Ground.phase }], guard := none }
abbrev oDd22 : Oper := { dst := none, op := Op.store 69 (Operand.tmp 89) (Operand.tmp 87), type := 0, pos := "bills.go:251", after := #[{ on := 12, ground := Ground.data }, { on := 10, ground := Ground.data }, { on := 10, ground := Ground.chain }, { on := 0, ground := Ground.phase }, { on := 1, ground := Ground.phase }, { on := 2, ground := Ground.phase }, { on := 3, ground := Ground.phase }, { on := 4, ground := Ground.phase }, { on := 5, ground := Ground.phase }, { on := 6, ground := Ground.phase }, { on := 7, ground := Ground.phase }, { on := 8, ground := Ground.phase }, { on := 9, ground := Ground.phase }, { on := 10, ground := Ground.phase }], guard := none }
/-- what Decode gives -/
def DecRes (w : World) (R : Bil.Lg ⊕ Int) (e : Ending) (w' : World) : Prop := Below w.heap.size w w' ∧ ((∃ l bl col m, R = .inl l ∧ e = .returned (.tuple #[.pointer (some ⟨bl, 0, none⟩), .int .i64 0]) ∧ LAt w' bl col m l ∧ ∀ b, col b ≠ 0 → w.heap.size ≤ b) ∨ (∃ er : Int, R = .inr er ∧ er ≠ 0 ∧ e = .returned (.tuple #[.pointer none, .int .i64 er])))
theorem copy_bytes (W : World) {g o : Nat} {a : Addr} {sLen sCap : Nat} {l : List UInt8} (hl : l.length = 16) (hs : 16 ≤ sLen) (hsrc : ∀ j u, (bvs l)[j]? = some u → W.cell? (a.add j) = some u) (hd : ∀ j, j < 16 → (W.cell? ⟨g, o + j, none⟩).isSome = true) (hf : ∀ j, j < 16 → W.frozen? ⟨g, o + j, none⟩ = false) :
    (Builtin.copy_ #[58, 58] 3 #[.slice (some ⟨g, o, none⟩) 16 16, .slice (some a) sLen sCap]).run Tryd.prog W = .ok (.int .i64 16) (W.setCells g o (bvs l)) := by
  have hz : (Tryd.prog.info? 5).map (·.size) = some 1 := by
    have hi := bytesE.info
    cases h : Tryd.prog.info? 5 with
    | none => rw [h] at hi; simp at hi
    | some i => rw [h] at hi; simp only [Option.map_some, Option.some.injEq, Prod.mk.injEq] at hi; simp [hi.2.1]
  have hbl : (bvs l).length = 16 := by rw [bvs_len, hl]
  have hmn : Nat.min sLen 16 = 16 := Nat.min_eq_right hs
  have := run_copy_cells (P := Tryd.prog) W 58 58 3 5 g o 16 16 a sLen sCap (bvs l) Tryd.underlying58 hz (by rw [hbl, hmn]) hsrc (fun j hj => hd j (by omega)) (fun j hj => hf j (by omega)) (bvs_one l)
  rw [hbl] at this
  simpa [goInt] using this
/-- the program's ledger while it is decoded, before its accounts -/
theorem lat_dec {w' : World} {g2 g3 c2 c3 bl n P : Nat} {hd : List UInt8} {x y : List Int} (h23 : g2 ≠ g3) (h2b : g2 ≠ bl) (h3b : g3 ≠ bl) (h1 : 1 ≤ n) (h2 : n ≤ 16) (hP : P ≤ 65536) (r1 : FRow w' g2 n (fun t => x.getD t 0)) (r2 : FRow w' g3 n (fun t => y.getD t 0)) (hx : x.length = n) (hy : y.length = n) (hd16 : hd.length = 16)
    (hr : IsRow w' bl 71 (.int .i64 (P : Int) :: .slice none 0 0 :: .slice (some ⟨g2, 0, none⟩) n c2 :: .slice (some ⟨g3, 0, none⟩) n c3 :: bvs hd)) (B : Nat) (ht1 : 2 < B) (ht2 : 0 < B) (ht3 : 1 < B) (b1 : B ≤ bl) (b2 : B ≤ g2) (b3 : B ≤ g3) :
    ∃ col, LAt w' bl col ⟨none, 0, [], g2, c2, g3, c3⟩ ⟨n, P, [], x, y, hd⟩ ∧ ∀ b, col b ≠ 0 → b = bl ∨ b = g2 ∨ b = g3 := by
  refine ⟨fun b => if b = bl then 1 else if b = g2 then 2 else if b = g3 then 3 else 0, ⟨hr, hd16, h1, h2, hP, by simp, r1, r2, hx, hy, rfl, KRow.nil _ _, by simp, by simp, ?_, ?_, by simp, ?_, ?_⟩, ?_⟩
  · simp [h2b]
  · simp [h3b, h23.symm]
  · intro k hk
    split at hk
    · subst k; exact hr.lt
    · split at hk
      · subst k; exact r1.lt
      · split at hk
        · subst k; exact r2.lt
        · exact absurd rfl hk
  · refine ⟨?_, ?_, ?_⟩ <;> (rw [if_neg (by omega), if_neg (by omega), if_neg (by omega)])
  · intro b hb
    dsimp only at hb
    split at hb
    · exact .inl (by assumption)
    · split at hb
      · exact .inr (.inl (by assumption))
      · split at hb
        · exact .inr (.inr (by assumption))
        · exact absurd rfl hb
/-- the memory of Decode: the reader's variable br, the ledger's bl -/
structure DcS (w W : World) (br bl : Nat) (b : List UInt8) (e : Int) (L : List Value) : Prop where
  bw : Below w.heap.size w W
  row : IsRow W bl 71 L
  st : PSt W br b e
  o : w.heap.size = br ∧ br < bl
section
variable {w W W' : World} {br bl : Nat} {b b' : List UInt8} {e e' : Int} {L : List Value}
theorem DcS.next (h : DcS w W br bl b e L) (hs : PSt W' br b' e') (hk : Keep (fun q => q = br) W W') : DcS w W' br bl b' e' L := by
  have ho := h.o
  exact ⟨h.bw.trans (hk.below h.bw.size fun q hq e => by omega), h.row.keep (hk.block bl h.row.lt (by omega)), hs, ho⟩
theorem DcS.put (h : DcS w W br bl b e L) (j : Nat) (v : Value) : DcS w (W.setCell ⟨bl, j, none⟩ v) br bl b e (L.set j v) := by
  have ho := h.o
  have hk : Keep (fun q => q = bl) W (W.setCell ⟨bl, j, none⟩ v) := Keep.of_grown (grown_setCell _ _ _ _) fun k e => (Option.some.inj e).symm
  exact ⟨h.bw.grown (grown_setCell W bl j v) h.bw.size fun k e => by have := Option.some.inj e; omega, h.row.set j v, h.st.keeps hk (fun q hq e => by omega), ho⟩
theorem DcS.down (h : DcS w W br bl b e L) (hb : Below W.heap.size W W') : DcS w W' br bl b e L := ⟨h.bw.trans (hb.mono h.bw.size), h.row.below' hb, h.st.below hb, h.o⟩
end
theorem DcS.copy {w W : World} {br bl : Nat} {b : List UInt8} {e : Int} {v0 v1 v2 v3 : Value} {Z hd : List UInt8} (h : DcS w W br bl b e (v0 :: v1 :: v2 :: v3 :: bvs Z)) (hZ : Z.length = hd.length) : DcS w (W.setCells bl 4 (bvs hd)) br bl b e (v0 :: v1 :: v2 :: v3 :: bvs hd) := by
  have ho := h.o
  obtain ⟨r3, g3, z3⟩ := IsRow.setCells (bvs hd) _ 4 W h.row
  have e4 : setL (v0 :: v1 :: v2 :: v3 :: bvs Z) 4 (bvs hd) = v0 :: v1 :: v2 :: v3 :: bvs hd := by
    have := setL_mid [] [v0, v1, v2, v3] (bvs Z) (bvs hd) (by simp [hZ])
    simpa using this
  rw [e4] at r3
  have hk : Keep (fun q => q = bl) W (W.setCells bl 4 (bvs hd)) := Keep.of_grown g3 fun k e => (Option.some.inj e).symm
  exact ⟨h.bw.grown g3 h.bw.size fun k e => by have := Option.some.inj e; omega, r3, h.st.keeps hk (fun q hq e => by omega), ho⟩
theorem num_zero {b : List UInt8} {e lo hi : Int} (h : (Bil.num b e lo hi).2.2 ≠ 0) : (Bil.num b e lo hi).1 = 0 := by
  unfold Bil.num at h ⊢
  split at h
  · rename_i he
    rw [if_pos he]
    split at h
    · rename_i hz
      rw [if_pos hz]
      split at h
      · rename_i hr; rw [if_pos hr]
      · exact absurd rfl h
    · rename_i hz; rw [if_neg hz]
  · rename_i he; rw [if_neg he]
theorem lst_err {b : List UInt8} {e : Int} {n : Nat} {mx : Nat → Int} (h : e ≠ 0) : Bil.lst b e n mx = ([], b, e) := by unfold Bil.lst; rw [if_neg h]
theorem krow_orow {w : World} {n c : Nat} {A : Option Addr} {ks : List KA} : KRow w n A c ks ↔ ORow w 79 7 A c (ks.map (KA.cells n)) := by
  have hfl : ∀ ks : List KA, (ks.map (KA.cells n)).flatten = kcs n ks := fun ks => by
    induction ks with
    | nil => rfl
    | cons k ks ih => simp only [List.map_cons, List.flatten_cons, ih]; rfl
  have hx : ∀ x ∈ ks.map (KA.cells n), x.length = 7 := fun x hx => by
    obtain ⟨k, _, rfl⟩ := List.mem_map.1 hx
    rfl
  constructor
  · rintro (⟨h1, h2, h3⟩ | ⟨g, off, cur, h1, h2, h3, h4, h5, h6⟩)
    · exact ⟨hx, .inl ⟨h1, h2, by rw [h3]; rfl⟩⟩
    · exact ⟨hx, .inr ⟨g, off, cur, h1, h2, by rw [List.length_map]; exact h3, h4, h5, by rw [hfl]; exact h6⟩⟩
  · rintro ⟨_, h⟩
    rcases h with ⟨h1, h2, h3⟩ | ⟨g, off, cur, h1, h2, h3, h4, h5, h6⟩
    · exact .inl ⟨h1, h2, by simpa using h3⟩
    · exact .inr ⟨g, off, cur, h1, h2, by rw [List.length_map] at h3; exact h3, h4, h5, by rw [hfl] at h6; exact h6⟩
/-- an account is pushed onto the ledger that is decoded -/
theorem dec_push {wr w1 w2 w3 : World} {br bl : Nat} {col : Nat → Nat} {m : LM} {l : Bil.Lg} (h : LAt wr bl col m l) (hzb : col br = 0) (hbrl : br < wr.heap.size) (k1 : Keep (fun q => q = br) wr w1) {a : Bil.Acc} (hac : Bil.AccOk l.n a) {gc cc gr cr gt ct gg cg : Nat}
    (f1 : FRow w1 gc l.n (fun t => a.bill.charges.getD t 0)) (f2 : FRow w1 gr l.n (fun t => a.bill.credits.getD t 0)) (f3 : FRow w1 gt l.n (fun t => a.bill.nets.getD t 0)) (f4 : FRow w1 gg l.n (fun t => a.granted.getD t 0)) (o1 : wr.heap.size ≤ gc) (o2 : gc < gr) (o3 : gr < gg) (o4 : gg < gt)
    (b2 : Below w1.heap.size w1 w2) {g off c' : Nat} (ho : ORow w3 79 7 (some ⟨g, off, none⟩) c' (m.ks.map (KA.cells l.n) ++ [KA.cells l.n ⟨a, gc, cc, gr, cr, gt, ct, gg, cg⟩])) (hor : (∃ o, m.A = some ⟨g, o, none⟩) ∨ g = w2.heap.size) (hgr : w2.grownBy w3 (some g)) (hlen : m.ks.length < 16)
    (ht : 2 < wr.heap.size ∧ 0 < wr.heap.size ∧ 1 < wr.heap.size) :
    ∃ col' m', LAt (w3.setCell ⟨bl, 1, none⟩ (.slice (some ⟨g, off, none⟩) (m.ks.length + 1) c')) bl col' m' { l with kept := l.kept ++ [a] } ∧ m'.ks.length = m.ks.length + 1 ∧ (∀ b, col' b ≠ 0 → col b ≠ 0 ∨ wr.heap.size ≤ b) ∧ g ≠ br ∧ (w2.heap.size ≤ g ∨ col g ≠ 0) := by
  have hz : ∀ b, wr.heap.size ≤ b → col b = 0 := fun b hb => by
    rcases Nat.eq_zero_or_pos (col b) with h0 | h0
    · exact h0
    · have := h.lt b (by omega); omega
  have hs1 := k1.size
  have hs2 := b2.size
  have hs3 := hgr.size
  have hl1 : LAt w1 bl col m l := h.keeps k1 (fun b e => by subst e; exact hzb)
  have hl2 := hl1.below b2
  have hg4 : col g = 4 ∨ (col g = 0 ∧ w2.heap.size ≤ g) := by
    rcases hor with ⟨o, ho⟩ | hg
    · exact .inl (h.cka _ ho)
    · exact .inr ⟨hz g (by omega), by omega⟩
  have hgbl : g ≠ bl := fun e => by subst e; have := h.cbl; omega
  have hgn : ∀ q, wr.heap.size ≤ q → q < w1.heap.size → q ≠ g := fun q h1 h2 e => by
    subst e
    have := hz q h1
    omega
  have hbl0 : ∀ q, wr.heap.size ≤ q → q ≠ bl := fun q h1 e => by subst e; have := hz q h1; have := h.cbl; omega
  have hgs := grown_setCell w3 bl 1 (.slice (some ⟨g, off, none⟩) (m.ks.length + 1) c')
  have hk : Keep (fun q => q = bl ∨ ∃ a, m.A = some a ∧ q = a.block) w2 (w3.setCell ⟨bl, 1, none⟩ (.slice (some ⟨g, off, none⟩) (m.ks.length + 1) c')) := by
    refine ((Keep.refl _ w2).grown hgr fun k e => ?_).grown hgs fun k e => .inl (.inl (Option.some.inj e).symm)
    obtain rfl := Option.some.inj e
    rcases hor with ⟨o, ho⟩ | hg
    · exact .inl (.inr ⟨_, ho, rfl⟩)
    · exact .inr (by omega)
  have fk : ∀ {q : Nat} {d : Nat → Int}, FRow w1 q l.n d → wr.heap.size ≤ q → FRow (w3.setCell ⟨bl, 1, none⟩ (.slice (some ⟨g, off, none⟩) (m.ks.length + 1) c')) q l.n d := fun {q d} hf hq =>
    ((hf.below b2).keeps (Keep.of_grown hgr (S := fun k => k = g) fun k e => (Option.some.inj e).symm) (hgn q hq hf.lt)).keeps (Keep.of_grown hgs (S := fun k => k = bl) fun k e => (Option.some.inj e).symm) (hbl0 q hq)
  have hrow : KRow w3 l.n (some ⟨g, off, none⟩) c' (m.ks ++ [⟨a, gc, cc, gr, cr, gt, ct, gg, cg⟩]) := krow_orow.2 (by rw [List.map_append]; exact ho)
  have hgl : g < w3.heap.size := hrow.lt rfl
  have l1 := f1.lt
  have l2 := f2.lt
  have l3 := f3.lt
  have l4 := f4.lt
  have p2 : wr.heap.size ≤ gr := by omega
  have p4 : wr.heap.size ≤ gg := by omega
  have p3 : wr.heap.size ≤ gt := by omega
  have hrw : IsRow w3 bl 71 (m.cells l) := (hl2.row).grown hgr (fun e => hgbl (Option.some.inj e))
  have hset := hrw.set 1 (.slice (some ⟨g, off, none⟩) (m.ks.length + 1) c')
  obtain ⟨col', hlat, hc⟩ := hl2.pushed hk wr.heap.size hz ht ⟨a, gc, cc, gr, cr, gt, ct, gg, cg⟩ g off c' 0
    ⟨fk f1 o1, fk f2 p2, fk f3 p3, fk f4 p4, hac.c, hac.r, hac.t, hac.g, o1, p2, p3, p4, hgn _ o1 l1, hgn _ p2 l2, hgn _ p3 l3, hgn _ p4 l4, by show gg ≠ gc; omega, by show gg ≠ gr; omega, by show gg ≠ gt; omega⟩
    (hrow.keep fun a ha => by
      obtain rfl := Option.some.inj ha
      exact hgs.block g hgl (fun e => hgbl (Option.some.inj e)))
    (by simp; omega) (hor.imp id fun e => by omega) (Nat.lt_of_lt_of_le hgl hgs.size) (by
      have e : ((m.ks ++ [(⟨a, gc, cc, gr, cr, gt, ct, gg, cg⟩ : KA)]).drop 0).length = m.ks.length + 1 := by simp
      rw [e]
      exact hset)
  refine ⟨col', _, hlat, by simp, fun b hb => (hc b hb).imp id (fun h => h.1), fun e => ?_, ?_⟩
  · subst e
    rcases hg4 with h4 | ⟨_, h4⟩
    · rw [hzb] at h4; cases h4
    · omega
  · rcases hg4 with h4 | ⟨_, h4⟩
    · exact .inr (by rw [h4]; decide)
    · exact .inl h4
/-- the memory of Decode between two accounts -/
structure DcL (w W : World) (br bl : Nat) (b : List UInt8) (col : Nat → Nat) (m : LM) (l : Bil.Lg) : Prop where
  lat : LAt W bl col m l
  f : ∀ q, col q ≠ 0 → br < q
  bw : Below w.heap.size w W
  st : PSt W br b 0
  o : w.heap.size = br
theorem DcL.zb {w W : World} {br bl : Nat} {b : List UInt8} {col : Nat → Nat} {m : LM} {l : Bil.Lg} (h : DcL w W br bl b col m l) : col br = 0 := by
  rcases Nat.eq_zero_or_pos (col br) with h0 | h0
  · exact h0
  · have := h.f br (by omega); omega
theorem DcL.bl {w W : World} {br bl : Nat} {b : List UInt8} {col : Nat → Nat} {m : LM} {l : Bil.Lg} (h : DcL w W br bl b col m l) : br < bl := h.f bl (by rw [h.lat.cbl]; decide)
def DLoop (w W : World) (br bl : Nat) (b : List UInt8) (N P K p0 : Nat) (b4 : List UInt8) (e4 : Int) (x y : List Int) (hd : List UInt8) (i : Nat) : Prop :=
  (∃ col m ks b', e4 = 0 ∧ DcL w W br bl b' col m ⟨N, P, ks, x, y, hd⟩ ∧ m.ks.length = i ∧ Bil.accts K (p0 : Int) b4 N = (ks ++ (Bil.accts (K - i) ((p0 + i : Nat) : Int) b' N).1, (Bil.accts (K - i) ((p0 + i : Nat) : Int) b' N).2)) ∨
  (∃ (e : Int) (b' : List UInt8), e ≠ 0 ∧ Bil.dec b = .inr e ∧ Below w.heap.size w W ∧ PSt W br b' e ∧ W.cell? ⟨bl, 0, none⟩ = some (.int .i64 (P : Int)))
theorem Bil.accts_ok1 {k : Nat} {p : Int} {b : List UInt8} {n : Nat} (h : (Bil.acct b p n).2.2 = 0) : Bil.accts (k + 1) p b n = ((Bil.acct b p n).1 :: (Bil.accts k (p + 1) (Bil.acct b p n).2.1 n).1, (Bil.accts k (p + 1) (Bil.acct b p n).2.1 n).2) := by
  show (if (Bil.acct b p n).2.2 = 0 then _ else _) = _
  rw [if_pos h]
theorem Bil.accts_err1 {k : Nat} {p : Int} {b : List UInt8} {n : Nat} (h : (Bil.acct b p n).2.2 ≠ 0) : Bil.accts (k + 1) p b n = ([], (Bil.acct b p n).2) := by
  show (if (Bil.acct b p n).2.2 = 0 then _ else _) = _
  rw [if_neg h]
theorem list7 : ∀ (L : List Value), L.length = 7 → ∃ a0 a1 a2 a3 a4 a5 a6, L = [a0, a1, a2, a3, a4, a5, a6]
  | [a0, a1, a2, a3, a4, a5, a6], _ => ⟨a0, a1, a2, a3, a4, a5, a6, rfl⟩
theorem kacells (a : Bil.Acc) (n gc cc gr cr gt ct gg cg : Nat) : KA.cells n ⟨a, gc, cc, gr, cr, gt, ct, gg, cg⟩ = [.int .i64 a.bill.period, .int .i64 a.bill.media, .int .i64 a.bill.house, .slice (some ⟨gc, 0, none⟩) n cc, .slice (some ⟨gr, 0, none⟩) n cr, .slice (some ⟨gt, 0, none⟩) n ct, .slice (some ⟨gg, 0, none⟩) n cg] := rfl
set_option maxRecDepth 100000 in
set_option maxHeartbeats 3200000 in
theorem pdecode_any (b : List UInt8) (A : Option Addr) (n0 c : Nat) (hb : b.length = n0) (hL : n0 ≤ 2000) (hc : n0 ≤ c) (hcm : c ≤ maxLen) (w : World) (rd : Rd w w.heap.size 1 A n0 (bvs b)) (hTs : 2 < w.heap.size ∧ 0 < w.heap.size ∧ 1 < w.heap.size) :
    Calls Tryd.prog 27 #[.slice A n0 c] w (DecRes w (Bil.dec b)) := by
  obtain ⟨n, b1, e1, h1⟩ : ∃ x y z, Bil.num b 0 1 16 = (x, y, z) := ⟨_, _, _, rfl⟩
  obtain ⟨p, b2, e2, h2⟩ : ∃ x y z, Bil.num b1 e1 0 65536 = (x, y, z) := ⟨_, _, _, rfl⟩
  have HDC : Hid (Bil.dec b = if e2 = 0 then (if b2.length < 16 then .inr 5 else
      (if (Bil.lst (Bil.lst (b2.drop 16) 0 n.toNat fun _ => 9223372036854775807).2.1 (Bil.lst (b2.drop 16) 0 n.toNat fun _ => 9223372036854775807).2.2 n.toNat fun _ => 9223372036854775807).2.2 = 0 then
        (if (Bil.accts (min p.toNat 16) (p - (min p.toNat 16 : Nat)) (Bil.lst (Bil.lst (b2.drop 16) 0 n.toNat fun _ => 9223372036854775807).2.1 (Bil.lst (b2.drop 16) 0 n.toNat fun _ => 9223372036854775807).2.2 n.toNat fun _ => 9223372036854775807).2.1 n.toNat).2.2 = 0 then
          (if (Bil.accts (min p.toNat 16) (p - (min p.toNat 16 : Nat)) (Bil.lst (Bil.lst (b2.drop 16) 0 n.toNat fun _ => 9223372036854775807).2.1 (Bil.lst (b2.drop 16) 0 n.toNat fun _ => 9223372036854775807).2.2 n.toNat fun _ => 9223372036854775807).2.1 n.toNat).2.1 = [] then
            .inl ⟨n.toNat, p.toNat, (Bil.accts (min p.toNat 16) (p - (min p.toNat 16 : Nat)) (Bil.lst (Bil.lst (b2.drop 16) 0 n.toNat fun _ => 9223372036854775807).2.1 (Bil.lst (b2.drop 16) 0 n.toNat fun _ => 9223372036854775807).2.2 n.toNat fun _ => 9223372036854775807).2.1 n.toNat).1, (Bil.lst (b2.drop 16) 0 n.toNat fun _ => 9223372036854775807).1, (Bil.lst (Bil.lst (b2.drop 16) 0 n.toNat fun _ => 9223372036854775807).2.1 (Bil.lst (b2.drop 16) 0 n.toNat fun _ => 9223372036854775807).2.2 n.toNat fun _ => 9223372036854775807).1, b2.take 16⟩
           else .inr 6)
         else .inr (Bil.accts (min p.toNat 16) (p - (min p.toNat 16 : Nat)) (Bil.lst (Bil.lst (b2.drop 16) 0 n.toNat fun _ => 9223372036854775807).2.1 (Bil.lst (b2.drop 16) 0 n.toNat fun _ => 9223372036854775807).2.2 n.toNat fun _ => 9223372036854775807).2.1 n.toNat).2.2)
       else .inr (Bil.lst (Bil.lst (b2.drop 16) 0 n.toNat fun _ => 9223372036854775807).2.1 (Bil.lst (b2.drop 16) 0 n.toNat fun _ => 9223372036854775807).2.2 n.toNat fun _ => 9223372036854775807).2.2)) else .inr e2) := Lib.hid (by
    unfold Bil.dec
    simp only [h1, h2])
  have HP2 : Hid (e2 ≠ 0 → p = 0) := Lib.hid (fun h => by have := num_zero (b := b1) (e := e1) (lo := 0) (hi := 65536) (by rw [h2]; exact h); rwa [h2] at this)
  have HN2 := Lib.hid (fun (hz : e2 = 0) => by
    have q2 := Bil.num_ok (b := b1) (e := e1) (lo := 0) (hi := 65536) (by rw [h2]; exact hz)
    have q1 := Bil.num_ok (b := b) (e := 0) (lo := 1) (hi := 16) (by rw [h1]; exact q2.1)
    rw [h2] at q2
    rw [h1] at q1
    exact (⟨⟨q1.2.1, q1.2.2.1⟩, q2.2.1, q2.2.2.1⟩ : (1 ≤ n ∧ n ≤ 16) ∧ 0 ≤ p ∧ p ≤ 65536))
  have HT1 : Hid (∀ W br, PSt W br b 0 → Calls Tryd.prog 59 #[.pointer (some ⟨br, 0, none⟩), .int .i64 1, .int .i64 16] W fun r w' => r = .returned (.int .i64 n) ∧ PSt w' br b1 e1 ∧ Keep (fun q => q = br) W w') := Lib.hid (fun W br hst => by have := pnumber_any br b 0 1 16 W hst; rw [h1] at this; exact this)
  have HT2 : Hid (∀ W br, PSt W br b1 e1 → Calls Tryd.prog 59 #[.pointer (some ⟨br, 0, none⟩), .int .i64 0, .int .i64 65536] W fun r w' => r = .returned (.int .i64 p) ∧ PSt w' br b2 e2 ∧ Keep (fun q => q = br) W w') := Lib.hid (fun W br hst => by have := pnumber_any br b1 e1 0 65536 W hst; rw [h2] at this; exact this)
  have r0 := IsRow.new w 100 [.slice A n0 c, .int .i64 0]
  have b0w : Below w.heap.size w (w.alloc (.cells #[.slice A n0 c, .int .i64 0] 100)) := (Below.refl _ _).alloc (Nat.le_refl _) _
  obtain ⟨w0, hw0⟩ : ∃ x, w.alloc (.cells #[.slice A n0 c, .int .i64 0] 100) = x := ⟨_, rfl⟩
  rw [show ([.slice A n0 c, .int .i64 0] : List Value).toArray = #[.slice A n0 c, .int .i64 0] from rfl, hw0] at r0
  rw [hw0] at b0w
  obtain ⟨br, hbr⟩ : ∃ x, w.heap.size = x := ⟨_, rfl⟩
  have hst : PSt w0 br b 0 := ⟨A, n0, c, hbr ▸ r0, hb, hc, hcm, by omega, by have := rd.below b0w; rwa [hbr] at this⟩
  have HS0 := Lib.hid (And.intro hst (And.intro b0w (And.intro hw0 hbr)))
  have HTS := Lib.hid hTs
  have HBL : Hid (b.length ≤ 2000) := Lib.hid (by omega)
  clear h1 h2 r0 b0w hw0 hst hTs hb hL hc hcm rd hbr
  go_enter Tryd.func27, Tryd.ntmps27
  go_upto_region 2 with fail
  rw [show w.alloc (.cells #[.slice A n0 c, .int .i64 0] 100) = w0 from HS0.out.2.2.1, show w.heap.size = br from HS0.out.2.2.2]
  go_upto_region 3 with (go_at_call 59; refine (HT1.out w0 br HS0.out.1).mono ?_; rintro r w1 ⟨rfl, s1, k1⟩; have HS1 := Lib.hid (And.intro s1 k1); clear s1 k1)
  go_upto_region 4 with (go_at_call 59; refine (HT2.out w1 br HS1.out.1).mono ?_; rintro r w2 ⟨rfl, s1, k1⟩; have HS2 := Lib.hid (And.intro s1 (HS1.out.2.trans k1)); clear s1 k1)
  have r3 := IsRow.new w2 71 [.int .i64 p, .slice none 0 0, .slice none 0 0, .slice none 0 0, .int .u8 0, .int .u8 0, .int .u8 0, .int .u8 0, .int .u8 0, .int .u8 0, .int .u8 0, .int .u8 0, .int .u8 0, .int .u8 0, .int .u8 0, .int .u8 0, .int .u8 0, .int .u8 0, .int .u8 0, .int .u8 0]
  have b3 : Below w2.heap.size w2 (w2.alloc (.cells #[.int .i64 p, .slice none 0 0, .slice none 0 0, .slice none 0 0, .int .u8 0, .int .u8 0, .int .u8 0, .int .u8 0, .int .u8 0, .int .u8 0, .int .u8 0, .int .u8 0, .int .u8 0, .int .u8 0, .int .u8 0, .int .u8 0, .int .u8 0, .int .u8 0, .int .u8 0, .int .u8 0] 71)) := (Below.refl _ _).alloc (Nat.le_refl _) _
  obtain ⟨w3, hw3⟩ : ∃ x, w2.alloc (.cells #[.int .i64 p, .slice none 0 0, .slice none 0 0, .slice none 0 0, .int .u8 0, .int .u8 0, .int .u8 0, .int .u8 0, .int .u8 0, .int .u8 0, .int .u8 0, .int .u8 0, .int .u8 0, .int .u8 0, .int .u8 0, .int .u8 0, .int .u8 0, .int .u8 0, .int .u8 0, .int .u8 0] 71) = x := ⟨_, rfl⟩
  rw [show ([.int .i64 p, .slice none 0 0, .slice none 0 0, .slice none 0 0, .int .u8 0, .int .u8 0, .int .u8 0, .int .u8 0, .int .u8 0, .int .u8 0, .int .u8 0, .int .u8 0, .int .u8 0, .int .u8 0, .int .u8 0, .int .u8 0, .int .u8 0, .int .u8 0, .int .u8 0, .int .u8 0] : List Value).toArray = #[.int .i64 p, .slice none 0 0, .slice none 0 0, .slice none 0 0, .int .u8 0, .int .u8 0, .int .u8 0, .int .u8 0, .int .u8 0, .int .u8 0, .int .u8 0, .int .u8 0, .int .u8 0, .int .u8 0, .int .u8 0, .int .u8 0, .int .u8 0, .int .u8 0, .int .u8 0, .int .u8 0] from rfl, hw3] at r3
  rw [hw3] at b3 ⊢
  obtain ⟨bl, hbl⟩ : ∃ x, w2.heap.size = x := ⟨_, rfl⟩
  rw [hbl] at r3 ⊢
  have HS3 : Hid (DcS w w3 br bl b2 e2 [.int .i64 p, .slice none 0 0, .slice none 0 0, .slice none 0 0, .int .u8 0, .int .u8 0, .int .u8 0, .int .u8 0, .int .u8 0, .int .u8 0, .int .u8 0, .int .u8 0, .int .u8 0, .int .u8 0, .int .u8 0, .int .u8 0, .int .u8 0, .int .u8 0, .int .u8 0, .int .u8 0]) := Lib.hid (by
    have h0 := HS0.out.1.lt
    have h1 := HS0.out.2.2.2
    have hk := HS2.out.2.size
    refine ⟨(HS0.out.2.1.trans (HS2.out.2.below HS0.out.2.1.size fun q hq e => by omega)).trans (b3.mono (by have := HS0.out.2.1.size; omega)), r3, HS2.out.1.below b3, h1, by omega⟩)
  clear r3 b3 hw3 hbl HS0 HS1 HS2 HT1 HT2
  have qe : w3.cell? ⟨br, 1, none⟩ = some (.int .i64 e2) := HS3.out.st.cell1
  by_cases hz2 : e2 = 0
  case neg =>
    have hp0 : p = 0 := HP2.out hz2
    subst hp0
    have HZ := Lib.hid hz2
    have HPL : Hid (∀ W, PSt W br b2 e2 → Calls Tryd.prog 62 #[.pointer (some ⟨br, 0, none⟩), .int .i64 n, .func (.func 61) #[] #[]] W fun r w' => r = .returned (.slice none 0 0) ∧ w' = W) := Lib.hid (plist_err br b2 e2 n hz2 _)
    have hne : (e2 == 0) = false := by rw [beq_eq_false_iff_ne]; exact hz2
    have hne2 : (e2 != 0) = true := by rw [bne_iff_ne]; exact hz2
    have q1 : w3.cell? ⟨bl, 2, none⟩ = some (.slice none 0 0) := HS3.out.row.cell 2
    have f1 : w3.frozen? ⟨bl, 2, none⟩ = false := HS3.out.row.frozen 2
    have HQ : Hid (Bil.dec b = .inr e2) := Lib.hid (by rw [HDC.out, if_neg hz2])
    clear hz2 HDC HN2 HP2
    go_upto_region 11 with fail
    have q2 : (w3.setCell ⟨bl, 2, none⟩ (.slice none 0 0)).cell? ⟨bl, 3, none⟩ = some (.slice none 0 0) := (HS3.out.put 2 (.slice none 0 0)).row.cell 3
    have f2 : (w3.setCell ⟨bl, 2, none⟩ (.slice none 0 0)).frozen? ⟨bl, 3, none⟩ = false := (HS3.out.put 2 (.slice none 0 0)).row.frozen 3
    go_upto_region 12 with (go_at_call 62; refine (HPL.out w3 HS3.out.st).mono ?_; rintro r w8 ⟨rfl, hw8⟩; rw [hw8]; clear hw8 w8)
    obtain ⟨w5, hw5⟩ : ∃ x, (w3.setCell ⟨bl, 2, none⟩ (.slice none 0 0)).setCell ⟨bl, 3, none⟩ (.slice none 0 0) = x := ⟨_, rfl⟩
    have HS5 := Lib.hid ((HS3.out.put 2 (.slice none 0 0)).put 3 (.slice none 0 0))
    rw [hw5] at HS5 ⊢
    clear hw5 q1 f1 q2 f2 qe
    have q0 : w5.cell? ⟨bl, 0, none⟩ = some (.int .i64 0) := HS5.out.row.cell 0
    have qe : w5.cell? ⟨br, 1, none⟩ = some (.int .i64 e2) := HS5.out.st.cell1
    have hmx : max (0 : Int) (-16) = 0 := by decide
    go_wp2_with fail
    go_loopw [9] (fun u9 wr => u9 = .int .i64 0 ∧ w5 = wr) (fun _ _ => 0)
    case atStart => exact ⟨rfl, rfl⟩
    case round =>
      obtain ⟨rfl, rfl⟩ := hrel
      go_wp2_with fail
      go_quiet (fail)
      go_wp2
      go_ret2
      rw [HQ.out]
      exact ⟨below_drewN HS5.out.bw _, .inr ⟨e2, rfl, HZ.out, rfl⟩⟩
  case pos =>
  subst hz2
  by_cases hsh : b2.length < 16
  case pos =>
    obtain ⟨A2, n2, c2, hr2, hn2, hnc2, hcm2, hn402, hrd2⟩ := HS3.out.st.row
    have q1 : w3.cell? ⟨br, 0, none⟩ = some (.slice A2 n2 c2) := hr2.cell 0
    have hlt : (n2 : Int) < 16 := by omega
    have HQ : Hid (Bil.dec b = .inr 5) := Lib.hid (by rw [HDC.out, if_pos rfl, if_pos hsh])
    clear hr2 hn2 hnc2 hcm2 hn402 hrd2 hsh HDC HN2 HP2
    go_wp2_with fail
    go_ret2
    rw [HQ.out]
    exact ⟨HS3.out.bw, .inr ⟨5, rfl, by decide, rfl⟩⟩
  case neg =>
  obtain ⟨⟨hn1, hn2⟩, hp1, hp2⟩ := HN2.out rfl
  obtain ⟨N, rfl⟩ : ∃ N : Nat, n = (N : Int) := ⟨n.toNat, by omega⟩
  obtain ⟨P, rfl⟩ : ∃ P : Nat, p = (P : Int) := ⟨p.toNat, by omega⟩
  obtain ⟨x, b3, e3, h3⟩ : ∃ u v z, (Bil.lst (b2.drop 16) 0 N fun _ => 9223372036854775807) = (u, v, z) := ⟨_, _, _, rfl⟩
  obtain ⟨y, b4, e4, h4⟩ : ∃ u v z, (Bil.lst b3 e3 N fun _ => 9223372036854775807) = (u, v, z) := ⟨_, _, _, rfl⟩
  obtain ⟨K, hK⟩ : ∃ K, min P 16 = K := ⟨_, rfl⟩
  obtain ⟨hd, hhd⟩ : ∃ x, b2.take 16 = x := ⟨_, rfl⟩
  have hd16 : hd.length = 16 := by rw [← hhd, List.length_take]; omega
  have hdc := HDC.out
  simp only [Int.toNat_natCast, h3, h4, hK, hhd, if_true, if_neg hsh] at hdc
  have HDC2 := Lib.hid hdc
  have HNP : Hid (1 ≤ N ∧ N ≤ 16 ∧ P ≤ 65536 ∧ K = min P 16) := Lib.hid ⟨by omega, by omega, by omega, hK.symm⟩
  have HHD := Lib.hid hd16
  obtain ⟨A2, n2, c2, hr2, hn2', hnc2, hcm2, hn402, hrd2⟩ := HS3.out.st.row
  have q1 : w3.cell? ⟨br, 0, none⟩ = some (.slice A2 n2 c2) := hr2.cell 0
  have hlt : ¬ ((n2 : Int) < 16) := by omega
  have hn16 : 16 ≤ n2 := by omega
  obtain ⟨ga, oa, rfl, hga, hca⟩ := hrd2.2 (by omega)
  have HLB3 := Lib.hid HS3.out.row.lt
  have HCP : Hid (∀ W, Below w3.heap.size w3 W → (Builtin.copy_ #[58, 58] 3 #[.slice (some ⟨bl, 4, none⟩) 16 16, .slice (some ⟨ga, oa, none⟩) n2 c2]).run Tryd.prog W = .ok (.int .i64 16) (W.setCells bl 4 (bvs hd))) := Lib.hid fun W hW => by
    have hrw := HS3.out.row.below' hW
    have hbr := HS3.out.st.lt
    refine copy_bytes W hd16 hn16 (fun j u hu => ?_) (fun j hj => ?_) (fun j hj => hrw.frozen _)
    · rw [Addr.add_lit]
      have hj : j < 16 := by have := (List.getElem?_eq_some_iff.1 hu).1; simpa [hd16] using this
      refine (hW.cell (p := ⟨ga, oa + j, none⟩) (show ga < _ by omega)).trans (hca j u ?_)
      rw [← hu, ← hhd]
      simp [bvs, List.getElem?_map, List.getElem?_take, hj]
    · rw [hrw.cell]
      have : j = 0 ∨ j = 1 ∨ j = 2 ∨ j = 3 ∨ j = 4 ∨ j = 5 ∨ j = 6 ∨ j = 7 ∨ j = 8 ∨ j = 9 ∨ j = 10 ∨ j = 11 ∨ j = 12 ∨ j = 13 ∨ j = 14 ∨ j = 15 := by omega
      rcases this with rfl | rfl | rfl | rfl | rfl | rfl | rfl | rfl | rfl | rfl | rfl | rfl | rfl | rfl | rfl | rfl <;> rfl
  have HRB : Hid (b2.drop 16 = b2.drop 16 ∧ 16 ≤ b2.length) := Lib.hid ⟨rfl, by omega⟩
  have HST3 : Hid (DcS w w3 br bl b2 0 (.int .i64 (P : Int) :: .slice none 0 0 :: .slice none 0 0 :: .slice none 0 0 :: bvs (List.replicate 16 0))) := HS3
  have HE := Lib.hid (And.intro h3 h4)
  clear hn1 hn2 hp1 hp2 h3 h4 hK hhd hd16 hdc hsh hr2 hn2' hnc2 hcm2 hn402 hrd2 hca hga hn16 HDC HN2 HP2
  go_upto_region 8 with fail
  clear hlt qe
  have hv0 : Below w3.heap.size w3 w3.drew := (Below.refl _ _).drew
  refine wp_region_held_drew (S := fun W => Keep (fun q => q = bl) w3 W) (by kernel_rfl) (Keep.of_below hv0) (fun hHeld => ?_)
  obtain ⟨wd, hwd⟩ : ∃ x, w3.drew = x := ⟨_, rfl⟩
  rw [hwd] at hv0 hHeld  ⊢
  clear hwd
  refine tkH 0 oDd0 ?v0_1 (.inl ⟨by rfl, ?h0_1⟩) ?r0_1
  case h0_1 =>
    intro W hSW
    unfold oDd0
    try dsimp only at hSW
    go_simp
    try with_reducible rfl
  try simp only [oDd0, PT]
  refine tkH 1 oDd1 ?v1_2 (.inl ⟨by rfl, ?h1_2⟩) ?r1_2
  case h1_2 =>
    intro W hSW
    unfold oDd1
    try dsimp only at hSW
    go_simp
    try with_reducible rfl
  try simp only [oDd1, PT]
  refine tkH 2 oDd2 ?v2_3 (.inl ⟨by rfl, ?h2_3⟩) ?r2_3
  case h2_3 =>
    intro W hSW
    unfold oDd2
    try dsimp only at hSW
    go_simp
    try with_reducible rfl
  try simp only [oDd2, PT]
  refine tkH 3 oDd3 ?v3_4 (.inl ⟨by rfl, ?h3_4⟩) ?r3_4
  case h3_4 =>
    intro W hSW
    unfold oDd3
    try dsimp only at hSW
    go_simp
    try with_reducible rfl
  try simp only [oDd3, PT]
  refine tkH 4 oDd4 ?v4_5 (.inl ⟨by rfl, ?h4_5⟩) ?r4_5
  case h4_5 =>
    intro W hSW
    unfold oDd4
    try dsimp only at hSW
    go_simp
    try with_reducible rfl
  try simp only [oDd4, PT]
  refine tkH 5 oDd5 ?v5_6 (.inl ⟨by rfl, ?h5_6⟩) ?r5_6
  case h5_6 =>
    intro W hSW
    unfold oDd5
    try dsimp only at hSW
    go_simp
    try with_reducible rfl
  try simp only [oDd5, PT]
  refine tkH 6 oDd6 ?v6_7 (.inl ⟨by rfl, ?h6_7⟩) ?r6_7
  case h6_7 =>
    intro W hSW
    unfold oDd6
    try dsimp only at hSW
    go_simp
    try with_reducible rfl
  try simp only [oDd6, PT]
  refine tkH 7 oDd7 ?v7_8 (.inl ⟨by rfl, ?h7_8⟩) ?r7_8
  case h7_8 =>
    intro W hSW
    unfold oDd7
    try dsimp only at hSW
    have hcc : W.cell? ⟨br, 0, none⟩ = some (.slice (some ⟨ga, oa, none⟩) n2 c2) := (hSW.cell (p := ⟨br, 0, none⟩) HS3.out.st.lt (show ¬ br = bl by have := HS3.out.o; omega)).trans q1
    go_simp
    try with_reducible rfl
  try simp only [oDd7, PT]
  refine rdyH [8] ?_
  refine AllReadyH.cons (o := oDd8) rfl (fun K hK => ?_) AllReadyH.nil
  unfold oDd8
  rw [if_pos (by rfl)]
  refine Go.Proofs.wp_copy_runI wd (.tmp 34) (.tmp 38) 58 58 rfl (.slice (some ⟨bl, 4, none⟩) 16 16) (.slice (some ⟨ga, oa, none⟩) n2 c2) ?hd8 rfl (HCP.out wd hv0) ?_
  case hd8 => first | rfl | simp
  have HS4 := Lib.hid (DcS.copy (hd := hd) (HST3.out.down hv0) (by rw [HHD.out]; rfl))
  have hk4 : Keep (fun q => q = bl) w3 (wd.setCells bl 4 (bvs hd)) := (Keep.of_below hv0).trans (Keep.of_grown (IsRow.setCells (bvs hd) _ 4 wd (HST3.out.down hv0).row).2.1 fun k e => (Option.some.inj e).symm)
  obtain ⟨w4, hw4⟩ : ∃ x, wd.setCells bl 4 (bvs hd) = x := ⟨_, rfl⟩
  rw [hw4] at HS4 hk4 ⊢
  refine hK.out _ _ hk4 (fun hHeld => ?_)
  clear hK K
  try simp only [PT]
  refine wpAnyH_done (by kernel_rfl) ?_ _
  clear q1 HCP hv0
  have HC4 := Lib.hid (pcheck_ok br b2 16 HRB.out.2 w4 HS4.out.st)
  go_upto_region 11 with (go_at_call 60; refine HC4.out.mono ?_; rintro r w5 ⟨rfl, s1, k1⟩; have HS5 := Lib.hid (HS4.out.next s1 k1); clear s1 k1)
  have HL3 := Lib.hid (fun W hst => by have := plist_free br (b2.drop 16) 0 N W hst; rw [HE.out.1] at this; exact this)
  have HL4 := Lib.hid (fun W hst => by have := plist_free br b3 e3 N W hst; rw [HE.out.2] at this; exact this)
  clear HC4 HS4 HST3 HS3 hk4 HRB HLB3
  go_upto_region 12 with (first
    | (have hgd := HS6; go_at_call 62; refine (HL4.out w6 HS6.out.st).mono ?_; rintro r w7 ⟨A4, c4, rfl, own4, s1, k1⟩; have HS7 := Lib.hid (HS6.out.next s1 k1); have HO4 := Lib.hid own4; have HO3 := Lib.hid (own_keepD HO3.out k1 (fun q e => by have := HS5.out.row.lt; have := HS5.out.o; omega)); have q2 : w7.cell? ⟨bl, 2, none⟩ = some (.slice none 0 0) := HS7.out.row.cell 2; have f2 : w7.frozen? ⟨bl, 2, none⟩ = false := HS7.out.row.frozen 2; have q3 : (w7.setCell ⟨bl, 2, none⟩ (.slice A3 x.length c3)).cell? ⟨bl, 3, none⟩ = some (.slice none 0 0) := (HS7.out.put 2 (.slice A3 x.length c3)).row.cell 3; have f3 : (w7.setCell ⟨bl, 2, none⟩ (.slice A3 x.length c3)).frozen? ⟨bl, 3, none⟩ = false := (HS7.out.put 2 (.slice A3 x.length c3)).row.frozen 3; clear s1 k1 own4)
    | (go_at_call 62; refine (HL3.out w5 HS5.out.st).mono ?_; rintro r w6 ⟨A3, c3, rfl, own3, s1, k1⟩; have HS6 := Lib.hid (HS5.out.next s1 k1); have HO3 := Lib.hid own3; have HZ6 : Hid (∀ a, A3 = some a → a.block < w6.heap.size) := Lib.hid (fun a ha => (own3.lt a.block (by rw [ha]; rfl)).2); clear s1 k1 own3))
  obtain ⟨w9, hw9⟩ : ∃ z, (w7.setCell ⟨bl, 2, none⟩ (.slice A3 x.length c3)).setCell ⟨bl, 3, none⟩ (.slice A4 y.length c4) = z := ⟨_, rfl⟩
  have HS9 := Lib.hid ((HS7.out.put 2 (.slice A3 x.length c3)).put 3 (.slice A4 y.length c4))
  have HOO : Hid (w9.ownsRow w5.heap.size 3 1 (.slice A3 x.length c3) x.length (ivs x) ∧ w9.ownsRow w6.heap.size 3 1 (.slice A4 y.length c4) y.length (ivs y)) := Lib.hid (by
    have h5 := HS5.out.row.lt
    have h6 := HS6.out.row.lt
    rw [← hw9]
    exact ⟨own_far (own_far HO3.out (grown_setCell _ _ _ _) h5) (grown_setCell _ _ _ _) h5, own_far (own_far HO4.out (grown_setCell _ _ _ _) h6) (grown_setCell _ _ _ _) h6⟩)
  rw [hw9] at HS9 ⊢
  have HB56 : Hid (bl < w5.heap.size) := Lib.hid HS5.out.row.lt
  clear hw9 q2 f2 q3 f3 HL3 HL4 HO3 HO4 HS5 HS6 HS7
  obtain ⟨p0, hp0⟩ : ∃ p0 : Nat, P - K = p0 := ⟨_, rfl⟩
  have HPK : Hid (p0 + K = P ∧ K ≤ 16 ∧ ((P : Int) - (K : Nat) = (p0 : Int))) := Lib.hid (by have := HNP.out; omega)
  have hPb := HNP.out.2.2.1
  obtain ⟨y16, hy16⟩ : ∃ z, (P : Int) - 16 = z := ⟨_, rfl⟩
  have m1 : IntKind.i64.wrap ((P : Int) - 16) = y16 := by rw [hy16]; exact IntWalk.i64_in _ (by omega)
  have hmx : max (0 : Int) y16 = (p0 : Int) := by have := HNP.out.2.2.2; omega
  have q0 : w9.cell? ⟨bl, 0, none⟩ = some (.int .i64 (P : Int)) := HS9.out.row.cell 0
  clear hp0 hy16
  have HD0 : Hid (DLoop w w9 br bl b N P K p0 b4 e4 x y hd 0) := Lib.hid (by
    by_cases hz4 : e4 = 0
    · subst hz4
      have l4 := Bil.lst_ok (b := b3) (e := e3) (n := N) (mx := fun _ => 9223372036854775807) (by rw [HE.out.2])
      have l3 := Bil.lst_ok (b := b2.drop 16) (e := 0) (n := N) (mx := fun _ => 9223372036854775807) (by rw [HE.out.1]; exact l4.1)
      rw [HE.out.2] at l4
      rw [HE.out.1] at l3
      have hxl : x.length = N := l3.2.1
      have hyl : y.length = N := l4.2.1
      have o3 := HOO.out.1
      have o4 := HOO.out.2
      rw [hxl] at o3
      rw [hyl] at o4
      have hn1 := HNP.out.1
      obtain ⟨g2, hA3, hg2, fr2⟩ := FRow.of_own o3 hn1
      obtain ⟨g3, hA4, hg3, fr3⟩ := FRow.of_own o4 hn1
      have hlt2 := HZ6.out _ hA3
      have hb56 := HB56.out
      have ho := HS9.out.o
      have hr9 := HS9.out.row
      have hr9' : IsRow w9 bl 71 (.int .i64 (P : Int) :: .slice none 0 0 :: .slice (some ⟨g2, 0, none⟩) N c3 :: .slice (some ⟨g3, 0, none⟩) N c4 :: bvs hd) := by
        rw [hA3, hA4, hxl, hyl] at hr9; exact hr9
      obtain ⟨col, hlat, hcol⟩ := lat_dec (B := w.heap.size) (show g2 ≠ g3 by have : g2 < w6.heap.size := hlt2; omega) (show g2 ≠ bl by omega) (show g3 ≠ bl by have : g2 < w6.heap.size := hlt2; omega) hn1 HNP.out.2.1 HNP.out.2.2.1 fr2 fr3 hxl hyl HHD.out hr9' HTS.out.1 HTS.out.2.1 HTS.out.2.2 (by omega) (by omega) (by have : g2 < w6.heap.size := hlt2; omega)
      refine .inl ⟨col, _, [], b4, rfl, ⟨hlat, fun q hq => ?_, HS9.out.bw, HS9.out.st, ho.1⟩, rfl, by simp⟩
      have : g2 < w6.heap.size := hlt2
      rcases hcol q hq with rfl | rfl | rfl <;> omega
    · exact .inr ⟨e4, b4, hz4, by rw [HDC2.out, if_neg hz4], HS9.out.bw, HS9.out.st, HS9.out.row.cell 0⟩)
  have HDE : Hid (∀ ks b', Bil.accts K (p0 : Int) b4 N = (ks, b', 0) → e4 = 0 → Bil.dec b = if b' = [] then .inl ⟨N, P, ks, x, y, hd⟩ else .inr 6) := Lib.hid (fun ks b' h1 h2 => by
    have := HDC2.out
    rw [if_pos h2, HPK.out.2.2, h1] at this
    simpa using this)
  have HDF : Hid (∀ ks b' e, e ≠ 0 → Bil.accts K (p0 : Int) b4 N = (ks, b', e) → e4 = 0 → Bil.dec b = .inr e) := Lib.hid (fun ks b' e h0 h1 h2 => by
    have := HDC2.out
    rw [if_pos h2, HPK.out.2.2, h1] at this
    simp only [if_neg h0] at this
    exact this)
  clear HS9 HOO HB56 HZ6 HE
  go_upto_region 13 with fail
  clear q0 m1 hmx
  go_wp2_with fail
  go_loopw [9] (fun u9 wr => ∃ i : Nat, i ≤ K ∧ u9 = .int .i64 ((p0 + i : Nat) : Int) ∧ Hid (DLoop w wr br bl b N P K p0 b4 e4 x y hd i)) (fun u9 _ => P + 1 - (intOf u9).toNat)
  case atStart => exact ⟨0, Nat.zero_le _, rfl, HD0⟩
  case round =>
    clear HD0
    obtain ⟨i, hi, rfl, HD⟩ := hrel
    have hpk := HPK.out.1
    have hP65 := HNP.out.2.2.1
    obtain ⟨pi, hpi⟩ : ∃ z, p0 + i = z := ⟨_, rfl⟩
    rw [hpi]
    rcases HD.out with ⟨col, m, ks, b', hz4, hdl, hml, hac⟩ | ⟨e, b', he, hdec, hbw, hst, hc0⟩
    · have HDL := Lib.hid hdl
      have HML := Lib.hid hml
      have HAC := Lib.hid hac
      have q0 : wr.cell? ⟨bl, 0, none⟩ = some (.int .i64 (P : Int)) := hdl.lat.row.cell 0
      have qe : wr.cell? ⟨br, 1, none⟩ = some (.int .i64 0) := hdl.st.cell1
      by_cases hlt : i < K
      · have i1 : ((pi : Nat) : Int) < (P : Int) := by omega
        have hki : K - i = (K - (i + 1)) + 1 := by omega
        have mpi : IntKind.i64.wrap ((pi : Int) + 1) = (pi : Int) + 1 := IntWalk.i64_in _ (by omega)
        have hpis : ((pi : Nat) : Int) + 1 = ((p0 + (i + 1) : Nat) : Int) := by omega
        have hac1 := hac
        rw [hki, hpi] at hac1
        have HC1 : Hid (wr.cell? ⟨bl, 1, none⟩ = some (.slice m.A i m.c)) := Lib.hid (by have := hdl.lat.row.cell 1; rw [← hml]; exact this)
        have HLB : Hid (bl < wr.heap.size ∧ ¬ (bl = br) ∧ br < wr.heap.size) := Lib.hid ⟨hdl.lat.row.lt, by have := hdl.bl; omega, by have := hdl.bl; have := hdl.lat.row.lt; omega⟩
        have HPIS := Lib.hid (And.intro hpi (And.intro hlt hpis))
        by_cases hok : (Bil.acct b' (pi : Int) N).2.2 = 0
        · have HOK := Lib.hid hok
          have HAO := Lib.hid (Bil.acct_ok hok)
          rw [Bil.accts_ok1 hok] at hac1
          have HA1 := Lib.hid hac1
          clear hdl hml hac hac1 hok hki hpi hpis hpk
          go_upto_region 15 with fail
          clear q0 qe
          go_wp2_with fail
          have hbl0 : Below wr.heap.size wr wr.drew := (Below.refl _ _).drew
          have hv0 : Keep (fun q => q = br) wr wr.drew := Keep.of_below (Below.refl _ _).drew
          refine wp_region_late (fun V => V.cell? ⟨bl, 1, none⟩ = some (.slice m.A i m.c)) [0, 10, 11, 12, 13] (by kernel_rfl) (((hv0).cell (p := ⟨bl, 1, none⟩) HLB.out.1 HLB.out.2.1).trans HC1.out) (fun hHeld => ?_)
          obtain ⟨wd, hwd⟩ : ∃ x, wr.drew = x := ⟨_, rfl⟩
          rw [hwd] at hv0 hHeld hbl0 ⊢
          clear hwd
          refine tkE 0 oDd9 ?v0_101 (.inl ⟨by rfl, ?h0_101⟩) ?r0_101
          case h0_101 =>
            intro W
            unfold oDd9
            go_simp
            try with_reducible rfl
          try simp only [oDd9, PT]
          refine tkL 1 oDd10 ?v1_102 (.inl ⟨by rfl, ?h1_102⟩) ?r1_102
          case h1_102 =>
            intro W hSW
            unfold oDd10
            try dsimp only at hSW
            go_simp
            try with_reducible rfl
          try simp only [oDd10, PT]
          refine tkL 2 oDd11 ?v2_103 (.inl ⟨by rfl, ?h2_103⟩) ?r2_103
          case h2_103 =>
            intro W hSW
            unfold oDd11
            try dsimp only at hSW
            go_simp
            try with_reducible rfl
          try simp only [oDd11, PT]
          refine tkL 3 oDd12 ?v3_104 (.inl ⟨by rfl, ?h3_104⟩) ?r3_104
          case h3_104 =>
            intro W hSW
            unfold oDd12
            try dsimp only at hSW
            go_simp
            try with_reducible rfl
          try simp only [oDd12, PT]
          refine tkL 4 oDd13 ?v4_105 (.inl ⟨by rfl, ?h4_105⟩) ?r4_105
          case h4_105 =>
            intro W hSW
            unfold oDd13
            try dsimp only at hSW
            have hcc := hSW
            go_simp
            try with_reducible rfl
          try simp only [oDd13, PT]
          refine tkL 5 oDd14 ?v5_106 (.inl ⟨by rfl, ?h5_106⟩) ?r5_106
          case h5_106 =>
            intro W hSW
            unfold oDd14
            try dsimp only at hSW
            go_simp
            try with_reducible rfl
          try simp only [oDd14, PT]
          refine tkL 6 oDd15 ?v6_107 (.inl ⟨by rfl, ?h6_107⟩) ?r6_107
          case h6_107 =>
            intro W hSW
            unfold oDd15
            try dsimp only at hSW
            go_simp
            try with_reducible rfl
          try simp only [oDd15, PT]
          refine tkL 7 oDd16 ?v7_108 (.inl ⟨by rfl, ?h7_108⟩) ?r7_108
          case h7_108 =>
            intro W hSW
            unfold oDd16
            try dsimp only at hSW
            go_simp
            try with_reducible rfl
          try simp only [oDd16, PT]
          refine rdyL [8] ?_
          refine AllReadyL.cons (o := oDd17) rfl (fun K hK => ?_) AllReadyL.nil
          unfold oDd17
          go_simp
          refine (paccount_any br b' (pi : Int) N HNP.out.1 HNP.out.2.1 wd (HDL.out.st.below hbl0)).mono ?_
          rintro r w80 ⟨s1, k1, hh⟩
          (obtain ⟨_, gc, cc, gr, cr, gt, ct, gg, cg, rfl, hf⟩ := hh.resolve_left (fun h => h.1 HOK.out)); rw [HOK.out] at s1; have HF := Lib.hid hf; have HS1 := Lib.hid (And.intro s1 k1); have KX := Lib.hid (kacells (Bil.acct b' (pi : Int) N).1 N gc cc gr cr gt ct gg cg); obtain ⟨per, hper⟩ : ∃ z, (Bil.acct b' (pi : Int) N).1.bill.period = z := ⟨_, rfl⟩; obtain ⟨med, hmed⟩ : ∃ z, (Bil.acct b' (pi : Int) N).1.bill.media = z := ⟨_, rfl⟩; obtain ⟨hou, hhou⟩ : ∃ z, (Bil.acct b' (pi : Int) N).1.bill.house = z := ⟨_, rfl⟩; rw [hper, hmed, hhou] at KX; rw [hper, hmed, hhou]; clear hf hper hmed hhou
          have hv80 : Keep (fun q => q = br) wr w80 := (Keep.of_below hbl0).trans k1
          clear s1 k1 hh
          refine hK.out _ _ (((hv80).cell (p := ⟨bl, 1, none⟩) HLB.out.1 HLB.out.2.1).trans HC1.out) (fun hHeld => ?_)
          clear hK K
          try simp only [PT]
          refine rdyL [9] ?_
          refine AllReadyL.cons (o := oDd18) rfl (fun K hK => ?_) AllReadyL.nil
          unfold oDd18
          go_simp
          obtain ⟨g86, hg86⟩ : ∃ x, w80.heap.size = x := ⟨_, rfl⟩
          have r86 := IsRow.new w80 79 [.int .i64 per, .int .i64 med, .int .i64 hou, .slice (some ⟨gc, 0, none⟩) N cc, .slice (some ⟨gr, 0, none⟩) N cr, .slice (some ⟨gt, 0, none⟩) N ct, .slice (some ⟨gg, 0, none⟩) N cg]
          obtain ⟨w81, hw81⟩ : ∃ x, w80.alloc (.cells #[.int .i64 per, .int .i64 med, .int .i64 hou, .slice (some ⟨gc, 0, none⟩) N cc, .slice (some ⟨gr, 0, none⟩) N cr, .slice (some ⟨gt, 0, none⟩) N ct, .slice (some ⟨gg, 0, none⟩) N cg] 79) = x := ⟨_, rfl⟩
          rw [show ([.int .i64 per, .int .i64 med, .int .i64 hou, .slice (some ⟨gc, 0, none⟩) N cc, .slice (some ⟨gr, 0, none⟩) N cr, .slice (some ⟨gt, 0, none⟩) N ct, .slice (some ⟨gg, 0, none⟩) N cg] : List Value).toArray = #[.int .i64 per, .int .i64 med, .int .i64 hou, .slice (some ⟨gc, 0, none⟩) N cc, .slice (some ⟨gr, 0, none⟩) N cr, .slice (some ⟨gt, 0, none⟩) N ct, .slice (some ⟨gg, 0, none⟩) N cg] from rfl, hw81, hg86] at r86
          rw [hw81, hg86]
          have b81 : Below w80.heap.size w80 w81 := by rw [← hw81]; exact (Below.refl _ _).alloc (Nat.le_refl _) _
          have HB2 := Lib.hid b81
          have hv81 := (hv80).then_below b81
          have HV1 := Lib.hid hv80
          clear hw81 hg86 b81
          refine hK.out _ _ (((hv81).cell (p := ⟨bl, 1, none⟩) HLB.out.1 HLB.out.2.1).trans HC1.out) (fun hHeld => ?_)
          clear hK K
          try simp only [PT]
          refine rdyL [10] ?_
          refine AllReadyL.late (o := oDd19) rfl (by rfl) (fun K hK => ?_) AllReadyL.nil
          unfold oDd19
          rw [if_pos (by rfl)]
          have hor0 : ORow w81 79 7 m.A m.c (m.ks.map (KA.cells N)) := (krow_orow.1 HDL.out.lat.krow).keep (fun a ha => (hv81).block a.block (HDL.out.lat.krow.lt ha) (fun e => by have h4 := HDL.out.lat.cka a ha; have hzb := HDL.out.zb; rw [e] at h4; omega))
          obtain ⟨g, off, ck, w82, hrun, hOR, hor, hgr⟩ := run_oapp (P := Tryd.prog) accT hor0 [.int .i64 per, .int .i64 med, .int .i64 hou, .slice (some ⟨gc, 0, none⟩) N cc, .slice (some ⟨gr, 0, none⟩) N cr, .slice (some ⟨gt, 0, none⟩) N ct, .slice (some ⟨gg, 0, none⟩) N cg] rfl (by simp [Value.oneCell']) g86 (fun j u hu => by rw [r86.cell]; exact hu) (by rw [List.length_map]; have := HDL.out.lat.len; omega) (by rw [List.length_map]; have := HDL.out.lat.len; omega) 69
          rw [List.length_map, HML.out] at hrun
          refine wp_arun (.tmp 81) (.tmp 86) 69 rfl _ _ _ rfl rfl hrun ?_
          have HOR := Lib.hid (And.intro hOR (And.intro hor hgr))
          have hgbl : g ≠ bl := fun e => Or.elim hor (fun ⟨o, ho⟩ => by have h1 : col g = 4 := HDL.out.lat.cka _ ho; have h2 := HDL.out.lat.cbl; rw [e] at h1; omega) (fun ho => by have := HLB.out.1; have := (hv81).size; omega)
          have hrw := (HDL.out.lat.row.keep ((hv81).block bl HLB.out.1 HLB.out.2.1)).grown hgr (by intro e; exact hgbl (Option.some.inj e))
          have hk1 : w82.cell? ⟨bl, 1, none⟩ = some _ := hrw.cell 1
          have hf1 : w82.frozen? ⟨bl, 1, none⟩ = false := hrw.frozen 1
          have HQ0 : Hid (w82.cell? ⟨bl, 0, none⟩ = some (.int .i64 (P : Int))) := Lib.hid (hrw.cell 0)
          have HNB := Lib.hid hgbl
          have hv82 := hgr
          clear hor0 hrun hOR hor hgr hgbl hrw r86
          refine hK.out _ _ ?_
          clear hK K
          try simp only [PT]
          refine tkE 11 oDd20 ?v11_109 (.inl ⟨by rfl, ?h11_109⟩) ?r11_109
          case h11_109 =>
            intro W
            unfold oDd20
            go_simp
            try with_reducible rfl
          try simp only [oDd20, PT]
          refine tkE 12 oDd21 ?v12_110 (.inl ⟨by rfl, ?h12_110⟩) ?r12_110
          case h12_110 =>
            intro W
            unfold oDd21
            go_simp
            try with_reducible rfl
          try simp only [oDd21, PT]
          refine rdyL [13] ?_
          refine AllReadyL.late (o := oDd22) rfl (by rfl) (fun K hK => ?_) AllReadyL.nil
          unfold oDd22
          go_simp
          obtain ⟨wf, hwf⟩ : ∃ z, w82.setCell ⟨bl, 1, none⟩ (.slice (some ⟨g, off, none⟩) (i + 1) ck) = z := ⟨_, rfl⟩
          have HWF := Lib.hid hwf
          rw [hwf]
          clear hwf hk1 hf1
          refine hK.out _ _ ?_
          clear hK K
          try simp only [PT]
          refine wpAnyL_done (by kernel_rfl) ?_ _
          have HORR := HOR.out
          have hgz : g ≠ br ∧ w.heap.size ≤ g := by
            have hbw := HDL.out.bw.size
            have hzb := HDL.out.zb
            have ho := HDL.out.o
            have h80 := HB2.out.size
            have hk := HS1.out.2.size
            have h0 := hbl0.size
            have hlt := HLB.out.2.2
            rcases HORR.2.1 with ⟨o, ho'⟩ | hg
            · have h4 : col g = 4 := HDL.out.lat.cka _ ho'
              have := HDL.out.f g (by rw [h4]; decide)
              omega
            · omega
          have hbl := HDL.out.bl
          have ho := HDL.out.o
          have hbw80 : Below w.heap.size w w80 := HDL.out.bw.trans (((Keep.of_below (S := fun q => q = br) hbl0).trans HS1.out.2).below HDL.out.bw.size fun q hq e => by omega)
          have hbw82 : Below w.heap.size w w82 := (hbw80.trans (HB2.out.mono hbw80.size)).grown HORR.2.2 (Nat.le_trans hbw80.size HB2.out.size) fun k e => by have := Option.some.inj e; omega
          have hgs := grown_setCell w82 bl 1 (.slice (some ⟨g, off, none⟩) (i + 1) ck)
          rw [HWF.out] at hgs
          have hbwf : Below w.heap.size w wf := hbw82.grown hgs hbw82.size fun k e => by have := Option.some.inj e; omega
          have hgbr : br < g := by have := hgz.1; have := hgz.2; omega
          have hst : PSt wf br (Bil.acct b' (pi : Int) N).2.1 0 := ((HS1.out.1.below HB2.out).keeps (Keep.of_grown HORR.2.2 (S := fun q => q = g) fun k e => (Option.some.inj e).symm) (fun q hq e => by omega)).keeps (Keep.of_grown hgs (S := fun q => q = bl) fun k e => (Option.some.inj e).symm) (fun q hq e => by omega)
          obtain ⟨f1, f2, f3, f4, o1, o2, o3, o4⟩ := HF.out
          have hbt := HDL.out.bw.size
          obtain ⟨col', m', hlat, hml', hcl', _, _⟩ := dec_push HDL.out.lat HDL.out.zb HLB.out.2.2 ((Keep.of_below hbl0).trans HS1.out.2) HAO.out.1 f1 f2 f3 f4 (Nat.le_trans hbl0.size o1) o2 o3 o4 HB2.out (by rw [KX.out]; exact HORR.1) HORR.2.1 HORR.2.2 (by rw [HML.out]; have := HPIS.out.2.1; have := HPK.out.2.1; omega) ⟨by have := HTS.out.1; omega, by have := HTS.out.2.1; omega, by have := HTS.out.2.2; omega⟩
          rw [HML.out, HWF.out] at hlat
          have DLT : DLoop w wf br bl b N P K p0 b4 e4 x y hd (i + 1) := .inl ⟨col', m', ks ++ [(Bil.acct b' (pi : Int) N).1], (Bil.acct b' (pi : Int) N).2.1, hz4, ⟨hlat, fun q hq => (hcl' q hq).elim (HDL.out.f q) (fun h => by have := HLB.out.2.2; omega), hbwf, hst, ho⟩, by rw [hml', HML.out], by
            rw [HA1.out, ← HPIS.out.2.2, List.append_assoc]; rfl⟩
          have HDLT := Lib.hid DLT
          clear HORR hgz hbl ho hbw80 hbw82 hgs hbwf hgbr hst DLT f1 f2 f3 f4 o1 o2 o3 o4 hbt hlat hml' hcl'
          go_wp2_with fail
          go_roundw
          case rel => exact ⟨i + 1, by have := HPIS.out.2.1; omega, by rw [← HPIS.out.2.2], HDLT⟩
          case measure => have h1 := HPIS.out; have h2 := HPK.out.1; simp [intOf, mpi]; omega
        · have HNO := Lib.hid hok
          rw [Bil.accts_err1 hok] at hac1
          have HA1 := Lib.hid hac1
          clear hdl hml hac hac1 hok hki hpi hpis hpk
          go_upto_region 15 with fail
          clear q0 qe
          go_wp2_with fail
          have hbl0 : Below wr.heap.size wr wr.drew := (Below.refl _ _).drew
          have hv0 : Keep (fun q => q = br) wr wr.drew := Keep.of_below (Below.refl _ _).drew
          refine wp_region_late (fun V => V.cell? ⟨bl, 1, none⟩ = some (.slice m.A i m.c)) [0, 10, 11, 12, 13] (by kernel_rfl) (((hv0).cell (p := ⟨bl, 1, none⟩) HLB.out.1 HLB.out.2.1).trans HC1.out) (fun hHeld => ?_)
          obtain ⟨wd, hwd⟩ : ∃ x, wr.drew = x := ⟨_, rfl⟩
          rw [hwd] at hv0 hHeld hbl0 ⊢
          clear hwd
          refine tkE 0 oDd9 ?v0_201 (.inl ⟨by rfl, ?h0_201⟩) ?r0_201
          case h0_201 =>
            intro W
            unfold oDd9
            go_simp
            try with_reducible rfl
          try simp only [oDd9, PT]
          refine tkL 1 oDd10 ?v1_202 (.inl ⟨by rfl, ?h1_202⟩) ?r1_202
          case h1_202 =>
            intro W hSW
            unfold oDd10
            try dsimp only at hSW
            go_simp
            try with_reducible rfl
          try simp only [oDd10, PT]
          refine tkL 2 oDd11 ?v2_203 (.inl ⟨by rfl, ?h2_203⟩) ?r2_203
          case h2_203 =>
            intro W hSW
            unfold oDd11
            try dsimp only at hSW
            go_simp
            try with_reducible rfl
          try simp only [oDd11, PT]
          refine tkL 3 oDd12 ?v3_204 (.inl ⟨by rfl, ?h3_204⟩) ?r3_204
          case h3_204 =>
            intro W hSW
            unfold oDd12
            try dsimp only at hSW
            go_simp
            try with_reducible rfl
          try simp only [oDd12, PT]
          refine tkL 4 oDd13 ?v4_205 (.inl ⟨by rfl, ?h4_205⟩) ?r4_205
          case h4_205 =>
            intro W hSW
            unfold oDd13
            try dsimp only at hSW
            have hcc := hSW
            go_simp
            try with_reducible rfl
          try simp only [oDd13, PT]
          refine tkL 5 oDd14 ?v5_206 (.inl ⟨by rfl, ?h5_206⟩) ?r5_206
          case h5_206 =>
            intro W hSW
            unfold oDd14
            try dsimp only at hSW
            go_simp
            try with_reducible rfl
          try simp only [oDd14, PT]
          refine tkL 6 oDd15 ?v6_207 (.inl ⟨by rfl, ?h6_207⟩) ?r6_207
          case h6_207 =>
            intro W hSW
            unfold oDd15
            try dsimp only at hSW
            go_simp
            try with_reducible rfl
          try simp only [oDd15, PT]
          refine tkL 7 oDd16 ?v7_208 (.inl ⟨by rfl, ?h7_208⟩) ?r7_208
          case h7_208 =>
            intro W hSW
            unfold oDd16
            try dsimp only at hSW
            go_simp
            try with_reducible rfl
          try simp only [oDd16, PT]
          refine rdyL [8] ?_
          refine AllReadyL.cons (o := oDd17) rfl (fun K hK => ?_) AllReadyL.nil
          unfold oDd17
          go_simp
          refine (paccount_any br b' (pi : Int) N HNP.out.1 HNP.out.2.1 wd (HDL.out.st.below hbl0)).mono ?_
          rintro r w80 ⟨s1, k1, hh⟩
          (obtain ⟨_, LL, hLl, hL1, rfl⟩ := hh.resolve_right (fun h => HNO.out h.1)); obtain ⟨a0, a1, a2, a3, a4, a5, a6, rfl⟩ : ∃ a0 a1 a2 a3 a4 a5 a6, LL = [a0, a1, a2, a3, a4, a5, a6] := list7 LL hLl; have HL1 := Lib.hid hL1; have HS1 := Lib.hid (And.intro s1 k1); clear hLl hL1
          have hv80 : Keep (fun q => q = br) wr w80 := (Keep.of_below hbl0).trans k1
          clear s1 k1 hh
          refine hK.out _ _ (((hv80).cell (p := ⟨bl, 1, none⟩) HLB.out.1 HLB.out.2.1).trans HC1.out) (fun hHeld => ?_)
          clear hK K
          try simp only [PT]
          refine rdyL [9] ?_
          refine AllReadyL.cons (o := oDd18) rfl (fun K hK => ?_) AllReadyL.nil
          unfold oDd18
          go_simp
          obtain ⟨g86, hg86⟩ : ∃ x, w80.heap.size = x := ⟨_, rfl⟩
          have r86 := IsRow.new w80 79 [a0, a1, a2, a3, a4, a5, a6]
          obtain ⟨w81, hw81⟩ : ∃ x, w80.alloc (.cells #[a0, a1, a2, a3, a4, a5, a6] 79) = x := ⟨_, rfl⟩
          rw [show ([a0, a1, a2, a3, a4, a5, a6] : List Value).toArray = #[a0, a1, a2, a3, a4, a5, a6] from rfl, hw81, hg86] at r86
          rw [hw81, hg86]
          have b81 : Below w80.heap.size w80 w81 := by rw [← hw81]; exact (Below.refl _ _).alloc (Nat.le_refl _) _
          have HB2 := Lib.hid b81
          have hv81 := (hv80).then_below b81
          have HV1 := Lib.hid hv80
          clear hw81 hg86 b81
          refine hK.out _ _ (((hv81).cell (p := ⟨bl, 1, none⟩) HLB.out.1 HLB.out.2.1).trans HC1.out) (fun hHeld => ?_)
          clear hK K
          try simp only [PT]
          refine rdyL [10] ?_
          refine AllReadyL.late (o := oDd19) rfl (by rfl) (fun K hK => ?_) AllReadyL.nil
          unfold oDd19
          rw [if_pos (by rfl)]
          have hor0 : ORow w81 79 7 m.A m.c (m.ks.map (KA.cells N)) := (krow_orow.1 HDL.out.lat.krow).keep (fun a ha => (hv81).block a.block (HDL.out.lat.krow.lt ha) (fun e => by have h4 := HDL.out.lat.cka a ha; have hzb := HDL.out.zb; rw [e] at h4; omega))
          obtain ⟨g, off, ck, w82, hrun, hOR, hor, hgr⟩ := run_oapp (P := Tryd.prog) accT hor0 [a0, a1, a2, a3, a4, a5, a6] rfl (List.all_eq_true.1 HL1.out) g86 (fun j u hu => by rw [r86.cell]; exact hu) (by rw [List.length_map]; have := HDL.out.lat.len; omega) (by rw [List.length_map]; have := HDL.out.lat.len; omega) 69
          rw [List.length_map, HML.out] at hrun
          refine wp_arun (.tmp 81) (.tmp 86) 69 rfl _ _ _ rfl rfl hrun ?_
          have HOR := Lib.hid (And.intro hOR (And.intro hor hgr))
          have hgbl : g ≠ bl := fun e => Or.elim hor (fun ⟨o, ho⟩ => by have h1 : col g = 4 := HDL.out.lat.cka _ ho; have h2 := HDL.out.lat.cbl; rw [e] at h1; omega) (fun ho => by have := HLB.out.1; have := (hv81).size; omega)
          have hrw := (HDL.out.lat.row.keep ((hv81).block bl HLB.out.1 HLB.out.2.1)).grown hgr (by intro e; exact hgbl (Option.some.inj e))
          have hk1 : w82.cell? ⟨bl, 1, none⟩ = some _ := hrw.cell 1
          have hf1 : w82.frozen? ⟨bl, 1, none⟩ = false := hrw.frozen 1
          have HQ0 : Hid (w82.cell? ⟨bl, 0, none⟩ = some (.int .i64 (P : Int))) := Lib.hid (hrw.cell 0)
          have HNB := Lib.hid hgbl
          have hv82 := hgr
          clear hor0 hrun hOR hor hgr hgbl hrw r86
          refine hK.out _ _ ?_
          clear hK K
          try simp only [PT]
          refine tkE 11 oDd20 ?v11_209 (.inl ⟨by rfl, ?h11_209⟩) ?r11_209
          case h11_209 =>
            intro W
            unfold oDd20
            go_simp
            try with_reducible rfl
          try simp only [oDd20, PT]
          refine tkE 12 oDd21 ?v12_210 (.inl ⟨by rfl, ?h12_210⟩) ?r12_210
          case h12_210 =>
            intro W
            unfold oDd21
            go_simp
            try with_reducible rfl
          try simp only [oDd21, PT]
          refine rdyL [13] ?_
          refine AllReadyL.late (o := oDd22) rfl (by rfl) (fun K hK => ?_) AllReadyL.nil
          unfold oDd22
          go_simp
          obtain ⟨wf, hwf⟩ : ∃ z, w82.setCell ⟨bl, 1, none⟩ (.slice (some ⟨g, off, none⟩) (i + 1) ck) = z := ⟨_, rfl⟩
          have HWF := Lib.hid hwf
          rw [hwf]
          clear hwf hk1 hf1
          refine hK.out _ _ ?_
          clear hK K
          try simp only [PT]
          refine wpAnyL_done (by kernel_rfl) ?_ _
          have HORR := HOR.out
          have hgz : g ≠ br ∧ w.heap.size ≤ g := by
            have hbw := HDL.out.bw.size
            have hzb := HDL.out.zb
            have ho := HDL.out.o
            have h80 := HB2.out.size
            have hk := HS1.out.2.size
            have h0 := hbl0.size
            have hlt := HLB.out.2.2
            rcases HORR.2.1 with ⟨o, ho'⟩ | hg
            · have h4 : col g = 4 := HDL.out.lat.cka _ ho'
              have := HDL.out.f g (by rw [h4]; decide)
              omega
            · omega
          have hbl := HDL.out.bl
          have ho := HDL.out.o
          have hbw80 : Below w.heap.size w w80 := HDL.out.bw.trans (((Keep.of_below (S := fun q => q = br) hbl0).trans HS1.out.2).below HDL.out.bw.size fun q hq e => by omega)
          have hbw82 : Below w.heap.size w w82 := (hbw80.trans (HB2.out.mono hbw80.size)).grown HORR.2.2 (Nat.le_trans hbw80.size HB2.out.size) fun k e => by have := Option.some.inj e; omega
          have hgs := grown_setCell w82 bl 1 (.slice (some ⟨g, off, none⟩) (i + 1) ck)
          rw [HWF.out] at hgs
          have hbwf : Below w.heap.size w wf := hbw82.grown hgs hbw82.size fun k e => by have := Option.some.inj e; omega
          have hgbr : br < g := by have := hgz.1; have := hgz.2; omega
          have hst : PSt wf br (Bil.acct b' (pi : Int) N).2.1 (Bil.acct b' (pi : Int) N).2.2 := ((HS1.out.1.below HB2.out).keeps (Keep.of_grown HORR.2.2 (S := fun q => q = g) fun k e => (Option.some.inj e).symm) (fun q hq e => by omega)).keeps (Keep.of_grown hgs (S := fun q => q = bl) fun k e => (Option.some.inj e).symm) (fun q hq e => by omega)
          have DLT : DLoop w wf br bl b N P K p0 b4 e4 x y hd (i + 1) := .inr ⟨(Bil.acct b' (pi : Int) N).2.2, (Bil.acct b' (pi : Int) N).2.1, HNO.out, HDF.out ks _ _ HNO.out (HA1.out.trans (by rw [List.append_nil])) hz4, hbwf, hst, by rw [← HWF.out]; exact (cell_set_ne w82 _ (by decide)).trans HQ0.out⟩
          have HDLT := Lib.hid DLT
          clear HORR hgz hbl ho hbw80 hbw82 hgs hbwf hgbr hst DLT
          go_wp2_with fail
          go_roundw
          case rel => exact ⟨i + 1, by have := HPIS.out.2.1; omega, by rw [← HPIS.out.2.2], HDLT⟩
          case measure => have h1 := HPIS.out; have h2 := HPK.out.1; simp [intOf, mpi]; omega
      · obtain rfl : i = K := by omega
        have i1 : ¬ (((pi : Nat) : Int) < (P : Int)) := by omega
        have HFI := Lib.hid (by
          have := hac
          rw [Nat.sub_self] at this
          exact (this.trans (by show (ks ++ [], (b', (0 : Int))) = (ks, b', 0); rw [List.append_nil]) : Bil.accts i (p0 : Int) b4 N = (ks, b', 0)))
        have HQ := Lib.hid (HDE.out ks b' HFI.out hz4)
        obtain ⟨A2, n2, c2, hr2, hn2, hnc2, hcm2, hn402, hrd2⟩ := hdl.st.row
        have q1 : wr.cell? ⟨br, 0, none⟩ = some (.slice A2 n2 c2) := hr2.cell 0
        by_cases hbe : b' = []
        · subst hbe
          obtain rfl : 0 = n2 := hn2
          have HCK := Lib.hid (pcheck_ok br [] 0 (Nat.zero_le _) wr hdl.st)
          clear hr2 hnc2 hcm2 hn402 hrd2 hdl hml hac hpk hpi
          go_upto_region 18 with (go_at_call 60; refine HCK.out.mono ?_; rintro r w12 ⟨rfl, s1, k1⟩; have HX := Lib.hid (And.intro s1 k1); have qe : w12.cell? ⟨br, 1, none⟩ = some (.int .i64 0) := s1.cell1; clear s1 k1)
          go_wp2_with fail
          go_ret2
          rw [HQ.out, if_pos True.intro]
          have hbw := HDL.out.bw
          have ho := HDL.out.o
          exact ⟨hbw.trans (HX.out.2.below hbw.size fun q hq e => by omega), .inl ⟨_, bl, col, m, rfl, rfl, HDL.out.lat.keeps HX.out.2 (fun b e => by subst e; exact HDL.out.zb), fun q hq => by have := HDL.out.f q hq; omega⟩⟩
        · have hne : ((n2 : Int) == 0) = false := by rw [beq_eq_false_iff_ne]; intro h; exact hbe (List.eq_nil_of_length_eq_zero (by omega))
          have HNE := Lib.hid hbe
          have HCK := Lib.hid (pcheck_bad br b' 0 0 false wr hdl.st (.inr rfl))
          rw [if_pos rfl] at HCK
          clear hr2 hn2 hnc2 hcm2 hn402 hrd2 hdl hml hac hpk hpi hbe
          go_upto_region 18 with (go_at_call 60; refine HCK.out.mono ?_; rintro r w12 ⟨rfl, s1, k1⟩; have HX := Lib.hid (And.intro s1 k1); have qe : w12.cell? ⟨br, 1, none⟩ = some (.int .i64 6) := s1.cell1; clear s1 k1)
          go_wp2_with fail
          go_quiet (fail)
          go_wp2
          go_ret2
          rw [HQ.out, if_neg HNE.out]
          have hbw := HDL.out.bw
          have ho := HDL.out.o
          exact ⟨below_drewN (hbw.trans (HX.out.2.below hbw.size fun q hq e => by omega)) _, .inr ⟨6, rfl, by decide, rfl⟩⟩
    · have HER := Lib.hid (And.intro he (And.intro hdec hbw))
      have qe : wr.cell? ⟨br, 1, none⟩ = some (.int .i64 e) := hst.cell1
      have hne : (e == 0) = false := by rw [beq_eq_false_iff_ne]; exact he
      have hne2 : (e != 0) = true := by rw [bne_iff_ne]; exact he
      clear hst he hdec hbw hpk hpi
      by_cases hlt : (pi : Int) < (P : Int)
      · go_wp2_with fail
        go_quiet (fail)
        go_wp2
        go_ret2
        rw [HER.out.2.1]
        exact ⟨below_drewN HER.out.2.2 _, .inr ⟨e, rfl, HER.out.1, rfl⟩⟩
      · go_wp2_with fail
        go_quiet (fail)
        go_wp2
        go_ret2
        rw [HER.out.2.1]
        exact ⟨below_drewN HER.out.2.2 _, .inr ⟨e, rfl, HER.out.1, rfl⟩⟩
end Go.Proofs.YtkjomnakolhdcaaDoor
