/- Joined texts: ChkRA, ChkRB, ChkRC. Conditions: as each part says. -/
import Derived.Test.YtfllkaeaanahmaaGreatCLawHP
namespace Go.Proofs.YtfllkaeaanahmaaGreat
set_option linter.unusedVariables false
set_option linter.unusedSimpArgs false
section
open Go.RowKit
namespace Chk
def posI (l : List Ck) (id : Int) : Int := match pos (ids l) id with | some k => (k : Int) | none => -1
theorem pos_nth' {l : List Ck} (h : Inv l) {k : Nat} (hk : k < l.length) : pos (ids l) (nth l k).id = some k := by
 cases hp : pos (ids l) (nth l k).id with
 | none => exact absurd rfl (pos_none hp (nth l k).id (List.mem_of_getElem? (i := k) (by rw [List.getElem?_map, nth_get hk]; rfl)))
 | some j =>
  obtain ⟨hj, hid⟩ := pos_lt hp
  rw [h.idx (nth_get hj) (nth_get hk) hid]
theorem posI_hit {l : List Ck} (h : Inv l) {k : Nat} (hk : k < l.length) {id : Int} (hid : (nth l k).id = id) : posI l id = (k : Int) := by
 subst hid; unfold posI; rw [pos_nth' h hk]
theorem posI_miss {l : List Ck} {id : Int} (h : ∀ k, k < l.length → (nth l k).id ≠ id) : posI l id = -1 := by
 unfold posI
 cases hp : pos (ids l) id with
 | none => rfl
 | some j => exact absurd (pos_lt hp).2 (h j (pos_lt hp).1)
theorem posI_some {l : List Ck} {id : Int} {k : Nat} (h : pos (ids l) id = some k) : posI l id = (k : Int) := by unfold posI; rw [h]
theorem posI_none {l : List Ck} {id : Int} (h : pos (ids l) id = none) : posI l id = -1 := by unfold posI; rw [h]
end Chk
structure RM where
 A : Option Addr
 n : Nat
 c : Nat
 D : List CR
structure RAt (w : World) (F S : Nat → Prop) (a : Nat) (t : RM) (l : List Chk.Ck) : Prop where
 row : IsRow w a 58 [.slice t.A t.n t.c]
 own : w.ownsRow 0 68 23 (.slice t.A t.n t.c) t.n (crs t.D)
 d : t.D.map CR.c = l
 ok : ∀ x ∈ t.D, CRok w F x
 sa : S a
 sg : ∀ g, t.A = some g → S g.block
 ag : ∀ g, t.A = some g → g.block ≠ a
 fs : ∀ b, F b → ¬ S b
 inv : Chk.Inv l
section
variable {w w' : World} {F S : Nat → Prop} {a : Nat} {t : RM} {l : List Chk.Ck}
theorem RAt.dl (h : RAt w F S a t l) : ∀ x ∈ t.D, x.cells.length = 23 := fun x hx => ckCells_len ((h.inv.ok x.c (by rw [← h.d]; exact List.mem_map_of_mem hx)).dg) _
theorem RAt.len (h : RAt w F S a t l) : l.length = t.n ∧ t.D.length = t.n := by
 have h1 := h.own.1
 have h2 : t.D.length = l.length := by rw [← h.d, List.length_map]
 have h3 : (crs t.D).length = t.D.length * 23 := flatMap_len h.dl
 omega
theorem RAt.max (h : RAt w F S a t l) : t.n ≤ 65536 := by
 have hl := h.len.1
 rcases Nat.eq_zero_or_pos t.n with h0 | h0
 ·
  omega
 ·
  have hk : t.n - 1 < l.length := by omega
  have h1 := h.inv.up.pos_ge (b := 0) (fun x hx => by obtain ⟨c, hc, rfl⟩ := List.mem_map.1 hx; have := (h.inv.ok c hc).id1; omega) (t.n - 1) (Chk.nth l (t.n - 1)).id (by rw [List.getElem?_map, Chk.nth_get hk]; rfl)
  have h2 := (h.inv.nth hk).id2
  omega
theorem RAt.cap (h : RAt w F S a t l) : t.n ≤ t.c ∧ t.c ≤ maxLen := own_cap h.own
theorem RAt.keep {T : Nat → Prop} (h : RAt w F S a t l) (hk : Keep T w w') (hs : ∀ b, S b → ¬ T b) (hf : ∀ b, F b → ¬ T b) : RAt w' F S a t l := by
 refine ⟨h.row.keep (hk.block a h.row.lt (hs a h.sa)), ?_, h.d, fun x hx => (h.ok x hx).keep hk hf, h.sa, h.sg, h.ag, h.fs, h.inv⟩
 refine ⟨h.own.1, ?_⟩
 rcases h.own.2 with h0 | ⟨g, cap, cur, hv, hg, hh, r⟩
 ·
  exact .inl h0
 ·
  have hA : t.A = some ⟨g, 0, none⟩ := by injection hv
  exact .inr ⟨g, cap, cur, hv, hg, (hk.block g (Array.getElem?_eq_some_iff.1 hh).1 (hs g (h.sg _ hA))).trans hh, r⟩
theorem RAt.below (h : RAt w F S a t l) (hb : Below w.heap.size w w') : RAt w' F S a t l :=
 h.keep (Keep.of_below (S := fun _ => False) hb) (fun _ _ e => e) (fun _ _ e => e)
theorem RAt.cell (h : RAt w F S a t l) : w.cell? ⟨a, 0, none⟩ = some (.slice t.A t.n t.c) := h.row.cell 0
theorem RAt.at (h : RAt w F S a t l) {k : Nat} (hk : k < t.n) : ∃ g x, t.A = some ⟨g, 0, none⟩ ∧ g < w.heap.size ∧ t.D[k]? = some x ∧ Chk.nth l k = x.c ∧ CRok w F x ∧ Chk.CkOk x.c ∧ w.rangeAt g (k * 23) x.cells := by
 have hD : k < t.D.length := by rw [h.len.2]; exact hk
 obtain ⟨g, cap, hv, _, hlt⟩ := h.own.form (by omega)
 have hA : t.A = some ⟨g, 0, none⟩ := by injection hv
 have hl : l[k]? = some (t.D[k]).c := by rw [← h.d, List.getElem?_map, List.getElem?_eq_getElem hD]; rfl
 have hn : Chk.nth l k = (t.D[k]).c := by unfold Chk.nth; rw [List.getD_eq_getElem?_getD, hl]; rfl
 refine ⟨g, t.D[k], hA, hlt, List.getElem?_eq_getElem hD, hn, h.ok _ (List.getElem_mem hD), h.inv.ok _ (List.mem_of_getElem? hl), fun j v hv2 => ?_⟩
 obtain ⟨b, off, e, _, hr⟩ := (Rd.of_own h.own).elem (f := CR.cells) h.dl hD hk
 have e2 := e.symm.trans hA
 have e3 := Option.some.inj e2
 have hb : b = g := congrArg Addr.block e3
 have ho : off = 0 := congrArg Addr.off e3
 subst hb ho
 have := hr j v hv2
 rwa [Nat.zero_add] at this
end
theorem ck_cells {w : World} {g o : Nat} {x : CR} (hd : x.c.dg.length = 16) (h : w.rangeAt g o x.cells) :
  w.cell? ⟨g, o, none⟩ = some (.int .i64 x.c.id) ∧ w.cell? ⟨g, o + 17, none⟩ = some (.int .u32 x.c.pr) ∧ w.cell? ⟨g, o + 18, none⟩ = some (.int .i64 x.c.at_.r) ∧ w.cell? ⟨g, o + 19, none⟩ = some (.int .i64 x.c.at_.g) ∧ w.cell? ⟨g, o + 20, none⟩ = some (.int .i64 x.c.at_.u) ∧ w.cell? ⟨g, o + 21, none⟩ = some (.bool x.c.lost) ∧ w.cell? ⟨g, o + 22, none⟩ = some (.slice x.A x.n x.k) := by
 obtain ⟨h0, h1, h2, h3, h4, h5, h6⟩ := ckCells_at x.c (.slice x.A x.n x.k) hd
 exact ⟨h 0 _ h0, h 17 _ h1, h 18 _ h2, h 19 _ h3, h 20 _ h4, h 21 _ h5, h 22 _ h6⟩
set_option maxHeartbeats 1600000 in
theorem rfind_any {w : World} {F S : Nat → Prop} {a : Nat} {t : RM} {l : List Chk.Ck} (h : RAt w F S a t l) (id v : Int) (hv : Chk.posI l id = v) :
  Calls Tryz.prog 54 #[.pointer (some ⟨a, 0, none⟩), .int .i64 id] w fun e w' => e = .returned (.int .i64 v) ∧ w' = w := by
 have H := Lib.hid h
 have HL := Lib.hid h.len.1
 have hmx := h.max
 have HV := Lib.hid hv
 have c0 := h.cell
 clear hv h
 go_enter Tryz.func54, Tryz.ntmps54
 go_upto_region 2 with fail
 go_loop [5] (fun u5 => ∃ j : Nat, j ≤ t.n ∧ u5 = .int .i64 (j : Int) ∧ Hid (∀ i, i < j → (Chk.nth l i).id ≠ id)) (fun u5 => t.n - (intOf u5).toNat)
 case atStart => exact ⟨0, Nat.zero_le _, rfl, Lib.hid fun i hi => absurd hi (Nat.not_lt_zero i)⟩
 case round =>
  obtain ⟨j, hj, rfl, HI⟩ := hrel
  by_cases hlt : j < t.n
  ·
   obtain ⟨g, x, hA, hg, hx, hn, hok, hck, hrg⟩ := H.out.at hlt
   have k0 := (ck_cells hck.dg hrg).1
   have hnid : (Chk.nth l j).id = x.c.id := by rw [hn]
   rw [hA] at c0
   have e1 : (0 : Int) ≤ (j : Int) := by omega
   have e2 : (j : Int) < (t.n : Int) := by omega
   obtain ⟨xi, hxi⟩ : ∃ y, x.c.id = y := ⟨_, rfl⟩
   rw [hxi] at k0 hnid
   have HN := Lib.hid hnid
   clear hx hn hok hck hrg hg hA hxi hnid
   by_cases hid : xi = id
   ·
    subst hid
    go_wp2
    go_ret
    exact ⟨by rw [← HV.out, Chk.posI_hit H.out.inv (by rw [HL.out]; exact hlt) HN.out]; rfl, rfl⟩
   ·
    have hb : (xi == id) = false := beq_eq_false_iff_ne.2 hid
    have HI2 : Hid (∀ i, i < j + 1 → (Chk.nth l i).id ≠ id) := Lib.hid fun i hi => by
     rcases Nat.lt_or_ge i j with e | e
     ·
      exact HI.out i e
     ·
      obtain rfl : i = j := by omega
      rw [HN.out]; exact hid
    clear hid
    go_wp2
    go_round
    case rel => exact ⟨j + 1, by omega, by go_num, HI2⟩
    case measure => simp [intOf]; omega
  ·
   obtain rfl : j = t.n := by omega
   go_wp2
   go_ret
   exact ⟨by rw [← HV.out, Chk.posI_miss (fun i hi => HI.out i (by rw [← HL.out]; exact hi))]; rfl, rfl⟩
end
section
open Go.RowKit
theorem RAt.rd {w w' : World} {F S : Nat → Prop} {a : Nat} {t : RM} {l : List Chk.Ck} (h : RAt w F S a t l) (hb : Below w.heap.size w w') : w'.cell? ⟨a, 0, none⟩ = some (.slice t.A t.n t.c) := (hb.cell (p := ⟨a, 0, none⟩) h.row.lt).trans h.cell
namespace Chk
theorem held_hit {l : List Rf} {who : Int} {j : Nat} (hj : j < l.length) (hlo : ∀ i (hi : i < l.length), i < j → l[i].t ≠ who) (ht : l[j].t = who) : held l who = l[j].n := by
 unfold held
 have : l.find? (fun r => decide (r.t = who)) = some l[j] := by
  rw [List.find?_eq_some_iff_getElem]
  exact ⟨by simpa using ht, j, hj, rfl, fun i hi => by simpa using hlo i (by omega) hi⟩
 rw [this]; rfl
theorem held_miss {l : List Rf} {who : Int} (h : ∀ i (hi : i < l.length), l[i].t ≠ who) : held l who = 0 := by
 unfold held
 have : l.find? (fun r => decide (r.t = who)) = none := List.find?_eq_none.2 fun r hr => by
  obtain ⟨i, hi, rfl⟩ := List.getElem_of_mem hr
  simpa using h i hi
 rw [this]; rfl
end Chk
set_option maxRecDepth 100000 in
set_option maxHeartbeats 1600000 in
theorem rheld_any (c : Chk.Ck) (hdg : c.dg.length = 16) (A : Option Addr) (N k : Nat) (hN : c.refs.length = N) (hN16 : N ≤ 1000) (B : Nat) (w : World) (hr : Rd w B 2 A N (rfs c.refs)) (hB : B ≤ w.heap.size) (who : Int) (cs : List Value) (hcs : ckCells c (.slice A N k) = cs) (v : Int) (hv : Chk.held c.refs who = v) :
  Calls Tryz.prog 93 #[.agg cs.toArray, .int .i64 who] w fun e w' => e = .returned (.int .i64 v) ∧ Below w.heap.size w w' := by
 have hat := ckCells_at c (.slice A N k) hdg
 rw [hcs] at hat
 have R0 := IsRow.new w 68 cs
 have k22 := (R0.cell 22).trans hat.2.2.2.2.2.2
 have hb0 : Below w.heap.size w (w.alloc (.cells cs.toArray 68)) := (Below.refl _ w).alloc (Nat.le_refl _) _
 generalize cs.toArray = va at *
 obtain ⟨w0, hw0⟩ : ∃ w0, w.alloc (.cells va 68) = w0 := ⟨_, rfl⟩
 rw [hw0] at k22 hb0
 have HW0 := Lib.hid hw0
 have HV := Lib.hid hv
 have HR := Lib.hid ((hr.more hB).below hb0)
 have HN := Lib.hid hN
 have HB0 := Lib.hid hb0
 clear hw0 hat R0 hcs hv hr hb0
 go_enter Tryz.func93, Tryz.ntmps93
 go_upto_region 2 with fail
 rw [HW0.out]
 go_loop [5] (fun u5 => ∃ j : Nat, j ≤ N ∧ u5 = .int .i64 (j : Int) ∧ Hid (∀ i (hi : i < c.refs.length), i < j → c.refs[i].t ≠ who)) (fun u5 => N - (intOf u5).toNat)
 case atStart => exact ⟨0, Nat.zero_le _, rfl, Lib.hid fun i _ hi => absurd hi (Nat.not_lt_zero i)⟩
 case round =>
  obtain ⟨j, hj, rfl, HI⟩ := hrel
  by_cases hlt : j < N
  ·
   have hjl : j < c.refs.length := by rw [HN.out]; exact hlt
   obtain ⟨b, off, rfl, hbb, hrg⟩ := HR.out.elem (f := rfCells) (fun _ _ => rfl) hjl hlt
   have k0 : w0.cell? ⟨b, off + j * 2, none⟩ = some (.int .i64 (c.refs[j]).t) := hrg 0 _ rfl
   have k1 : w0.cell? ⟨b, off + j * 2 + 1, none⟩ = some (.int .i64 (c.refs[j]).n) := hrg 1 _ rfl
   have HH := Lib.hid (fun ht => Chk.held_hit hjl HI.out (who := who) ht)
   have HI2 := Lib.hid (fun (hne : c.refs[j].t ≠ who) (i : Nat) (hi : i < c.refs.length) (hij : i < j + 1) => show c.refs[i].t ≠ who from by
    rcases Nat.lt_or_ge i j with e | e
    ·
     exact HI.out i hi e
    ·
     obtain rfl : i = j := by omega
     exact hne)
   obtain ⟨p, hp⟩ : ∃ y, (c.refs[j]).t = y := ⟨_, rfl⟩
   obtain ⟨q, hq⟩ : ∃ y, (c.refs[j]).n = y := ⟨_, rfl⟩
   rw [hp] at k0 HH HI2
   rw [hq] at k1 HH
   have e1 : (0 : Int) ≤ (j : Int) := by omega
   have e2 : (j : Int) < (N : Int) := by omega
   clear hrg hp hq hjl hbb
   by_cases hid : p = who
   ·
    have hh := Lib.hid (HH.out hid)
    clear HH HI2
    subst hid
    go_wp2
    go_ret
    exact ⟨by rw [← HV.out, hh.out]; rfl, HB0.out⟩
   ·
    have hb : (p == who) = false := beq_eq_false_iff_ne.2 hid
    have HI3 := Lib.hid (HI2.out hid)
    clear hid
    go_wp2
    go_round
    case rel => exact ⟨j + 1, by omega, by go_num, HI3⟩
    case measure => simp [intOf]; omega
  ·
   obtain rfl : N = j := by omega
   go_wp2
   go_ret
   exact ⟨by rw [← HV.out, Chk.held_miss (fun i hi => HI.out i hi (by rw [← HN.out]; exact hi))]; rfl, HB0.out⟩
theorem eqlU (w : World) (x y : Chk.Un) : (binOp .eql 65 (unV x) (unV y)).run Tryz.prog w = .ok (.bool (decide (x = y))) w := by
 have h := run_equal_un x y w
 unfold unV at *
 rw [run_eql_struct]
 have h' : (Op.equalIn 10000 65 (.agg #[.int .i64 x.r, .int .i64 x.g, .int .i64 x.u]) (.agg #[.int .i64 y.r, .int .i64 y.g, .int .i64 y.u])).run Tryz.prog w = _ := h
 rw [h']; simp [Result.andThen]
set_option maxRecDepth 100000 in
set_option maxHeartbeats 1600000 in
theorem rat_any {w : World} {F S : Nat → Prop} {a : Nat} {t : RM} {l : List Chk.Ck} (h : RAt w F S a t l) (u : Chk.Un) (v : Int) (q : Bool) (hv : (Chk.unitAt l u).getD 0 = v) (hq : (Chk.unitAt l u).isSome = q) :
  Calls Tryz.prog 81 #[.pointer (some ⟨a, 0, none⟩), unV u] w fun e w' => e = .returned (.tuple #[.int .i64 v, .bool q]) ∧ Below w.heap.size w w' := by
 obtain ⟨w0, hw0⟩ : ∃ z, w.alloc (.cells #[.int .i64 u.r, .int .i64 u.g, .int .i64 u.u] 65) = z := ⟨_, rfl⟩
 have hb0 : Below w.heap.size w w0 := by rw [← hw0]; exact (Below.refl _ _).alloc (Nat.le_refl _) _
 have hbx : IsRow w0 w.heap.size 65 [.int .i64 u.r, .int .i64 u.g, .int .i64 u.u] := by rw [← hw0]; exact IsRow.new w _ [.int .i64 u.r, .int .i64 u.g, .int .i64 u.u]
 have HBX := Lib.hid hbx
 have HB0 := Lib.hid hb0
 have HW0 := Lib.hid hw0
 have H := Lib.hid (h.below hb0)
 have HL := Lib.hid h.len.1
 have hmx := h.max
 have HV := Lib.hid (And.intro hv hq)
 have HUE := Lib.hid (fun W (x : Chk.Un) => eqlU W x u)
 unfold unV at HUE ⊢
 obtain ⟨r, hur⟩ : ∃ x, u.r = x := ⟨_, rfl⟩
 obtain ⟨g0, hug⟩ : ∃ x, u.g = x := ⟨_, rfl⟩
 obtain ⟨m, hum⟩ : ∃ x, u.u = x := ⟨_, rfl⟩
 rw [hur, hug, hum] at HW0 HBX ⊢
 simp only [hur, hug, hum] at HUE
 clear hv hq h hb0 hbx hw0 hur hug hum
 go_enter Tryz.func81, Tryz.ntmps81
 go_upto_region 1 with fail
 rw [HW0.out]
 have c0 := H.out.cell
 go_upto_region 2 with fail
 clear c0
 go_loopw [6] (fun u6 wr => ∃ j : Nat, j ≤ t.n ∧ u6 = .int .i64 (j : Int) ∧ Hid (∀ i, i < j → ¬ ((Chk.nth l i).lost = false ∧ (Chk.nth l i).at_ = u)) ∧ Hid (Below w0.heap.size w0 wr)) (fun u6 _ => t.n - (intOf u6).toNat)
 case atStart => exact ⟨0, Nat.zero_le _, rfl, Lib.hid (fun i hi => absurd hi (Nat.not_lt_zero i)), Lib.hid (Below.refl _ _)⟩
 case round =>
  obtain ⟨j, hj, rfl, HI, HB⟩ := hrel
  have c0 := H.out.rd HB.out
  by_cases hlt : j < t.n
  ·
   obtain ⟨g, x, hA, hg, hx, hn, hok, hck, hrg⟩ := H.out.at hlt
   have hrw : wr.rangeAt g (j * 23) x.cells := fun k u hu => (HB.out.cell (p := ⟨g, j * 23 + k, none⟩) hg).trans (hrg k u hu)
   obtain ⟨k0, _, k18, k19, k20, k21, _⟩ := ck_cells hck.dg hrw
   have e0 := (HBX.out.below' HB.out).cell 0
   have e1' := (HBX.out.below' HB.out).cell 1
   have e2' := (HBX.out.below' HB.out).cell 2
   rw [hA] at c0
   have e1 : (0 : Int) ≤ (j : Int) := by omega
   have e2 : (j : Int) < (t.n : Int) := by omega
   have hjl : j < l.length := by rw [HL.out]; exact hlt
   have HHIT := Lib.hid (fun (h1 : x.c.lost = false) (h2 : x.c.at_ = u) => show Chk.unitAt l u = some (Chk.nth l j).id from (Chk.unitAt_some H.out.inv).2 ⟨j, Chk.nth l j, Chk.nth_get hjl, by rw [hn]; exact h1, by rw [hn]; exact h2, rfl⟩)
   rw [hn] at HHIT
   have HI2 := Lib.hid (fun (hne : ¬ (x.c.lost = false ∧ x.c.at_ = u)) (i : Nat) (hij : i < j + 1) => show ¬ ((Chk.nth l i).lost = false ∧ (Chk.nth l i).at_ = u) from by
    rcases Nat.lt_or_ge i j with e | e
    ·
     exact HI.out i e
    ·
     obtain rfl : i = j := by omega
     rw [hn]; exact hne)
   have heq := fun W => HUE.out W x.c.at_
   obtain ⟨lo, hlo⟩ : ∃ y, x.c.lost = y := ⟨_, rfl⟩
   obtain ⟨xa, hxa⟩ : ∃ y, x.c.at_ = y := ⟨_, rfl⟩
   obtain ⟨xi, hxi⟩ : ∃ y, x.c.id = y := ⟨_, rfl⟩
   rw [hlo] at k21 HHIT HI2
   rw [hxa] at k18 k19 k20 HHIT HI2
   simp only [hxa] at heq
   rw [hxi] at k0 HHIT
   clear hrg hrw hx hn hok hck hA hjl hlo hxa hxi
   cases lo with
   | true =>
    have HI3 := Lib.hid (HI2.out (fun e => by cases e.1))
    go_wp2_with fail
    go_quiet (fail)
    go_wp2_with fail
    go_roundw
    case rel => exact ⟨j + 1, by omega, by go_num, HI3, Lib.hid (below_drewN HB.out _)⟩
    case measure => simp [intOf]; omega
   | false =>
    by_cases hau : xa = u
    ·
     have hh := HHIT.out rfl hau
     have HVV : Hid (v = xi ∧ q = true) := Lib.hid (by rw [hh] at HV; exact ⟨HV.out.1.symm, HV.out.2.symm⟩)
     have hd : decide (xa = u) = true := decide_eq_true hau
     simp only [hd] at heq
     clear hh hau hd
     go_wp2_with fail
     go_quiet (fail)
     go_wp2_with fail
     go_ret2
     exact ⟨by rw [HVV.out.1, HVV.out.2]; rfl, HB0.out.trans ((below_drewN HB.out _).mono HB0.out.size)⟩
    ·
     have HI3 := Lib.hid (HI2.out (fun e => hau e.2))
     have hd : decide (xa = u) = false := decide_eq_false hau
     simp only [hd] at heq
     clear hau hd
     go_wp2_with fail
     go_quiet (fail)
     go_wp2_with fail
     go_roundw
     case rel => exact ⟨j + 1, by omega, by go_num, HI3, Lib.hid (below_drewN HB.out _)⟩
     case measure => simp [intOf]; omega
  ·
   obtain rfl : j = t.n := by omega
   have hno : Chk.unitAt l u = none := by
    cases e : Chk.unitAt l u with
    | none => rfl
    | some y =>
     obtain ⟨k, cc, hk, h1, h2, _⟩ := (Chk.unitAt_some H.out.inv).1 e
     have hkl := (List.getElem?_eq_some_iff.1 hk).1
     have hnk : Chk.nth l k = cc := by have := Chk.nth_get hkl; rw [hk] at this; exact (Option.some.inj this).symm
     exact absurd ⟨by rw [hnk]; exact h1, by rw [hnk]; exact h2⟩ (HI.out k (by rw [← HL.out]; exact hkl))
   have HVV : Hid (v = 0 ∧ q = false) := Lib.hid (by rw [hno] at HV; exact ⟨HV.out.1.symm, HV.out.2.symm⟩)
   clear hno
   go_wp2_with fail
   go_ret2
   exact ⟨by rw [HVV.out.1, HVV.out.2]; rfl, HB0.out.trans (HB.out.mono HB0.out.size)⟩
end
section
open Go.RowKit
theorem RAt.placed {w W : World} {F S : Nat → Prop} {a : Nat} {t : RM} {l : List Chk.Ck} (h : RAt w F S a t l) {g k : Nat} {x : CR} {c' : Chk.Ck} (hA : t.A = some ⟨g, 0, none⟩) (hx : t.D[k]? = some x) (hr : c'.refs = x.c.refs)
  (hK : Keep (fun b => b = g) w W) (ho : W.ownsRow 0 68 23 (.slice (some ⟨g, 0, none⟩) t.n t.c) t.n (crs (t.D.set k { x with c := c' }))) (hi : Chk.Inv (l.set k c')) :
  RAt W F S a { t with D := t.D.set k { x with c := c' } } (l.set k c') := by
 have hag := h.ag _ hA
 have hgS := h.sg _ hA
 have hFd : ∀ b, F b → ¬ b = g := fun b hb e => by subst e; exact h.fs _ hb hgS
 refine ⟨h.row.keep (hK.block a h.row.lt (fun e => hag e.symm)), by rw [hA]; exact ho, ?_, fun z hz => ?_, h.sa, h.sg, h.ag, h.fs, hi⟩
 ·
  show (t.D.set k { x with c := c' }).map CR.c = _
  rw [List.map_set, h.d]
 ·
  rcases List.mem_or_eq_of_mem_set hz with hz | rfl
  ·
   exact (h.ok z hz).keep hK hFd
  ·
   have hq := (h.ok x (List.mem_of_getElem? hx)).keep hK hFd
   exact ⟨by rw [hr]; exact hq.rd, by rw [hr]; exact hq.n, hq.k, hq.km, hq.f⟩
theorem RAt.laid {w : World} {F S : Nat → Prop} {a : Nat} {t : RM} {l : List Chk.Ck} (h : RAt w F S a t l) {g k : Nat} {x : CR} (hA : t.A = some ⟨g, 0, none⟩) (hx : t.D[k]? = some x) (hdg : x.c.dg.length = 16) (u : Chk.Un) (b : Bool) (hi : Chk.Inv (l.set k { x.c with at_ := u, lost := b })) :
  ∃ t', RAt ((((w.setCell ⟨g, k * 23 + 18, none⟩ (.int .i64 u.r)).setCell ⟨g, k * 23 + 19, none⟩ (.int .i64 u.g)).setCell ⟨g, k * 23 + 20, none⟩ (.int .i64 u.u)).setCell ⟨g, k * 23 + 21, none⟩ (.bool b)) F S a t' (l.set k { x.c with at_ := u, lost := b }) := by
 have ho := h.own
 rw [hA] at ho
 exact ⟨_, h.placed (c' := { x.c with at_ := u, lost := b }) hA hx rfl (keep4 w g _ _ _ _ _ _ _ _) (own_place ho h.dl hx hdg u b) hi⟩
theorem RAt.frz {w : World} {F S : Nat → Prop} {a : Nat} {t : RM} {l : List Chk.Ck} (h : RAt w F S a t l) {g : Nat} (hA : t.A = some ⟨g, 0, none⟩) (j : Nat) : w.frozen? ⟨g, j, none⟩ = false := by
 have ho := h.own
 rw [hA] at ho
 exact ho.frozenAt j
set_option maxRecDepth 100000 in
set_option maxHeartbeats 1600000 in
theorem rlose_any {w : World} {F S : Nat → Prop} {a : Nat} {t : RM} {l : List Chk.Ck} (h : RAt w F S a t l) (id : Int) :
  Calls Tryz.prog 60 #[.pointer (some ⟨a, 0, none⟩), .int .i64 id] w fun e w' => e = .returned (.int .i64 (Chk.lose l id).2.2) ∧ (∃ t', RAt w' F S a t' (Chk.lose l id).1) ∧ Keep S w w' := by
 have HF := Lib.hid (rfind_any h id _ rfl)
 cases hp : Chk.pos (Chk.ids l) id with
 | none =>
  have e : Chk.lose l id = (l, 0, 12) := by unfold Chk.lose; rw [hp]
  rw [Chk.posI_none hp] at HF
  rw [e]
  have H := Lib.hid h
  clear h hp e
  go_enter Tryz.func60, Tryz.ntmps60
  go_wp2_with (go_at_call 54; refine HF.out.mono ?_; rintro e w1 ⟨rfl, hw1⟩; obtain rfl := hw1.symm)
  go_ret
  exact ⟨rfl, ⟨t, H.out⟩, Keep.refl _ _⟩
 | some k =>
  have hk := (Chk.pos_lt hp).1
  have hkn : k < t.n := by rw [← h.len.1]; exact hk
  obtain ⟨g, x, hA, hg, hx, hn, hok, hck, hrg⟩ := h.at hkn
  have hmx := h.max
  rw [Chk.posI_some hp] at HF
  have hi : Chk.Inv (Chk.lose l id).1 := h.inv.lose id
  rw [Chk.lose_at hp, hn] at hi
  rw [Chk.lose_at hp, hn]
  obtain ⟨_, _, k18, k19, k20, k21, _⟩ := ck_cells hck.dg hrg
  have f18 := h.frz hA (k * 23 + 18)
  have f19 := h.frz hA (k * 23 + 19)
  have f20 := h.frz hA (k * 23 + 20)
  have f21 := h.frz hA (k * 23 + 21)
  have HLD := Lib.hid (h.laid hA hx hck.dg Chk.z true hi)
  have HKP : Hid (∀ W, Keep (fun b => b = g) w W → Keep S w W) := Lib.hid (fun W hW => hW.mono fun b _ e => by subst e; exact h.sg _ hA)
  have c0 := h.cell
  rw [hA] at c0
  have e1 : (0 : Int) ≤ (k : Int) := by omega
  have e2 : (k : Int) < (t.n : Int) := by omega
  have e3 : ¬ (k : Int) < 0 := by omega
  clear h hp hk hkn hA hg hx hn hok hck hrg hi
  go_enter Tryz.func60, Tryz.ntmps60
  go_wp2_with (go_at_call 54; refine HF.out.mono ?_; rintro e w1 ⟨rfl, hw1⟩; obtain rfl := hw1.symm)
  go_ret
  exact ⟨rfl, HLD.out, HKP.out _ (keep4 w g _ _ _ _ _ _ _ _)⟩
set_option maxRecDepth 100000 in
set_option maxHeartbeats 3200000 in
theorem rmove_any {w : World} {F S : Nat → Prop} {a : Nat} {t : RM} {l : List Chk.Ck} (h : RAt w F S a t l) (id : Int) (u : Chk.Un) :
  Calls Tryz.prog 59 #[.pointer (some ⟨a, 0, none⟩), .int .i64 id, unV u] w fun e w' => e = .returned (.int .i64 (Chk.move l id u).2.2) ∧ (∃ t', RAt w' F S a t' (Chk.move l id u).1) ∧ Keep S w w' := by
 obtain ⟨w0, hw0⟩ : ∃ z, w.alloc (.cells #[.int .i64 u.r, .int .i64 u.g, .int .i64 u.u] 65) = z := ⟨_, rfl⟩
 have hb0 : Below w.heap.size w w0 := by rw [← hw0]; exact box_below w _
 have hbx : IsRow w0 w.heap.size 65 [.int .i64 u.r, .int .i64 u.g, .int .i64 u.u] := by rw [← hw0]; exact IsRow.new w _ [.int .i64 u.r, .int .i64 u.g, .int .i64 u.u]
 have H := Lib.hid (h.below hb0)
 have HB0 : Hid (Keep S w w0) := Lib.hid (Keep.of_below hb0)
 have HBX := Lib.hid hbx
 have HW0 := Lib.hid hw0
 have HVL := Lib.hid (fun W s hs => refValid_any u W s hs)
 have HUV : Hid (unV u = .agg #[.int .i64 u.r, .int .i64 u.g, .int .i64 u.u]) := Lib.hid rfl
 have HF := Lib.hid (rfind_any H.out id _ rfl)
 have HAT := Lib.hid (fun W (hW : Below w0.heap.size w0 W) v q hv hq => rat_any (H.out.below hW) u v q hv hq)
 have hmx := h.max
 rw [HUV.out]
 clear hb0 hbx hw0
 have hlk := h.len.1
 clear h
 cases hp : Chk.pos (Chk.ids l) id with
 | none =>
  have e : Chk.move l id u = (l, 0, 12) := by unfold Chk.move; rw [hp]
  rw [Chk.posI_none hp] at HF
  rw [e]
  clear hp e HAT HVL
  go_enter Tryz.func59, Tryz.ntmps59
  go_wp2_with (rw [HW0.out]; go_at_call 54; refine HF.out.mono ?_; rintro e w1 ⟨rfl, hw1⟩; obtain rfl := hw1.symm)
  go_ret
  exact ⟨rfl, ⟨t, H.out⟩, HB0.out⟩
 | some k =>
  have e3 : ¬ (k : Int) < 0 := by omega
  rw [Chk.posI_some hp] at HF
  obtain ⟨s, hs⟩ : ∃ s, decide (Chk.valid u) = s := ⟨_, rfl⟩
  have HV := Lib.hid (fun W => HVL.out W s hs)
  rw [HUV.out] at HV
  have b0 := HBX.out.cell 0
  have b1 := HBX.out.cell 1
  have b2 := HBX.out.cell 2
  dsimp only [List.getElem?_cons_zero, List.getElem?_cons_succ] at b0 b1 b2
  cases s with
  | false =>
   have e : Chk.move l id u = (l, 0, 1) := by unfold Chk.move; rw [hp]; show ite _ _ _ = _; rw [if_pos (of_decide_eq_false hs)]
   rw [e]
   clear hp e HAT hs HVL
   go_enter Tryz.func59, Tryz.ntmps59
   go_wp2_with (first
    | (go_at_call 89; refine (HV.out _).mono ?_; rintro e w2 ⟨rfl, v2⟩)
    | (rw [HW0.out]; go_at_call 54; refine HF.out.mono ?_; rintro e w1 ⟨rfl, hw1⟩; obtain rfl := hw1.symm))
   go_ret
   exact ⟨rfl, ⟨t, H.out.below v2⟩, HB0.out.trans (Keep.of_below v2)⟩
  | true =>
   have hu := of_decide_eq_true hs
   obtain ⟨v, hv⟩ : ∃ v, (Chk.unitAt l u).getD 0 = v := ⟨_, rfl⟩
   obtain ⟨q, hq⟩ : ∃ q, (Chk.unitAt l u).isSome = q := ⟨_, rfl⟩
   have HAT2 := Lib.hid (fun W hW => HAT.out W hW v q hv hq)
   rw [HUV.out] at HAT2
   have hB : ∀ W, Below w0.heap.size w0 W → W.cell? ⟨w.heap.size, 0, none⟩ = some (.int .i64 u.r) ∧ W.cell? ⟨w.heap.size, 1, none⟩ = some (.int .i64 u.g) ∧ W.cell? ⟨w.heap.size, 2, none⟩ = some (.int .i64 u.u) := fun W hW =>
    ⟨(HBX.out.below' hW).cell 0, (HBX.out.below' hW).cell 1, (HBX.out.below' hW).cell 2⟩
   have HBB := Lib.hid hB
   by_cases htk : q = true ∧ v ≠ id
   ·
    have e : Chk.move l id u = (l, 0, 20) := by
     obtain ⟨h1, h2⟩ := htk
     subst h1
     cases hua : Chk.unitAt l u with
     | none => rw [hua] at hq; cases hq
     | some o =>
      rw [hua] at hv
      have : o ≠ id := by rw [show o = v from hv]; exact h2
      unfold Chk.move; rw [hp]; show ite _ _ _ = _; rw [if_neg (fun e => e hu), hua]; show ite _ _ _ = _; rw [if_pos this]
    rw [e]
    obtain ⟨rfl, hne⟩ := htk
    have hne' : (v != id) = true := by simpa using hne
    clear hp e HAT hs HVL hu hv hq hB hne
    go_enter Tryz.func59, Tryz.ntmps59
    go_wp2_with (first
     | (go_at_call 89; refine (HV.out _).mono ?_; rintro e w2 ⟨rfl, v2⟩; obtain ⟨y0, y1, y2⟩ := HBB.out _ v2)
     | (go_at_call 81; refine (HAT2.out _ v2).mono ?_; rintro e w3 ⟨rfl, v3⟩)
     | (rw [HW0.out]; go_at_call 54; refine HF.out.mono ?_; rintro e w1 ⟨rfl, hw1⟩; obtain rfl := hw1.symm))
    go_ret
    exact ⟨rfl, ⟨t, (H.out.below v2).below v3⟩, (HB0.out.trans (Keep.of_below v2)).trans (Keep.of_below v3)⟩
   ·
    have e : Chk.move l id u = (l.set k { Chk.nth l k with at_ := u, lost := false }, 0, 0) := by
     unfold Chk.move; rw [hp]; show ite _ _ _ = _; rw [if_neg (fun e => e hu)]
     cases hua : Chk.unitAt l u with
     | none => rfl
     | some o =>
      rw [hua] at hv hq
      have : ¬ o ≠ id := fun h => htk ⟨hq.symm, by rw [← show o = v from hv]; exact h⟩
      show ite _ _ _ = _; rw [if_neg this]
    have hk := (Chk.pos_lt hp).1
    have hkn : k < t.n := by rw [← hlk]; exact hk
    have hi : Chk.Inv (Chk.move l id u).1 := H.out.inv.move id u
    rw [e] at hi ⊢
    have e1 : (0 : Int) ≤ (k : Int) := by omega
    have e2 : (k : Int) < (t.n : Int) := by omega
    have HI := Lib.hid hi
    have HKN := Lib.hid hkn
    obtain ⟨g, x, hA, _, hx, hn, _, hck, _⟩ := H.out.at hkn
    rw [hn] at hi HI ⊢
    have HGX := Lib.hid (And.intro hA (And.intro hx hck.dg))
    have hcell : Hid (∀ W, Below w0.heap.size w0 W → ∃ lo a1 a2 a3, W.cell? ⟨a, 0, none⟩ = some (.slice (some ⟨g, 0, none⟩) t.n t.c) ∧ W.cell? ⟨g, k * 23 + 18, none⟩ = some (.int .i64 a1) ∧ W.cell? ⟨g, k * 23 + 19, none⟩ = some (.int .i64 a2) ∧ W.cell? ⟨g, k * 23 + 20, none⟩ = some (.int .i64 a3) ∧ W.cell? ⟨g, k * 23 + 21, none⟩ = some (.bool lo) ∧ ∀ j, W.frozen? ⟨g, j, none⟩ = false) := Lib.hid fun W hW => by
     have h := H.out.below hW
     obtain ⟨g', x', hA', _, hx', _, _, hck', hrg'⟩ := h.at HKN.out
     rw [hA] at hA'
     have hgg : g = g' := congrArg Addr.block (Option.some.inj hA')
     subst hgg
     obtain ⟨_, _, k18, k19, k20, k21, _⟩ := ck_cells hck'.dg hrg'
     have c0 := h.cell
     rw [hA] at c0
     exact ⟨_, _, _, _, c0, k18, k19, k20, k21, h.frz hA⟩
    have HEND : Hid (∀ W, Below w0.heap.size w0 W → (∃ t', RAt ((((W.setCell ⟨g, k * 23 + 18, none⟩ (.int .i64 u.r)).setCell ⟨g, k * 23 + 19, none⟩ (.int .i64 u.g)).setCell ⟨g, k * 23 + 20, none⟩ (.int .i64 u.u)).setCell ⟨g, k * 23 + 21, none⟩ (.bool false)) F S a t' (l.set k { x.c with at_ := u, lost := false })) ∧ Keep S w ((((W.setCell ⟨g, k * 23 + 18, none⟩ (.int .i64 u.r)).setCell ⟨g, k * 23 + 19, none⟩ (.int .i64 u.g)).setCell ⟨g, k * 23 + 20, none⟩ (.int .i64 u.u)).setCell ⟨g, k * 23 + 21, none⟩ (.bool false))) := Lib.hid fun W hW => by
     have h := H.out.below hW
     refine ⟨h.laid HGX.out.1 HGX.out.2.1 HGX.out.2.2 u false HI.out, (HB0.out.trans (Keep.of_below hW)).trans ((keep4 W g _ _ _ _ _ _ _ _).mono fun b _ e => ?_)⟩
     subst e
     exact h.sg _ HGX.out.1
    cases q with
    | false =>
     clear hp e HAT hs HVL hu hv hq hB htk hk hi hlk hkn hA hx hn hck
     go_enter Tryz.func59, Tryz.ntmps59
     go_upto_region 9 with (first
      | (go_at_call 89; refine (HV.out _).mono ?_; rintro e w2 ⟨rfl, v2⟩; obtain ⟨y0, y1, y2⟩ := HBB.out _ v2)
      | (go_at_call 81; refine (HAT2.out _ v2).mono ?_; rintro e w3 ⟨rfl, v3⟩)
      | (rw [HW0.out]; go_at_call 54; refine HF.out.mono ?_; rintro e w1 ⟨rfl, hw1⟩; obtain rfl := hw1.symm))
     have v4 := v2.trans (v3.mono v2.size)
     obtain ⟨lo, a1, a2, a3, c0, k18, k19, k20, k21, fz⟩ := hcell.out w3 v4
     have f18 := fz (k * 23 + 18)
     have f19 := fz (k * 23 + 19)
     have f20 := fz (k * 23 + 20)
     have f21 := fz (k * 23 + 21)
     obtain ⟨z0, z1, z2⟩ := HBB.out _ v4
     have HZ := Lib.hid (HEND.out w3 v4)
     clear y0 y1 y2 v2 v3 v4 fz b0 b1 b2
     go_region
     go_wp2
     go_ret
     obtain ⟨⟨t', r1⟩, r2⟩ := HZ.out
     have r3 := r1.keep ((Keep.refl (fun _ => False) _).drew) (fun _ _ e => e) (fun _ _ e => e)
     have r4 := r2.drew
     refine ⟨rfl, ?_⟩
     simp only [Nat.add_assoc, Nat.reduceAdd]
     exact ⟨⟨t', r3⟩, r4⟩
    | true =>
     have hve : v = id := by
      by_cases h : v = id
      ·
       exact h
      ·
       exact absurd ⟨rfl, h⟩ htk
     subst hve
     clear hp e HAT hs HVL hu hv hq hB htk hk hi hlk hkn hA hx hn hck
     go_enter Tryz.func59, Tryz.ntmps59
     go_upto_region 9 with (first
      | (go_at_call 89; refine (HV.out _).mono ?_; rintro e w2 ⟨rfl, v2⟩; obtain ⟨y0, y1, y2⟩ := HBB.out _ v2)
      | (go_at_call 81; refine (HAT2.out _ v2).mono ?_; rintro e w3 ⟨rfl, v3⟩)
      | (rw [HW0.out]; go_at_call 54; refine HF.out.mono ?_; rintro e w1 ⟨rfl, hw1⟩; obtain rfl := hw1.symm))
     have v4 := v2.trans (v3.mono v2.size)
     obtain ⟨lo, a1, a2, a3, c0, k18, k19, k20, k21, fz⟩ := hcell.out w3 v4
     have f18 := fz (k * 23 + 18)
     have f19 := fz (k * 23 + 19)
     have f20 := fz (k * 23 + 20)
     have f21 := fz (k * 23 + 21)
     obtain ⟨z0, z1, z2⟩ := HBB.out _ v4
     have HZ := Lib.hid (HEND.out w3 v4)
     clear y0 y1 y2 v2 v3 v4 fz b0 b1 b2
     go_region
     go_wp2
     go_ret
     obtain ⟨⟨t', r1⟩, r2⟩ := HZ.out
     have r3 := r1.keep ((Keep.refl (fun _ => False) _).drew) (fun _ _ e => e) (fun _ _ e => e)
     have r4 := r2.drew
     refine ⟨rfl, ?_⟩
     simp only [Nat.add_assoc, Nat.reduceAdd]
     exact ⟨⟨t', r3⟩, r4⟩
end
end Go.Proofs.YtfllkaeaanahmaaGreat
