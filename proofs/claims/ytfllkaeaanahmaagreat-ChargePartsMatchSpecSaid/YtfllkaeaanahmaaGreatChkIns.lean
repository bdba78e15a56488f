/- Joined texts: ChkG, ChkI, ChkJ, ChkL, ChkM, ChkN. Conditions: as each part says. -/
import Derived.Test.YtfllkaeaanahmaaGreatChkTab
import Derived.Laws.CopyRow
import Derived.Lib.AppendZerosOnto
import Derived.Lib.Overlaps
import Derived.Shelf.Spec.SlicesInsert
import Derived.Deep.RegionLaw
namespace Go.Proofs.YtfllkaeaanahmaaGreat
set_option linter.unusedVariables false
set_option linter.unusedSimpArgs false
section
open Go.RowKit
theorem resultRowT {P : Program} {fn : Func} {p u : Tmp} {ty : TypeId} (h : fn.results = #[.cell p ty, .tmp u]) (tmps : Array Value) (w : World) {b t : Nat} {fs : Array Field} {l : List Value} (hr : IsRow w b t l)
  (hp : tmps.getD p undef = .pointer (some ⟨b, 0, none⟩)) (hu : P.underlying ty = some (.struct fs)) (hi : (P.info? ty).map (·.size) = some l.length) :
  (results fn tmps).run P w = .ok (.tuple #[.agg l.toArray, tmps.getD u undef]) w := by
 rw [results_cell_tmp h, hp]
 simp only [asAddr, Sem.run_pure, Result.andThen_ok, run_loadVar_row w b t ty l.toArray (0, 0) _ hr hu rfl (by simpa using hi)]
theorem ckCells_set (c : Chk.Ck) (v v' : Value) (h : c.dg.length = 16) : (ckCells c v).set 22 v' = ckCells c v' := by
 unfold ckCells
 have hl : (bvs c.dg).length = 16 := by rw [bvs_length, h]
 rw [List.set_append_right _ _ (by show 1 ≤ 22; omega), List.set_append_right _ _ (by rw [hl]; show 16 ≤ 22 - 1; omega), hl]
 rfl
theorem grown_set_ (w : World) (b o : Nat) (v : Value) : w.grownBy (w.setCell ⟨b, o, none⟩ v) (some b) := ⟨rfl, rfl, rfl, by simp, fun k _ hk => Below.heap_setCell _ _ _ k (fun e => hk (by rw [e]))⟩
theorem own_keepS {S : Nat → Prop} {w w' : World} {base n size : Nat} {e : TypeId} {v : Value} {xs : List Value} (h : w.ownsRow base e size v n xs) (hk : Keep S w w') (hS : ∀ g, S g → g < base) : w'.ownsRow base e size v n xs := by
 refine ⟨h.1, ?_⟩
 rcases h.2 with h0 | ⟨g, cap, cur, hv, hg, hh, r⟩
 ·
  exact .inl h0
 ·
  exact .inr ⟨g, cap, cur, hv, hg, (hk.block g (Array.getElem?_eq_some_iff.1 hh).1 (fun e => by have := hS g e; omega)).trans hh, r⟩
def GetNo (w : World) (e : Ending) (w' : World) : Prop := e = .returned (.tuple #[.agg zCk.toArray, .bool false]) ∧ Below w.heap.size w w'
def GetOk (c : Chk.Ck) (w : World) (e : Ending) (w' : World) : Prop := ∃ A k, e = .returned (.tuple #[.agg (ckCells c (.slice A c.refs.length k)).toArray, .bool true]) ∧ w'.ownsRow w.heap.size 76 2 (.slice A c.refs.length k) c.refs.length (rfs c.refs) ∧ Below w.heap.size w w'
set_option maxRecDepth 100000 in
set_option maxHeartbeats 1600000 in
theorem get_some {w : World} {F S : Nat → Prop} {a : Nat} {t : TM} {l : List Chk.Ck} (h : TAt w F S a t l) (id : Int) (k : Nat) (hp : Chk.pos (Chk.ids l) id = some k) :
  Calls Tryz.prog 108 #[.pointer (some ⟨a, 0, none⟩), .int .i64 id] w (GetOk (Chk.nth l k) w) := by
 have hkl := (Chk.pos_lt hp).1
 have hkn : k < t.n := by rw [← h.len.1]; exact hkl
 obtain ⟨g, x, hA, hg, hx, hlx, hxm, hrg⟩ := h.at hkn
 have hnx : Chk.nth l k = x.c := by have := Chk.nth_get hkl; rw [hlx] at this; exact (Option.some.inj this).symm
 rw [hnx]
 have hd := h.dl x (List.mem_of_getElem? hx)
 have hok := h.inv.ok x.c (List.mem_of_getElem? hlx)
 have hcr := h.ok x hxm
 have HT := Lib.hid h
 have HF := Lib.hid (fun (W : World) (hW : Below w.heap.size w W) => find_some (HT.out.below hW) id k hp g hA)
 have HCL := Lib.hid (fun (W : World) (hW : Below w.heap.size w W) => cloneR x.A x.n x.k x.c.refs hcr.n (by have := refs_len hok.refs; have := hcr.n; omega) w.heap.size W (hcr.rd.below hW) hW.size)
 have h22 : w.cell? ⟨g, k * 23 + 22, none⟩ = some (.slice x.A x.n x.k) := hrg 22 _ (ckCells_at x.c (.slice x.A x.n x.k) hok.dg).2.2.2.2.2.2
 have HX := Lib.hid (And.intro h22 hg)
 have HRG := Lib.hid hrg
 have HN := Lib.hid hcr.n
 have HDG := Lib.hid hok.dg
 have hcs' : ∃ cs, x.cells = cs := ⟨_, rfl⟩
 obtain ⟨cs, hcs⟩ := hcs'
 rw [hcs] at hd HRG
 have hall : cs.all (·.oneCell') = true := by
  rw [← hcs, List.all_eq_true]; exact fun u hu => ckCells_one x.c _ rfl u hu
 have h22c : cs[22]? = some (.slice x.A x.n x.k) := by
  have := (ckCells_at x.c (.slice x.A x.n x.k) hok.dg).2.2.2.2.2.2
  rwa [show ckCells x.c (.slice x.A x.n x.k) = cs from hcs] at this
 have HC22 := Lib.hid h22c
 have HST := Lib.hid (fun v' => show cs.set 22 v' = ckCells x.c v' from by rw [← hcs]; exact ckCells_set x.c _ v' hok.dg)
 have HLN := Lib.hid (fun v' => ckCells_len (c := x.c) hok.dg v')
 have HD := Lib.hid hd
 have HALL := Lib.hid hall
 have HCS := Lib.hid hcs
 clear h hp hkl hkn hx hlx hxm hrg hnx hd hok hcr h22 hg hcs hall hA h22c
 go_enter Tryz.func108, Tryz.ntmps108
 go_upto_region 4 with (first
  | (go_at_call 73; refine (HF.out _ b1).mono ?_; rintro e w2 ⟨rfl, b2⟩; have q2 := b1.trans (b2.mono b1.size); have rz2 := rz1.below' b2; clear rz1)
  | (refine wpList_allocRow rfl _ rfl _ infoCk' ?_; intro w1 rz1 b1 z1; clear z1))
 have hrw : w2.rangeAt g (k * 23) cs := fun j u hu => (q2.cell (p := ⟨g, k * 23 + j, none⟩) HX.out.2).trans (HRG.out j u hu)
 obtain ⟨b4, hb4⟩ : ∃ x, w.heap.size = x := ⟨_, rfl⟩
 have HB4 := Lib.hid hb4
 have b4lt := rz2.lt
 rw [hb4] at rz2 b4lt
 try rw [hb4]
 clear b2 b1 hb4
 go_upto_region 5 with (first
  | (refine wpList_load_mid rfl _ (.tmp 15) rfl g (k * 23) rfl cs _ hrw Tryz.underlying68 rfl (by rw [HD.out]; exact sizeCk) ?_)
  | (refine wpList_storeRow rfl _ (.tmp 7) (.tmp 16) rfl (l' := cs) rz3 rfl rfl (by rw [HD.out]; exact sizeCk) (by rw [HD.out]; rfl) HALL.out ?_; intro w4 rz4 g4 z4)
  | (refine wpList_allocRow rfl _ rfl _ infoCk' ?_; intro w3 rz3 b3 z3))
 obtain ⟨b7, hb7⟩ : ∃ x, w2.heap.size = x := ⟨_, rfl⟩
 have hne : b4 ≠ b7 := by omega
 have q4 : Below w2.heap.size w2 w4 := b3.grown g4 b3.size fun i hi => by have := Option.some.inj hi; omega
 have p4 : Below w.heap.size w w4 := q2.trans (q4.mono q2.size)
 have rz24 : IsRow w4 b4 _ zCk := rz2.below' q4
 have k22 : w4.cell? ⟨g, k * 23 + 22, none⟩ = some (.slice x.A x.n x.k) := (p4.cell (p := ⟨g, k * 23 + 22, none⟩) HX.out.2).trans HX.out.1
 have HBN : Hid (w.heap.size ≤ w4.heap.size ∧ b4 < w4.heap.size ∧ w.heap.size ≤ b7 ∧ w.heap.size ≤ b4) := Lib.hid ⟨p4.size, rz24.lt, by have := q2.size; omega, by have := HB4.out; omega⟩
 rw [hb7] at rz4
 try rw [hb7]
 clear rz3 b3 z3 g4 z4 hrw rz2 b4lt hb7
 go_upto_region 6 with (go_at_call 100; refine (HCL.out _ p4).mono ?_; rintro e w5 ⟨A5, c5, rfl, own5, b5⟩; have rz5 := rz4.below' b5; have rz25 := rz24.below' b5; have p5 := p4.trans (b5.mono p4.size); have HO := Lib.hid own5; have kk : w5.cell? ⟨b7, 22, none⟩ = some (.slice x.A x.n x.k) := (rz5.cell 22).trans HC22.out; have ff : w5.frozen? ⟨b7, 22, none⟩ = false := rz5.frozen 22; clear own5)
 obtain ⟨w6, hw6⟩ : ∃ y, w5.setCell ⟨b7, 22, none⟩ (.slice A5 x.n c5) = y := ⟨_, rfl⟩
 have rz6 := rz5.set 22 (.slice A5 x.n c5)
 rw [HST.out] at rz6
 have rz26 := rz25.setOther (p := ⟨b7, 22, none⟩) (fun e => hne e.symm) (.slice A5 x.n c5)
 have hk6 : Keep (fun b => b = b7) w5 (w5.setCell ⟨b7, 22, none⟩ (.slice A5 x.n c5)) := Keep.of_grown (grown_set_ w5 b7 22 _) fun k e => (Option.some.inj e).symm
 rw [hw6] at rz6 rz26 hk6
 try rw [hw6]
 have HO6 := Lib.hid (own_keepS HO.out hk6 (fun g hg => by subst hg; exact rz4.lt))
 have p6 : Below w.heap.size w w6 := by
  have hb := HBN.out
  exact ⟨hk6.os.trans p5.os, hk6.tape.trans p5.tape, hk6.output.trans p5.output, Nat.le_trans p5.size hk6.size, fun q hq => (hk6.block q (by have := p5.size; omega) (by omega)).trans (p5.block q hq)⟩
 have hr6 : w6.rangeAt b7 0 (ckCells x.c (.slice A5 x.n c5)) := fun j u hu => by rw [Nat.zero_add, rz6.cell]; exact hu
 clear hw6 rz5 rz25 kk ff k22 q4 b5 p5 p4 rz24 rz4 hk6
 go_wp2_with (first
  | (refine wpList_load_mid rfl _ (.tmp 7) rfl b7 0 rfl (ckCells x.c (.slice A5 x.n c5)) _ hr6 Tryz.underlying68 rfl (by rw [HLN.out]; exact sizeCk) ?_)
  | (refine wpList_storeRow rfl _ (.tmp 4) (.tmp 23) rfl (l' := ckCells x.c (.slice A5 x.n c5)) rz26 rfl rfl (by rw [HLN.out]; exact sizeCk) (by rw [HLN.out]; rfl) (by rw [List.all_eq_true]; exact ckCells_one _ _ rfl) ?_; intro w7 rz7 g7 z7))
 refine bodyPost_ret (resultRowT rfl _ _ rz7 rfl Tryz.underlying68 (by rw [HLN.out]; exact sizeCk)) rfl ?_
 have hb := HBN.out
 have hn := HN.out
 refine ⟨A5, c5, by rw [hn]; rfl, ?_, p6.grown g7 p6.size (fun i hi => by have := Option.some.inj hi; have := HB4.out; omega)⟩
 rw [hn]
 exact own_base (own_keepS HO6.out (Keep.of_grown g7 (S := fun b => b = b4) fun k e => (Option.some.inj e).symm) (fun g hg => by subst hg; exact hb.2.1)) hb.1
end
section
open Go.RowKit
theorem run_copy_rowK {P : Program} (w : World) (dT sT ty elem : TypeId) (g o dLen dCap : Nat) (a : Addr) (sLen sCap : Nat) (cur : Array Value) (t : TypeId) (cs : List Value) (sz n : Nat)
  (hu : P.underlying dT = some (.slice elem)) (hs : (P.info? elem).map (·.size) = some sz) (hn : n = Nat.min sLen dLen) (hl : cs.length = n * sz)
  (hg : w.heap[g]? = some (.cells cur t (0, 0)))
  (hsrc : ∀ j v, cs[j]? = some v → w.cell? (a.add j) = some v) (hfit : o + cs.length ≤ cur.size) (h1 : ∀ v ∈ cs, v.oneCell' = true) :
  (Builtin.copy_ #[dT, sT] ty #[.slice (some ⟨g, o, none⟩) dLen dCap, .slice (some a) sLen sCap]).run P w =
   .ok (goInt n) (w.setRow g (cur.toList.take o ++ cs ++ cur.toList.drop (o + cs.length)).toArray) := by
 have hf := run_firstCells_some (P := P) w sz n a sLen sCap cs hl hsrc
 have hst := run_storeCells_at P g o t cs 0 cur w hg (by simpa using hfit) h1
 cases hq : P.info? elem with
 | none => simp [hq] at hs
 | some i =>
  have hi : i.size = sz := by simpa [hq] using hs
  have hf2 : (Builtin.firstCells sz n (.slice (some a) sLen sCap)).run P w = .ok cs.toArray w := hf
  simp [Builtin.copy_, run_underlying hu, Builtin.lenOf, sizeOf, typeInfo, hq, hi, ← hn, hf2, hst]
def putAt (sz : Nat) (xs vs : List Value) (i : Nat) : List Value := xs.take (i * sz) ++ vs ++ xs.drop (i * sz)
theorem putAt_len {sz n i : Nat} {xs vs : List Value} (hx : xs.length = n * sz) (hv : vs.length = sz) (hi : i ≤ n) : (putAt sz xs vs i).length = (n + 1) * sz := by
 unfold putAt
 have := Nat.mul_le_mul_right sz hi
 rw [List.length_append, List.length_append, List.length_take, List.length_drop, hv, hx, Nat.add_mul]
 omega
theorem shift_list {X xs vs : List Value} {a s N : Nat} (hx : X.take N = xs) (hN : N + s ≤ X.length) (ha : a ≤ N) (hv : vs.length = s) :
  let Y := X.take (a + s) ++ xs.drop a ++ X.drop (a + s + (xs.drop a).length)
  (Y.take a ++ vs ++ Y.drop (a + vs.length)).take (N + s) = xs.take a ++ vs ++ xs.drop a ∧ Y.length = X.length ∧ (Y.take a ++ vs ++ Y.drop (a + vs.length)).length = X.length := by
 have hxl : xs.length = N := by rw [← hx, List.length_take]; omega
 have hd : (xs.drop a).length = N - a := by rw [List.length_drop, hxl]
 intro Y
 have h1 : (X.take (a + s)).length = a + s := by rw [List.length_take]; omega
 have hY1 : Y.take a = xs.take a := by
  show (X.take (a + s) ++ xs.drop a ++ _).take a = _
  rw [List.append_assoc, List.take_append_of_le_length (by omega), List.take_take, Nat.min_eq_left (by omega), ← hx, List.take_take, Nat.min_eq_left ha]
 have hY2 : Y.drop (a + vs.length) = xs.drop a ++ X.drop (a + s + (xs.drop a).length) := by
  show (X.take (a + s) ++ xs.drop a ++ _).drop _ = _
  rw [hv, List.append_assoc, List.drop_append_of_le_length (by omega), List.drop_of_length_le (by omega), List.nil_append]
 have hYl : Y.length = X.length := by
  show (X.take (a + s) ++ xs.drop a ++ X.drop (a + s + (xs.drop a).length)).length = _
  simp only [List.length_append, h1, hd, List.length_drop]; omega
 have ht : (xs.take a).length = a := by rw [List.length_take, hxl]; omega
 refine ⟨?_, hYl, ?_⟩
 ·
  rw [hY1, hY2, ← List.append_assoc]
  rw [List.take_append_of_le_length (by simp only [List.length_append, ht, hv, hd]; omega), List.take_of_length_le (by simp only [List.length_append, ht, hv, hd]; omega)]
 ·
  rw [hY1, hY2]
  simp only [List.length_append, ht, hv, hd, List.length_drop]; omega
theorem grow_list {R xs vs Z : List Value} {a s N : Nat} (hR : R = xs.take a ++ Z) (hxl : xs.length = N) (ha : a ≤ N) (hv : vs.length = s) (hl : N + s ≤ R.length) :
  let Y := R.take a ++ vs ++ R.drop (a + vs.length)
  (Y.take (a + s) ++ xs.drop a ++ Y.drop (a + s + (xs.drop a).length)).take (N + s) = xs.take a ++ vs ++ xs.drop a ∧ Y.length = R.length ∧ (Y.take (a + s) ++ xs.drop a ++ Y.drop (a + s + (xs.drop a).length)).length = R.length := by
 have hd : (xs.drop a).length = N - a := by rw [List.length_drop, hxl]
 have ht : (xs.take a).length = a := by rw [List.length_take, hxl]; omega
 intro Y
 have hYl : Y.length = R.length := by
  show (R.take a ++ vs ++ R.drop (a + vs.length)).length = _
  simp only [List.length_append, List.length_take, List.length_drop, hv]; omega
 have hY1 : Y.take (a + s) = xs.take a ++ vs := by
  show (R.take a ++ vs ++ R.drop (a + vs.length)).take (a + s) = _
  have h1 : (R.take a ++ vs).length = a + s := by simp only [List.length_append, List.length_take, hv]; omega
  rw [List.take_append_of_le_length (by omega), List.take_of_length_le (by omega), hR, List.take_append_of_le_length (by omega), List.take_of_length_le (by omega)]
 refine ⟨?_, hYl, ?_⟩
 ·
  rw [hY1, List.take_append_of_le_length (by simp only [List.length_append, ht, hv, hd]; omega), List.take_of_length_le (by simp only [List.length_append, ht, hv, hd]; omega)]
 ·
  rw [hY1]
  simp only [List.length_append, ht, hv, hd, List.length_drop, hYl]; omega
theorem run_cutHi {P : Program} (w : World) {t e : TypeId} {z : Value} {size bytes : Nat} (E : ElemT P t e z size bytes) (g n c h : Nat) (kh : IntKind) (hh : h ≤ c) (hc : 0 < c) :
  (Instr.sliceAt t (.slice (some ⟨g, 0, none⟩) n c) none (some (.int kh h)) none).run P w = .ok (.slice (some ⟨g, 0, none⟩) h c) w := by
 obtain ⟨i, hi, hz, hsize, hby⟩ := info_parts E.info
 simp [Instr.sliceAt, run_underlying E.sl, Instr.slice, Instr.sliceBounds, run_sliceBound, hh, sizeOf, typeInfo, hi, hsize, Addr.add_lit]
def InsResCk (A : Option Addr) (n : Nat) (xs : List Value) (w : World) (e : Ending) (w' : World) : Prop :=
 ∃ A' c', e = .returned (.slice A' (n + 1) c') ∧ w'.ownsRow 0 68 23 (.slice A' (n + 1) c') (n + 1) xs ∧ w.grownBy w' (Value.slice A 0 0).ownBlock ∧ (A' = A ∨ ∃ a, A' = some a ∧ w.heap.size ≤ a.block)
theorem sliceObCk (A : Option Addr) (n c : Nat) : (Value.slice A n c).ownBlock = (Value.slice A 0 0).ownBlock := by cases A <;> rfl
set_option maxRecDepth 100000 in
set_option maxHeartbeats 1600000 in
theorem ins_endCk (A : Option Addr) (n c : Nat) (xs vs : List Value) (w : World) (hn : n ≤ 65536) (ho : w.ownsRow 0 68 23 (.slice A n c) n xs) (vb : Nat) (hv : vs.length = 23) (hvs : ∀ j v, vs[j]? = some v → w.cell? ⟨vb, j, none⟩ = some v) (hvb : vb < w.heap.size) (h1 : ∀ u ∈ vs, u.oneCell' = true) :
  Calls Tryz.prog 65 #[.slice A n c, .int .i64 (n : Int), .slice (some ⟨vb, 0, none⟩) 1 1] w (InsResCk A n (putAt 23 xs vs n) w) := by
 have hcap := own_cap ho
 have hcm : c ≤ 9223372036854775807 := hcap.2
 have hcut := fun W => run_cutFrom (P := Tryz.prog) W chunkT A n c n .i64 (Nat.le_refl _)
 obtain ⟨A2, hA2⟩ : ∃ B, (if c = n then A else A.map (·.add (n * 23))) = B := ⟨_, rfl⟩
 simp only [hA2] at hcut
 clear hA2
 have hrd : Rd w w.heap.size 23 (some ⟨vb, 0, none⟩) 1 vs := ⟨by omega, fun _ => ⟨vb, 0, rfl, hvb, fun j u hu => by rw [Nat.zero_add]; exact hvs j u hu⟩⟩
 have hp : putAt 23 xs vs n = xs ++ vs := by
  unfold putAt; rw [List.take_of_length_le (by rw [ho.1]; exact Nat.le_refl _), List.drop_eq_nil_of_le (by rw [ho.1]; exact Nat.le_refl _), List.append_nil]
 have HP := Lib.hid hp
 have HO := Lib.hid ho
 have HR := Lib.hid hrd
 have H1 := Lib.hid h1
 clear hp ho hrd h1 hvs hv hvb
 go_enter Tryz.func65, Tryz.ntmps65
 go_wp2_with (at_builtin; refine wpList_app _ rfl (.tmp 23) (.tmp 24) 56 rfl 0 68 _ 23 88 chunkT A n c xs rfl HO.out _ _ 1 1 vs rfl HR.out H1.out (by omega) (by unfold maxLen; omega) (Nat.zero_le _) ?_; intro A' c' w' h2 h3 h4)
 go_ret
 rw [HP.out]
 refine ⟨A', c', rfl, h2, by rw [← sliceObCk A n c]; exact h3, ?_⟩
 rcases h4 with h4 | ⟨a, ha, hb⟩
 ·
  exact .inl h4
 ·
  exact .inr ⟨a, ha, by omega⟩
set_option maxRecDepth 100000 in
set_option maxHeartbeats 3200000 in
theorem ins_shiftCk (g n c i : Nat) (xs vs : List Value) (w : World) (hn : n ≤ 65536) (hi : i < n) (hroom : n + 1 ≤ c) (ho : w.ownsRow 0 68 23 (.slice (some ⟨g, 0, none⟩) n c) n xs) (h1x : ∀ u ∈ xs, u.oneCell' = true) (vb : Nat) (hv : vs.length = 23) (hvr : IsRow w vb 68 vs) (hvg : vb ≠ g) (h1 : ∀ u ∈ vs, u.oneCell' = true) :
  Calls Tryz.prog 65 #[.slice (some ⟨g, 0, none⟩) n c, .int .i64 (i : Int), .slice (some ⟨vb, 0, none⟩) 1 1] w (InsResCk (some ⟨g, 0, none⟩) n (putAt 23 xs vs i) w) := by
 have hcap := own_cap ho
 have hcm : c ≤ 9223372036854775807 := hcap.2
 obtain ⟨hxl, hrow⟩ := ho
 rcases hrow with ⟨hrow, _⟩ | ⟨g', cap, cur, he, _, hh, _, _, hcs, htk⟩
 ·
  cases hrow
 injection he with he1 _ he3
 obtain rfl : g = g' := by have := Option.some.inj he1; exact congrArg Addr.block this
 subst he3
 have hsz : (Tryz.prog.info? 68).map (·.size) = some 23 := sizeCk
 have hsl := shift_list (X := cur.toList) (xs := xs) (vs := vs) (a := i * 23) (s := 23) (N := n * 23) htk (by rw [Array.length_toList, hcs]; have := Nat.mul_le_mul_right 23 hroom; omega) (Nat.mul_le_mul_right _ (by omega)) hv
 have hdl : (xs.drop (i * 23)).length = (n - i) * 23 := by rw [List.length_drop, hxl, Nat.sub_mul]
 have hxc : ∀ (j : Nat) (u : Value), xs[j]? = some u → w.cell? ⟨g, j, none⟩ = some u := fun j u hu => by
  rw [cell_of_row w g j cur _ (0, 0) hh, ← htk] at *
  rw [← htk, List.getElem?_take] at hu
  split at hu
  ·
   simpa using hu
  ·
   cases hu
 have hcut1 := fun W => run_cutFrom (P := Tryz.prog) W chunkT (some ⟨g, 0, none⟩) n c i .i64 (by omega)
 have hcut2 := fun W => run_cutHi (P := Tryz.prog) W chunkT g n c (n + 1) .i64 hroom (by omega)
 have hcut3 := fun W => run_cutFrom (P := Tryz.prog) W chunkT (some ⟨g, 0, none⟩) (n + 1) c (i + 1) .i64 (by omega)
 have hcut4 := fun W => run_cutFrom (P := Tryz.prog) W chunkT (some ⟨g, 0, none⟩) (n + 1) c i .i64 (by omega)
 have n1 : ¬ c = i := by omega
 have n2 : ¬ c = i + 1 := by omega
 simp only [if_neg n1, if_neg n2, Option.map_some, Addr.add_lit, Nat.zero_add, Int.natCast_add, Int.cast_ofNat_Int, Nat.add_sub_add_right] at hcut1 hcut2 hcut3 hcut4
 have hmul : (i + 1) * 23 = i * 23 + 23 := by omega
 have hgl : g < w.heap.size := (Array.getElem?_eq_some_iff.1 hh).1
 have hle1 : i * 23 + 23 + (n - i) * 23 ≤ c * 23 := by have := Nat.mul_le_mul_right 23 hroom; have e : (n - i) * 23 = n * 23 - i * 23 := Nat.sub_mul _ _ _; have := Nat.mul_le_mul_right 23 (Nat.le_of_lt hi); omega
 obtain ⟨cur1, hc1⟩ : ∃ c1 : Array Value, (cur.toList.take (i * 23 + 23) ++ xs.drop (i * 23) ++ cur.toList.drop (i * 23 + 23 + (xs.drop (i * 23)).length)).toArray = c1 := ⟨_, rfl⟩
 obtain ⟨cur2, hc2⟩ : ∃ c2 : Array Value, (cur1.toList.take (i * 23) ++ vs ++ cur1.toList.drop (i * 23 + vs.length)).toArray = c2 := ⟨_, rfl⟩
 have hs1 : cur1.size = cur.size := by have := hsl.2.1; rw [← hc1, List.size_toArray, this, Array.length_toList]
 have hs2 : cur2.size = cur.size ∧ cur2.toList.take ((n + 1) * 23) = putAt 23 xs vs i := by
  rw [← hc2, ← hc1, List.size_toArray, List.toList_toArray, hsl.2.2, Array.length_toList]
  refine ⟨rfl, ?_⟩
  rw [show (n + 1) * 23 = n * 23 + 23 from by omega]
  exact hsl.1
 obtain ⟨W1, hW1⟩ : ∃ W1, w.drew.setRow g cur1 = W1 := ⟨_, rfl⟩
 obtain ⟨W2, hW2⟩ : ∃ W2, W1.setRow g cur2 = W2 := ⟨_, rfl⟩
 have hg1 : W1.heap[g]? = some (.cells cur1 68 (0, 0)) := by rw [← hW1]; exact setRow_heap w.drew g cur _ _ _ hh
 have hg2 : W2.heap[g]? = some (.cells cur2 68 (0, 0)) := by rw [← hW2]; exact setRow_heap W1 g cur1 _ _ _ hg1
 have hgr : w.grownBy W2 (some g) := by
  rw [← hW2, ← hW1]
  exact ⟨rfl, rfl, rfl, by simp [World.setRow], fun k _ hk => (setRow_other _ g k _ (fun e => hk (by rw [e]))).trans (setRow_other _ g k _ (fun e => hk (by rw [e])))⟩
 have hvr1 : IsRow W1 vb 68 vs := by rw [← hW1]; exact (setRow_other w.drew g vb _ hvg).trans hvr
 have hcp1 : ∀ ty dc sc, (Builtin.copy_ #[56, 56] ty #[.slice (some ⟨g, (i + 1) * 23, none⟩) (n - i) dc, .slice (some ⟨g, i * 23, none⟩) (n + 1 - i) sc]).run Tryz.prog w.drew = .ok (goInt (n - i : Nat)) W1 := fun ty dc sc => by
  rw [run_copy_rowK (P := Tryz.prog) w.drew 56 56 ty 68 g ((i + 1) * 23) (n - i) dc ⟨g, i * 23, none⟩ (n + 1 - i) sc cur 68 (xs.drop (i * 23)) 23 (n - i) chunkT.sl hsz (by show n - i = min _ _; omega) hdl hh (fun j u hu => by rw [Addr.add_lit]; exact hxc _ _ (by rwa [List.getElem?_drop] at hu)) (by rw [hdl, hmul, hcs]; exact hle1) (fun u hu => h1x u (List.mem_of_mem_drop hu)), hmul, hc1, hW1]
 have hcp2 : ∀ ty dc, (Builtin.copy_ #[56, 56] ty #[.slice (some ⟨g, i * 23, none⟩) (n + 1 - i) dc, .slice (some ⟨vb, 0, none⟩) 1 1]).run Tryz.prog W1 = .ok (goInt (1 : Nat)) W2 := fun ty dc => by
  rw [run_copy_rowK (P := Tryz.prog) W1 56 56 ty 68 g (i * 23) (n + 1 - i) dc ⟨vb, 0, none⟩ 1 1 cur1 68 vs 23 1 chunkT.sl hsz (by show 1 = min _ _; omega) (by omega) hg1 (fun j u hu => by rw [Addr.add_lit, Nat.zero_add, hvr1.cell]; exact hu) (by rw [hv, hs1, hcs]; omega) h1, hc2, hW2]
 have hov : ∀ lb cb, (callFunc 95 #[.slice (some ⟨vb, 0, none⟩) 1 1, .slice (some ⟨g, (i + 1) * 23, none⟩) lb cb]).run Tryz.prog w = .ok (.value (.bool false)) w := fun lb cb => by
  rw [run_callFunc_extern Tryz.func95 (by kernel_rfl) (by kernel_rfl) (by kernel_rfl) (e := Extern.SlicesOverlaps.overlaps #[56, 56] #[4]) (by kernel_rfl),
   Lib.run_overlaps_apart w 56 4 68 chunkT.sl 23 (fun w => by cases hq : Tryz.prog.info? 68 with
    | none => rw [hq] at hsz; cases hsz
    | some q => rw [hq] at hsz; simp only [Option.map_some, Option.some.injEq] at hsz; simp [sizeOf, typeInfo, hq, hsz]) ⟨vb, 0, none⟩ ⟨g, (i + 1) * 23, none⟩ 1 1 lb cb hvg 68 68 vs.length cur.size (by have h : w.heap[vb]? = some (.cells vs.toArray 68 (0, 0)) := hvr; simp [World.shape?, h]) (by simp [World.shape?, hh]) (by rw [hcs]; omega) (hvr.frozen 0) (hvr.frozen _)]
  rfl
 have HG := Lib.hid (And.intro hg2 (And.intro hgr (And.intro hs2 (And.intro hcs hcap))))
 have HXL := Lib.hid (putAt_len (i := i) hxl hv (by omega))
 have hz2 : ¬ ((i : Int) = (n : Int)) := by omega
 have hz3 : ¬ ((c : Int) < (n : Int) + 1) := by omega
 have hw1 : IntKind.i64.wrap ((i : Int) + 1) = (i : Int) + 1 := IntWalk.i64_in _ (by omega)
 have hb1 : (0 : Int) ≤ (i : Int) + 1 := by omega
 clear hh htk hsl hdl hxc hxl hmul hgl hle1 hc1 hc2 hs1 hs2 hW1 hW2 hg1 hg2 hgr hvr hvr1 hsz hv h1 h1x hcs n1 n2 hcap
 go_enter Tryz.func65, Tryz.ntmps65
 go_wp2_with (simp only [hov])
 go_region_law (refine step_copy_runI rfl _ _ 56 56 rfl _ _ (by simp [Act.eval, Act.put]) (by simp [Act.eval, Act.put]) (hcp1 _ _ _) ?_)
 go_wp2_with (at_builtin; refine Go.Proofs.wpList_copy_runI _ rfl _ _ 56 56 rfl _ _ rfl rfl (hcp2 _ _) ?_)
 go_ret
 exact ⟨some ⟨g, 0, none⟩, c, rfl, ⟨HXL.out, .inr ⟨g, c, cur2, rfl, Nat.zero_le _, HG.out.1, hroom, HG.out.2.2.2.2.2, by rw [HG.out.2.2.1.1]; exact HG.out.2.2.2.1, HG.out.2.2.1.2⟩⟩, HG.out.2.1, .inl rfl⟩
set_option maxRecDepth 100000 in
set_option maxHeartbeats 3200000 in
theorem ins_growCk (g n c i : Nat) (xs vs : List Value) (w : World) (hn : n ≤ 65536) (hi : i < n) (hroom : c < n + 1) (ho : w.ownsRow 0 68 23 (.slice (some ⟨g, 0, none⟩) n c) n xs) (h1x : ∀ u ∈ xs, u.oneCell' = true) (vb : Nat) (hv : vs.length = 23) (hvr : IsRow w vb 68 vs) (h1 : ∀ u ∈ vs, u.oneCell' = true) :
  Calls Tryz.prog 65 #[.slice (some ⟨g, 0, none⟩) n c, .int .i64 (i : Int), .slice (some ⟨vb, 0, none⟩) 1 1] w (InsResCk (some ⟨g, 0, none⟩) n (putAt 23 xs vs i) w) := by
 have hcap := own_cap ho
 have hcm : c ≤ 9223372036854775807 := hcap.2
 have hxl := ho.1
 obtain ⟨g', cap, he, _, hgl⟩ := ho.form (by omega)
 obtain rfl : g = g' := by injection he with he1 _ _; have := Option.some.inj he1; exact congrArg Addr.block this
 have hxc : ∀ (j : Nat) (u : Value), xs[j]? = some u → w.cell? ⟨g, j, none⟩ = some u := fun j u hu => by
  have := ho.cells (g := g) rfl j u hu
  rwa [Addr.add_lit, Nat.zero_add] at this
 have hsz : (Tryz.prog.info? 68).map (·.size) = some 23 := sizeCk
 obtain ⟨i0, hi0, hz0, hzs, hzb⟩ := info_parts chunkT.info
 have hdl : (xs.drop (i * 23)).length = (n - i) * 23 := by rw [List.length_drop, hxl, Nat.sub_mul]
 have hold : (Builtin.firstCells i0.size i (.slice (some ⟨g, 0, none⟩) i c)).run Tryz.prog w.drew = .ok (xs.take (i * 23)).toArray w.drew := by
  rw [hzs]
  exact run_firstCells_some w.drew 23 i ⟨g, 0, none⟩ i c (xs.take (i * 23)) (by rw [List.length_take, hxl]; have := Nat.mul_le_mul_right 23 (Nat.le_of_lt hi); omega) (fun j u hu => by
   rw [Addr.add_lit, Nat.zero_add]
   rw [List.getElem?_take] at hu
   split at hu
   ·
    exact hxc j u hu
   ·
    cases hu)
 have hkk : (n : Int) + 1 - (i : Int) = ((n + 1 - i : Nat) : Int) := by omega
 have hik : i + (n + 1 - i) = n + 1 := by omega
 obtain ⟨G, hG⟩ : ∃ G, grownCap w (n + 1) c 68 = G := ⟨_, rfl⟩
 have hGn : n + 1 ≤ G := by rw [← hG]; exact grownCap_ge w _ _ _
 have hGm : G ≤ maxLen := by rw [← hG]; exact grownCap_le_maxLen w (n + 1) c _ (by unfold maxLen; omega)
 have hG63 : G ≤ 9223372036854775807 := hGm
 obtain ⟨H, hH⟩ : ∃ H, w.heap.size = H := ⟨_, rfl⟩
 obtain ⟨zc, hzc⟩ : ∃ zc, Builtin.zeroCells (Value.agg zCk.toArray).cells (n + 1 - i) ++ Builtin.zeroCells (Value.agg zCk.toArray).cells (G - (n + 1)) = zc := ⟨_, rfl⟩
 obtain ⟨R, hR⟩ : ∃ R : Array Value, (xs.take (i * 23)).toArray ++ zc = R := ⟨_, rfl⟩
 have hRl : R.toList = xs.take (i * 23) ++ zc.toList := by rw [← hR]; simp
 have hRs : R.size = G * 23 := by
  rw [← hR, ← hzc]
  simp only [Array.size_append, List.size_toArray, List.length_take, size_zeroCells, chunkT.zs, hxl]
  have h1 := Nat.mul_le_mul_right 23 (Nat.le_of_lt hi)
  rw [Nat.min_eq_left h1, ← Nat.add_mul, ← Nat.add_mul]
  congr 1; omega
 obtain ⟨W1, hW1⟩ : ∃ W1, w.drew.alloc (.cells R 68) = W1 := ⟨_, rfl⟩
 have hrz : ∀ ty, (Builtin.append_ #[56, 3] ty #[.slice (some ⟨g, 0, none⟩) i c, .int .i64 ((n : Int) + 1 - (i : Int))]).run Tryz.prog w = .ok (.slice (some ⟨H, 0, none⟩) (n + 1) G) W1 := fun ty => by
  have h := Lib.run_append_grow_zeros w 56 3 ty 68 i0 _ .i64 .i64 chunkT.sl Tryz.underlying3 hi0 hz0 (some ⟨g, 0, none⟩) i c (xs.take (i * 23)) hold (n + 1 - i) (by omega) (by omega) (by omega) (by omega) (by rw [hzb]; omega) (by rw [hzb, hik]; exact growslice_fits hroom (by omega))
  rw [hik, hG, hH, Array.append_assoc, hzc, hR, hW1] at h
  rw [hkk]
  exact h
 have hg1 : W1.heap[H]? = some (.cells R 68 (0, 0)) := by rw [← hW1, ← hH]; exact heap_alloc_new w.drew _
 have hold1 : ∀ k, k < H → W1.heap[k]? = w.heap[k]? := fun k hk => by rw [← hW1]; exact Below.heap_alloc w.drew _ k (by rw [← hH] at hk; exact hk)
 have hgl' : g < H := by rw [← hH]; exact hgl
 have hvl' : vb < H := by rw [← hH]; exact hvr.lt
 have hmul : (i + 1) * 23 = i * 23 + 23 := by omega
 have hmG := Nat.mul_le_mul_right 23 hGn
 have hmi := Nat.mul_le_mul_right 23 hi
 have e1 : (n - i) * 23 = n * 23 - i * 23 := Nat.sub_mul _ _ _
 have e2 : (n + 1) * 23 = n * 23 + 23 := by omega
 have hgl2 := grow_list (R := R.toList) (xs := xs) (vs := vs) (a := i * 23) (s := 23) (N := n * 23) hRl hxl (by omega) hv (by rw [Array.length_toList, hRs]; omega)
 obtain ⟨R2, hR2⟩ : ∃ R2 : Array Value, (R.toList.take (i * 23) ++ vs ++ R.toList.drop (i * 23 + vs.length)).toArray = R2 := ⟨_, rfl⟩
 obtain ⟨R3, hR3⟩ : ∃ R3 : Array Value, (R2.toList.take (i * 23 + 23) ++ xs.drop (i * 23) ++ R2.toList.drop (i * 23 + 23 + (xs.drop (i * 23)).length)).toArray = R3 := ⟨_, rfl⟩
 have hs2 : R2.size = R.size := by have := hgl2.2.1; rw [← hR2, List.size_toArray, this, Array.length_toList]
 have hs3 : R3.size = R.size ∧ R3.toList.take ((n + 1) * 23) = putAt 23 xs vs i := by
  rw [← hR3, ← hR2, List.size_toArray, List.toList_toArray, hgl2.2.2, Array.length_toList, e2]
  exact ⟨rfl, hgl2.1⟩
 obtain ⟨W2, hW2⟩ : ∃ W2, W1.setRow H R2 = W2 := ⟨_, rfl⟩
 obtain ⟨W3, hW3⟩ : ∃ W3, W2.drew.setRow H R3 = W3 := ⟨_, rfl⟩
 have hg2 : W2.heap[H]? = some (.cells R2 68 (0, 0)) := by rw [← hW2]; exact setRow_heap W1 H R _ _ _ hg1
 have hg3 : W3.heap[H]? = some (.cells R3 68 (0, 0)) := by rw [← hW3]; exact setRow_heap W2.drew H R2 _ _ _ hg2
 have hold2 : ∀ k, k < H → W2.heap[k]? = w.heap[k]? := fun k hk => by rw [← hW2]; exact (setRow_other W1 H k _ (by omega)).trans (hold1 k hk)
 have hgr : w.grownBy W3 (some g) := by
  refine ⟨by rw [← hW3, ← hW2, ← hW1]; rfl, by rw [← hW3, ← hW2, ← hW1]; rfl, by rw [← hW3, ← hW2, ← hW1]; rfl, by rw [← hW3, ← hW2, ← hW1]; simp [World.setRow], fun k hk _ => ?_⟩
  rw [hH] at hk
  rw [← hW3]
  exact (setRow_other W2.drew H k _ (by omega)).trans (hold2 k hk)
 have hcpA : ∀ ty dc, (Builtin.copy_ #[56, 56] ty #[.slice (some ⟨H, i * 23, none⟩) (n + 1 - i) dc, .slice (some ⟨vb, 0, none⟩) 1 1]).run Tryz.prog W1 = .ok (goInt (1 : Nat)) W2 := fun ty dc => by
  rw [run_copy_rowK (P := Tryz.prog) W1 56 56 ty 68 H (i * 23) (n + 1 - i) dc ⟨vb, 0, none⟩ 1 1 R 68 vs 23 1 chunkT.sl hsz (by show 1 = min _ _; omega) (by omega) hg1 (fun j u hu => by rw [Addr.add_lit, Nat.zero_add, (hvr.keep (hold1 vb hvl')).cell]; exact hu) (by rw [hv, hRs]; omega) h1, hR2, hW2]
 have hcpB : ∀ ty dc sc, (Builtin.copy_ #[56, 56] ty #[.slice (some ⟨H, (i + 1) * 23, none⟩) (n - i) dc, .slice (some ⟨g, i * 23, none⟩) (n - i) sc]).run Tryz.prog W2.drew = .ok (goInt (n - i : Nat)) W3 := fun ty dc sc => by
  rw [run_copy_rowK (P := Tryz.prog) W2.drew 56 56 ty 68 H ((i + 1) * 23) (n - i) dc ⟨g, i * 23, none⟩ (n - i) sc R2 68 (xs.drop (i * 23)) 23 (n - i) chunkT.sl hsz (by show n - i = min _ _; omega) hdl hg2 (fun j u hu => by rw [Addr.add_lit]; exact (World.cell?_of_block (a := ⟨g, i * 23 + j, none⟩) (hold2 g hgl')).trans (hxc _ _ (by rwa [List.getElem?_drop] at hu))) (by rw [hdl, hmul, hs2, hRs]; omega) (fun u hu => h1x u (List.mem_of_mem_drop hu)), hmul, hR3, hW3]
 have hcut0 := fun W => run_cutFrom (P := Tryz.prog) W chunkT (some ⟨g, 0, none⟩) n c i .i64 (by omega)
 have hcut1 := fun W => run_cutHi (P := Tryz.prog) W chunkT g n c i .i64 (by omega) (by omega)
 have hcut2 := fun W => run_cutFrom (P := Tryz.prog) W chunkT (some ⟨H, 0, none⟩) (n + 1) G i .i64 (by omega)
 have hcut3 := fun W => run_cutFrom (P := Tryz.prog) W chunkT (some ⟨H, 0, none⟩) (n + 1) G (i + 1) .i64 (by omega)
 have n1 : ¬ c = i := by omega
 have n2 : ¬ G = i := by omega
 have n3 : ¬ G = i + 1 := by omega
 simp only [if_neg n1, if_neg n2, if_neg n3, Option.map_some, Addr.add_lit, Nat.zero_add, Int.natCast_add, Int.cast_ofNat_Int, Nat.add_sub_add_right] at hcut0 hcut1 hcut2 hcut3
 have HG := Lib.hid (And.intro hg3 (And.intro hgr (And.intro hs3 (And.intro hRs (And.intro hGn hGm)))))
 have HHH := Lib.hid hH
 have HXL := Lib.hid (putAt_len (i := i) hxl hv (by omega))
 have hz2 : ¬ ((i : Int) = (n : Int)) := by omega
 have hz3 : (c : Int) < (n : Int) + 1 := by omega
 have hw1 : IntKind.i64.wrap ((i : Int) + 1) = (i : Int) + 1 := IntWalk.i64_in _ (by omega)
 have hb1 : (0 : Int) ≤ (i : Int) + 1 := by omega
 clear hH hzc hR hRl hRs hW1 hg1 hold1 hgl' hvl' hmul hmG hmi e1 e2 hgl2 hR2 hR3 hs2 hs3 hW2 hW3 hg2 hg3 hold2 hgr hdl hold hkk hik hG hGn hGm hxc hxl hsz hv h1 h1x n1 n2 n3 hcap hvr ho hgl he hi0 hz0 hzs hzb
 go_enter Tryz.func65, Tryz.ntmps65
 go_wp2_with (first
  | (at_builtin; refine Lib.wpList_append_run _ rfl _ _ _ _ rfl _ _ rfl rfl _ _ (hrz _) ?_)
  | (at_builtin; refine Go.Proofs.wpList_copy_runI _ rfl _ _ 56 56 rfl _ _ rfl rfl (hcpA _ _) ?_))
 go_region_law (refine step_copy_runI rfl _ _ 56 56 rfl _ _ (by simp [Act.eval, Act.put]) (by simp [Act.eval, Act.put]) (hcpB _ _ _) ?_)
 go_wp2
 go_ret
 exact ⟨some ⟨H, 0, none⟩, G, rfl, ⟨HXL.out, .inr ⟨H, G, R3, rfl, Nat.zero_le _, HG.out.1, HG.out.2.2.2.2.1, HG.out.2.2.2.2.2, by rw [HG.out.2.2.1.1]; exact HG.out.2.2.2.1, HG.out.2.2.1.2⟩⟩, HG.out.2.1, .inr ⟨_, rfl, Nat.le_of_eq HHH.out⟩⟩
theorem ins_anyCk (A : Option Addr) (n c i : Nat) (xs vs : List Value) (w : World) (hn : n ≤ 65536) (hi : i ≤ n) (ho : w.ownsRow 0 68 23 (.slice A n c) n xs) (h1x : ∀ u ∈ xs, u.oneCell' = true) (vb : Nat) (hv : vs.length = 23) (hvr : IsRow w vb 68 vs) (hvA : ∀ a, A = some a → vb ≠ a.block) (h1 : ∀ u ∈ vs, u.oneCell' = true) :
  Calls Tryz.prog 65 #[.slice A n c, .int .i64 (i : Int), .slice (some ⟨vb, 0, none⟩) 1 1] w (InsResCk A n (putAt 23 xs vs i) w) := by
 by_cases hin : i = n
 ·
  subst hin
  exact ins_endCk A i c xs vs w hn ho vb hv (fun j u hu => by rw [hvr.cell]; exact hu) hvr.lt h1
 ·
  obtain ⟨g, cap, he, _, _⟩ := ho.form (by omega)
  have hA : A = some ⟨g, 0, none⟩ := by injection he
  subst hA
  by_cases hr : n + 1 ≤ c
  ·
   exact ins_shiftCk g n c i xs vs w hn (by omega) hr ho h1x vb hv hvr (hvA _ rfl) h1
  ·
   exact ins_growCk g n c i xs vs w hn (by omega) (by omega) ho h1x vb hv hvr h1
end
section
open Go.RowKit
theorem addF_any {w : World} {F S : Nat → Prop} {a : Nat} {t : TM} {l : List Chk.Ck} (h : TAt w F S a t l) (b5 : Nat) (hb5 : w.cell? ⟨b5, 0, none⟩ = some (.pointer (some ⟨a, 0, none⟩))) (k : Nat) (hk : k < t.n) (Sf : Bool) (hS : decide ((k : Int) + 1 < (Chk.nth l k).id) = Sf) :
  Calls Tryz.prog 64 #[.int .i64 (k : Int), .pointer (some ⟨b5, 0, none⟩)] w fun e w' => e = .returned (.bool Sf) ∧ w' = w := by
 obtain ⟨g, x, hA, hg, hx, hlx, hxm, hrg⟩ := h.at hk
 have hnx : Chk.nth l k = x.c := by have := Chk.nth_get (show k < l.length by rw [h.len.1]; exact hk); rw [hlx] at this; exact (Option.some.inj this).symm
 have k0 : w.cell? ⟨g, k * 23, none⟩ = some (.int .i64 x.c.id) := hrg 0 _ rfl
 obtain ⟨c0, _⟩ := h.cells
 have hm := h.max
 obtain ⟨n, hn⟩ : ∃ n, t.n = n := ⟨_, rfl⟩
 obtain ⟨c, hc⟩ : ∃ c, t.c = c := ⟨_, rfl⟩
 obtain ⟨v, hv⟩ : ∃ v, x.c.id = v := ⟨_, rfl⟩
 rw [hA, hn, hc] at c0
 rw [hv] at k0
 rw [hnx, hv] at hS
 have e1 : (0 : Int) ≤ (k : Int) := by omega
 have e2 : (k : Int) < (n : Int) := by omega
 have e3 : IntKind.i64.wrap ((k : Int) + 1) = (k : Int) + 1 := IntWalk.i64_in _ (by omega)
 have HS := Lib.hid hS
 clear hA hg hx hlx hxm hrg hnx hn hc hv hS h hm
 go_enter Tryz.func64, Tryz.ntmps64
 go_wp2
 go_ret
 exact ⟨ret_bool HS.out, rfl⟩
set_option maxRecDepth 100000 in
set_option maxHeartbeats 1600000 in
theorem search_any {w : World} {F S : Nat → Prop} {a : Nat} {t : TM} {l : List Chk.Ck} (h : TAt w F S a t l) (b5 : Nat) (hb5 : w.cell? ⟨b5, 0, none⟩ = some (.pointer (some ⟨a, 0, none⟩))) :
  Calls Tryz.prog 63 #[.int .i64 (t.n : Int), .func (.func 64) #[] #[.pointer (some ⟨b5, 0, none⟩)]] w fun e w' => e = .returned (.int .i64 (Chk.gap (Chk.ids l) : Nat)) ∧ w' = w := by
 have hm := h.max
 have hl := h.len.1
 have HF := Lib.hid (fun k hk Sf hS => addF_any h b5 hb5 k hk Sf hS)
 have HIV := Lib.hid h.inv
 obtain ⟨n, hn⟩ : ∃ n, t.n = n := ⟨_, rfl⟩
 rw [hn] at HF hm hl ⊢
 have HL := Lib.hid hl
 clear h hb5 hn hl
 go_enter Tryz.func63, Tryz.ntmps63
 go_upto_region 2 with fail
 go_loop [5, 6, 7] (fun u5 u6 u7 => ∃ i j : Nat, i ≤ j ∧ j ≤ n ∧ u5 = .int .i64 (i : Int) ∧ u6 = .int .i64 (j : Int) ∧ Hid ((0 < i → (Chk.nth l (i - 1)).id ≤ ((i - 1 : Nat) : Int) + 1) ∧ (j < n → (j : Int) + 1 < (Chk.nth l j).id))) (fun u5 u6 _ => (intOf u6 - intOf u5).toNat)
 case atStart => exact ⟨0, n, Nat.zero_le _, Nat.le_refl _, rfl, rfl, Lib.hid ⟨fun h => absurd h (Nat.lt_irrefl _), fun h => absurd h (Nat.lt_irrefl _)⟩⟩
 case round =>
  obtain ⟨i, j, hij, hjn, rfl, rfl, HI⟩ := hrel
  by_cases hlt : i < j
  ·
   obtain ⟨s, hs⟩ : ∃ s : Nat, i + j = s := ⟨_, rfl⟩
   have e1 : (i : Int) + (j : Int) = (s : Int) := by omega
   have e2 : IntKind.i64.wrap (s : Int) = (s : Int) := IntWalk.i64_in _ (by omega)
   have e3 : IntKind.u64.wrap (s : Int) = (s : Int) := by rw [IntKind.wrap_u64]; omega
   obtain ⟨h, hh⟩ : ∃ h : Nat, s / 2 = h := ⟨_, rfl⟩
   have e4 : (s : Int) / 2 = (h : Int) := by omega
   have HH : Hid (i ≤ h ∧ h < j) := Lib.hid (by omega)
   have e7 : IntKind.i64.wrap ((h : Int) + 1) = (h : Int) + 1 := IntWalk.i64_in _ (by omega)
   have HF := HF.out h (by have := HH.out; omega)
   by_cases hf : (h : Int) + 1 < (Chk.nth l h).id
   ·
    have HC := Lib.hid (HF true (decide_eq_true hf))
    have HFF := Lib.hid hf
    clear HF hf hs hh
    go_wp2_with (go_at_call 64; refine HC.out.mono ?_; rintro e w' ⟨rfl, rfl⟩)
    go_round
    case rel => exact ⟨i, h, by have := HH.out; omega, by have := HH.out; omega, rfl, rfl, Lib.hid ⟨HI.out.1, fun _ => HFF.out⟩⟩
    case measure => have := HH.out; simp [intOf]; omega
   ·
    have HC := Lib.hid (HF false (decide_eq_false hf))
    have hf2 : (Chk.nth l h).id ≤ (h : Int) + 1 := by omega
    have HFF := Lib.hid hf2
    clear HF hf hf2 hs hh
    go_wp2_with (go_at_call 64; refine HC.out.mono ?_; rintro e w' ⟨rfl, rfl⟩)
    go_round
    case rel => exact ⟨h + 1, j, by have := HH.out; omega, hjn, by go_num, rfl, Lib.hid ⟨fun _ => by rw [Nat.add_sub_cancel]; exact HFF.out, HI.out.2⟩⟩
    case measure => have := HH.out; simp [intOf]; omega
  ·
   obtain rfl : i = j := by omega
   have HG : Hid (Chk.gap (Chk.ids l) = i) := Lib.hid (by
    have hnth : ∀ k, k < l.length → (Chk.ids l)[k]? = some (Chk.nth l k).id := fun k hk => by rw [List.getElem?_map, Chk.nth_get hk]; rfl
    refine Chk.gap_search HIV.out.up (fun a ha => by obtain ⟨c, hc, rfl⟩ := List.mem_map.1 ha; exact (HIV.out.ok c hc).id1) (fun a h0 ha => ?_) (by simp; rw [HL.out]; exact hjn) (fun a ha => ?_)
    ·
     rw [hnth _ (by rw [HL.out]; omega)] at ha
     rw [← Option.some.inj ha]
     have := HI.out.1 h0; omega
    ·
     have hk : i < l.length := by have := (List.getElem?_eq_some_iff.1 ha).1; simpa using this
     rw [hnth i hk] at ha
     rw [← Option.some.inj ha]
     exact HI.out.2 (by rw [← HL.out]; exact hk))
   go_wp2_with fail
   go_ret
   rw [HG.out]
   exact ⟨rfl, rfl⟩
end
section
open Go.RowKit
theorem new_any (w : World) (F : Nat → Prop) (hF : ∀ b, F b → b < w.heap.size) :
  Calls Tryz.prog 28 #[] w fun e w' => e = .returned (.pointer (some ⟨w.heap.size + 1, 0, none⟩)) ∧ TAt w' F (fun b => b = w.heap.size ∨ b = w.heap.size + 1) (w.heap.size + 1) ⟨none, 0, 0, w.heap.size, 0, []⟩ [] ∧ Below w.heap.size w w' := by
 have hmm := @run_makeMap Tryz.prog
 have hk : ∀ w' : World, w' = (w.alloc (.map #[] 0)).alloc (.cells #[.slice none 0 0, .map (some w.heap.size)] 116) → TAt w' F (fun b => b = w.heap.size ∨ b = w.heap.size + 1) (w.heap.size + 1) ⟨none, 0, 0, w.heap.size, 0, []⟩ [] := by
  rintro w' rfl
  have hr := IsRow.new (w.alloc (.map #[] 0)) 116 [.slice none 0 0, .map (some w.heap.size)]
  rw [World.size_alloc] at hr
  refine ⟨hr, World.ownsRow_nil _ _ _ _, rfl, (MapIs.made w unV).alloc _, (fun x hx => by cases hx), .inr rfl, .inl rfl, (fun g hg => by cases hg), (by show w.heap.size + 1 ≠ w.heap.size; omega), (fun g hg => by cases hg), fun b hb => ?_, Chk.Inv.nil⟩
  have := hF b hb
  omega
 have HK := Lib.hid hk
 clear hk
 go_enter Tryz.func28, Tryz.ntmps28
 go_wp2
 go_ret
 exact ⟨by simp, HK.out _ rfl, ((Below.refl _ w).alloc (Nat.le_refl _) _).alloc (by simp) _⟩
end
section
open Go.RowKit
theorem leave_no (a g o : Nat) (w : World) (h : w.cell? ⟨g, o + 21, none⟩ = some (.bool true)) : Calls Tryz.prog 70 #[.pointer (some ⟨a, 0, none⟩), .pointer (some ⟨g, o, none⟩)] w fun e w' => e = .returned (.tuple #[]) ∧ w' = w := by
 go_enter Tryz.func70, Tryz.ntmps70
 go_wp2
 exact bodyPost_end (results_none rfl _ _ _) rfl ⟨rfl, rfl⟩
set_option maxRecDepth 100000 in
set_option maxHeartbeats 1600000 in
theorem leave_yes (a g o m N : Nat) (u : Chk.Un) (M : Chk.Un → Option Value) (w : World) (hl : w.cell? ⟨g, o + 21, none⟩ = some (.bool false)) (h1 : w.cell? ⟨a, 1, none⟩ = some (.map (some m)))
  (h18 : w.cell? ⟨g, o + 18, none⟩ = some (.int .i64 u.r)) (h19 : w.cell? ⟨g, o + 19, none⟩ = some (.int .i64 u.g)) (h20 : w.cell? ⟨g, o + 20, none⟩ = some (.int .i64 u.u)) (ha : a < w.heap.size) (hg : g < w.heap.size) (hm : MapIs w m unV M N) :
  Calls Tryz.prog 70 #[.pointer (some ⟨a, 0, none⟩), .pointer (some ⟨g, o, none⟩)] w fun e w' => e = .returned (.tuple #[]) ∧ ∃ N', MapIs w' m unV (fun y => if y = u then none else M y) N' ∧ Keep (fun b => b = m) w w' := by
 have HM := Lib.hid hm
 have HC := Lib.hid (And.intro h1 (And.intro h18 (And.intro h19 (And.intro h20 (And.intro ha hg)))))
 clear hm h1 h18 h19 h20 ha hg
 go_enter Tryz.func70, Tryz.ntmps70
 go_wp2_with fail
 have hv0 : Below w.heap.size w w.drew := (Below.refl _ _).drew
 refine wp_region_late (fun W => Below w.heap.size w W) [8] (by kernel_rfl) (hv0) (fun hHeld => ?_)
 refine wpAnyL_take (i := 0) (oi := { dst := some 9, op := Op.move (Operand.tmp 0), type := 28, pos := "chunks.go:205", after := #[], guard := none }) (v := ?v0_1) rfl (by kernel_rfl) (by kernel_rfl) (by kernel_rfl) (by kernel_rfl) (fun _ _ _ h => h) (Or.inl ⟨by rfl, ?h0_1⟩) (by assumption) ?r0_1
 case h0_1 =>
  intro W hSW
  try dsimp only at hSW
  go_simp
  try with_reducible rfl
 try simp only [PT]
 refine wpAnyL_take (i := 1) (oi := { dst := some 10, op := Op.nilCheck (Operand.tmp 9), type := 0, pos := "chunks.go:205", after := #[{ on := 0, ground := Ground.data }], guard := none }) (v := ?v1_2) rfl (by kernel_rfl) (by kernel_rfl) (by kernel_rfl) (by kernel_rfl) (fun _ _ _ h => h) (Or.inl ⟨by rfl, ?h1_2⟩) (by assumption) ?r1_2
 case h1_2 =>
  intro W hSW
  try dsimp only at hSW
  go_simp
  try with_reducible rfl
 try simp only [PT]
 refine wpAnyL_take (i := 2) (oi := { dst := some 11, op := Op.fieldAddr 116 (Operand.tmp 10) 1, type := 0, pos := "chunks.go:205", after := #[{ on := 1, ground := Ground.data }], guard := none }) (v := ?v2_3) rfl (by kernel_rfl) (by kernel_rfl) (by kernel_rfl) (by kernel_rfl) (fun _ _ _ h => h) (Or.inl ⟨by rfl, ?h2_3⟩) (by assumption) ?r2_3
 case h2_3 =>
  intro W hSW
  try dsimp only at hSW
  go_simp
  try with_reducible rfl
 try simp only [PT]
 refine wpAnyL_take (i := 3) (oi := { dst := some 12, op := Op.load 114 (Operand.tmp 11), type := 114, pos := "chunks.go:205", after := #[{ on := 2, ground := Ground.data }], guard := none }) (v := ?v3_4) rfl (by kernel_rfl) (by kernel_rfl) (by kernel_rfl) (by kernel_rfl) (fun _ _ _ h => h) (Or.inl ⟨by rfl, ?h3_4⟩) (by assumption) ?r3_4
 case h3_4 =>
  intro W hSW
  try dsimp only at hSW
  have hcc := (hSW.cell (p := ⟨a, 1, none⟩) HC.out.2.2.2.2.1).trans HC.out.1
  go_simp
  try with_reducible rfl
 try simp only [PT]
 refine wpAnyL_take (i := 4) (oi := { dst := some 13, op := Op.move (Operand.tmp 1), type := 122, pos := "chunks.go:205", after := #[], guard := none }) (v := ?v4_5) rfl (by kernel_rfl) (by kernel_rfl) (by kernel_rfl) (by kernel_rfl) (fun _ _ _ h => h) (Or.inl ⟨by rfl, ?h4_5⟩) (by assumption) ?r4_5
 case h4_5 =>
  intro W hSW
  try dsimp only at hSW
  go_simp
  try with_reducible rfl
 try simp only [PT]
 refine wpAnyL_take (i := 5) (oi := { dst := some 14, op := Op.nilCheck (Operand.tmp 13), type := 0, pos := "chunks.go:205", after := #[{ on := 4, ground := Ground.data }], guard := none }) (v := ?v5_6) rfl (by kernel_rfl) (by kernel_rfl) (by kernel_rfl) (by kernel_rfl) (fun _ _ _ h => h) (Or.inl ⟨by rfl, ?h5_6⟩) (by assumption) ?r5_6
 case h5_6 =>
  intro W hSW
  try dsimp only at hSW
  go_simp
  try with_reducible rfl
 try simp only [PT]
 refine wpAnyL_take (i := 6) (oi := { dst := some 15, op := Op.fieldAddr 68 (Operand.tmp 14) 3, type := 0, pos := "chunks.go:205", after := #[{ on := 5, ground := Ground.data }], guard := none }) (v := ?v6_7) rfl (by kernel_rfl) (by kernel_rfl) (by kernel_rfl) (by kernel_rfl) (fun _ _ _ h => h) (Or.inl ⟨by rfl, ?h6_7⟩) (by assumption) ?r6_7
 case h6_7 =>
  intro W hSW
  try dsimp only at hSW
  go_simp
  try with_reducible rfl
 try simp only [PT]
 refine wpAnyL_take (i := 7) (oi := { dst := some 16, op := Op.load 65 (Operand.tmp 15), type := 65, pos := "chunks.go:205", after := #[{ on := 6, ground := Ground.data }], guard := none }) (v := ?v7_8) rfl (by kernel_rfl) (by kernel_rfl) (by kernel_rfl) (by kernel_rfl) (fun _ _ _ h => h) (Or.inl ⟨by rfl, ?h7_8⟩) (by assumption) ?r7_8
 case h7_8 =>
  intro W hSW
  try dsimp only at hSW
  have hc1 := (hSW.cell (p := ⟨g, o + 18, none⟩) HC.out.2.2.2.2.2).trans HC.out.2.1
  have hc2 := (hSW.cell (p := ⟨g, o + 19, none⟩) HC.out.2.2.2.2.2).trans HC.out.2.2.1
  have hc3 := (hSW.cell (p := ⟨g, o + 20, none⟩) HC.out.2.2.2.2.2).trans HC.out.2.2.2.1
  go_simp
  try with_reducible rfl
 try simp only [PT]
 refine wpAnyL_ready (rs := [8]) (by kernel_rfl) (by simp) ?_
 refine AllReadyL.late (o := { dst := none, op := Op.call { callee := Callee.builtin Builtin.delete, args := #[Operand.tmp 12, Operand.tmp 16], argTypes := #[114, 65] }, type := 0, pos := "chunks.go:205", after := #[{ on := 3, ground := Ground.data }, { on := 7, ground := Ground.data }], guard := none }) rfl (by rfl) (fun K hK => ?_) AllReadyL.nil
 rw [if_pos (by rfl)]
 obtain ⟨w1, hrun, hm1, ht1⟩ := (HM.out.block (w' := w.drew) (hv0.block m HM.out.lt)).delete keyT_un Tryz.underlying114 u 0
 unfold unV at hrun
 have hk1 := (Keep.of_below (S := fun b => b = m) hv0).turned ht1 (.inl rfl)
 clear ht1
 go_simp
 refine hK.out _ _ ?_
 clear hK K
 try simp only [PT]
 refine wpAnyL_done (by kernel_rfl) ?_ _
 exact bodyPost_end (results_none rfl _ _ _) rfl ⟨rfl, _, hm1, hk1⟩
end
section
open Go.RowKit
theorem own_set {w : World} {base n c size g j : Nat} {e : TypeId} {xs : List Value} (h : w.ownsRow base e size (.slice (some ⟨g, 0, none⟩) n c) n xs) (hj : j < xs.length) (v : Value) :
  (w.setCell ⟨g, j, none⟩ v).ownsRow base e size (.slice (some ⟨g, 0, none⟩) n c) n (xs.set j v) := by
 refine ⟨by rw [List.length_set]; exact h.1, ?_⟩
 rcases h.2 with ⟨h0, _⟩ | ⟨g', cap, cur, he, hb, hh, h1, h2, h3, h4⟩
 ·
  cases h0
 ·
  injection he with he1 _ he3
  obtain rfl : g = g' := congrArg Addr.block (Option.some.inj he1)
  subst he3
  refine .inr ⟨g, c, cur.setIfInBounds j v, rfl, hb, ?_, h1, h2, by simpa using h3, ?_⟩
  ·
   unfold World.setCell
   simp only [Array.getElem?_modify, if_true, hh, Option.map_some]
   simp
  ·
   rw [Array.toList_setIfInBounds, ← h4, List.take_set]
theorem flat_set {α : Type} {f : α → List Value} {sz : Nat} : ∀ {D : List α}, (∀ d ∈ D, (f d).length = sz) → ∀ {k j : Nat} {x y : α} {v : Value}, D[k]? = some x → j < sz → f y = (f x).set j v → (D.flatMap f).set (k * sz + j) v = (D.set k y).flatMap f
 | [], _, k, j, x, y, v, hk, _, _ => by simp at hk
 | d :: D, hf, 0, j, x, y, v, hk, hj, hy => by
  have : d = x := by simpa using hk
  subst this
  have hd := hf d (List.mem_cons_self ..)
  rw [Nat.zero_mul, Nat.zero_add, List.flatMap_cons, List.set_cons_zero, List.flatMap_cons, hy, List.set_append_left _ _ (by omega)]
 | d :: D, hf, k + 1, j, x, y, v, hk, hj, hy => by
  have hd := hf d (List.mem_cons_self ..)
  have ih := flat_set (fun e he => hf e (List.mem_cons_of_mem _ he)) (by simpa using hk) hj hy
  rw [List.flatMap_cons, List.set_cons_succ, List.flatMap_cons, Nat.succ_mul, List.set_append_right _ _ (by omega), hd, show k * sz + sz + j - sz = k * sz + j by omega, ih]
theorem ckCells_put (c : Chk.Ck) (v : Value) (h : c.dg.length = 16) (u : Chk.Un) (b : Bool) :
  (ckCells c v).set 18 (.int .i64 u.r) = ckCells { c with at_ := ⟨u.r, c.at_.g, c.at_.u⟩ } v ∧ (ckCells c v).set 19 (.int .i64 u.g) = ckCells { c with at_ := ⟨c.at_.r, u.g, c.at_.u⟩ } v ∧
  (ckCells c v).set 20 (.int .i64 u.u) = ckCells { c with at_ := ⟨c.at_.r, c.at_.g, u.u⟩ } v ∧ (ckCells c v).set 21 (.bool b) = ckCells { c with lost := b } v := by
 have hl : (bvs c.dg).length = 16 := by rw [bvs_length, h]
 have key : ∀ (j : Nat) (x : Value), (ckCells c v).set (17 + j) x = [.int .i64 c.id] ++ (bvs c.dg ++ ([.int .u32 c.pr, .int .i64 c.at_.r, .int .i64 c.at_.g, .int .i64 c.at_.u, .bool c.lost, v] : List Value).set j x) := fun j x => by
  unfold ckCells
  rw [List.set_append_right _ _ (by show 1 ≤ 17 + j; omega), List.set_append_right _ _ (by rw [hl]; show 16 ≤ 17 + j - 1; omega), hl]
  congr 3
  show 17 + j - 1 - 16 = j; omega
 exact ⟨key 1 _, key 2 _, key 3 _, key 4 _⟩
theorem own_step {w : World} {g n c k j : Nat} {D : List CR} {x y : CR} {v : Value} (ho : w.ownsRow 0 68 23 (.slice (some ⟨g, 0, none⟩) n c) n (crs D)) (hD : ∀ z ∈ D, z.cells.length = 23) (hx : D[k]? = some x) (hj : j < 23) (hy : y.cells = x.cells.set j v) :
  (w.setCell ⟨g, k * 23 + j, none⟩ v).ownsRow 0 68 23 (.slice (some ⟨g, 0, none⟩) n c) n (crs (D.set k y)) ∧ (∀ z ∈ D.set k y, z.cells.length = 23) ∧ (D.set k y)[k]? = some y := by
 have hk := (List.getElem?_eq_some_iff.1 hx).1
 have hl : (crs D).length = D.length * 23 := flatMap_len hD
 have := own_set ho (j := k * 23 + j) (by have := Nat.mul_le_mul_right 23 hk; omega) v
 rw [flat_set hD hx hj hy] at this
 refine ⟨this, fun z hz => ?_, by rw [List.getElem?_set_self hk]⟩
 rcases List.mem_or_eq_of_mem_set hz with hz | rfl
 ·
  exact hD z hz
 ·
  rw [hy, List.length_set]; exact hD x (List.mem_of_getElem? hx)
theorem own_place {w : World} {g n c k : Nat} {D : List CR} {x : CR} (ho : w.ownsRow 0 68 23 (.slice (some ⟨g, 0, none⟩) n c) n (crs D)) (hD : ∀ z ∈ D, z.cells.length = 23) (hx : D[k]? = some x) (hdg : x.c.dg.length = 16) (u : Chk.Un) (b : Bool) :
  ((((w.setCell ⟨g, k * 23 + 18, none⟩ (.int .i64 u.r)).setCell ⟨g, k * 23 + 19, none⟩ (.int .i64 u.g)).setCell ⟨g, k * 23 + 20, none⟩ (.int .i64 u.u)).setCell ⟨g, k * 23 + 21, none⟩ (.bool b)).ownsRow 0 68 23 (.slice (some ⟨g, 0, none⟩) n c) n (crs (D.set k { x with c := { x.c with at_ := u, lost := b } })) := by
 obtain ⟨o1, d1, x1⟩ := own_step (y := { x with c := { x.c with at_ := ⟨u.r, x.c.at_.g, x.c.at_.u⟩ } }) ho hD hx (by decide) (ckCells_put x.c _ hdg u b).1.symm
 obtain ⟨o2, d2, x2⟩ := own_step (y := { x with c := { x.c with at_ := ⟨u.r, u.g, x.c.at_.u⟩ } }) o1 d1 x1 (by decide) (ckCells_put { x.c with at_ := ⟨u.r, x.c.at_.g, x.c.at_.u⟩ } _ hdg u b).2.1.symm
 obtain ⟨o3, d3, x3⟩ := own_step (y := { x with c := { x.c with at_ := u } }) o2 d2 x2 (by decide) (ckCells_put { x.c with at_ := ⟨u.r, u.g, x.c.at_.u⟩ } _ hdg u b).2.2.1.symm
 obtain ⟨o4, _, _⟩ := own_step (y := { x with c := { x.c with at_ := u, lost := b } }) o3 d3 x3 (by decide) (ckCells_put { x.c with at_ := u } _ hdg u b).2.2.2.symm
 rwa [List.set_set, List.set_set, List.set_set] at o4
end
end Go.Proofs.YtfllkaeaanahmaaGreat
