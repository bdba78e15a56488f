/- Joined texts: ChkBA, ChkBB, ChkBC, ChkBD, ChkBE. Conditions: as each part says. -/
import Derived.Test.YtfllkaeaanahmaaGreatChkRef
namespace Go.Proofs.YtfllkaeaanahmaaGreat
set_option linter.unusedVariables false
set_option linter.unusedSimpArgs false
section
open Go.RowKit
theorem ex_drew2 (w : World) (a b : Nat) : ∃ n, (w.drewN a).drewN b = w.drewN n := ⟨a + b, by rw [World.drewN_drewN]⟩
theorem zDg : (Tryz.prog.info? 60).map (fun i => (i.zero, i.size)) = some (some (.agg (List.replicate 16 (Value.int .u8 0)).toArray), (List.replicate 16 (Value.int .u8 0)).length) := by kernel_rfl
def digL (x : Int) (j : Nat) : List Value := List.replicate j (.int .u8 x) ++ List.replicate (16 - j) (.int .u8 0)
theorem digL_len (x : Int) {j : Nat} (h : j ≤ 16) : (digL x j).length = 16 := by unfold digL; simp; omega
theorem digL_set (x : Int) {j : Nat} (h : j < 16) : (digL x j).set j (.int .u8 x) = digL x (j + 1) := by
 unfold digL
 rw [List.set_append_right _ _ (by simp), List.length_replicate, Nat.sub_self, show 16 - j = (16 - (j + 1)) + 1 by omega, List.replicate_succ, List.set_cons_zero, List.replicate_succ', List.append_assoc]; rfl
set_option maxRecDepth 100000 in
set_option maxHeartbeats 800000 in
theorem digest_any (d : UInt8) (w : World) : Calls Tryz.prog 30 #[.int .u8 (d.toNat : Int)] w fun e w' => e = .returned (.agg (bvs (Chk.dig d)).toArray) ∧ Below w.heap.size w w' := by
 obtain ⟨x, hx⟩ : ∃ x : Int, (d.toNat : Int) = x := ⟨_, rfl⟩
 have HX : Hid (bvs (Chk.dig d) = digL x 16) := Lib.hid (by unfold Chk.dig bvs digL; rw [List.map_replicate, hx]; simp)
 rw [hx, HX.out]
 have HD := Lib.hid (show (digL x 16).length = 16 from digL_len x (Nat.le_refl _))
 have HALL := Lib.hid (show (digL x 16).all (·.oneCell') = true by unfold digL; simp [Value.oneCell'])
 clear hx
 go_enter Tryz.func30, Tryz.ntmps30
 go_upto_region 3 with (first
  | (refine wpList_allocRow rfl _ rfl _ zDg ?_; intro w2 rz2 b2 z2; clear z2; have rz12 := rz1.below' b2)
  | (refine wpList_allocRow rfl _ rfl _ zDg ?_; intro w1 rz1 b1 z1; clear z1))
 have hlt1 := rz1.lt
 have hb2 : Below w.heap.size w w2 := b1.trans (b2.mono b1.size)
 obtain ⟨br, hbr⟩ : ∃ y, w.heap.size = y := ⟨_, rfl⟩
 obtain ⟨bb, hbb⟩ : ∃ y, w1.heap.size = y := ⟨_, rfl⟩
 have HNE : Hid (br ≠ bb ∧ w.heap.size ≤ br ∧ w.heap.size ≤ bb) := Lib.hid ⟨by omega, by omega, by omega⟩
 rw [hbr] at rz12
 rw [hbb] at rz2
 rw [hbr, hbb]
 have HB2 := Lib.hid hb2
 have HR2 := Lib.hid rz12
 have HR1 := Lib.hid rz2
 clear rz1 b1 b2 rz12 rz2 hb2 hbr hbb hlt1
 go_loopw [4] (fun u4 wx => ∃ (wr : World) (j : Nat), wr = wx ∧ j ≤ 16 ∧ u4 = .int .i64 (j : Int) ∧ Hid (IsRow wr bb 60 (digL x j)) ∧ Hid (IsRow wr br 60 (List.replicate 16 (Value.int .u8 0))) ∧ Hid (Below w.heap.size w wr)) (fun u4 _ => 16 - (intOf u4).toNat)
 case atStart => exact ⟨_, 0, rfl, by omega, rfl, HR1, HR2, HB2⟩
 case round =>
  obtain ⟨wr, j, rfl, hj, rfl, HR, HQ, HB⟩ := hrel
  by_cases hlt : j < 16
  ·
   have kc : wr.cell? ⟨bb, j, none⟩ = some (.int .u8 0) := by
    rw [HR.out.cell]; unfold digL
    rw [List.getElem?_append_right (by simp), List.length_replicate, Nat.sub_self, List.getElem?_replicate, if_pos (by omega)]
   have kf := HR.out.frozen j
   have e1 : (0 : Int) ≤ (j : Int) := by omega
   have e2 : (j : Int) < 16 := by omega
   go_wp2
   go_roundw
   case rel =>
    refine ⟨_, j + 1, rfl, by omega, by go_num, Lib.hid ?_, Lib.hid (HQ.out.setOther (p := ⟨bb, j, none⟩) (fun e => HNE.out.1 e.symm) _), Lib.hid (HB.out.setCell HNE.out.2.2 _)⟩
    have := HR.out.set j (.int .u8 x)
    rwa [digL_set x hlt] at this
   case measure => simp [intOf]; omega
  ·
   obtain rfl : j = 16 := by omega
   have hr := HR.out
   have hq := HQ.out
   go_wp2_with (first
    | (refine wpList_loadRow rfl _ (.tmp 3) rfl hr rfl Tryz.underlying60 (by rw [HD.out]; exact size16d) ?_)
    | (refine wpList_storeRow rfl _ (.tmp 2) (.tmp 12) rfl (l' := digL x 16) hq rfl rfl (by rw [HD.out]; exact size16d) (by rw [HD.out]; rfl) HALL.out ?_; intro w9 rz9 g9 z9))
   refine bodyPost_ret (resultRow rfl _ _ rz9 rfl Tryz.underlying60 (by rw [HD.out]; exact size16d)) rfl ?_
   exact ⟨rfl, HB.out.grown g9 HB.out.size (fun i hi => by have := Option.some.inj hi; have := HNE.out; omega)⟩
end
section
open Go.RowKit
def opL (o : Chk.Op) : List Value := [.int .i64 o.kind, .int .i64 o.id, .int .i64 o.t, .int .i64 o.n, .int .i64 o.u.r, .int .i64 o.u.g, .int .i64 o.u.u, .int .u8 (o.d.toNat : Int), .int .u32 o.pr]
def opV (o : Chk.Op) : Value := .agg #[.int .i64 o.kind, .int .i64 o.id, .int .i64 o.t, .int .i64 o.n, .int .i64 o.u.r, .int .i64 o.u.g, .int .i64 o.u.u, .int .u8 (o.d.toNat : Int), .int .u32 o.pr]
def StepRes (w : World) (F S : Nat → Prop) (a : Nat) (R : List Chk.Ck × Int × Int) (e : Ending) (w' : World) : Prop := e = .returned (.tuple #[.int .i64 R.2.1, .int .i64 R.2.2]) ∧ OpRes w F S a R.1 w'
theorem refer_n0 (l : List Chk.Ck) (id t n : Int) : (Chk.refer l id t n).2.1 = 0 := by
 unfold Chk.refer
 split
 ·
  rfl
 ·
  split
  ·
   rfl
  ·
   split <;> rfl
theorem move_n0 (l : List Chk.Ck) (id : Int) (u : Chk.Un) : (Chk.move l id u).2.1 = 0 := by
 unfold Chk.move
 split
 ·
  rfl
 ·
  split
  ·
   rfl
  ·
   split
   ·
    split <;> rfl
   ·
    rfl
theorem lose_n0 (l : List Chk.Ck) (id : Int) : (Chk.lose l id).2.1 = 0 := by
 unfold Chk.lose
 split <;> rfl
theorem unrefer_n (l : List Chk.Ck) (id t n : Int) : (Chk.unrefer l id t n).2.1 = if (decide ((Chk.unrefer l id t n).2.1 = 1)) = true then 1 else 0 := by
 unfold Chk.unrefer
 split
 ·
  rfl
 ·
  split
  ·
   rfl
  ·
   split
   ·
    rfl
   ·
    split <;> rfl
theorem OpRes.before {w w0 w' : World} {F S : Nat → Prop} {a : Nat} {l : List Chk.Ck} (h0 : Below w.heap.size w w0) (h : OpRes w0 F S a l w') : OpRes w F S a l w' := by
 obtain ⟨F', S', h1, h2, h3, h4, h5⟩ := h
 have hs := h0.size
 exact ⟨F', S', h1, (Keep.of_below h0).trans h2, h3, fun b hb => (h4 b hb).imp id fun h => by omega, fun b hb => (h5 b hb).imp id fun h => by omega⟩
theorem OpRes.after {w w1 w' : World} {F S : Nat → Prop} {a : Nat} {l : List Chk.Ck} (h : OpRes w F S a l w1) (h1 : Below w1.heap.size w1 w') : OpRes w F S a l w' := by
 obtain ⟨F', S', ⟨t', ht⟩, h2, h3, h4, h5⟩ := h
 exact ⟨F', S', ⟨t', ht.below h1⟩, h2.then_below h1, fun b hb => Nat.lt_of_lt_of_le (h3 b hb) h1.size, h4, h5⟩
end
section
open Go.RowKit
theorem own_zeroC (w : World) (e : TypeId) (size : Nat) : (w.alloc (.cells #[] e)).ownsRow w.heap.size e size (.slice (some ⟨w.heap.size, 0, none⟩) 0 0) 0 [] :=
 ⟨by simp, .inr ⟨w.heap.size, 0, #[], rfl, Nat.le_refl _, heap_alloc_new w _, Nat.le_refl _, by unfold maxLen; omega, by simp, by simp⟩⟩
end
section
open Go.RowKit
def TabNew (w0 w : World) (a : Nat) (l : List Chk.Ck) : Prop := ∃ F S : Nat → Prop, (∃ t, TAt w F S a t l) ∧ (∀ b, F b ∨ S b → w0.heap.size ≤ b ∧ b < w.heap.size) ∧ Below w0.heap.size w0 w
section
variable {w0 w w' : World} {a : Nat} {l : List Chk.Ck}
theorem TabNew.below (h : TabNew w0 w a l) (hb : Below w.heap.size w w') : TabNew w0 w' a l := by
 obtain ⟨F, S, ⟨t, ht⟩, h2, h3⟩ := h
 exact ⟨F, S, ⟨t, ht.below hb⟩, fun b e => ⟨(h2 b e).1, Nat.lt_of_lt_of_le (h2 b e).2 hb.size⟩, h3.trans (hb.mono h3.size)⟩
theorem TabNew.op {F S : Nat → Prop} {t : TM} {l' : List Chk.Ck} (h2 : ∀ b, F b ∨ S b → w0.heap.size ≤ b ∧ b < w.heap.size) (h3 : Below w0.heap.size w0 w) (h : OpRes w F S a l' w') : TabNew w0 w' a l' := by
 obtain ⟨F', S', ht, h4, h5, h6, h7⟩ := h
 have hs := h3.size
 refine ⟨F', S', ht, fun b e => ⟨?_, h5 b e⟩, Below.then_keep h3 h4 (fun k hk => (h2 k (.inr hk)).1) (Nat.le_refl _)⟩
 rcases e with e | e
 ·
  rcases h7 b e with h | h
  ·
   exact (h2 b (.inl h)).1
  ·
   omega
 ·
  rcases h6 b e with h | h
  ·
   exact (h2 b (.inr h)).1
  ·
   omega
end
theorem new_new (w : World) : Calls Tryz.prog 28 #[] w fun e w' => ∃ a, e = .returned (.pointer (some ⟨a, 0, none⟩)) ∧ TabNew w w' a [] := by
 refine (new_any w (fun _ => False) (fun _ e => e.elim)).mono ?_
 rintro e w' ⟨rfl, h1, h2⟩
 refine ⟨_, rfl, _, _, ⟨_, h1⟩, fun b e => ?_, h2⟩
 have hlt := h1.row.lt
 rcases e with e | e | e
 ·
  exact e.elim
 ·
  omega
 ·
  omega
abbrev zOp : List Value := [.int .i64 0, .int .i64 0, .int .i64 0, .int .i64 0, .int .i64 0, .int .i64 0, .int .i64 0, .int .u8 0, .int .u32 0]
theorem infoOp : (Tryz.prog.info? 78).map (fun i => (i.zero, i.size)) = some (some (.agg zOp.toArray), zOp.length) := by kernel_rfl
theorem sizeOp : (Tryz.prog.info? 78).map (·.size) = some 9 := by kernel_rfl
theorem opL_one (o : Chk.Op) : (opL o).all (·.oneCell') = true := rfl
theorem run_take {ops : List Chk.Op} {j : Nat} (h : j < ops.length) (l : List Chk.Ck) : Chk.run l (ops.take (j + 1)) = (Chk.step (Chk.run l (ops.take j)) ops[j]).1 := by
 unfold Chk.run; rw [List.take_succ_eq_append_getElem h, List.foldl_append]; rfl
structure OpsAt (w : World) (A : Option Addr) (n : Nat) (ops : List Chk.Op) : Prop where
 rd : Rd w w.heap.size 9 A n (ops.flatMap opL)
 len : ops.length = n
 pr : ∀ o ∈ ops, Chk.inR o.pr 4294967296
theorem OpsAt.below {w w' : World} {A : Option Addr} {n : Nat} {ops : List Chk.Op} (h : OpsAt w A n ops) (hb : Below w.heap.size w w') : OpsAt w' A n ops := ⟨(h.rd.below hb).more hb.size, h.len, h.pr⟩
end
section
open Go.RowKit
def SameG (w w' : World) (G : Nat → Prop) : Prop := ∀ b, G b → w'.heap[b]? = w.heap[b]?
def TabG (w0 w : World) (a : Nat) (l : List Chk.Ck) (G : Nat → Prop) : Prop :=
 ∃ F S : Nat → Prop, (∃ t, TAt w F S a t l) ∧ (∀ b, F b ∨ S b → w0.heap.size ≤ b ∧ b < w.heap.size) ∧ Below w0.heap.size w0 w ∧ (∀ b, G b → b < w.heap.size ∧ ¬ S b ∧ ¬ F b)
section
variable {w0 w w' w'' : World} {a : Nat} {l l' : List Chk.Ck} {G : Nat → Prop}
theorem SameG.refl (w : World) (G : Nat → Prop) : SameG w w G := fun _ _ => rfl
theorem SameG.trans (h : SameG w w' G) (k : SameG w' w'' G) : SameG w w'' G := fun b hb => (k b hb).trans (h b hb)
theorem SameG.of_below (h : Below w.heap.size w w') (hG : ∀ b, G b → b < w.heap.size) : SameG w w' G := fun b hb => h.block b (hG b hb)
theorem SameG.mono {G' : Nat → Prop} (h : SameG w w' G) (hG : ∀ b, G' b → G b) : SameG w w' G' := fun b hb => h b (hG b hb)
theorem SameG.row (h : SameG w w' G) {b t : Nat} {xs : List Value} (hr : IsRow w b t xs) (hb : G b) : IsRow w' b t xs := hr.keep (h b hb)
theorem TabNew.g (h : TabNew w0 w a l) : TabG w0 w a l (fun _ => False) := by obtain ⟨F, S, h1, h2, h3⟩ := h; exact ⟨F, S, h1, h2, h3, fun _ e => e.elim⟩
theorem TabG.b (h : TabG w0 w a l G) : Below w0.heap.size w0 w := by obtain ⟨F, S, _, _, h3, _⟩ := h; exact h3
theorem TabG.lt (h : TabG w0 w a l G) : ∀ b, G b → b < w.heap.size := by obtain ⟨F, S, _, _, _, h4⟩ := h; exact fun b hb => (h4 b hb).1
theorem TabG.inv (h : TabG w0 w a l G) : Chk.Inv l := by obtain ⟨F, S, ⟨t, ht⟩, _⟩ := h; exact ht.inv
theorem TabG.max (h : TabG w0 w a l G) : l.length ≤ 65536 := by
 obtain ⟨F, S, ⟨t, ht⟩, _⟩ := h
 rw [ht.len.1]; exact ht.max
theorem TabG.below (h : TabG w0 w a l G) (hb : Below w.heap.size w w') : TabG w0 w' a l G := by
 obtain ⟨F, S, ⟨t, ht⟩, h2, h3, h4⟩ := h
 exact ⟨F, S, ⟨t, ht.below hb⟩, fun b e => ⟨(h2 b e).1, Nat.lt_of_lt_of_le (h2 b e).2 hb.size⟩, h3.trans (hb.mono h3.size), fun b e => ⟨Nat.lt_of_lt_of_le (h4 b e).1 hb.size, (h4 b e).2⟩⟩
theorem TabG.more (h : TabG w0 w a l G) (hb : Below w.heap.size w w') (x : Nat) (hx1 : w.heap.size ≤ x) (hx2 : x < w'.heap.size) : TabG w0 w' a l (fun b => G b ∨ b = x) := by
 obtain ⟨F, S, ⟨t, ht⟩, h2, h3, h4⟩ := h
 refine ⟨F, S, ⟨t, ht.below hb⟩, fun b e => ⟨(h2 b e).1, Nat.lt_of_lt_of_le (h2 b e).2 hb.size⟩, h3.trans (hb.mono h3.size), fun b e => ?_⟩
 rcases e with e | rfl
 ·
  exact ⟨Nat.lt_of_lt_of_le (h4 b e).1 hb.size, (h4 b e).2⟩
 ·
  exact ⟨hx2, fun hS => by have := (h2 b (.inr hS)).2; omega, fun hF => by have := (h2 b (.inl hF)).2; omega⟩
theorem TabG.less {G' : Nat → Prop} (h : TabG w0 w a l G) (hG : ∀ b, G' b → G b) : TabG w0 w a l G' := by
 obtain ⟨F, S, h1, h2, h3, h4⟩ := h
 exact ⟨F, S, h1, h2, h3, fun b e => h4 b (hG b e)⟩
theorem TabG.turn (h : TabG w0 w a l G) {x : Nat} (hx : G x) (hx0 : w0.heap.size ≤ x) (hk : Keep (fun b => b = x) w w') : TabG w0 w' a l G := by
 obtain ⟨F, S, ⟨t, ht⟩, h2, h3, h4⟩ := h
 exact ⟨F, S, ⟨t, ht.keep hk (fun b hS e => (h4 x hx).2.1 (e ▸ hS)) (fun b hF' e => (h4 x hx).2.2 (e ▸ hF'))⟩, fun b e => ⟨(h2 b e).1, Nat.lt_of_lt_of_le (h2 b e).2 hk.size⟩, Below.then_keep h3 hk (fun k e => by rw [e]; exact hx0) (Nat.le_refl _), fun b e => ⟨Nat.lt_of_lt_of_le (h4 b e).1 hk.size, (h4 b e).2⟩⟩
theorem TabG.op {F S : Nat → Prop} (h2 : ∀ b, F b ∨ S b → w0.heap.size ≤ b ∧ b < w.heap.size) (h3 : Below w0.heap.size w0 w) (hg : ∀ b, G b → b < w.heap.size ∧ ¬ S b ∧ ¬ F b) (h : OpRes w F S a l' w') : TabG w0 w' a l' G ∧ SameG w w' G := by
 obtain ⟨F', S', ht, h4, h5, h6, h7⟩ := h
 have hs := h3.size
 refine ⟨⟨F', S', ht, fun b e => ⟨?_, h5 b e⟩, Below.then_keep h3 h4 (fun k hk => (h2 k (.inr hk)).1) (Nat.le_refl _), fun b e => ⟨Nat.lt_of_lt_of_le (hg b e).1 h4.size, fun hS => ?_, fun hF => ?_⟩⟩, fun b e => h4.block b (hg b e).1 (hg b e).2.1⟩
 ·
  rcases e with e | e
  ·
   rcases h7 b e with h | h
   ·
    exact (h2 b (.inl h)).1
   ·
    omega
  ·
   rcases h6 b e with h | h
   ·
    exact (h2 b (.inr h)).1
   ·
    omega
 ·
  rcases h6 b hS with h | h
  ·
   exact (hg b e).2.1 h
  ·
   have := (hg b e).1; omega
 ·
  rcases h7 b hF with h | h
  ·
   exact (hg b e).2.2 h
  ·
   have := (hg b e).1; omega
theorem TabG.call {P : Program} {fn : FuncId} {args : Array Value} {Q : Ending → Prop} (h : TabG w0 w a l G) (hc : ∀ F S t, TAt w F S a t l → (∀ b, F b ∨ S b → b < w.heap.size) → Calls P fn args w fun e w' => Q e ∧ OpRes w F S a l' w') :
  Calls P fn args w fun e w' => Q e ∧ TabG w0 w' a l' G ∧ SameG w w' G := by
 obtain ⟨F, S, ⟨t, ht⟩, h2, h3, h4⟩ := h
 refine (hc F S t ht fun b e => (h2 b e).2).mono ?_
 rintro e w' ⟨h5, h6⟩
 exact ⟨h5, TabG.op h2 h3 h4 h6⟩
theorem TabG.read {P : Program} {fn : FuncId} {args : Array Value} {Q : Ending → World → Prop} (h : TabG w0 w a l G) (hc : ∀ F S t, TAt w F S a t l → Calls P fn args w fun e w' => Q e w') : Calls P fn args w fun e w' => Q e w' := by
 obtain ⟨F, S, ⟨t, ht⟩, _⟩ := h
 exact hc F S t ht
end
section
variable {w0 w : World} {a : Nat} {l : List Chk.Ck} {G : Nat → Prop} (h : TabG w0 w a l G)
include h
theorem TabG.add_ (dg : List UInt8) (hdg : dg.length = 16) (pr : Int) (hp : Chk.inR pr 4294967296) (u : Chk.Un) (tn : Int) {l' : List Chk.Ck} {n e : Int} (hR : Chk.add l dg pr u tn = (l', n, e)) :
  Calls Tryz.prog 29 #[.pointer (some ⟨a, 0, none⟩), .agg (bvs dg).toArray, .int .u32 pr, unV u, .int .i64 tn] w fun x w' => x = .returned (.tuple #[.int .i64 n, .int .i64 e]) ∧ TabG w0 w' a l' G ∧ SameG w w' G :=
 h.call fun _ _ _ ht hb => by have := add_any ht hb dg hdg pr hp u tn; rw [hR] at this; exact this
theorem TabG.refer_ (id tn n : Int) {l' : List Chk.Ck} {m e : Int} (hR : Chk.refer l id tn n = (l', m, e)) :
  Calls Tryz.prog 31 #[.pointer (some ⟨a, 0, none⟩), .int .i64 id, .int .i64 tn, .int .i64 n] w fun x w' => x = .returned (.int .i64 e) ∧ TabG w0 w' a l' G ∧ SameG w w' G :=
 h.call fun _ _ _ ht hb => by have := refer_any ht hb id tn n; rw [hR] at this; exact this
theorem TabG.unrefer_ (id tn n : Int) {l' : List Chk.Ck} {m e : Int} (q : Bool) (hR : Chk.unrefer l id tn n = (l', m, e)) (hq : decide (m = 1) = q) :
  Calls Tryz.prog 32 #[.pointer (some ⟨a, 0, none⟩), .int .i64 id, .int .i64 tn, .int .i64 n] w fun x w' => x = .returned (.tuple #[.bool q, .int .i64 e]) ∧ TabG w0 w' a l' G ∧ SameG w w' G :=
 h.call fun _ _ _ ht hb => by have := unrefer_any ht hb id tn n; rw [hR, hq] at this; exact this
theorem TabG.move_ (id : Int) (u : Chk.Un) {l' : List Chk.Ck} {m e : Int} (hR : Chk.move l id u = (l', m, e)) :
  Calls Tryz.prog 33 #[.pointer (some ⟨a, 0, none⟩), .int .i64 id, unV u] w fun x w' => x = .returned (.int .i64 e) ∧ TabG w0 w' a l' G ∧ SameG w w' G :=
 h.call fun F S _ ht hb => by
  have := move_any ht id u
  rw [hR] at this
  exact this.mono fun e w' ⟨h1, t5, h51, h52⟩ => ⟨h1, F, S, ⟨t5, h51⟩, h52, fun b e => Nat.lt_of_lt_of_le (hb b e) h52.size, fun _ h => .inl h, fun _ h => .inl h⟩
theorem TabG.lose_ (id : Int) {l' : List Chk.Ck} {m e : Int} (hR : Chk.lose l id = (l', m, e)) :
  Calls Tryz.prog 34 #[.pointer (some ⟨a, 0, none⟩), .int .i64 id] w fun x w' => x = .returned (.int .i64 e) ∧ TabG w0 w' a l' G ∧ SameG w w' G :=
 h.call fun F S _ ht hb => by
  have := lose_any ht id
  rw [hR] at this
  exact this.mono fun e w' ⟨h1, t5, h51, h52⟩ => ⟨h1, F, S, ⟨t5, h51⟩, h52, fun b e => Nat.lt_of_lt_of_le (hb b e) h52.size, fun _ h => .inl h, fun _ h => .inl h⟩
end
end
end Go.Proofs.YtfllkaeaanahmaaGreat
