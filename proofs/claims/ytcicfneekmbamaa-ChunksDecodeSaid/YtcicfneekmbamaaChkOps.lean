/- Joined texts: ChkBA, ChkBB, ChkBC, ChkBD, ChkBE. Conditions: as each part says. -/
import Derived.Test.YtcicfneekmbamaaChkEnc
import Derived.Shelf.SlMaps.Clone
namespace Go.Proofs.Ytcicfneekmbamaa
set_option linter.unusedVariables false
set_option linter.unusedSimpArgs false
/-! The reference's Digest; Same and SameChunk at equal arguments. Conditions: at most 2^40 elements; digests of 16 bytes. -/
section
open Go.RowKit
theorem ex_drew2 (w : World) (a b : Nat) : ∃ n, (w.drewN a).drewN b = w.drewN n := ⟨a + b, by rw [World.drewN_drewN]⟩
set_option maxHeartbeats 800000 in
theorem same_eq (A B : Option Addr) (ca cb n : Nat) (xs : List Int) (hn : xs.length = n) (hL : n ≤ 1099511627776) (w : World) (B1 B2 : Nat) (ha : Rd w B1 1 A n (ivs xs)) (hb : Rd w B2 1 B n (ivs xs)) :
    Calls Try.prog 19 #[.slice A n ca, .slice B n cb] w fun e w' => e = .returned (.bool true) ∧ Below w.heap.size w w' := by
  have HA := Lib.hid (And.intro ha hb)
  have HN := Lib.hid hn
  clear ha hb hn
  go_enter Try.func19, Try.ntmps19
  go_wp2
  go_loopw [5] (fun i wr => ∃ k m : Nat, k ≤ n ∧ i = .int .i64 (k : Int) ∧ wr = w.drewN m) (fun i _ => n - (intOf i).toNat)
  case atStart => exact ⟨0, 0, Nat.zero_le _, rfl, rfl⟩
  case round =>
    obtain ⟨k, m, hk, rfl, rfl⟩ := hrel
    by_cases hlt : k < n
    · have hkl : k < xs.length := by rw [HN.out]; exact hlt
      obtain ⟨ha, hb⟩ := HA.out
      obtain ⟨ba, oa, rfl, _, h1⟩ := ha.get hkl
      obtain ⟨bb, ob, rfl, _, h2⟩ := hb.get hkl
      obtain ⟨x, hx⟩ : ∃ x, xs[k] = x := ⟨_, rfl⟩
      rw [hx] at h1 h2
      clear ha hb hx hkl
      go_wp2
      go_quiet (fail)
      go_wp2
      go_roundw
      case rel => exact ⟨k + 1, _, by omega, by go_num, rfl⟩
      case measure => simp [intOf] <;> omega
    · go_wp2
      go_ret
      exact ⟨rfl, below_of_drewN _ _ _⟩
theorem zDg : (Try.prog.info? 42).map (fun i => (i.zero, i.size)) = some (some (.agg (List.replicate 16 (Value.int .u8 0)).toArray), (List.replicate 16 (Value.int .u8 0)).length) := by kernel_rfl
def digL (x : Int) (j : Nat) : List Value := List.replicate j (.int .u8 x) ++ List.replicate (16 - j) (.int .u8 0)
theorem digL_len (x : Int) {j : Nat} (h : j ≤ 16) : (digL x j).length = 16 := by unfold digL; simp; omega
theorem digL_set (x : Int) {j : Nat} (h : j < 16) : (digL x j).set j (.int .u8 x) = digL x (j + 1) := by
  unfold digL
  rw [List.set_append_right _ _ (by simp), List.length_replicate, Nat.sub_self, show 16 - j = (16 - (j + 1)) + 1 by omega, List.replicate_succ, List.set_cons_zero, List.replicate_succ', List.append_assoc]; rfl
set_option maxRecDepth 100000 in
set_option maxHeartbeats 800000 in
theorem digest_any (d : UInt8) (w : World) : Calls Try.prog 23 #[.int .u8 (d.toNat : Int)] w fun e w' => e = .returned (.agg (bvs (Chk.dig d)).toArray) ∧ Below w.heap.size w w' := by
  obtain ⟨x, hx⟩ : ∃ x : Int, (d.toNat : Int) = x := ⟨_, rfl⟩
  have HX : Hid (bvs (Chk.dig d) = digL x 16) := Lib.hid (by unfold Chk.dig bvs digL; rw [List.map_replicate, hx]; simp)
  rw [hx, HX.out]
  have HD := Lib.hid (show (digL x 16).length = 16 from digL_len x (Nat.le_refl _))
  have HALL := Lib.hid (show (digL x 16).all (·.oneCell') = true by unfold digL; simp [Value.oneCell'])
  clear hx
  go_enter Try.func23, Try.ntmps23
  go_upto_region 3 with (first
    | (refine wpList_allocRow rfl _ rfl _ zDg ?_; intro w2 rz2 b2 z2; clear z2; have rz12 := rz1.below' b2)
    | (refine wpList_allocRow rfl _ rfl _ zDg ?_; intro w1 rz1 b1 z1; clear z1))
  have hlt1 := rz1.lt
  have hb2 : Below w.heap.size w w2 := b1.trans (b2.mono b1.size)
  obtain ⟨br, hbr⟩ : ∃ y, w.heap.size = y := ⟨_, rfl⟩
  obtain ⟨bb, hbb⟩ : ∃ y, w1.heap.size = y := ⟨_, rfl⟩
  have HNE : Hid (br ≠ bb ∧ w.heap.size ≤ br ∧ w.heap.size ≤ bb) := Lib.hid ⟨by omega, by omega, by omega⟩
  rw [hbr] at rz12
  rw [hbb] at rz2
  rw [hbr, hbb]
  have HB2 := Lib.hid hb2
  have HR2 := Lib.hid rz12
  have HR1 := Lib.hid rz2
  clear rz1 b1 b2 rz12 rz2 hb2 hbr hbb hlt1
  go_loopw [4] (fun u4 wx => ∃ (wr : World) (j : Nat), wr = wx ∧ j ≤ 16 ∧ u4 = .int .i64 (j : Int) ∧ Hid (IsRow wr bb 42 (digL x j)) ∧ Hid (IsRow wr br 42 (List.replicate 16 (Value.int .u8 0))) ∧ Hid (Below w.heap.size w wr)) (fun u4 _ => 16 - (intOf u4).toNat)
  case atStart => exact ⟨_, 0, rfl, by omega, rfl, HR1, HR2, HB2⟩
  case round =>
    obtain ⟨wr, j, rfl, hj, rfl, HR, HQ, HB⟩ := hrel
    by_cases hlt : j < 16
    · have kc : wr.cell? ⟨bb, j, none⟩ = some (.int .u8 0) := by
        rw [HR.out.cell]; unfold digL
        rw [List.getElem?_append_right (by simp), List.length_replicate, Nat.sub_self, List.getElem?_replicate, if_pos (by omega)]
      have kf := HR.out.frozen j
      have e1 : (0 : Int) ≤ (j : Int) := by omega
      have e2 : (j : Int) < 16 := by omega
      go_wp2
      go_roundw
      case rel =>
        refine ⟨_, j + 1, rfl, by omega, by go_num, Lib.hid ?_, Lib.hid (HQ.out.setOther (p := ⟨bb, j, none⟩) (fun e => HNE.out.1 e.symm) _), Lib.hid (HB.out.setCell HNE.out.2.2 _)⟩
        have := HR.out.set j (.int .u8 x)
        rwa [digL_set x hlt] at this
      case measure => simp [intOf]; omega
    · obtain rfl : j = 16 := by omega
      have hr := HR.out
      have hq := HQ.out
      go_wp2_with (first
        | (refine wpList_loadRow rfl _ (.tmp 3) rfl hr rfl Try.underlying42 (by rw [HD.out]; exact size16d) ?_)
        | (refine wpList_storeRow rfl _ (.tmp 2) (.tmp 12) rfl (l' := digL x 16) hq rfl rfl (by rw [HD.out]; exact size16d) (by rw [HD.out]; rfl) HALL.out ?_; intro w9 rz9 g9 z9))
      refine bodyPost_ret (resultRow rfl _ _ rz9 rfl Try.underlying42 (by rw [HD.out]; exact size16d)) rfl ?_
      exact ⟨rfl, HB.out.grown g9 HB.out.size (fun i hi => by have := Option.some.inj hi; have := HNE.out; omega)⟩
theorem neq_dg (w : World) {x : List UInt8} (hx : x.length = 16) : (binOp .neq 42 (.agg (bvs x).toArray) (.agg (bvs x).toArray)).run Try.prog w = .ok (.bool false) w := by
  rw [run_neq_struct]
  have h := run_equalIn_bytes (P := Try.prog) w 9998 42 5 16 Try.underlying42 Try.underlying5 sizeU8c x x hx hx
  have e : ∀ l : List UInt8, (l.map Extern.Stop.cell) = bvs l := fun l => rfl
  rw [e] at h
  rw [h]; simp [Result.andThen]
theorem neq_un (w : World) (u : Chk.Un) : (binOp .neq 26 (unV u) (unV u)).run Try.prog w = .ok (.bool false) w := by
  have h := run_equal_un u u w
  unfold unV at *
  rw [run_neq_struct]
  have h' : (Op.equalIn 10000 26 (.agg #[.int .i64 u.r, .int .i64 u.g, .int .i64 u.u]) (.agg #[.int .i64 u.r, .int .i64 u.g, .int .i64 u.u])).run Try.prog w = _ := h
  rw [h']; simp [Result.andThen]
theorem fieldsRf : (Try.prog.fieldsOf 83).toList = [{ name := "Tenant", type := 3, offset := 0, embedded := false, tag := "", pkgPath := "", byteOffset := 0 }, { name := "Count", type := 3, offset := 1, embedded := false, tag := "", pkgPath := "", byteOffset := 8 }] := by kernel_rfl
theorem neq_rf (a b : Int) (w : World) : (binOp .neq 83 (.agg #[.int .i64 a, .int .i64 b]) (.agg #[.int .i64 a, .int .i64 b])).run Try.prog w = .ok (.bool false) w := by
  have p1 : ∀ w : World, (part 3 #[Value.int .i64 a, .int .i64 b] 0).run Try.prog w = .ok (.int .i64 a) w := fun _ => by kernel_rfl
  have p3 : ∀ w : World, (part 3 #[Value.int .i64 a, .int .i64 b] 1).run Try.prog w = .ok (.int .i64 b) w := fun _ => by kernel_rfl
  rw [run_neq_struct, run_equalIn_agg w 9999 83 _ _ (by kernel_rfl) (by kernel_rfl), fieldsRf]
  simp [Op.eqFields, p1, p3, run_equalIn_int _ _ 3 _ _ _ _ Try.underlying3]
set_option maxRecDepth 100000 in
set_option maxHeartbeats 1600000 in
theorem sameCk_eq (c : Chk.Ck) (hdg : c.dg.length = 16) (N : Nat) (hN : c.refs.length = N) (hN16 : N ≤ 1000) (A1 A2 : Option Addr) (k1 k2 : Nat) (w : World) (h1 : Rd w w.heap.size 2 A1 N (rfs c.refs)) (h2 : Rd w w.heap.size 2 A2 N (rfs c.refs)) :
    Calls Try.prog 18 #[.agg (ckCells c (.slice A1 N k1)).toArray, .agg (ckCells c (.slice A2 N k2)).toArray] w fun e w' => e = .returned (.bool true) ∧ Below w.heap.size w w' := by
  have hat1 := ckCells_at c (.slice A1 N k1) hdg
  have hat2 := ckCells_at c (.slice A2 N k2) hdg
  have hdc : ∀ v : Value, ∀ (q : Nat) (u : Value), (bvs c.dg)[q]? = some u → (ckCells c v)[1 + q]? = some u := fun v q u hq => by
    have hql : q < (bvs c.dg).length := (List.getElem?_eq_some_iff.1 hq).1
    unfold ckCells
    rw [List.getElem?_append_right (by simp), List.getElem?_append_left (by simpa using hql)]
    simpa using hq
  have hd1 := hdc (.slice A1 N k1)
  have hd2 := hdc (.slice A2 N k2)
  have hz1 : (ckCells c (.slice A1 N k1))[0]? = some (.int .i64 c.id) := rfl
  have hz2 : (ckCells c (.slice A2 N k2))[0]? = some (.int .i64 c.id) := rfl
  obtain ⟨cs1, hc1⟩ : ∃ y, ckCells c (.slice A1 N k1) = y := ⟨_, rfl⟩
  obtain ⟨cs2, hc2⟩ : ∃ y, ckCells c (.slice A2 N k2) = y := ⟨_, rfl⟩
  rw [hc1] at hat1 hd1 hz1 ⊢
  rw [hc2] at hat2 hd2 hz2 ⊢
  have r1 := (IsRow.new w 45 cs1).alloc (.cells cs2.toArray 45)
  have r2 := IsRow.new (w.alloc (.cells cs1.toArray 45)) 45 cs2
  rw [World.size_alloc] at r2
  have hb : Below w.heap.size w ((w.alloc (.cells cs1.toArray 45)).alloc (.cells cs2.toArray 45)) := ((Below.refl _ _).alloc (Nat.le_refl _) _).alloc (by simp) _
  obtain ⟨w0, hw0⟩ : ∃ y, (w.alloc (.cells cs1.toArray 45)).alloc (.cells cs2.toArray 45) = y := ⟨_, rfl⟩
  rw [hw0] at r1 r2 hb
  have HW0 := Lib.hid hw0
  have HB := Lib.hid hb
  have HH := Lib.hid (And.intro (h1.below hb) (h2.below hb))
  have m1 : w0.rangeAt w.heap.size 1 (bvs c.dg) := fun q u hq => (r1.cell (1 + q)).trans (hd1 q u hq)
  have m2 : w0.rangeAt (w.heap.size + 1) 1 (bvs c.dg) := fun q u hq => (r2.cell (1 + q)).trans (hd2 q u hq)
  have HM := Lib.hid (And.intro m1 m2)
  have HDG := Lib.hid (show (bvs c.dg).length = 16 by rw [bvs_length, hdg])
  have ND := fun W => neq_dg W hdg
  have NU := fun W => neq_un W c.at_
  unfold unV at NU
  generalize bvs c.dg = D at HM HDG ND
  obtain ⟨u, hu⟩ : ∃ u, c.at_ = u := ⟨_, rfl⟩
  obtain ⟨id, hid⟩ : ∃ u, c.id = u := ⟨_, rfl⟩
  obtain ⟨pr, hpr⟩ : ∃ u, c.pr = u := ⟨_, rfl⟩
  obtain ⟨lo, hlo⟩ : ∃ u, c.lost = u := ⟨_, rfl⟩
  obtain ⟨L, hL⟩ : ∃ u, c.refs = u := ⟨_, rfl⟩
  rw [hu, hpr, hlo] at hat1 hat2
  rw [hid] at hz1 hz2
  rw [hu] at NU
  rw [hL] at HH hN
  have z10 := (r1.cell 0).trans hz1
  have z20 := (r2.cell 0).trans hz2
  have p1 := (r1.cell 17).trans hat1.2.1
  have p2 := (r2.cell 17).trans hat2.2.1
  have a1 := (r1.cell 18).trans hat1.2.2.1
  have a2 := (r1.cell 19).trans hat1.2.2.2.1
  have a3 := (r1.cell 20).trans hat1.2.2.2.2.1
  have b1 := (r2.cell 18).trans hat2.2.2.1
  have b2 := (r2.cell 19).trans hat2.2.2.2.1
  have b3 := (r2.cell 20).trans hat2.2.2.2.2.1
  have l1 := (r1.cell 21).trans hat1.2.2.2.2.2.1
  have l2 := (r2.cell 21).trans hat2.2.2.2.2.2.1
  have s1 := (r1.cell 22).trans hat1.2.2.2.2.2.2
  have s2 := (r2.cell 22).trans hat2.2.2.2.2.2.2
  have HN := Lib.hid hN
  clear hat1 hat2 hdc hd1 hd2 hz1 hz2 hc1 hc2 r1 r2 hb hw0 m1 m2 hu hid hpr hlo hL hN h1 h2 hdg
  go_enter Try.func18, Try.ntmps18
  go_upto_region 1 with fail
  rw [HW0.out]
  go_wp2_with (first
    | (refine wpList_load_midG (by rfl) _ (.tmp 12) rfl w.heap.size 1 rfl D _ HM.out.1 Try.underlying42 rfl (by rw [HDG.out]; exact size16d) ?_)
    | (refine wpList_load_midG (by rfl) _ (.tmp 14) rfl (w.heap.size + 1) 1 rfl D _ HM.out.2 Try.underlying42 rfl (by rw [HDG.out]; exact size16d) ?_))
  go_loopw [5] (fun u5 wr => ∃ i m : Nat, i ≤ N ∧ u5 = .int .i64 (i : Int) ∧ wr = w0.drewN m) (fun u5 _ => N - (intOf u5).toNat)
  case atStart => exact ⟨0, 0, Nat.zero_le _, rfl, rfl⟩
  case round =>
    obtain ⟨i, m, hi, rfl, rfl⟩ := hrel
    by_cases hlt : i < N
    · have hil : i < L.length := by rw [HN.out]; exact hlt
      obtain ⟨x1, o1, rfl, _, g1⟩ := HH.out.1.elem (f := rfCells) (fun _ _ => rfl) hil hlt
      obtain ⟨x2, o2, rfl, _, g2⟩ := HH.out.2.elem (f := rfCells) (fun _ _ => rfl) hil hlt
      obtain ⟨r, hr⟩ : ∃ r, L[i] = r := ⟨_, rfl⟩
      rw [hr] at g1 g2
      have k10 : w0.cell? ⟨x1, o1 + i * 2, none⟩ = some (.int .i64 r.t) := g1 0 _ rfl
      have k11 : w0.cell? ⟨x1, o1 + i * 2 + 1, none⟩ = some (.int .i64 r.n) := g1 1 _ rfl
      have k20 : w0.cell? ⟨x2, o2 + i * 2, none⟩ = some (.int .i64 r.t) := g2 0 _ rfl
      have k21 : w0.cell? ⟨x2, o2 + i * 2 + 1, none⟩ = some (.int .i64 r.n) := g2 1 _ rfl
      have NR := neq_rf r.t r.n
      have e1 : (0 : Int) ≤ (i : Int) := by omega
      have e2 : (i : Int) < (N : Int) := by omega
      clear hil g1 g2 hr
      go_wp2
      go_quiet (fail)
      go_wp2
      go_roundw
      case rel => exact ⟨i + 1, _, by omega, by go_num, rfl⟩
      case measure => simp [intOf]; omega
    · go_wp2
      go_ret
      exact ⟨rfl, below_drewN HB.out _⟩
end
/-! The law's do on the program's table. Conditions: the table is kept; the print has 32 bits. -/
section
open Go.RowKit
def opL (o : Chk.Op) : List Value := [.int .i64 o.kind, .int .i64 o.id, .int .i64 o.t, .int .i64 o.n, .int .i64 o.u.r, .int .i64 o.u.g, .int .i64 o.u.u, .int .u8 (o.d.toNat : Int), .int .u32 o.pr]
def opV (o : Chk.Op) : Value := .agg #[.int .i64 o.kind, .int .i64 o.id, .int .i64 o.t, .int .i64 o.n, .int .i64 o.u.r, .int .i64 o.u.g, .int .i64 o.u.u, .int .u8 (o.d.toNat : Int), .int .u32 o.pr]
/-- the ending of a call that returns a number and an error -/
def StepRes (w : World) (F S : Nat → Prop) (a : Nat) (R : List Chk.Ck × Int × Int) (e : Ending) (w' : World) : Prop := e = .returned (.tuple #[.int .i64 R.2.1, .int .i64 R.2.2]) ∧ OpRes w F S a R.1 w'
theorem refer_n0 (l : List Chk.Ck) (id t n : Int) : (Chk.refer l id t n).2.1 = 0 := by
  unfold Chk.refer
  split
  · rfl
  · split
    · rfl
    · split <;> rfl
theorem move_n0 (l : List Chk.Ck) (id : Int) (u : Chk.Un) : (Chk.move l id u).2.1 = 0 := by
  unfold Chk.move
  split
  · rfl
  · split
    · rfl
    · split
      · split <;> rfl
      · rfl
theorem lose_n0 (l : List Chk.Ck) (id : Int) : (Chk.lose l id).2.1 = 0 := by
  unfold Chk.lose
  split <;> rfl
theorem unrefer_n (l : List Chk.Ck) (id t n : Int) : (Chk.unrefer l id t n).2.1 = if (decide ((Chk.unrefer l id t n).2.1 = 1)) = true then 1 else 0 := by
  unfold Chk.unrefer
  split
  · rfl
  · split
    · rfl
    · split
      · rfl
      · split <;> rfl
theorem OpRes.before {w w0 w' : World} {F S : Nat → Prop} {a : Nat} {l : List Chk.Ck} (h0 : Below w.heap.size w w0) (h : OpRes w0 F S a l w') : OpRes w F S a l w' := by
  obtain ⟨F', S', h1, h2, h3, h4, h5⟩ := h
  have hs := h0.size
  exact ⟨F', S', h1, (Keep.of_below h0).trans h2, h3, fun b hb => (h4 b hb).imp id fun h => by omega, fun b hb => (h5 b hb).imp id fun h => by omega⟩
theorem OpRes.after {w w1 w' : World} {F S : Nat → Prop} {a : Nat} {l : List Chk.Ck} (h : OpRes w F S a l w1) (h1 : Below w1.heap.size w1 w') : OpRes w F S a l w' := by
  obtain ⟨F', S', ⟨t', ht⟩, h2, h3, h4, h5⟩ := h
  exact ⟨F', S', ⟨t', ht.below h1⟩, h2.then_below h1, fun b hb => Nat.lt_of_lt_of_le (h3 b hb) h1.size, h4, h5⟩
set_option maxRecDepth 100000 in
set_option maxHeartbeats 1600000 in
theorem do_add {w : World} {F S : Nat → Prop} {a : Nat} {t : TM} {l : List Chk.Ck} (h : TAt w F S a t l) (hb : ∀ b, F b ∨ S b → b < w.heap.size) (o : Chk.Op) (hp : Chk.inR o.pr 4294967296) (hk : o.kind = 1) :
    Calls Try.prog 28 #[.pointer (some ⟨a, 0, none⟩), opV o] w (StepRes w F S a (Chk.step l o)) := by
  have hbz : Below w.heap.size w (w.alloc (.cells (opL o).toArray 37)) := (Below.refl _ _).alloc (Nat.le_refl _) _
  have hrz := IsRow.new w 37 (opL o)
  have h0 := h.below hbz
  have hb0 : ∀ b, F b ∨ S b → b < (w.alloc (.cells (opL o).toArray 37)).heap.size := fun b hb' => Nat.lt_of_lt_of_le (hb b hb') hbz.size
  have hnS : ¬ S w.heap.size := fun e => by have := hb _ (.inr e); omega
  have hlt : w.heap.size < (w.alloc (.cells (opL o).toArray 37)).heap.size := by simp
  obtain ⟨w0, hw0⟩ : ∃ y, w.alloc (.cells (opL o).toArray 37) = y := ⟨_, rfl⟩
  rw [hw0] at hbz hrz h0 hb0 hlt
  have HW0 : Hid (w.alloc (.cells #[.int .i64 o.kind, .int .i64 o.id, .int .i64 o.t, .int .i64 o.n, .int .i64 o.u.r, .int .i64 o.u.g, .int .i64 o.u.u, .int .u8 (o.d.toNat : Int), .int .u32 o.pr] 37) = w0) := Lib.hid hw0
  have HB0 := Lib.hid hbz
  have HNS := Lib.hid (And.intro hnS hlt)
  have x0 := hrz.cell 0
  have x1 := hrz.cell 1
  have x2 := hrz.cell 2
  have x3 := hrz.cell 3
  have x4 := hrz.cell 4
  have x5 := hrz.cell 5
  have x6 := hrz.cell 6
  have x7 := hrz.cell 7
  have x8 := hrz.cell 8
  unfold opL at x0 x1 x2 x3 x4 x5 x6 x7 x8
  dsimp only [List.getElem?_cons_zero, List.getElem?_cons_succ] at x0 x1 x2 x3 x4 x5 x6 x7 x8
  have HST : Hid (Chk.step l o = Chk.add l (Chk.dig o.d) o.pr o.u o.t) := Lib.hid (by unfold Chk.step; rw [if_pos hk])
  rw [HST.out]
  rw [hk] at x0 HW0
  have HDG := Lib.hid (fun W => digest_any o.d W)
  have HAD := Lib.hid (fun (W : World) (hW : Below w0.heap.size w0 W) => add_any (h0.below hW) (fun b hb' => Nat.lt_of_lt_of_le (hb0 b hb') hW.size) (Chk.dig o.d) (by unfold Chk.dig; simp) o.pr hp o.u o.t)
  unfold unV at HAD
  have HX := Lib.hid (And.intro x2 (And.intro x4 (And.intro x5 (And.intro x6 (And.intro x7 x8)))))
  obtain ⟨R, hR⟩ : ∃ R, Chk.add l (Chk.dig o.d) o.pr o.u o.t = R := ⟨_, rfl⟩
  rw [hR] at HAD ⊢
  clear x1 x2 x3 x4 x5 x6 x7 x8 hR
  clear HST
  clear hw0 hbz hrz h0 hb0 hlt hnS h hb hp
  unfold opV
  rw [hk]
  go_enter Try.func28, Try.ntmps28
  go_upto_region 1 with fail
  rw [HW0.out]
  clear hk
  go_upto_region 3 with fail
  clear x0
  have hv0 : Below w0.heap.size w0 w0.drew := (Below.refl _ _).drew
  refine wp_region_held_drew (S := fun W => Keep S w0 W) (by kernel_rfl) (Keep.of_below hv0) (fun hHeld => ?_)
  refine wpAnyH_take (i := 0) (oi := { dst := some 12, op := Op.move (Operand.tmp 0), type := 27, pos := "law.go:36", after := #[], guard := none }) (v := ?v0_1) rfl (by kernel_rfl) (by kernel_rfl) (by kernel_rfl) (fun _ _ _ h => h) (Or.inl ⟨by rfl, ?h0_1⟩) (by assumption) ?r0_1
  case h0_1 =>
    intro W hSW
    try dsimp only at hSW
    go_simp
    try with_reducible rfl
  try simp only [Act.put, List.setIfInBounds_toArray, List.set_cons_zero, List.set_cons_succ]
  refine wpAnyH_take (i := 1) (oi := { dst := some 13, op := Op.fieldAddr 37 (Operand.tmp 3) 5, type := 0, pos := "law.go:36", after := #[], guard := none }) (v := ?v1_2) rfl (by kernel_rfl) (by kernel_rfl) (by kernel_rfl) (fun _ _ _ h => h) (Or.inl ⟨by rfl, ?h1_2⟩) (by assumption) ?r1_2
  case h1_2 =>
    intro W hSW
    try dsimp only at hSW
    go_simp
    try with_reducible rfl
  try simp only [Act.put, List.setIfInBounds_toArray, List.set_cons_zero, List.set_cons_succ]
  refine wpAnyH_take (i := 2) (oi := { dst := some 14, op := Op.load 5 (Operand.tmp 13), type := 5, pos := "law.go:36", after := #[{ on := 1, ground := Ground.data }], guard := none }) (v := ?v2_3) rfl (by kernel_rfl) (by kernel_rfl) (by kernel_rfl) (fun _ _ _ h => h) (Or.inl ⟨by rfl, ?h2_3⟩) (by assumption) ?r2_3
  case h2_3 =>
    intro W hSW
    try dsimp only at hSW
    have c7 := (hSW.cell (p := ⟨w.heap.size, 7, none⟩) HNS.out.2 HNS.out.1).trans HX.out.2.2.2.2.1
    go_simp
    try with_reducible rfl
  try simp only [Act.put, List.setIfInBounds_toArray, List.set_cons_zero, List.set_cons_succ]
  refine wpAnyH_take (i := 4) (oi := { dst := some 16, op := Op.fieldAddr 37 (Operand.tmp 3) 6, type := 0, pos := "law.go:36", after := #[], guard := none }) (v := ?v4_4) rfl (by kernel_rfl) (by kernel_rfl) (by kernel_rfl) (fun _ _ _ h => h) (Or.inl ⟨by rfl, ?h4_4⟩) (by assumption) ?r4_4
  case h4_4 =>
    intro W hSW
    try dsimp only at hSW
    go_simp
    try with_reducible rfl
  try simp only [Act.put, List.setIfInBounds_toArray, List.set_cons_zero, List.set_cons_succ]
  refine wpAnyH_take (i := 5) (oi := { dst := some 17, op := Op.load 35 (Operand.tmp 16), type := 35, pos := "law.go:36", after := #[{ on := 4, ground := Ground.data }], guard := none }) (v := ?v5_5) rfl (by kernel_rfl) (by kernel_rfl) (by kernel_rfl) (fun _ _ _ h => h) (Or.inl ⟨by rfl, ?h5_5⟩) (by assumption) ?r5_5
  case h5_5 =>
    intro W hSW
    try dsimp only at hSW
    have c8 := (hSW.cell (p := ⟨w.heap.size, 8, none⟩) HNS.out.2 HNS.out.1).trans HX.out.2.2.2.2.2
    go_simp
    try with_reducible rfl
  try simp only [Act.put, List.setIfInBounds_toArray, List.set_cons_zero, List.set_cons_succ]
  refine wpAnyH_take (i := 6) (oi := { dst := some 18, op := Op.fieldAddr 37 (Operand.tmp 3) 4, type := 0, pos := "law.go:36", after := #[], guard := none }) (v := ?v6_6) rfl (by kernel_rfl) (by kernel_rfl) (by kernel_rfl) (fun _ _ _ h => h) (Or.inl ⟨by rfl, ?h6_6⟩) (by assumption) ?r6_6
  case h6_6 =>
    intro W hSW
    try dsimp only at hSW
    go_simp
    try with_reducible rfl
  try simp only [Act.put, List.setIfInBounds_toArray, List.set_cons_zero, List.set_cons_succ]
  refine wpAnyH_take (i := 7) (oi := { dst := some 19, op := Op.load 26 (Operand.tmp 18), type := 26, pos := "law.go:36", after := #[{ on := 6, ground := Ground.data }], guard := none }) (v := ?v7_7) rfl (by kernel_rfl) (by kernel_rfl) (by kernel_rfl) (fun _ _ _ h => h) (Or.inl ⟨by rfl, ?h7_7⟩) (by assumption) ?r7_7
  case h7_7 =>
    intro W hSW
    try dsimp only at hSW
    have c4 := (hSW.cell (p := ⟨w.heap.size, 4, none⟩) HNS.out.2 HNS.out.1).trans HX.out.2.1
    have c5 := (hSW.cell (p := ⟨w.heap.size, 5, none⟩) HNS.out.2 HNS.out.1).trans HX.out.2.2.1
    have c6 := (hSW.cell (p := ⟨w.heap.size, 6, none⟩) HNS.out.2 HNS.out.1).trans HX.out.2.2.2.1
    go_simp
    try with_reducible rfl
  try simp only [Act.put, List.setIfInBounds_toArray, List.set_cons_zero, List.set_cons_succ]
  refine wpAnyH_take (i := 8) (oi := { dst := some 20, op := Op.fieldAddr 37 (Operand.tmp 3) 2, type := 0, pos := "law.go:36", after := #[], guard := none }) (v := ?v8_8) rfl (by kernel_rfl) (by kernel_rfl) (by kernel_rfl) (fun _ _ _ h => h) (Or.inl ⟨by rfl, ?h8_8⟩) (by assumption) ?r8_8
  case h8_8 =>
    intro W hSW
    try dsimp only at hSW
    go_simp
    try with_reducible rfl
  try simp only [Act.put, List.setIfInBounds_toArray, List.set_cons_zero, List.set_cons_succ]
  refine wpAnyH_take (i := 9) (oi := { dst := some 21, op := Op.load 3 (Operand.tmp 20), type := 3, pos := "law.go:36", after := #[{ on := 8, ground := Ground.data }], guard := none }) (v := ?v9_9) rfl (by kernel_rfl) (by kernel_rfl) (by kernel_rfl) (fun _ _ _ h => h) (Or.inl ⟨by rfl, ?h9_9⟩) (by assumption) ?r9_9
  case h9_9 =>
    intro W hSW
    try dsimp only at hSW
    have c2 := (hSW.cell (p := ⟨w.heap.size, 2, none⟩) HNS.out.2 HNS.out.1).trans HX.out.1
    go_simp
    try with_reducible rfl
  try simp only [Act.put, List.setIfInBounds_toArray, List.set_cons_zero, List.set_cons_succ]
  refine wpAnyH_ready (rs := [3]) (by kernel_rfl) (by simp) ?_
  refine AllReadyH.cons (o := { dst := some 15, op := Op.call { callee := Callee.value (Operand.func 23), args := #[Operand.tmp 14], argTypes := #[5] }, type := 42, pos := "law.go:36", after := #[{ on := 2, ground := Ground.data }], guard := none }) rfl (fun K hK => ?_) AllReadyH.nil
  go_simp
  refine (HDG.out _).mono ?_
  rintro e w70 ⟨rfl, b70⟩
  have hv70 : Below w0.heap.size w0 w70 := (hv0).trans (b70.mono (hv0).size)
  clear b70
  refine hK.out _ _ (Keep.of_below hv70) (fun hHeld => ?_)
  clear hK K
  try simp only [Act.put, List.setIfInBounds_toArray, List.set_cons_zero, List.set_cons_succ]
  refine wpAnyH_ready (rs := [10]) (by kernel_rfl) (by simp) ?_
  refine AllReadyH.cons (o := { dst := some 22, op := Op.call { callee := Callee.value (Operand.func 40), args := #[Operand.tmp 12, Operand.tmp 15, Operand.tmp 17, Operand.tmp 19, Operand.tmp 21], argTypes := #[27, 42, 35, 26, 3] }, type := 39, pos := "law.go:36", after := #[{ on := 0, ground := Ground.data }, { on := 3, ground := Ground.data }, { on := 5, ground := Ground.data }, { on := 7, ground := Ground.data }, { on := 9, ground := Ground.data }, { on := 3, ground := Ground.chain }], guard := none }) rfl (fun K hK => ?_) AllReadyH.nil
  go_simp
  refine (HAD.out _ hv70).mono ?_
  rintro e w71 ⟨rfl, F', S', h1, h2, h3, h4, h5⟩
  have hv71 : Keep S w0 w71 := (Keep.of_below hv70).trans h2
  have hbf := hv70
  have HFIN : Hid (OpRes w0 F S a R.1 w71) := Lib.hid ⟨F', S', h1, hv71, h3, fun b hb => (h4 b hb).imp id fun h => Nat.le_trans hbf.size h, fun b hb => (h5 b hb).imp id fun h => Nat.le_trans hbf.size h⟩
  clear h1 h2 h3 h4 h5 hbf
  refine hK.out _ _ hv71 (fun hHeld => ?_)
  clear hK K
  try simp only [Act.put, List.setIfInBounds_toArray, List.set_cons_zero, List.set_cons_succ]
  refine wpAnyH_take (i := 11) (oi := { dst := some 23, op := Op.extract (Operand.tmp 22) 0, type := 3, pos := "law.go:36", after := #[{ on := 10, ground := Ground.data }], guard := none }) (v := ?v11_10) rfl (by kernel_rfl) (by kernel_rfl) (by kernel_rfl) (fun _ _ _ h => h) (Or.inl ⟨by rfl, ?h11_10⟩) (by assumption) ?r11_10
  case h11_10 =>
    intro W hSW
    try dsimp only at hSW
    go_simp
    try with_reducible rfl
  try simp only [Act.put, List.setIfInBounds_toArray, List.set_cons_zero, List.set_cons_succ]
  refine wpAnyH_take (i := 12) (oi := { dst := some 24, op := Op.extract (Operand.tmp 22) 1, type := 38, pos := "law.go:36", after := #[{ on := 10, ground := Ground.data }], guard := none }) (v := ?v12_11) rfl (by kernel_rfl) (by kernel_rfl) (by kernel_rfl) (fun _ _ _ h => h) (Or.inl ⟨by rfl, ?h12_11⟩) (by assumption) ?r12_11
  case h12_11 =>
    intro W hSW
    try dsimp only at hSW
    go_simp
    try with_reducible rfl
  try simp only [Act.put, List.setIfInBounds_toArray, List.set_cons_zero, List.set_cons_succ]
  refine wpAnyH_take (i := 13) (oi := { dst := some 4, op := Op.assign (Operand.tmp 23), type := 3, pos := "law.go:36", after := #[{ on := 11, ground := Ground.data }, { on := 10, ground := Ground.chain }, { on := 0, ground := Ground.phase }, { on := 1, ground := Ground.phase }, { on := 2, ground := Ground.phase }, { on := 3, ground := Ground.phase }, { on := 4, ground := Ground.phase }, { on := 5, ground := Ground.phase }, { on := 6, ground := Ground.phase }, { on := 7, ground := Ground.phase }, { on := 8, ground := Ground.phase }, { on := 9, ground := Ground.phase }, { on := 10, ground := Ground.phase }, { on := 11, ground := Ground.phase }, { on := 12, ground := Ground.phase }], guard := none }) (v := ?v13_12) rfl (by kernel_rfl) (by kernel_rfl) (by kernel_rfl) (fun _ _ _ h => h) (Or.inl ⟨by rfl, ?h13_12⟩) (by assumption) ?r13_12
  case h13_12 =>
    intro W hSW
    try dsimp only at hSW
    go_simp
    try with_reducible rfl
  try simp only [Act.put, List.setIfInBounds_toArray, List.set_cons_zero, List.set_cons_succ]
  refine wpAnyH_take (i := 14) (oi := { dst := some 5, op := Op.assign (Operand.tmp 24), type := 38, pos := "law.go:36", after := #[{ on := 12, ground := Ground.data }, { on := 13, ground := Ground.chain }, { on := 0, ground := Ground.phase }, { on := 1, ground := Ground.phase }, { on := 2, ground := Ground.phase }, { on := 3, ground := Ground.phase }, { on := 4, ground := Ground.phase }, { on := 5, ground := Ground.phase }, { on := 6, ground := Ground.phase }, { on := 7, ground := Ground.phase }, { on := 8, ground := Ground.phase }, { on := 9, ground := Ground.phase }, { on := 10, ground := Ground.phase }, { on := 11, ground := Ground.phase }, { on := 12, ground := Ground.phase }, { on := 13, ground := Ground.phase }], guard := none }) (v := ?v14_13) rfl (by kernel_rfl) (by kernel_rfl) (by kernel_rfl) (fun _ _ _ h => h) (Or.inl ⟨by rfl, ?h14_13⟩) (by assumption) ?r14_13
  case h14_13 =>
    intro W hSW
    try dsimp only at hSW
    go_simp
    try with_reducible rfl
  try simp only [Act.put, List.setIfInBounds_toArray, List.set_cons_zero, List.set_cons_succ]
  refine wpAnyH_done (by kernel_rfl) ?_ _
  go_wp2_with fail
  go_ret2
  exact ⟨rfl, OpRes.before HB0.out HFIN.out⟩
set_option maxRecDepth 100000 in
set_option maxHeartbeats 1600000 in
theorem do_refer {w : World} {F S : Nat → Prop} {a : Nat} {t : TM} {l : List Chk.Ck} (h : TAt w F S a t l) (hb : ∀ b, F b ∨ S b → b < w.heap.size) (o : Chk.Op) (hp : Chk.inR o.pr 4294967296) (hk : o.kind = 2) :
    Calls Try.prog 28 #[.pointer (some ⟨a, 0, none⟩), opV o] w (StepRes w F S a (Chk.step l o)) := by
  have hbz : Below w.heap.size w (w.alloc (.cells (opL o).toArray 37)) := (Below.refl _ _).alloc (Nat.le_refl _) _
  have hrz := IsRow.new w 37 (opL o)
  have h0 := h.below hbz
  have hb0 : ∀ b, F b ∨ S b → b < (w.alloc (.cells (opL o).toArray 37)).heap.size := fun b hb' => Nat.lt_of_lt_of_le (hb b hb') hbz.size
  have hnS : ¬ S w.heap.size := fun e => by have := hb _ (.inr e); omega
  have hlt : w.heap.size < (w.alloc (.cells (opL o).toArray 37)).heap.size := by simp
  obtain ⟨w0, hw0⟩ : ∃ y, w.alloc (.cells (opL o).toArray 37) = y := ⟨_, rfl⟩
  rw [hw0] at hbz hrz h0 hb0 hlt
  have HW0 : Hid (w.alloc (.cells #[.int .i64 o.kind, .int .i64 o.id, .int .i64 o.t, .int .i64 o.n, .int .i64 o.u.r, .int .i64 o.u.g, .int .i64 o.u.u, .int .u8 (o.d.toNat : Int), .int .u32 o.pr] 37) = w0) := Lib.hid hw0
  have HB0 := Lib.hid hbz
  have HNS := Lib.hid (And.intro hnS hlt)
  have x0 := hrz.cell 0
  have x1 := hrz.cell 1
  have x2 := hrz.cell 2
  have x3 := hrz.cell 3
  have x4 := hrz.cell 4
  have x5 := hrz.cell 5
  have x6 := hrz.cell 6
  have x7 := hrz.cell 7
  have x8 := hrz.cell 8
  unfold opL at x0 x1 x2 x3 x4 x5 x6 x7 x8
  dsimp only [List.getElem?_cons_zero, List.getElem?_cons_succ] at x0 x1 x2 x3 x4 x5 x6 x7 x8
  have HST : Hid (Chk.step l o = Chk.refer l o.id o.t o.n) := Lib.hid (by unfold Chk.step; rw [if_neg (by omega)]; rw [if_pos hk])
  rw [HST.out]
  rw [hk] at x0 HW0
  have HCA := Lib.hid (refer_any h0 hb0 o.id o.t o.n)
  have HN0 := Lib.hid (refer_n0 l o.id o.t o.n)
  obtain ⟨R, hR⟩ : ∃ R, Chk.refer l o.id o.t o.n = R := ⟨_, rfl⟩
  rw [hR] at HCA HN0 ⊢
  clear x4 x5 x6 x7 x8 hR HST
  clear hw0 hbz hrz h0 hb0 hlt hnS h hb hp
  unfold opV
  rw [hk]
  go_enter Try.func28, Try.ntmps28
  go_upto_region 1 with fail
  rw [HW0.out]
  clear hk
  go_wp2_with (go_at_call 41; refine HCA.out.mono ?_; rintro e w5 ⟨rfl, h5⟩)
  go_ret2
  refine ⟨by rw [HN0.out]; rfl, OpRes.before HB0.out h5⟩
set_option maxRecDepth 100000 in
set_option maxHeartbeats 1600000 in
theorem do_unrefer {w : World} {F S : Nat → Prop} {a : Nat} {t : TM} {l : List Chk.Ck} (h : TAt w F S a t l) (hb : ∀ b, F b ∨ S b → b < w.heap.size) (o : Chk.Op) (hp : Chk.inR o.pr 4294967296) (hk : o.kind = 3) :
    Calls Try.prog 28 #[.pointer (some ⟨a, 0, none⟩), opV o] w (StepRes w F S a (Chk.step l o)) := by
  have hbz : Below w.heap.size w (w.alloc (.cells (opL o).toArray 37)) := (Below.refl _ _).alloc (Nat.le_refl _) _
  have hrz := IsRow.new w 37 (opL o)
  have h0 := h.below hbz
  have hb0 : ∀ b, F b ∨ S b → b < (w.alloc (.cells (opL o).toArray 37)).heap.size := fun b hb' => Nat.lt_of_lt_of_le (hb b hb') hbz.size
  have hnS : ¬ S w.heap.size := fun e => by have := hb _ (.inr e); omega
  have hlt : w.heap.size < (w.alloc (.cells (opL o).toArray 37)).heap.size := by simp
  obtain ⟨w0, hw0⟩ : ∃ y, w.alloc (.cells (opL o).toArray 37) = y := ⟨_, rfl⟩
  rw [hw0] at hbz hrz h0 hb0 hlt
  have HW0 : Hid (w.alloc (.cells #[.int .i64 o.kind, .int .i64 o.id, .int .i64 o.t, .int .i64 o.n, .int .i64 o.u.r, .int .i64 o.u.g, .int .i64 o.u.u, .int .u8 (o.d.toNat : Int), .int .u32 o.pr] 37) = w0) := Lib.hid hw0
  have HB0 := Lib.hid hbz
  have HNS := Lib.hid (And.intro hnS hlt)
  have x0 := hrz.cell 0
  have x1 := hrz.cell 1
  have x2 := hrz.cell 2
  have x3 := hrz.cell 3
  have x4 := hrz.cell 4
  have x5 := hrz.cell 5
  have x6 := hrz.cell 6
  have x7 := hrz.cell 7
  have x8 := hrz.cell 8
  unfold opL at x0 x1 x2 x3 x4 x5 x6 x7 x8
  dsimp only [List.getElem?_cons_zero, List.getElem?_cons_succ] at x0 x1 x2 x3 x4 x5 x6 x7 x8
  have HST : Hid (Chk.step l o = Chk.unrefer l o.id o.t o.n) := Lib.hid (by unfold Chk.step; rw [if_neg (by omega)]; rw [if_neg (by omega)]; rw [if_pos hk])
  rw [HST.out]
  rw [hk] at x0 HW0
  have HCA := Lib.hid (unrefer_any h0 hb0 o.id o.t o.n)
  have hn := unrefer_n l o.id o.t o.n
  obtain ⟨R, hR⟩ : ∃ R, Chk.unrefer l o.id o.t o.n = R := ⟨_, rfl⟩
  rw [hR] at HCA hn ⊢
  obtain ⟨q, hq⟩ : ∃ q, decide (R.2.1 = 1) = q := ⟨_, rfl⟩
  rw [hq] at HCA hn
  have HN0 := Lib.hid hn
  clear x4 x5 x6 x7 x8 hR HST hn hq
  clear hw0 hbz hrz h0 hb0 hlt hnS h hb hp
  unfold opV
  rw [hk]
  go_enter Try.func28, Try.ntmps28
  go_upto_region 1 with fail
  rw [HW0.out]
  clear hk
  cases q with
  | true =>
    go_wp2_with (go_at_call 42; refine HCA.out.mono ?_; rintro e w5 ⟨rfl, h5⟩)
    go_ret2
    refine ⟨by rw [HN0.out]; rfl, OpRes.before HB0.out h5⟩
  | false =>
    go_wp2_with (go_at_call 42; refine HCA.out.mono ?_; rintro e w5 ⟨rfl, h5⟩)
    go_ret2
    refine ⟨by rw [HN0.out]; rfl, OpRes.before HB0.out h5⟩
set_option maxRecDepth 100000 in
set_option maxHeartbeats 1600000 in
theorem do_move {w : World} {F S : Nat → Prop} {a : Nat} {t : TM} {l : List Chk.Ck} (h : TAt w F S a t l) (hb : ∀ b, F b ∨ S b → b < w.heap.size) (o : Chk.Op) (hp : Chk.inR o.pr 4294967296) (hk : o.kind = 4) :
    Calls Try.prog 28 #[.pointer (some ⟨a, 0, none⟩), opV o] w (StepRes w F S a (Chk.step l o)) := by
  have hbz : Below w.heap.size w (w.alloc (.cells (opL o).toArray 37)) := (Below.refl _ _).alloc (Nat.le_refl _) _
  have hrz := IsRow.new w 37 (opL o)
  have h0 := h.below hbz
  have hb0 : ∀ b, F b ∨ S b → b < (w.alloc (.cells (opL o).toArray 37)).heap.size := fun b hb' => Nat.lt_of_lt_of_le (hb b hb') hbz.size
  have hnS : ¬ S w.heap.size := fun e => by have := hb _ (.inr e); omega
  have hlt : w.heap.size < (w.alloc (.cells (opL o).toArray 37)).heap.size := by simp
  obtain ⟨w0, hw0⟩ : ∃ y, w.alloc (.cells (opL o).toArray 37) = y := ⟨_, rfl⟩
  rw [hw0] at hbz hrz h0 hb0 hlt
  have HW0 : Hid (w.alloc (.cells #[.int .i64 o.kind, .int .i64 o.id, .int .i64 o.t, .int .i64 o.n, .int .i64 o.u.r, .int .i64 o.u.g, .int .i64 o.u.u, .int .u8 (o.d.toNat : Int), .int .u32 o.pr] 37) = w0) := Lib.hid hw0
  have HB0 := Lib.hid hbz
  have HNS := Lib.hid (And.intro hnS hlt)
  have x0 := hrz.cell 0
  have x1 := hrz.cell 1
  have x2 := hrz.cell 2
  have x3 := hrz.cell 3
  have x4 := hrz.cell 4
  have x5 := hrz.cell 5
  have x6 := hrz.cell 6
  have x7 := hrz.cell 7
  have x8 := hrz.cell 8
  unfold opL at x0 x1 x2 x3 x4 x5 x6 x7 x8
  dsimp only [List.getElem?_cons_zero, List.getElem?_cons_succ] at x0 x1 x2 x3 x4 x5 x6 x7 x8
  have HST : Hid (Chk.step l o = Chk.move l o.id o.u) := Lib.hid (by unfold Chk.step; rw [if_neg (by omega)]; rw [if_neg (by omega)]; rw [if_neg (by omega)]; rw [if_pos hk])
  rw [HST.out]
  rw [hk] at x0 HW0
  have HCA := Lib.hid (move_any h0 o.id o.u)
  unfold unV at HCA
  have HN0 := Lib.hid (move_n0 l o.id o.u)
  have HBB := Lib.hid hb0
  obtain ⟨R, hR⟩ : ∃ R, Chk.move l o.id o.u = R := ⟨_, rfl⟩
  rw [hR] at HCA HN0 ⊢
  clear x2 x3 x7 x8 hR HST
  clear hw0 hbz hrz h0 hb0 hlt hnS h hb hp
  unfold opV
  rw [hk]
  go_enter Try.func28, Try.ntmps28
  go_upto_region 1 with fail
  rw [HW0.out]
  clear hk
  go_wp2_with (go_at_call 33; refine HCA.out.mono ?_; rintro e w5 ⟨rfl, t5, h51, h52⟩)
  go_ret2
  refine ⟨by rw [HN0.out]; rfl, OpRes.before HB0.out ⟨F, S, ⟨t5, h51⟩, h52, fun b hb => Nat.lt_of_lt_of_le (HBB.out b hb) h52.size, fun _ h => .inl h, fun _ h => .inl h⟩⟩
set_option maxRecDepth 100000 in
set_option maxHeartbeats 1600000 in
theorem do_lose {w : World} {F S : Nat → Prop} {a : Nat} {t : TM} {l : List Chk.Ck} (h : TAt w F S a t l) (hb : ∀ b, F b ∨ S b → b < w.heap.size) (o : Chk.Op) (hp : Chk.inR o.pr 4294967296) (hk : o.kind = 5) :
    Calls Try.prog 28 #[.pointer (some ⟨a, 0, none⟩), opV o] w (StepRes w F S a (Chk.step l o)) := by
  have hbz : Below w.heap.size w (w.alloc (.cells (opL o).toArray 37)) := (Below.refl _ _).alloc (Nat.le_refl _) _
  have hrz := IsRow.new w 37 (opL o)
  have h0 := h.below hbz
  have hb0 : ∀ b, F b ∨ S b → b < (w.alloc (.cells (opL o).toArray 37)).heap.size := fun b hb' => Nat.lt_of_lt_of_le (hb b hb') hbz.size
  have hnS : ¬ S w.heap.size := fun e => by have := hb _ (.inr e); omega
  have hlt : w.heap.size < (w.alloc (.cells (opL o).toArray 37)).heap.size := by simp
  obtain ⟨w0, hw0⟩ : ∃ y, w.alloc (.cells (opL o).toArray 37) = y := ⟨_, rfl⟩
  rw [hw0] at hbz hrz h0 hb0 hlt
  have HW0 : Hid (w.alloc (.cells #[.int .i64 o.kind, .int .i64 o.id, .int .i64 o.t, .int .i64 o.n, .int .i64 o.u.r, .int .i64 o.u.g, .int .i64 o.u.u, .int .u8 (o.d.toNat : Int), .int .u32 o.pr] 37) = w0) := Lib.hid hw0
  have HB0 := Lib.hid hbz
  have HNS := Lib.hid (And.intro hnS hlt)
  have x0 := hrz.cell 0
  have x1 := hrz.cell 1
  have x2 := hrz.cell 2
  have x3 := hrz.cell 3
  have x4 := hrz.cell 4
  have x5 := hrz.cell 5
  have x6 := hrz.cell 6
  have x7 := hrz.cell 7
  have x8 := hrz.cell 8
  unfold opL at x0 x1 x2 x3 x4 x5 x6 x7 x8
  dsimp only [List.getElem?_cons_zero, List.getElem?_cons_succ] at x0 x1 x2 x3 x4 x5 x6 x7 x8
  have HST : Hid (Chk.step l o = Chk.lose l o.id) := Lib.hid (by unfold Chk.step; rw [if_neg (by omega)]; rw [if_neg (by omega)]; rw [if_neg (by omega)]; rw [if_neg (by omega)]; rw [if_pos hk])
  rw [HST.out]
  rw [hk] at x0 HW0
  have HCA := Lib.hid (lose_any h0 o.id)
  have HN0 := Lib.hid (lose_n0 l o.id)
  have HBB := Lib.hid hb0
  obtain ⟨R, hR⟩ : ∃ R, Chk.lose l o.id = R := ⟨_, rfl⟩
  rw [hR] at HCA HN0 ⊢
  clear x2 x3 x4 x5 x6 x7 x8 hR HST
  clear hw0 hbz hrz h0 hb0 hlt hnS h hb hp
  unfold opV
  rw [hk]
  go_enter Try.func28, Try.ntmps28
  go_upto_region 1 with fail
  rw [HW0.out]
  clear hk
  go_wp2_with (go_at_call 32; refine HCA.out.mono ?_; rintro e w5 ⟨rfl, t5, h51, h52⟩)
  go_ret2
  refine ⟨by rw [HN0.out]; rfl, OpRes.before HB0.out ⟨F, S, ⟨t5, h51⟩, h52, fun b hb => Nat.lt_of_lt_of_le (HBB.out b hb) h52.size, fun _ h => .inl h, fun _ h => .inl h⟩⟩
set_option maxRecDepth 100000 in
set_option maxHeartbeats 1600000 in
theorem do_none {w : World} {F S : Nat → Prop} {a : Nat} {t : TM} {l : List Chk.Ck} (h : TAt w F S a t l) (hb : ∀ b, F b ∨ S b → b < w.heap.size) (o : Chk.Op) (hp : Chk.inR o.pr 4294967296) (k1 : o.kind ≠ 1) (k2 : o.kind ≠ 2) (k3 : o.kind ≠ 3) (k4 : o.kind ≠ 4) (k5 : o.kind ≠ 5) :
    Calls Try.prog 28 #[.pointer (some ⟨a, 0, none⟩), opV o] w (StepRes w F S a (Chk.step l o)) := by
  have hbz : Below w.heap.size w (w.alloc (.cells (opL o).toArray 37)) := (Below.refl _ _).alloc (Nat.le_refl _) _
  have hrz := IsRow.new w 37 (opL o)
  have h0 := h.below hbz
  have hb0 : ∀ b, F b ∨ S b → b < (w.alloc (.cells (opL o).toArray 37)).heap.size := fun b hb' => Nat.lt_of_lt_of_le (hb b hb') hbz.size
  have hnS : ¬ S w.heap.size := fun e => by have := hb _ (.inr e); omega
  have hlt : w.heap.size < (w.alloc (.cells (opL o).toArray 37)).heap.size := by simp
  obtain ⟨w0, hw0⟩ : ∃ y, w.alloc (.cells (opL o).toArray 37) = y := ⟨_, rfl⟩
  rw [hw0] at hbz hrz h0 hb0 hlt
  have HW0 : Hid (w.alloc (.cells #[.int .i64 o.kind, .int .i64 o.id, .int .i64 o.t, .int .i64 o.n, .int .i64 o.u.r, .int .i64 o.u.g, .int .i64 o.u.u, .int .u8 (o.d.toNat : Int), .int .u32 o.pr] 37) = w0) := Lib.hid hw0
  have HB0 := Lib.hid hbz
  have HNS := Lib.hid (And.intro hnS hlt)
  have x0 := hrz.cell 0
  have x1 := hrz.cell 1
  have x2 := hrz.cell 2
  have x3 := hrz.cell 3
  have x4 := hrz.cell 4
  have x5 := hrz.cell 5
  have x6 := hrz.cell 6
  have x7 := hrz.cell 7
  have x8 := hrz.cell 8
  unfold opL at x0 x1 x2 x3 x4 x5 x6 x7 x8
  dsimp only [List.getElem?_cons_zero, List.getElem?_cons_succ] at x0 x1 x2 x3 x4 x5 x6 x7 x8
  have HST : Hid (Chk.step l o = (l, 0, 0)) := Lib.hid (by unfold Chk.step; rw [if_neg k1, if_neg k2, if_neg k3, if_neg k4, if_neg k5])
  rw [HST.out]
  have HS := Lib.hid (OpRes.same h hb HB0.out)
  obtain ⟨k, hk⟩ : ∃ k, o.kind = k := ⟨_, rfl⟩
  rw [hk] at x0 HW0 k1 k2 k3 k4 k5
  have d1 : (k == 1) = false := by simpa using k1
  have d2 : (k == 2) = false := by simpa using k2
  have d3 : (k == 3) = false := by simpa using k3
  have d4 : (k == 4) = false := by simpa using k4
  have d5 : (k == 5) = false := by simpa using k5
  clear x1 x2 x3 x4 x5 x6 x7 x8 HST
  clear hw0 hbz hrz h0 hb0 hlt hnS h hb hp
  unfold opV
  rw [hk]
  go_enter Try.func28, Try.ntmps28
  go_upto_region 1 with fail
  rw [HW0.out]
  clear hk
  go_wp2
  go_ret2
  exact ⟨rfl, HS.out⟩
/-- the law's do on the program's table -/
theorem do_any {w : World} {F S : Nat → Prop} {a : Nat} {t : TM} {l : List Chk.Ck} (h : TAt w F S a t l) (hb : ∀ b, F b ∨ S b → b < w.heap.size) (o : Chk.Op) (hp : Chk.inR o.pr 4294967296) :
    Calls Try.prog 28 #[.pointer (some ⟨a, 0, none⟩), opV o] w (StepRes w F S a (Chk.step l o)) := by
  by_cases k1 : o.kind = 1
  · exact do_add h hb o hp k1
  by_cases k2 : o.kind = 2
  · exact do_refer h hb o hp k2
  by_cases k3 : o.kind = 3
  · exact do_unrefer h hb o hp k3
  by_cases k4 : o.kind = 4
  · exact do_move h hb o hp k4
  by_cases k5 : o.kind = 5
  · exact do_lose h hb o hp k5
  exact do_none h hb o hp k1 k2 k3 k4 k5
end
/-! Clone of the program's table. Conditions: the table is kept. -/
section
open Go.RowKit
theorem run_maps_clone_un (w : World) {r : Nat} {es : Array MapEntry} {clock : Nat} (hb : w.heap[r]? = some (.map es clock)) :
    (callFunc 84 #[.iface 88 (.map (some r))]).run Try.prog w = .ok (.value (.iface 88 (.map (some w.heap.size)))) (w.alloc (.map es clock)) := by
  rw [run_callFunc_extern Try.func84 (by kernel_rfl) (by kernel_rfl) (by kernel_rfl) (e := Extern.MapsClone.clone) (by kernel_rfl), run_maps_clone_sl w 88 hb]
  rfl
set_option maxHeartbeats 2000000 in
theorem mapsClone_any (b N : Nat) (M : Chk.Un → Option Value) (w : World) (h : MapIs w b unV M N) :
    Calls Try.prog 58 #[.map (some b)] w fun e w' => e = .returned (.map (some w.heap.size)) ∧ MapIs w' w.heap.size unV M N ∧ Below w.heap.size w w' := by
  obtain ⟨es, clock, L, hb, hr⟩ := h
  have hq := fun w => run_eql_map_nil_sl (P := Try.prog) w 88 _ _ (some b) Try.underlying88
  have hcl := run_maps_clone_un w hb
  have hta := fun (v : Value) W => run_typeAssert_map_sl (P := Try.prog) W 88 20 _ _ v Try.underlying88
  have HF : Hid (MapIs (w.alloc (.map es clock)) w.heap.size unV M N) := Lib.hid ⟨es, clock, L, (MapKept.heap_alloc w _).1, hr⟩
  clear hb hr
  go_enter Try.func58, Try.ntmps58
  go_wp2_with (simp only [hcl])
  go_ret
  exact ⟨rfl, HF.out, (Below.refl _ _).alloc (Nat.le_refl _) _⟩
theorem own_zeroC (w : World) (e : TypeId) (size : Nat) : (w.alloc (.cells #[] e)).ownsRow w.heap.size e size (.slice (some ⟨w.heap.size, 0, none⟩) 0 0) 0 [] :=
  ⟨by simp, .inr ⟨w.heap.size, 0, #[], rfl, Nat.le_refl _, heap_alloc_new w _, Nat.le_refl _, by unfold maxLen; omega, by simp, by simp⟩⟩
set_option maxHeartbeats 800000 in
theorem cloneC (A : Option Addr) (n c : Nat) (xs : List Value) (h1 : ∀ u ∈ xs, u.oneCell' = true) (hn : n ≤ 65536) (B : Nat) (w : World) (hr : Rd w B 23 A n xs) (hB : B ≤ w.heap.size) :
    Calls Try.prog 57 #[.slice A n c] w fun e w' => ∃ A' c', e = .returned (.slice A' n c') ∧ w'.ownsRow w.heap.size 45 23 (.slice A' n c') n xs ∧ Below w.heap.size w w' := by
  have he := fun w => Lib.run_eql_slice_nil (P := Try.prog) w 32 45 A n c 0 0 Try.underlying32
  cases A with
  | none =>
    have h0 : n = 0 := by
      rcases Nat.eq_zero_or_pos n with h | h
      · exact h
      · obtain ⟨b, off, e, _⟩ := hr.2 h; cases e
    subst h0
    obtain rfl : xs = [] := List.eq_nil_of_length_eq_zero (by have := hr.1; omega)
    go_enter Try.func57, Try.ntmps57
    go_wp2
    go_ret
    exact ⟨none, 0, rfl, World.ownsRow_nil _ _ _ _, Below.refl _ _⟩
  | some ad =>
    have he := fun w => (he w).trans (show _ = Result.ok (Value.bool false) w from rfl)
    have H1 := Lib.hid h1
    clear h1
    go_enter Try.func57, Try.ntmps57
    go_wp2_with (at_builtin; refine wpList_appR rfl (.tmp 5) (.tmp 6) 32 rfl w.heap.size 45 _ 23 88 chunkT (some ⟨w.heap.size, 0, none⟩) 0 0 [] (some ad) n c xs rfl rfl (own_zeroC w _ 23) ((hr.more hB).alloc (Nat.le_refl _) _) H1.out ((Below.refl _ _).alloc (Nat.le_refl _) _) (by omega) (Nat.le_refl _) (by simp) ?_; intro A1 c1 w1 own1 hb1; simp only [Nat.zero_add, List.nil_append] at own1; simp only [Nat.zero_add])
    go_ret
    exact ⟨A1, c1, rfl, own1, hb1⟩
/-- a copy of a table: blocks of its own, the references shared -/
def CloneRes (w : World) (F : Nat → Prop) (l : List Chk.Ck) (e : Ending) (w' : World) : Prop :=
  ∃ (a : Nat) (S : Nat → Prop), e = .returned (.pointer (some ⟨a, 0, none⟩)) ∧ (∃ t, TAt w' F S a t l) ∧ Below w.heap.size w w' ∧ (∀ b, S b → w.heap.size ≤ b ∧ b < w'.heap.size)
theorem TAt.cloned {w w' : World} {F S : Nat → Prop} {a : Nat} {t : TM} {l : List Chk.Ck} (h : TAt w F S a t l) (hb : ∀ b, F b ∨ S b → b < w.heap.size) {a2 m2 c2 : Nat} {A2 : Option Addr} (hB : Below w.heap.size w w')
    (hrow : IsRow w' a2 90 [.slice A2 t.n c2, .map (some m2)]) (ho : w'.ownsRow w.heap.size 45 23 (.slice A2 t.n c2) t.n (crs t.D)) (hm : MapIs w' m2 unV (unM l) t.N) (ha : w.heap.size ≤ a2) (hm2 : w.heap.size ≤ m2) (hne : a2 ≠ m2) :
    ∃ S2 : Nat → Prop, TAt w' F S2 a2 ⟨A2, t.n, c2, m2, t.N, t.D⟩ l ∧ (∀ b, S2 b → w.heap.size ≤ b ∧ b < w'.heap.size) := by
  have hAb : ∀ g, A2 = some g → w.heap.size ≤ g.block ∧ g.block < w'.heap.size ∧ g.block ≠ a2 ∧ g.block ≠ m2 := fun g hg => by
    have h1 := own_block_lt ho g hg
    refine ⟨h1.1, h1.2, fun e => ?_, fun e => ?_⟩
    · rcases ho.2 with ⟨h2, _⟩ | ⟨q, cap, cur, hv, _, hh, _⟩
      · rw [hg] at h2; cases h2
      · injection hv with h3
        rw [hg] at h3
        have h4 : g.block = q := congrArg Addr.block (Option.some.inj h3)
        have h5 : w'.heap[a2]? = _ := hrow
        rw [← h4, e, h5] at hh
        injection hh with hh
        injection hh with _ h6 _
        cases h6
    · rcases ho.2 with ⟨h2, _⟩ | ⟨q, cap, cur, hv, _, hh, _⟩
      · rw [hg] at h2; cases h2
      · injection hv with h3
        rw [hg] at h3
        have h4 : g.block = q := congrArg Addr.block (Option.some.inj h3)
        obtain ⟨es, clock, L, h5, _⟩ := hm
        rw [← h4, e, h5] at hh
        injection hh with hh
        cases hh
  refine ⟨fun b => b = a2 ∨ b = m2 ∨ ∃ g, A2 = some g ∧ b = g.block, ⟨hrow, own_base ho (Nat.zero_le _), h.d, hm, fun x hx => (h.ok x hx).keep (Keep.of_below (S := fun _ => False) hB) (fun _ _ e => e), .inl rfl, .inr (.inl rfl), fun g hg => .inr (.inr ⟨g, hg, rfl⟩), hne, fun g hg => ⟨(hAb g hg).2.2.1, (hAb g hg).2.2.2⟩, fun b hF hS => ?_, h.inv⟩, fun b hS => ?_⟩
  · have := hb b (.inl hF)
    rcases hS with e | e | ⟨g, hg, e⟩
    · omega
    · omega
    · have := (hAb g hg).1; omega
  · rcases hS with rfl | rfl | ⟨g, hg, rfl⟩
    · exact ⟨ha, hrow.lt⟩
    · exact ⟨hm2, hm.lt⟩
    · exact ⟨(hAb g hg).1, (hAb g hg).2.1⟩
theorem wp_boxRowC {P : Program} {w : World} {o : Oper} {a : Act} {K : Act → World → Prop} {Q : Exit → Act → World → Prop} (t : TypeId) (x : Operand) (ho : o.op = .box t x) (l : List Value) (hx : a.eval x = .agg l.toArray) (h : K (a.put o.dst (.pointer (some ⟨w.heap.size, 0, none⟩))) (w.alloc (.cells l.toArray t))) : o.wp P a w K Q := by
  unfold Oper.wp execOp
  simp only [ho, hx]
  simpa [Instr.box, go_sem] using h
set_option maxRecDepth 100000 in
set_option maxHeartbeats 1600000 in
theorem clone_any {w : World} {F S : Nat → Prop} {a : Nat} {t : TM} {l : List Chk.Ck} (h : TAt w F S a t l) (hb : ∀ b, F b ∨ S b → b < w.heap.size) :
    Calls Try.prog 35 #[.pointer (some ⟨a, 0, none⟩)] w (CloneRes w F l) := by
  have hcell := h.cells
  have HC := Lib.hid (And.intro hcell.1 (And.intro hcell.2 h.row.lt))
  have HSC := Lib.hid (fun (W : World) (hW : Below w.heap.size w W) => cloneC t.A t.n t.c (crs t.D) (fun u hu => by obtain ⟨x, _, hx⟩ := List.mem_flatMap.1 hu; exact cr_one x u hx) h.max w.heap.size W ((Rd.of_own h.own).below hW) hW.size)
  have HMC := Lib.hid (fun (W : World) (hW : Below w.heap.size w W) => mapsClone_any t.m t.N (unM l) W (h.below hW).map)
  have HFN := Lib.hid (fun (W : World) (a2 m2 c2 : Nat) (A2 : Option Addr) (hB : Below w.heap.size w W) hrow ho hm ha hm2 hne => h.cloned hb (a2 := a2) (m2 := m2) (c2 := c2) (A2 := A2) hB hrow ho hm ha hm2 hne)
  obtain ⟨N, hN⟩ : ∃ y, t.n = y := ⟨_, rfl⟩
  obtain ⟨C, hC⟩ : ∃ y, t.c = y := ⟨_, rfl⟩
  obtain ⟨A, hA⟩ : ∃ y, t.A = y := ⟨_, rfl⟩
  obtain ⟨m, hm⟩ : ∃ y, t.m = y := ⟨_, rfl⟩
  rw [hN, hC, hA] at HSC
  rw [hN, hC, hA, hm] at HC
  rw [hm] at HMC
  rw [hN] at HFN
  clear h hb hcell hN hC hA hm
  go_enter Try.func35, Try.ntmps35
  go_upto_region 1 with fail
  have hv0 : Below w.heap.size w w.drew := (Below.refl _ _).drew
  refine wp_region_held_drew (S := fun W => Below w.heap.size w W) (by kernel_rfl) (hv0) (fun hHeld => ?_)
  refine wpAnyH_take (i := 0) (oi := { dst := some 3, op := Op.move (Operand.tmp 0), type := 27, pos := "chunks.go:239", after := #[], guard := none }) (v := ?v0_1) rfl (by kernel_rfl) (by kernel_rfl) (by kernel_rfl) (fun _ _ _ h => h) (Or.inl ⟨by rfl, ?h0_1⟩) (by assumption) ?r0_1
  case h0_1 =>
    intro W hSW
    try dsimp only at hSW
    go_simp
    try with_reducible rfl
  try simp only [Act.put, List.setIfInBounds_toArray, List.set_cons_zero, List.set_cons_succ]
  refine wpAnyH_take (i := 1) (oi := { dst := some 4, op := Op.nilCheck (Operand.tmp 3), type := 0, pos := "chunks.go:239", after := #[{ on := 0, ground := Ground.data }], guard := none }) (v := ?v1_2) rfl (by kernel_rfl) (by kernel_rfl) (by kernel_rfl) (fun _ _ _ h => h) (Or.inl ⟨by rfl, ?h1_2⟩) (by assumption) ?r1_2
  case h1_2 =>
    intro W hSW
    try dsimp only at hSW
    go_simp
    try with_reducible rfl
  try simp only [Act.put, List.setIfInBounds_toArray, List.set_cons_zero, List.set_cons_succ]
  refine wpAnyH_take (i := 2) (oi := { dst := some 5, op := Op.fieldAddr 90 (Operand.tmp 4) 0, type := 0, pos := "chunks.go:239", after := #[{ on := 1, ground := Ground.data }], guard := none }) (v := ?v2_3) rfl (by kernel_rfl) (by kernel_rfl) (by kernel_rfl) (fun _ _ _ h => h) (Or.inl ⟨by rfl, ?h2_3⟩) (by assumption) ?r2_3
  case h2_3 =>
    intro W hSW
    try dsimp only at hSW
    go_simp
    try with_reducible rfl
  try simp only [Act.put, List.setIfInBounds_toArray, List.set_cons_zero, List.set_cons_succ]
  refine wpAnyH_take (i := 3) (oi := { dst := some 6, op := Op.load 32 (Operand.tmp 5), type := 32, pos := "chunks.go:239", after := #[{ on := 2, ground := Ground.data }], guard := none }) (v := ?v3_4) rfl (by kernel_rfl) (by kernel_rfl) (by kernel_rfl) (fun _ _ _ h => h) (Or.inl ⟨by rfl, ?h3_4⟩) (by assumption) ?r3_4
  case h3_4 =>
    intro W hSW
    try dsimp only at hSW
    have hcc := (hSW.cell (p := ⟨a, 0, none⟩) HC.out.2.2).trans HC.out.1
    go_simp
    try with_reducible rfl
  try simp only [Act.put, List.setIfInBounds_toArray, List.set_cons_zero, List.set_cons_succ]
  refine wpAnyH_take (i := 5) (oi := { dst := some 8, op := Op.move (Operand.tmp 0), type := 27, pos := "chunks.go:239", after := #[], guard := none }) (v := ?v5_5) rfl (by kernel_rfl) (by kernel_rfl) (by kernel_rfl) (fun _ _ _ h => h) (Or.inl ⟨by rfl, ?h5_5⟩) (by assumption) ?r5_5
  case h5_5 =>
    intro W hSW
    try dsimp only at hSW
    go_simp
    try with_reducible rfl
  try simp only [Act.put, List.setIfInBounds_toArray, List.set_cons_zero, List.set_cons_succ]
  refine wpAnyH_take (i := 6) (oi := { dst := some 9, op := Op.nilCheck (Operand.tmp 8), type := 0, pos := "chunks.go:239", after := #[{ on := 5, ground := Ground.data }], guard := none }) (v := ?v6_6) rfl (by kernel_rfl) (by kernel_rfl) (by kernel_rfl) (fun _ _ _ h => h) (Or.inl ⟨by rfl, ?h6_6⟩) (by assumption) ?r6_6
  case h6_6 =>
    intro W hSW
    try dsimp only at hSW
    go_simp
    try with_reducible rfl
  try simp only [Act.put, List.setIfInBounds_toArray, List.set_cons_zero, List.set_cons_succ]
  refine wpAnyH_take (i := 7) (oi := { dst := some 10, op := Op.fieldAddr 90 (Operand.tmp 9) 1, type := 0, pos := "chunks.go:239", after := #[{ on := 6, ground := Ground.data }], guard := none }) (v := ?v7_7) rfl (by kernel_rfl) (by kernel_rfl) (by kernel_rfl) (fun _ _ _ h => h) (Or.inl ⟨by rfl, ?h7_7⟩) (by assumption) ?r7_7
  case h7_7 =>
    intro W hSW
    try dsimp only at hSW
    go_simp
    try with_reducible rfl
  try simp only [Act.put, List.setIfInBounds_toArray, List.set_cons_zero, List.set_cons_succ]
  refine wpAnyH_take (i := 8) (oi := { dst := some 11, op := Op.load 88 (Operand.tmp 10), type := 88, pos := "chunks.go:239", after := #[{ on := 7, ground := Ground.data }], guard := none }) (v := ?v8_8) rfl (by kernel_rfl) (by kernel_rfl) (by kernel_rfl) (fun _ _ _ h => h) (Or.inl ⟨by rfl, ?h8_8⟩) (by assumption) ?r8_8
  case h8_8 =>
    intro W hSW
    try dsimp only at hSW
    have hcc := (hSW.cell (p := ⟨a, 1, none⟩) HC.out.2.2).trans HC.out.2.1
    go_simp
    try with_reducible rfl
  try simp only [Act.put, List.setIfInBounds_toArray, List.set_cons_zero, List.set_cons_succ]
  refine wpAnyH_ready (rs := [4]) (by kernel_rfl) (by simp) ?_
  refine AllReadyH.cons (o := { dst := some 7, op := Op.call { callee := Callee.value (Operand.func 57), args := #[Operand.tmp 6], argTypes := #[32] }, type := 32, pos := "chunks.go:239", after := #[{ on := 3, ground := Ground.data }], guard := none }) rfl (fun K hK => ?_) AllReadyH.nil
  go_simp
  refine (HSC.out _ hv0).mono ?_
  rintro e w60 ⟨A2, c2, rfl, own2, b60⟩
  have hv60 : Below w.heap.size w w60 := (hv0).trans (b60.mono (hv0).size)
  have own2 := own_base own2 (hv0).size
  clear b60
  refine hK.out _ _ (hv60) (fun hHeld => ?_)
  clear hK K
  try simp only [Act.put, List.setIfInBounds_toArray, List.set_cons_zero, List.set_cons_succ]
  refine wpAnyH_ready (rs := [9]) (by kernel_rfl) (by simp) ?_
  refine AllReadyH.cons (o := { dst := some 12, op := Op.call { callee := Callee.value (Operand.func 58), args := #[Operand.tmp 11], argTypes := #[88] }, type := 88, pos := "chunks.go:239", after := #[{ on := 8, ground := Ground.data }, { on := 4, ground := Ground.chain }], guard := none }) rfl (fun K hK => ?_) AllReadyH.nil
  go_simp
  refine (HMC.out _ hv60).mono ?_
  obtain ⟨m2, hm2⟩ : ∃ y, w60.heap.size = y := ⟨_, rfl⟩
  rw [hm2]
  rintro e w61 ⟨rfl, map2, b61⟩
  have hs2 : w.heap.size ≤ m2 := by rw [← hm2]; exact (hv60).size
  rw [← hm2] at b61
  have hv61 : Below w.heap.size w w61 := (hv60).trans (b61.mono (hv60).size)
  have own2 := own_below own2 b61
  have hneq : ¬ w61.heap.size = m2 := fun e => by have := map2.lt; omega
  clear b61 hm2
  refine hK.out _ _ (hv61) (fun hHeld => ?_)
  clear hK K
  try simp only [Act.put, List.setIfInBounds_toArray, List.set_cons_zero, List.set_cons_succ]
  refine wpAnyH_take (i := 10) (oi := { dst := some 13, op := Op.build 90 #[(0, Operand.tmp 7), (1, Operand.tmp 12)], type := 90, pos := "chunks.go:239", after := #[{ on := 4, ground := Ground.data }, { on := 9, ground := Ground.data }], guard := none }) (v := ?v10_9) rfl (by kernel_rfl) (by kernel_rfl) (by kernel_rfl) (fun _ _ _ h => h) (Or.inl ⟨by rfl, ?h10_9⟩) (by assumption) ?r10_9
  case h10_9 =>
    intro W hSW
    try dsimp only at hSW
    go_simp
    try with_reducible rfl
  try simp only [Act.put, List.setIfInBounds_toArray, List.set_cons_zero, List.set_cons_succ]
  refine wpAnyH_ready (rs := [11]) (by kernel_rfl) (by simp) ?_
  refine AllReadyH.cons (o := { dst := some 14, op := Op.box 90 (Operand.tmp 13), type := 27, pos := "chunks.go:239", after := #[{ on := 10, ground := Ground.data }], guard := none }) rfl (fun K hK => ?_) AllReadyH.nil
  rw [if_pos (by rfl)]
  refine wp_boxRowC _ (.tmp 13) rfl [.slice A2 N c2, .map (some m2)] rfl ?_
  have rw2 := IsRow.new w61 90 [.slice A2 N c2, .map (some m2)]
  have map2 := map2.alloc (.cells #[.slice A2 N c2, .map (some m2)] 90)
  have bz : Below w61.heap.size w61 (w61.alloc (.cells #[.slice A2 N c2, .map (some m2)] 90)) := (Below.refl _ _).alloc (Nat.le_refl _) _
  have own2 := own_below own2 bz
  obtain ⟨w62, hw62⟩ : ∃ y, w61.alloc (.cells #[.slice A2 N c2, .map (some m2)] 90) = y := ⟨_, rfl⟩
  obtain ⟨a2, ha2⟩ : ∃ y, w61.heap.size = y := ⟨_, rfl⟩
  have hml := map2.lt
  rw [show ([.slice A2 N c2, .map (some m2)] : List Value).toArray = #[.slice A2 N c2, .map (some m2)] from rfl, hw62, ha2] at rw2
  rw [hw62] at map2 own2 bz
  rw [hw62, ha2]
  have hv62 : Below w.heap.size w w62 := (hv61).trans (bz.mono (hv61).size)
  have HFIN := Lib.hid (HFN.out w62 a2 m2 c2 A2 hv62 rw2 own2 map2 (by rw [← ha2]; exact (hv61).size) hs2 (fun e => hneq (ha2.trans e)))
  clear rw2 own2 map2 bz hml hw62 ha2
  refine hK.out _ _ (hv62) (fun hHeld => ?_)
  clear hK K
  try simp only [Act.put, List.setIfInBounds_toArray, List.set_cons_zero, List.set_cons_succ]
  refine wpAnyH_take (i := 12) (oi := { dst := some 2, op := Op.assign (Operand.tmp 14), type := 27, pos := "chunks.go:239", after := #[{ on := 11, ground := Ground.data }, { on := 9, ground := Ground.chain }, { on := 0, ground := Ground.phase }, { on := 1, ground := Ground.phase }, { on := 2, ground := Ground.phase }, { on := 3, ground := Ground.phase }, { on := 4, ground := Ground.phase }, { on := 5, ground := Ground.phase }, { on := 6, ground := Ground.phase }, { on := 7, ground := Ground.phase }, { on := 8, ground := Ground.phase }, { on := 9, ground := Ground.phase }, { on := 10, ground := Ground.phase }, { on := 11, ground := Ground.phase }], guard := none }) (v := ?v12_10) rfl (by kernel_rfl) (by kernel_rfl) (by kernel_rfl) (fun _ _ _ h => h) (Or.inl ⟨by rfl, ?h12_10⟩) (by assumption) ?r12_10
  case h12_10 =>
    intro W hSW
    try dsimp only at hSW
    go_simp
    try with_reducible rfl
  try simp only [Act.put, List.setIfInBounds_toArray, List.set_cons_zero, List.set_cons_succ]
  refine wpAnyH_done (by kernel_rfl) ?_ _
  go_wp2_with fail
  go_ret
  obtain ⟨S2, h1, h2⟩ := HFIN.out
  exact ⟨a2, S2, rfl, ⟨_, h1⟩, hv62, h2⟩
end
/-! Tables that a law makes; the law's build. Conditions: at most 120 operations, prints of 32 bits. -/
section
open Go.RowKit
/-- a table all of whose blocks are younger than the world w0 -/
def TabNew (w0 w : World) (a : Nat) (l : List Chk.Ck) : Prop := ∃ F S : Nat → Prop, (∃ t, TAt w F S a t l) ∧ (∀ b, F b ∨ S b → w0.heap.size ≤ b ∧ b < w.heap.size) ∧ Below w0.heap.size w0 w
section
variable {w0 w w' : World} {a : Nat} {l : List Chk.Ck}
theorem TabNew.below (h : TabNew w0 w a l) (hb : Below w.heap.size w w') : TabNew w0 w' a l := by
  obtain ⟨F, S, ⟨t, ht⟩, h2, h3⟩ := h
  exact ⟨F, S, ⟨t, ht.below hb⟩, fun b e => ⟨(h2 b e).1, Nat.lt_of_lt_of_le (h2 b e).2 hb.size⟩, h3.trans (hb.mono h3.size)⟩
theorem TabNew.op {F S : Nat → Prop} {t : TM} {l' : List Chk.Ck} (h2 : ∀ b, F b ∨ S b → w0.heap.size ≤ b ∧ b < w.heap.size) (h3 : Below w0.heap.size w0 w) (h : OpRes w F S a l' w') : TabNew w0 w' a l' := by
  obtain ⟨F', S', ht, h4, h5, h6, h7⟩ := h
  have hs := h3.size
  refine ⟨F', S', ht, fun b e => ⟨?_, h5 b e⟩, Below.then_keep h3 h4 (fun k hk => (h2 k (.inr hk)).1) (Nat.le_refl _)⟩
  rcases e with e | e
  · rcases h7 b e with h | h
    · exact (h2 b (.inl h)).1
    · omega
  · rcases h6 b e with h | h
    · exact (h2 b (.inr h)).1
    · omega
theorem TabNew.do_ (h : TabNew w0 w a l) (o : Chk.Op) (hp : Chk.inR o.pr 4294967296) :
    Calls Try.prog 28 #[.pointer (some ⟨a, 0, none⟩), opV o] w fun e w' => e = .returned (.tuple #[.int .i64 (Chk.step l o).2.1, .int .i64 (Chk.step l o).2.2]) ∧ TabNew w0 w' a (Chk.step l o).1 := by
  obtain ⟨F, S, ⟨t, ht⟩, h2, h3⟩ := h
  refine (do_any ht (fun b e => (h2 b e).2) o hp).mono ?_
  rintro e w' ⟨h4, h5⟩
  exact ⟨h4, TabNew.op (t := t) h2 h3 h5⟩
end
theorem new_new (w : World) : Calls Try.prog 27 #[] w fun e w' => ∃ a, e = .returned (.pointer (some ⟨a, 0, none⟩)) ∧ TabNew w w' a [] := by
  refine (new_any w (fun _ => False) (fun _ e => e.elim)).mono ?_
  rintro e w' ⟨rfl, h1, h2⟩
  refine ⟨_, rfl, _, _, ⟨_, h1⟩, fun b e => ?_, h2⟩
  have hlt := h1.row.lt
  rcases e with e | e | e
  · exact e.elim
  · omega
  · omega
abbrev zOp : List Value := [.int .i64 0, .int .i64 0, .int .i64 0, .int .i64 0, .int .i64 0, .int .i64 0, .int .i64 0, .int .u8 0, .int .u32 0]
theorem infoOp : (Try.prog.info? 37).map (fun i => (i.zero, i.size)) = some (some (.agg zOp.toArray), zOp.length) := by kernel_rfl
theorem sizeOp : (Try.prog.info? 37).map (·.size) = some 9 := by kernel_rfl
theorem opL_len (o : Chk.Op) : (opL o).length = 9 := rfl
theorem opL_one (o : Chk.Op) : (opL o).all (·.oneCell') = true := rfl
theorem run_take {ops : List Chk.Op} {j : Nat} (h : j < ops.length) (l : List Chk.Ck) : Chk.run l (ops.take (j + 1)) = (Chk.step (Chk.run l (ops.take j)) ops[j]).1 := by
  unfold Chk.run; rw [List.take_succ_eq_append_getElem h, List.foldl_append]; rfl
/-- what a script is: operations in memory -/
structure OpsAt (w : World) (A : Option Addr) (n : Nat) (ops : List Chk.Op) : Prop where
  rd : Rd w w.heap.size 9 A n (ops.flatMap opL)
  len : ops.length = n
  pr : ∀ o ∈ ops, Chk.inR o.pr 4294967296
theorem OpsAt.below {w w' : World} {A : Option Addr} {n : Nat} {ops : List Chk.Op} (h : OpsAt w A n ops) (hb : Below w.heap.size w w') : OpsAt w' A n ops := ⟨(h.rd.below hb).more hb.size, h.len, h.pr⟩
set_option maxRecDepth 100000 in
set_option maxHeartbeats 1600000 in
theorem build_long (A : Option Addr) (n c : Nat) (w : World) (hn : 120 < n) :
    Calls Try.prog 11 #[.slice A n c] w fun e w' => e = .returned (.tuple #[.pointer none, .bool false]) ∧ Below w.heap.size w w' := by
  have HN := Lib.hid (new_new w)
  have e1 : (120 : Int) < (n : Int) := by omega
  clear hn
  go_enter Try.func11, Try.ntmps11
  go_wp2_with (go_at_call 27; refine HN.out.mono ?_; rintro e w1 ⟨a, rfl, F, S, _, _, hb⟩)
  go_ret2
  exact ⟨rfl, hb⟩
set_option maxRecDepth 100000 in
set_option maxHeartbeats 1600000 in
theorem build_any (A : Option Addr) (n c : Nat) (ops : List Chk.Op) (w : World) (hn : n ≤ 120) (h : OpsAt w A n ops) :
    Calls Try.prog 11 #[.slice A n c] w fun e w' => ∃ a, e = .returned (.tuple #[.pointer (some ⟨a, 0, none⟩), .bool true]) ∧ TabNew w w' a (Chk.run [] ops) := by
  have HN := Lib.hid (new_new w)
  have HO := Lib.hid h
  have e0 : ¬ (120 : Int) < (n : Int) := by omega
  clear h
  go_enter Try.func11, Try.ntmps11
  go_upto_region 4 with (go_at_call 27; refine HN.out.mono ?_; rintro e w1 ⟨a, rfl, htab⟩)
  have HT1 := Lib.hid htab
  clear htab e0
  go_wp2_with fail
  go_loopw [17] (fun u17 wx => ∃ (wr : World) (j : Nat), wr = wx ∧ j ≤ n ∧ u17 = .int .i64 (j : Int) ∧ Hid (TabNew w wr a (Chk.run [] (ops.take j)))) (fun u17 _ => n - (intOf u17).toNat)
  case atStart => exact ⟨_, 0, rfl, Nat.zero_le _, rfl, HT1⟩
  case round =>
    obtain ⟨wr, j, rfl, hj, rfl, HTJ⟩ := hrel
    by_cases hlt : j < n
    · have hjl : j < ops.length := by rw [HO.out.len]; exact hlt
      have hbr : Below w.heap.size w wr := HTJ.out.elim fun F h => h.elim fun S h => h.2.2
      obtain ⟨b, off, rfl, hbb, hrg⟩ := HO.out.rd.elem (f := opL) (fun _ _ => rfl) hjl hlt
      have hpr := HO.out.pr ops[j] (List.getElem_mem hjl)
      have hst := run_take hjl []
      obtain ⟨o, ho⟩ : ∃ o, ops[j] = o := ⟨_, rfl⟩
      rw [ho] at hrg hpr hst
      have hrw : wr.rangeAt b (off + j * 9) (opL o) := fun q u hq => (hbr.cell (p := ⟨b, off + j * 9 + q, none⟩) hbb).trans (hrg q u hq)
      have HDO := Lib.hid (fun (W : World) (hW : Below wr.heap.size wr W) => (HTJ.out.below hW).do_ o hpr)
      rw [← hst] at HDO
      obtain ⟨os, hos⟩ : ∃ os, opL o = os := ⟨_, rfl⟩
      have HOV : Hid (opV o = .agg os.toArray) := Lib.hid (by rw [← hos]; rfl)
      rw [HOV.out] at HDO
      rw [hos] at hrw
      have HLN := Lib.hid (show os.length = 9 by rw [← hos]; rfl)
      have HON := Lib.hid (show os.all (·.oneCell') = true by rw [← hos]; rfl)
      have e1 : (0 : Int) ≤ (j : Int) := by omega
      have e2 : (j : Int) < (n : Int) := by omega
      clear hjl hbr hbb hrg hpr hst ho hos
      go_upto_region 7 with (first
        | (refine wpList_load_mid rfl _ (.tmp 19) rfl b (off + j * 9) rfl os _ hrw Try.underlying37 rfl (by rw [HLN.out]; exact sizeOp) ?_)
        | (refine wpList_allocRow rfl _ rfl _ infoOp ?_; intro w3 rz3 b3 z3; clear z3)
        | (refine wpList_storeRow rfl _ (.tmp 6) (.tmp 20) rfl (l' := os) rz3 rfl rfl (by rw [HLN.out]; exact sizeOp) (by rw [HLN.out]; rfl) HON.out ?_; intro w4 rz4 g4 z4; clear z4))
      have hb4 : Below wr.heap.size wr w4 := b3.grown g4 b3.size (fun i hi => by have := Option.some.inj hi; omega)
      obtain ⟨b6, hb6⟩ : ∃ y, wr.heap.size = y := ⟨_, rfl⟩
      rw [hb6] at rz4 ⊢
      have hr4 : w4.rangeAt b6 0 os := fun q u hu => by rw [Nat.zero_add, rz4.cell]; exact hu
      have HD4 := Lib.hid (HDO.out w4 hb4)
      clear rz3 b3 g4 hrw hb4 hb6 rz4
      try simp only [Act.put, List.setIfInBounds_toArray, List.set_cons_zero, List.set_cons_succ]
      go_wp2_with (first
        | (refine wpList_load_mid rfl _ (.tmp 6) rfl b6 0 rfl os _ hr4 Try.underlying37 rfl (by rw [HLN.out]; exact sizeOp) ?_)
        | (go_at_call 28; refine HD4.out.mono ?_; rintro e w5 ⟨rfl, htab⟩; have HT5 := Lib.hid htab; clear htab))
      go_roundw
      case rel => exact ⟨_, j + 1, rfl, by omega, by go_num, HT5⟩
      case measure => simp [intOf]; omega
    · obtain rfl : j = n := by omega
      have HE := Lib.hid (show ops.take j = ops from List.take_of_length_le (by rw [HO.out.len]; exact Nat.le_refl _))
      go_wp2_with fail
      go_ret2
      have h := HTJ.out
      rw [HE.out] at h
      exact ⟨a, rfl, h⟩
end
/-! Tables that a law makes, beside blocks of the law's own: each call on a table. Conditions: as the calls' contracts say. -/
section
open Go.RowKit
/-- the blocks G are as they were -/
def SameG (w w' : World) (G : Nat → Prop) : Prop := ∀ b, G b → w'.heap[b]? = w.heap[b]?
/-- a table all of whose blocks are younger than the world w0; none of the blocks G is its own -/
def TabG (w0 w : World) (a : Nat) (l : List Chk.Ck) (G : Nat → Prop) : Prop :=
  ∃ F S : Nat → Prop, (∃ t, TAt w F S a t l) ∧ (∀ b, F b ∨ S b → w0.heap.size ≤ b ∧ b < w.heap.size) ∧ Below w0.heap.size w0 w ∧ (∀ b, G b → b < w.heap.size ∧ ¬ S b ∧ ¬ F b)
section
variable {w0 w w' w'' : World} {a : Nat} {l l' : List Chk.Ck} {G : Nat → Prop}
theorem SameG.refl (w : World) (G : Nat → Prop) : SameG w w G := fun _ _ => rfl
theorem SameG.trans (h : SameG w w' G) (k : SameG w' w'' G) : SameG w w'' G := fun b hb => (k b hb).trans (h b hb)
theorem SameG.of_below (h : Below w.heap.size w w') (hG : ∀ b, G b → b < w.heap.size) : SameG w w' G := fun b hb => h.block b (hG b hb)
theorem SameG.mono {G' : Nat → Prop} (h : SameG w w' G) (hG : ∀ b, G' b → G b) : SameG w w' G' := fun b hb => h b (hG b hb)
theorem SameG.row (h : SameG w w' G) {b t : Nat} {xs : List Value} (hr : IsRow w b t xs) (hb : G b) : IsRow w' b t xs := hr.keep (h b hb)
theorem TabNew.g (h : TabNew w0 w a l) : TabG w0 w a l (fun _ => False) := by obtain ⟨F, S, h1, h2, h3⟩ := h; exact ⟨F, S, h1, h2, h3, fun _ e => e.elim⟩
theorem TabG.b (h : TabG w0 w a l G) : Below w0.heap.size w0 w := by obtain ⟨F, S, _, _, h3, _⟩ := h; exact h3
theorem TabG.lt (h : TabG w0 w a l G) : ∀ b, G b → b < w.heap.size := by obtain ⟨F, S, _, _, _, h4⟩ := h; exact fun b hb => (h4 b hb).1
theorem TabG.inv (h : TabG w0 w a l G) : Chk.Inv l := by obtain ⟨F, S, ⟨t, ht⟩, _⟩ := h; exact ht.inv
theorem TabG.max (h : TabG w0 w a l G) : l.length ≤ 65536 := by
  obtain ⟨F, S, ⟨t, ht⟩, _⟩ := h
  rw [ht.len.1]; exact ht.max
theorem TabG.below (h : TabG w0 w a l G) (hb : Below w.heap.size w w') : TabG w0 w' a l G := by
  obtain ⟨F, S, ⟨t, ht⟩, h2, h3, h4⟩ := h
  exact ⟨F, S, ⟨t, ht.below hb⟩, fun b e => ⟨(h2 b e).1, Nat.lt_of_lt_of_le (h2 b e).2 hb.size⟩, h3.trans (hb.mono h3.size), fun b e => ⟨Nat.lt_of_lt_of_le (h4 b e).1 hb.size, (h4 b e).2⟩⟩
theorem TabG.more (h : TabG w0 w a l G) (hb : Below w.heap.size w w') (x : Nat) (hx1 : w.heap.size ≤ x) (hx2 : x < w'.heap.size) : TabG w0 w' a l (fun b => G b ∨ b = x) := by
  obtain ⟨F, S, ⟨t, ht⟩, h2, h3, h4⟩ := h
  refine ⟨F, S, ⟨t, ht.below hb⟩, fun b e => ⟨(h2 b e).1, Nat.lt_of_lt_of_le (h2 b e).2 hb.size⟩, h3.trans (hb.mono h3.size), fun b e => ?_⟩
  rcases e with e | rfl
  · exact ⟨Nat.lt_of_lt_of_le (h4 b e).1 hb.size, (h4 b e).2⟩
  · exact ⟨hx2, fun hS => by have := (h2 b (.inr hS)).2; omega, fun hF => by have := (h2 b (.inl hF)).2; omega⟩
theorem TabG.less {G' : Nat → Prop} (h : TabG w0 w a l G) (hG : ∀ b, G' b → G b) : TabG w0 w a l G' := by
  obtain ⟨F, S, h1, h2, h3, h4⟩ := h
  exact ⟨F, S, h1, h2, h3, fun b e => h4 b (hG b e)⟩
/-- a block of the law's own is changed -/
theorem TabG.turn (h : TabG w0 w a l G) {x : Nat} (hx : G x) (hx0 : w0.heap.size ≤ x) (hk : Keep (fun b => b = x) w w') : TabG w0 w' a l G := by
  obtain ⟨F, S, ⟨t, ht⟩, h2, h3, h4⟩ := h
  exact ⟨F, S, ⟨t, ht.keep hk (fun b hS e => (h4 x hx).2.1 (e ▸ hS)) (fun b hF' e => (h4 x hx).2.2 (e ▸ hF'))⟩, fun b e => ⟨(h2 b e).1, Nat.lt_of_lt_of_le (h2 b e).2 hk.size⟩, Below.then_keep h3 hk (fun k e => by rw [e]; exact hx0) (Nat.le_refl _), fun b e => ⟨Nat.lt_of_lt_of_le (h4 b e).1 hk.size, (h4 b e).2⟩⟩
theorem TabG.op {F S : Nat → Prop} (h2 : ∀ b, F b ∨ S b → w0.heap.size ≤ b ∧ b < w.heap.size) (h3 : Below w0.heap.size w0 w) (hg : ∀ b, G b → b < w.heap.size ∧ ¬ S b ∧ ¬ F b) (h : OpRes w F S a l' w') : TabG w0 w' a l' G ∧ SameG w w' G := by
  obtain ⟨F', S', ht, h4, h5, h6, h7⟩ := h
  have hs := h3.size
  refine ⟨⟨F', S', ht, fun b e => ⟨?_, h5 b e⟩, Below.then_keep h3 h4 (fun k hk => (h2 k (.inr hk)).1) (Nat.le_refl _), fun b e => ⟨Nat.lt_of_lt_of_le (hg b e).1 h4.size, fun hS => ?_, fun hF => ?_⟩⟩, fun b e => h4.block b (hg b e).1 (hg b e).2.1⟩
  · rcases e with e | e
    · rcases h7 b e with h | h
      · exact (h2 b (.inl h)).1
      · omega
    · rcases h6 b e with h | h
      · exact (h2 b (.inr h)).1
      · omega
  · rcases h6 b hS with h | h
    · exact (hg b e).2.1 h
    · have := (hg b e).1; omega
  · rcases h7 b hF with h | h
    · exact (hg b e).2.2 h
    · have := (hg b e).1; omega
/-- a call that changes the table -/
theorem TabG.call {P : Program} {fn : FuncId} {args : Array Value} {Q : Ending → Prop} (h : TabG w0 w a l G) (hc : ∀ F S t, TAt w F S a t l → (∀ b, F b ∨ S b → b < w.heap.size) → Calls P fn args w fun e w' => Q e ∧ OpRes w F S a l' w') :
    Calls P fn args w fun e w' => Q e ∧ TabG w0 w' a l' G ∧ SameG w w' G := by
  obtain ⟨F, S, ⟨t, ht⟩, h2, h3, h4⟩ := h
  refine (hc F S t ht fun b e => (h2 b e).2).mono ?_
  rintro e w' ⟨h5, h6⟩
  exact ⟨h5, TabG.op h2 h3 h4 h6⟩
/-- a call that reads the table -/
theorem TabG.read {P : Program} {fn : FuncId} {args : Array Value} {Q : Ending → World → Prop} (h : TabG w0 w a l G) (hc : ∀ F S t, TAt w F S a t l → Calls P fn args w fun e w' => Q e w') : Calls P fn args w fun e w' => Q e w' := by
  obtain ⟨F, S, ⟨t, ht⟩, _⟩ := h
  exact hc F S t ht
end
section
variable {w0 w : World} {a : Nat} {l : List Chk.Ck} {G : Nat → Prop} (h : TabG w0 w a l G)
include h
theorem TabG.do_ (o : Chk.Op) (hp : Chk.inR o.pr 4294967296) :
    Calls Try.prog 28 #[.pointer (some ⟨a, 0, none⟩), opV o] w fun e w' => e = .returned (.tuple #[.int .i64 (Chk.step l o).2.1, .int .i64 (Chk.step l o).2.2]) ∧ TabG w0 w' a (Chk.step l o).1 G ∧ SameG w w' G :=
  h.call fun _ _ _ ht hb => do_any ht hb o hp
theorem TabG.add_ (dg : List UInt8) (hdg : dg.length = 16) (pr : Int) (hp : Chk.inR pr 4294967296) (u : Chk.Un) (tn : Int) {l' : List Chk.Ck} {n e : Int} (hR : Chk.add l dg pr u tn = (l', n, e)) :
    Calls Try.prog 40 #[.pointer (some ⟨a, 0, none⟩), .agg (bvs dg).toArray, .int .u32 pr, unV u, .int .i64 tn] w fun x w' => x = .returned (.tuple #[.int .i64 n, .int .i64 e]) ∧ TabG w0 w' a l' G ∧ SameG w w' G :=
  h.call fun _ _ _ ht hb => by have := add_any ht hb dg hdg pr hp u tn; rw [hR] at this; exact this
theorem TabG.refer_ (id tn n : Int) {l' : List Chk.Ck} {m e : Int} (hR : Chk.refer l id tn n = (l', m, e)) :
    Calls Try.prog 41 #[.pointer (some ⟨a, 0, none⟩), .int .i64 id, .int .i64 tn, .int .i64 n] w fun x w' => x = .returned (.int .i64 e) ∧ TabG w0 w' a l' G ∧ SameG w w' G :=
  h.call fun _ _ _ ht hb => by have := refer_any ht hb id tn n; rw [hR] at this; exact this
theorem TabG.unrefer_ (id tn n : Int) {l' : List Chk.Ck} {m e : Int} (q : Bool) (hR : Chk.unrefer l id tn n = (l', m, e)) (hq : decide (m = 1) = q) :
    Calls Try.prog 42 #[.pointer (some ⟨a, 0, none⟩), .int .i64 id, .int .i64 tn, .int .i64 n] w fun x w' => x = .returned (.tuple #[.bool q, .int .i64 e]) ∧ TabG w0 w' a l' G ∧ SameG w w' G :=
  h.call fun _ _ _ ht hb => by have := unrefer_any ht hb id tn n; rw [hR, hq] at this; exact this
theorem TabG.move_ (id : Int) (u : Chk.Un) {l' : List Chk.Ck} {m e : Int} (hR : Chk.move l id u = (l', m, e)) :
    Calls Try.prog 33 #[.pointer (some ⟨a, 0, none⟩), .int .i64 id, unV u] w fun x w' => x = .returned (.int .i64 e) ∧ TabG w0 w' a l' G ∧ SameG w w' G :=
  h.call fun F S _ ht hb => by
    have := move_any ht id u
    rw [hR] at this
    exact this.mono fun e w' ⟨h1, t5, h51, h52⟩ => ⟨h1, F, S, ⟨t5, h51⟩, h52, fun b e => Nat.lt_of_lt_of_le (hb b e) h52.size, fun _ h => .inl h, fun _ h => .inl h⟩
theorem TabG.lose_ (id : Int) {l' : List Chk.Ck} {m e : Int} (hR : Chk.lose l id = (l', m, e)) :
    Calls Try.prog 32 #[.pointer (some ⟨a, 0, none⟩), .int .i64 id] w fun x w' => x = .returned (.int .i64 e) ∧ TabG w0 w' a l' G ∧ SameG w w' G :=
  h.call fun F S _ ht hb => by
    have := lose_any ht id
    rw [hR] at this
    exact this.mono fun e w' ⟨h1, t5, h51, h52⟩ => ⟨h1, F, S, ⟨t5, h51⟩, h52, fun b e => Nat.lt_of_lt_of_le (hb b e) h52.size, fun _ h => .inl h, fun _ h => .inl h⟩
theorem TabG.getOk (id : Int) (k : Nat) (c : Chk.Ck) (hp : Chk.pos (Chk.ids l) id = some k) (hc : Chk.nth l k = c) : Calls Try.prog 14 #[.pointer (some ⟨a, 0, none⟩), .int .i64 id] w (GetOk c w) :=
  h.read fun _ _ _ ht => by subst hc; exact get_some ht id k hp
theorem TabG.getNo (id : Int) (hp : Chk.pos (Chk.ids l) id = none) : Calls Try.prog 14 #[.pointer (some ⟨a, 0, none⟩), .int .i64 id] w (GetNo w) :=
  h.read fun _ _ _ ht => get_none ht id hp
theorem TabG.at_ (u : Chk.Un) (v : Int) (q : Bool) (hv : (Chk.unitAt l u).getD 0 = v) (hq : (Chk.unitAt l u).isSome = q) : Calls Try.prog 16 #[.pointer (some ⟨a, 0, none⟩), unV u] w fun e w' => e = .returned (.tuple #[.int .i64 v, .bool q]) ∧ Below w.heap.size w w' :=
  h.read fun _ _ _ ht => by subst hv hq; exact at_any ht u
theorem TabG.live_ (r g : Int) (xs : List Int) (hx : Chk.live l r g = xs) (n : Nat) (hn : xs.length = n) : Calls Try.prog 20 #[.pointer (some ⟨a, 0, none⟩), .agg #[.int .i64 r, .int .i64 g]] w fun e w' => ∃ A c, e = .returned (.slice A n c) ∧ w'.ownsRow w.heap.size 3 1 (.slice A n c) n (ivs xs) ∧ Below w.heap.size w w' :=
  h.read fun _ _ _ ht => by subst hx hn; exact live_any ht r g
theorem TabG.lost_ (d : List UInt8) (hd : d.length = 16) (xs : List Int) (hx : Chk.lostIds l d = xs) (n : Nat) (hn : xs.length = n) : Calls Try.prog 22 #[.pointer (some ⟨a, 0, none⟩), .agg (bvs d).toArray] w fun e w' => ∃ A c, e = .returned (.slice A n c) ∧ w'.ownsRow w.heap.size 3 1 (.slice A n c) n (ivs xs) ∧ Below w.heap.size w w' :=
  h.read fun _ _ _ ht => by subst hx hn; exact lost_any ht d hd
theorem TabG.count_ (who v : Int) (hv : Chk.count l who = v) : Calls Try.prog 25 #[.pointer (some ⟨a, 0, none⟩), .int .i64 who] w fun e w' => e = .returned (.int .i64 v) ∧ Below w.heap.size w w' :=
  h.read fun _ _ _ ht => by subst hv; exact count_any ht who
theorem TabG.encode_ (x : List UInt8) (hx : Chk.encT l = x) : Calls Try.prog 36 #[.pointer (some ⟨a, 0, none⟩)] w (ChkEncRes w x) :=
  h.read fun _ _ _ ht => by subst hx; exact encode_any ht
theorem TabG.len_ (n : Nat) (hn : l.length = n) : Calls Try.prog 34 #[.pointer (some ⟨a, 0, none⟩)] w fun e w' => e = .returned (.int .i64 (n : Int)) ∧ w' = w :=
  h.read fun _ _ _ ht => by subst hn; exact len_any ht
theorem TabG.ids_ (n : Nat) (hn : l.length = n) (xs : List Int) (hx : Chk.ids l = xs) : Calls Try.prog 30 #[.pointer (some ⟨a, 0, none⟩)] w fun e w' => ∃ A c, e = .returned (.slice A n c) ∧ w'.ownsRow w.heap.size 3 1 (.slice A n c) n (ivs xs) ∧ Below w.heap.size w w' :=
  h.read fun _ _ _ ht => by subst hn hx; exact ids_any ht
end
end
end Go.Proofs.Ytcicfneekmbamaa
