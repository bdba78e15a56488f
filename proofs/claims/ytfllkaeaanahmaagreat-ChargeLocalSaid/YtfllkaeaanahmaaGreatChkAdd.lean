/- Joined texts: ChkU, ChkU2, ChkU3, ChkU4. Conditions: as each part says. -/
import Derived.Test.YtfllkaeaanahmaaGreatChkMv
import Derived.Great.BuildSlice
namespace Go.Proofs.YtfllkaeaanahmaaGreat
set_option linter.unusedVariables false
set_option linter.unusedSimpArgs false
section
open Go.RowKit
set_option maxRecDepth 100000 in
set_option maxHeartbeats 1600000 in
theorem add_unit {w : World} {F S : Nat → Prop} {a : Nat} {t : TM} {l : List Chk.Ck} (h : TAt w F S a t l) (dg : List UInt8) (hdg : dg.length = 16) (pr : Int) (u : Chk.Un) (tn : Int) (hu : ¬ Chk.valid u) :
  Calls Tryz.prog 29 #[.pointer (some ⟨a, 0, none⟩), .agg (bvs dg).toArray, .int .u32 pr, unV u, .int .i64 tn] w fun e w' => e = .returned (.tuple #[.int .i64 0, .int .i64 1]) ∧ Below w.heap.size w w' := by
 obtain ⟨v, hv⟩ : ∃ v, (Chk.unitAt l u).getD 0 = v := ⟨_, rfl⟩
 obtain ⟨s, hs⟩ : ∃ v, (Chk.unitAt l u).isSome = v := ⟨_, rfl⟩
 obtain ⟨m, hm⟩ : ∃ m, t.m = m := ⟨_, rfl⟩
 have HK := Lib.hid (fun W hW => h.look u W hW)
 rw [hv, hs, hm] at HK
 have HVA := Lib.hid (fun W S hS => valid_any u W S hS)
 have HTA := Lib.hid (fun W S hS => tenant_any tn W S hS)
 obtain ⟨r, g, n⟩ := u
 unfold unV at *
 obtain ⟨D, hD⟩ : ∃ D, bvs dg = D := ⟨_, rfl⟩
 have hDl : D.length = 16 := by rw [← hD, bvs_length, hdg]
 rw [hD]
 obtain ⟨w0, hw0⟩ : ∃ z, ((w.alloc (.cells #[.pointer (some ⟨a, 0, none⟩)] 28)).alloc (.cells D.toArray 60)).alloc (.cells #[.int .i64 r, .int .i64 g, .int .i64 n] 65) = z := ⟨_, rfl⟩
 have hb0 : Below w.heap.size w w0 := by rw [← hw0]; exact (((Below.refl _ w).alloc (Nat.le_refl _) _).alloc (by simp) _).alloc (by simp; omega) _
 have hz : w0.heap.size = w.heap.size + 3 := by rw [← hw0]; simp
 have hrd : IsRow w0 (w.heap.size + 1) 60 D := by
  rw [← hw0]
  have := (IsRow.new (w.alloc (.cells #[.pointer (some ⟨a, 0, none⟩)] 28)) 60 D).alloc (.cells #[.int .i64 r, .int .i64 g, .int .i64 n] 65)
  rwa [World.size_alloc] at this
 have hbx : w0.cell? ⟨w.heap.size, 0, none⟩ = some (.pointer (some ⟨a, 0, none⟩)) ∧ w0.cell? ⟨w.heap.size + 2, 0, none⟩ = some (.int .i64 r) ∧ w0.cell? ⟨w.heap.size + 2, 1, none⟩ = some (.int .i64 g) ∧ w0.cell? ⟨w.heap.size + 2, 2, none⟩ = some (.int .i64 n) := by
  have r0 : IsRow w0 w.heap.size 28 [.pointer (some ⟨a, 0, none⟩)] := by rw [← hw0]; exact ((IsRow.new w 28 [.pointer (some ⟨a, 0, none⟩)]).alloc _).alloc _
  have r2 : IsRow w0 (w.heap.size + 2) 65 [.int .i64 r, .int .i64 g, .int .i64 n] := by
   rw [← hw0]
   have := IsRow.new ((w.alloc (.cells #[.pointer (some ⟨a, 0, none⟩)] 28)).alloc (.cells D.toArray 60)) 65 [.int .i64 r, .int .i64 g, .int .i64 n]
   rwa [World.size_alloc, World.size_alloc] at this
  exact ⟨r0.cell 0, r2.cell 0, r2.cell 1, r2.cell 2⟩
 have c1 := (hb0.cell (p := ⟨a, 1, none⟩) h.row.lt).trans h.cells.2
 rw [hm] at c1
 have HV := Lib.hid (show decide (Chk.valid ⟨r, g, n⟩) = false from decide_eq_false hu)
 clear hu hs
 have HX := Lib.hid (And.intro hb0 (And.intro hz (And.intro hrd (And.intro hbx c1))))
 have hk := fun n => HK.out _ (below_drewN hb0 n)
 have HW0 := Lib.hid hw0
 obtain ⟨x0, y0, y1, y2⟩ := hbx
 clear hb0 hz hrd hw0 hD hm hv h
 go_enter Tryz.func29, Tryz.ntmps29
 go_upto_region 1 with fail
 rw [HW0.out]
 go_quiet (fail)
 go_wp2_with (go_at_call 61; refine (HVA.out _ false HV.out).mono ?_; rintro e w3 ⟨rfl, b3⟩)
 go_ret2
 exact ⟨rfl, (below_drewN HX.out.1 _).trans (b3.mono (by first | exact HX.out.1.size | exact (below_drewN HX.out.1 _).size))⟩
set_option maxRecDepth 100000 in
set_option maxHeartbeats 1600000 in
theorem add_tenant {w : World} {F S : Nat → Prop} {a : Nat} {t : TM} {l : List Chk.Ck} (h : TAt w F S a t l) (dg : List UInt8) (hdg : dg.length = 16) (pr : Int) (u : Chk.Un) (tn : Int) (hu : Chk.valid u) (ht : ¬ Chk.tenant tn) :
  Calls Tryz.prog 29 #[.pointer (some ⟨a, 0, none⟩), .agg (bvs dg).toArray, .int .u32 pr, unV u, .int .i64 tn] w fun e w' => e = .returned (.tuple #[.int .i64 0, .int .i64 1]) ∧ Below w.heap.size w w' := by
 obtain ⟨v, hv⟩ : ∃ v, (Chk.unitAt l u).getD 0 = v := ⟨_, rfl⟩
 obtain ⟨s, hs⟩ : ∃ v, (Chk.unitAt l u).isSome = v := ⟨_, rfl⟩
 obtain ⟨m, hm⟩ : ∃ m, t.m = m := ⟨_, rfl⟩
 have HK := Lib.hid (fun W hW => h.look u W hW)
 rw [hv, hs, hm] at HK
 have HVA := Lib.hid (fun W S hS => valid_any u W S hS)
 have HTA := Lib.hid (fun W S hS => tenant_any tn W S hS)
 obtain ⟨r, g, n⟩ := u
 unfold unV at *
 obtain ⟨D, hD⟩ : ∃ D, bvs dg = D := ⟨_, rfl⟩
 have hDl : D.length = 16 := by rw [← hD, bvs_length, hdg]
 rw [hD]
 obtain ⟨w0, hw0⟩ : ∃ z, ((w.alloc (.cells #[.pointer (some ⟨a, 0, none⟩)] 28)).alloc (.cells D.toArray 60)).alloc (.cells #[.int .i64 r, .int .i64 g, .int .i64 n] 65) = z := ⟨_, rfl⟩
 have hb0 : Below w.heap.size w w0 := by rw [← hw0]; exact (((Below.refl _ w).alloc (Nat.le_refl _) _).alloc (by simp) _).alloc (by simp; omega) _
 have hz : w0.heap.size = w.heap.size + 3 := by rw [← hw0]; simp
 have hrd : IsRow w0 (w.heap.size + 1) 60 D := by
  rw [← hw0]
  have := (IsRow.new (w.alloc (.cells #[.pointer (some ⟨a, 0, none⟩)] 28)) 60 D).alloc (.cells #[.int .i64 r, .int .i64 g, .int .i64 n] 65)
  rwa [World.size_alloc] at this
 have hbx : w0.cell? ⟨w.heap.size, 0, none⟩ = some (.pointer (some ⟨a, 0, none⟩)) ∧ w0.cell? ⟨w.heap.size + 2, 0, none⟩ = some (.int .i64 r) ∧ w0.cell? ⟨w.heap.size + 2, 1, none⟩ = some (.int .i64 g) ∧ w0.cell? ⟨w.heap.size + 2, 2, none⟩ = some (.int .i64 n) := by
  have r0 : IsRow w0 w.heap.size 28 [.pointer (some ⟨a, 0, none⟩)] := by rw [← hw0]; exact ((IsRow.new w 28 [.pointer (some ⟨a, 0, none⟩)]).alloc _).alloc _
  have r2 : IsRow w0 (w.heap.size + 2) 65 [.int .i64 r, .int .i64 g, .int .i64 n] := by
   rw [← hw0]
   have := IsRow.new ((w.alloc (.cells #[.pointer (some ⟨a, 0, none⟩)] 28)).alloc (.cells D.toArray 60)) 65 [.int .i64 r, .int .i64 g, .int .i64 n]
   rwa [World.size_alloc, World.size_alloc] at this
  exact ⟨r0.cell 0, r2.cell 0, r2.cell 1, r2.cell 2⟩
 have c1 := (hb0.cell (p := ⟨a, 1, none⟩) h.row.lt).trans h.cells.2
 rw [hm] at c1
 have HV := Lib.hid (show decide (Chk.valid ⟨r, g, n⟩) = true from decide_eq_true hu)
 have HN := Lib.hid (decide_eq_false ht)
 clear hu ht hs
 have HX := Lib.hid (And.intro hb0 (And.intro hz (And.intro hrd (And.intro hbx c1))))
 have hk := fun n => HK.out _ (below_drewN hb0 n)
 have HW0 := Lib.hid hw0
 obtain ⟨x0, y0, y1, y2⟩ := hbx
 clear hb0 hz hrd hw0 hD hm hv h
 go_enter Tryz.func29, Tryz.ntmps29
 go_upto_region 1 with fail
 rw [HW0.out]
 go_quiet (fail)
 go_wp2_with (first | (go_at_call 61; refine (HVA.out _ true HV.out).mono ?_; rintro e w3 ⟨rfl, b3⟩) | (go_at_call 62; refine (HTA.out _ false HN.out).mono ?_; rintro e w4 ⟨rfl, rfl⟩))
 go_ret2
 exact ⟨rfl, (below_drewN HX.out.1 _).trans (b3.mono (by first | exact HX.out.1.size | exact (below_drewN HX.out.1 _).size))⟩
set_option maxRecDepth 100000 in
set_option maxHeartbeats 1600000 in
theorem add_taken {w : World} {F S : Nat → Prop} {a : Nat} {t : TM} {l : List Chk.Ck} (h : TAt w F S a t l) (dg : List UInt8) (hdg : dg.length = 16) (pr : Int) (u : Chk.Un) (tn : Int) (hu : Chk.valid u) (ht : Chk.tenant tn) (hat : (Chk.unitAt l u).isSome = true) :
  Calls Tryz.prog 29 #[.pointer (some ⟨a, 0, none⟩), .agg (bvs dg).toArray, .int .u32 pr, unV u, .int .i64 tn] w fun e w' => e = .returned (.tuple #[.int .i64 0, .int .i64 20]) ∧ Below w.heap.size w w' := by
 obtain ⟨v, hv⟩ : ∃ v, (Chk.unitAt l u).getD 0 = v := ⟨_, rfl⟩
 obtain ⟨s, hs⟩ : ∃ v, (Chk.unitAt l u).isSome = v := ⟨_, rfl⟩
 obtain ⟨m, hm⟩ : ∃ m, t.m = m := ⟨_, rfl⟩
 have HK := Lib.hid (fun W hW => h.look u W hW)
 rw [hv, hs, hm] at HK
 have HVA := Lib.hid (fun W S hS => valid_any u W S hS)
 have HTA := Lib.hid (fun W S hS => tenant_any tn W S hS)
 obtain ⟨r, g, n⟩ := u
 unfold unV at *
 obtain ⟨D, hD⟩ : ∃ D, bvs dg = D := ⟨_, rfl⟩
 have hDl : D.length = 16 := by rw [← hD, bvs_length, hdg]
 rw [hD]
 obtain ⟨w0, hw0⟩ : ∃ z, ((w.alloc (.cells #[.pointer (some ⟨a, 0, none⟩)] 28)).alloc (.cells D.toArray 60)).alloc (.cells #[.int .i64 r, .int .i64 g, .int .i64 n] 65) = z := ⟨_, rfl⟩
 have hb0 : Below w.heap.size w w0 := by rw [← hw0]; exact (((Below.refl _ w).alloc (Nat.le_refl _) _).alloc (by simp) _).alloc (by simp; omega) _
 have hz : w0.heap.size = w.heap.size + 3 := by rw [← hw0]; simp
 have hrd : IsRow w0 (w.heap.size + 1) 60 D := by
  rw [← hw0]
  have := (IsRow.new (w.alloc (.cells #[.pointer (some ⟨a, 0, none⟩)] 28)) 60 D).alloc (.cells #[.int .i64 r, .int .i64 g, .int .i64 n] 65)
  rwa [World.size_alloc] at this
 have hbx : w0.cell? ⟨w.heap.size, 0, none⟩ = some (.pointer (some ⟨a, 0, none⟩)) ∧ w0.cell? ⟨w.heap.size + 2, 0, none⟩ = some (.int .i64 r) ∧ w0.cell? ⟨w.heap.size + 2, 1, none⟩ = some (.int .i64 g) ∧ w0.cell? ⟨w.heap.size + 2, 2, none⟩ = some (.int .i64 n) := by
  have r0 : IsRow w0 w.heap.size 28 [.pointer (some ⟨a, 0, none⟩)] := by rw [← hw0]; exact ((IsRow.new w 28 [.pointer (some ⟨a, 0, none⟩)]).alloc _).alloc _
  have r2 : IsRow w0 (w.heap.size + 2) 65 [.int .i64 r, .int .i64 g, .int .i64 n] := by
   rw [← hw0]
   have := IsRow.new ((w.alloc (.cells #[.pointer (some ⟨a, 0, none⟩)] 28)).alloc (.cells D.toArray 60)) 65 [.int .i64 r, .int .i64 g, .int .i64 n]
   rwa [World.size_alloc, World.size_alloc] at this
  exact ⟨r0.cell 0, r2.cell 0, r2.cell 1, r2.cell 2⟩
 have c1 := (hb0.cell (p := ⟨a, 1, none⟩) h.row.lt).trans h.cells.2
 rw [hm] at c1
 have HV := Lib.hid (show decide (Chk.valid ⟨r, g, n⟩) = true from decide_eq_true hu)
 have HN := Lib.hid (decide_eq_true ht)
 obtain rfl : s = true := hs.symm.trans hat
 clear hu ht hs hat
 have HX := Lib.hid (And.intro hb0 (And.intro hz (And.intro hrd (And.intro hbx c1))))
 have hk := fun n => HK.out _ (below_drewN hb0 n)
 have HW0 := Lib.hid hw0
 obtain ⟨x0, y0, y1, y2⟩ := hbx
 clear hb0 hz hrd hw0 hD hm hv h
 go_enter Tryz.func29, Tryz.ntmps29
 go_upto_region 1 with fail
 rw [HW0.out]
 go_quiet (fail)
 go_wp2_with (first | (go_at_call 61; refine (HVA.out _ true HV.out).mono ?_; rintro e w3 ⟨rfl, b3⟩) | (go_at_call 62; refine (HTA.out _ true HN.out).mono ?_; rintro e w4 ⟨rfl, rfl⟩))
 go_ret2
 exact ⟨rfl, (below_drewN HX.out.1 _).trans (b3.mono (by first | exact HX.out.1.size | exact (below_drewN HX.out.1 _).size))⟩
set_option maxRecDepth 100000 in
set_option maxHeartbeats 1600000 in
theorem add_full {w : World} {F S : Nat → Prop} {a : Nat} {t : TM} {l : List Chk.Ck} (h : TAt w F S a t l) (dg : List UInt8) (hdg : dg.length = 16) (pr : Int) (u : Chk.Un) (tn : Int) (hu : Chk.valid u) (ht : Chk.tenant tn) (hat : (Chk.unitAt l u).isSome = false) (hn : 65536 ≤ t.n) :
  Calls Tryz.prog 29 #[.pointer (some ⟨a, 0, none⟩), .agg (bvs dg).toArray, .int .u32 pr, unV u, .int .i64 tn] w fun e w' => e = .returned (.tuple #[.int .i64 0, .int .i64 2]) ∧ Below w.heap.size w w' := by
 obtain ⟨v, hv⟩ : ∃ v, (Chk.unitAt l u).getD 0 = v := ⟨_, rfl⟩
 obtain ⟨s, hs⟩ : ∃ v, (Chk.unitAt l u).isSome = v := ⟨_, rfl⟩
 obtain ⟨m, hm⟩ : ∃ m, t.m = m := ⟨_, rfl⟩
 have HK := Lib.hid (fun W hW => h.look u W hW)
 rw [hv, hs, hm] at HK
 have HVA := Lib.hid (fun W S hS => valid_any u W S hS)
 have HTA := Lib.hid (fun W S hS => tenant_any tn W S hS)
 obtain ⟨r, g, n⟩ := u
 unfold unV at *
 obtain ⟨D, hD⟩ : ∃ D, bvs dg = D := ⟨_, rfl⟩
 have hDl : D.length = 16 := by rw [← hD, bvs_length, hdg]
 rw [hD]
 obtain ⟨w0, hw0⟩ : ∃ z, ((w.alloc (.cells #[.pointer (some ⟨a, 0, none⟩)] 28)).alloc (.cells D.toArray 60)).alloc (.cells #[.int .i64 r, .int .i64 g, .int .i64 n] 65) = z := ⟨_, rfl⟩
 have hb0 : Below w.heap.size w w0 := by rw [← hw0]; exact (((Below.refl _ w).alloc (Nat.le_refl _) _).alloc (by simp) _).alloc (by simp; omega) _
 have hz : w0.heap.size = w.heap.size + 3 := by rw [← hw0]; simp
 have hrd : IsRow w0 (w.heap.size + 1) 60 D := by
  rw [← hw0]
  have := (IsRow.new (w.alloc (.cells #[.pointer (some ⟨a, 0, none⟩)] 28)) 60 D).alloc (.cells #[.int .i64 r, .int .i64 g, .int .i64 n] 65)
  rwa [World.size_alloc] at this
 have hbx : w0.cell? ⟨w.heap.size, 0, none⟩ = some (.pointer (some ⟨a, 0, none⟩)) ∧ w0.cell? ⟨w.heap.size + 2, 0, none⟩ = some (.int .i64 r) ∧ w0.cell? ⟨w.heap.size + 2, 1, none⟩ = some (.int .i64 g) ∧ w0.cell? ⟨w.heap.size + 2, 2, none⟩ = some (.int .i64 n) := by
  have r0 : IsRow w0 w.heap.size 28 [.pointer (some ⟨a, 0, none⟩)] := by rw [← hw0]; exact ((IsRow.new w 28 [.pointer (some ⟨a, 0, none⟩)]).alloc _).alloc _
  have r2 : IsRow w0 (w.heap.size + 2) 65 [.int .i64 r, .int .i64 g, .int .i64 n] := by
   rw [← hw0]
   have := IsRow.new ((w.alloc (.cells #[.pointer (some ⟨a, 0, none⟩)] 28)).alloc (.cells D.toArray 60)) 65 [.int .i64 r, .int .i64 g, .int .i64 n]
   rwa [World.size_alloc, World.size_alloc] at this
  exact ⟨r0.cell 0, r2.cell 0, r2.cell 1, r2.cell 2⟩
 have c1 := (hb0.cell (p := ⟨a, 1, none⟩) h.row.lt).trans h.cells.2
 rw [hm] at c1
 have HV := Lib.hid (show decide (Chk.valid ⟨r, g, n⟩) = true from decide_eq_true hu)
 have HN := Lib.hid (decide_eq_true ht)
 obtain rfl : s = false := hs.symm.trans hat
 have hC0 := h.cells.1
 obtain ⟨N, hN⟩ : ∃ N, t.n = N := ⟨_, rfl⟩
 rw [hN] at hC0 hn
 have HC0 := Lib.hid (And.intro hC0 h.row.lt)
 have hn1 : (65536 : Int) ≤ (N : Int) := by omega
 clear hu ht hs hat hC0 hN hn
 have HX := Lib.hid (And.intro hb0 (And.intro hz (And.intro hrd (And.intro hbx c1))))
 have hk := fun n => HK.out _ (below_drewN hb0 n)
 have HW0 := Lib.hid hw0
 obtain ⟨x0, y0, y1, y2⟩ := hbx
 clear hb0 hz hrd hw0 hD hm hv h
 go_enter Tryz.func29, Tryz.ntmps29
 go_upto_region 1 with fail
 rw [HW0.out]
 go_quiet (fail)
 go_upto_region 6 with (first | (go_at_call 61; refine (HVA.out _ true HV.out).mono ?_; rintro e w3 ⟨rfl, b3⟩) | (go_at_call 62; refine (HTA.out _ true HN.out).mono ?_; rintro e w4 ⟨rfl, rfl⟩))
 have hb3 : Below w.heap.size w w4 := (below_drewN HX.out.1 _).trans (b3.mono (by first | exact HX.out.1.size | exact (below_drewN HX.out.1 _).size))
 have c0 := (hb3.cell (p := ⟨a, 0, none⟩) HC0.out.2).trans HC0.out.1
 have x3 := (b3.cell (p := ⟨w.heap.size, 0, none⟩) (by simp; rw [HX.out.2.1]; omega)).trans x0
 go_wp2
 go_ret2
 exact ⟨rfl, hb3⟩
end
section
open Go.RowKit
theorem flat_take {α : Type} {f : α → List Value} {sz : Nat} : ∀ {D : List α}, (∀ d ∈ D, (f d).length = sz) → ∀ k, (D.flatMap f).take (k * sz) = (D.take k).flatMap f
 | [], _, k => by simp
 | d :: D, _, 0 => by simp
 | d :: D, hf, k + 1 => by
  have hd := hf d (List.mem_cons_self ..)
  rw [List.flatMap_cons, Nat.succ_mul, Nat.add_comm, ← hd, List.take_length_add_append, hd, flat_take (fun e he => hf e (List.mem_cons_of_mem _ he)) k, List.take_succ_cons, List.flatMap_cons]
theorem flat_drop {α : Type} {f : α → List Value} {sz : Nat} : ∀ {D : List α}, (∀ d ∈ D, (f d).length = sz) → ∀ k, (D.flatMap f).drop (k * sz) = (D.drop k).flatMap f
 | [], _, k => by simp
 | d :: D, _, 0 => by simp
 | d :: D, hf, k + 1 => by
  have hd := hf d (List.mem_cons_self ..)
  rw [List.flatMap_cons, Nat.succ_mul, Nat.add_comm, ← hd, List.drop_length_add_append, hd, flat_drop (fun e he => hf e (List.mem_cons_of_mem _ he)) k, List.drop_succ_cons]
theorem TAt.added {w W5 W6 W8 : World} {F S : Nat → Prop} {a : Nat} {t : TM} {l : List Chk.Ck} (h : TAt w F S a t l) (hb : ∀ b, F b ∨ S b → b < w.heap.size) {k br N' c' : Nat} {c : Chk.Ck} {A' : Option Addr}
  (hdg : c.dg.length = 16) (hrl : c.refs.length = 1) (hk : k ≤ t.n) (hB5 : Below w.heap.size w W5) (hbr : w.heap.size ≤ br) (hrow : IsRow W5 br 76 (rfs c.refs))
  (ho : W6.ownsRow 0 68 23 (.slice A' (t.n + 1) c') (t.n + 1) (putAt 23 (crs t.D) (ckCells c (.slice (some ⟨br, 0, none⟩) 1 1)) k))
  (hg : Keep (fun b => ∃ g, t.A = some g ∧ b = g.block) W5 W6) (hA : A' = t.A ∨ ∃ p, A' = some p ∧ W5.heap.size ≤ p.block)
  (hT : Keep (fun b => b = t.m) (W6.setCell ⟨a, 0, none⟩ (.slice A' (t.n + 1) c')) W8)
  (hm : MapIs W8 t.m unV (fun y => if y = c.at_ then some (.int .i64 c.id) else unM l y) N') (hi : Chk.Inv (l.take k ++ c :: l.drop k)) (hlo : c.lost = false) :
  (∃ t', TAt W8 (fun b => F b ∨ b = br) (fun b => b = a ∨ b = t.m ∨ ∃ g, A' = some g ∧ b = g.block) a t' (l.take k ++ c :: l.drop k)) ∧ Keep S w W8 ∧ (∀ b, (F b ∨ b = br) ∨ (b = a ∨ b = t.m ∨ ∃ g, A' = some g ∧ b = g.block) → b < W8.heap.size)
   ∧ (∀ b, (b = a ∨ b = t.m ∨ ∃ g, A' = some g ∧ b = g.block) → S b ∨ w.heap.size ≤ b) ∧ (∀ b, F b ∨ b = br → F b ∨ w.heap.size ≤ b) := by
 have halt := h.row.lt
 have hmlt := h.map.lt
 have hs5 := hB5.size
 have hs6 := hg.size
 have hs8 : W6.heap.size ≤ W8.heap.size := by have := hT.size; simpa [World.setCell] using this
 have hbr5 := hrow.lt
 have hAlt : ∀ g, t.A = some g → g.block < w.heap.size := fun g hg => hb _ (.inr (h.sg g hg))
 have hAb : ∀ p, A' = some p → (t.A = some p ∧ p.block < w.heap.size) ∨ (W5.heap.size ≤ p.block ∧ p.block < W6.heap.size) := fun p hp => by
  rcases hA with e | ⟨q, hq, hql⟩
  ·
   exact .inl ⟨e.symm.trans hp, hAlt p (e.symm.trans hp)⟩
  ·
   obtain rfl : p = q := Option.some.inj (hp.symm.trans hq)
   exact .inr ⟨hql, (own_block_lt ho p hp).2⟩
 have hK : ∀ T : Nat → Prop, (∀ b, b = a ∨ b = t.m ∨ (∃ g, t.A = some g ∧ b = g.block) → T b) → Keep T w W8 := fun T hT1 =>
  (((Keep.of_below hB5).trans (hg.mono fun b _ e => hT1 b (.inr (.inr e)))).setCell (a := ⟨a, 0, none⟩) (.inl (hT1 a (.inl rfl))) _).trans (hT.mono fun b _ e => hT1 b (.inr (.inl e)))
 have hTS : ∀ b, b = a ∨ b = t.m ∨ (∃ g, t.A = some g ∧ b = g.block) → S b := fun b e => by
  rcases e with rfl | rfl | ⟨g, hg, rfl⟩
  ·
   exact h.sa
  ·
   exact h.sm
  ·
   exact h.sg g hg
 have hag6 : ¬ ∃ g, t.A = some g ∧ a = g.block := fun ⟨g, hg, e⟩ => (h.ag g hg).1 e.symm
 have hbrA : ¬ ∃ g, t.A = some g ∧ br = g.block := fun ⟨g, hg, e⟩ => by have := hAlt g hg; omega
 have hbr8 : IsRow W8 br 76 (rfs c.refs) := by
  have h6 := hrow.keep (hg.block br hbr5 hbrA)
  exact (h6.setOther (p := ⟨a, 0, none⟩) (show a ≠ br by omega) (.slice A' (t.n + 1) c')).keep (hT.block br (by simp [World.setCell]; omega) (by omega))
 have hdl := h.dl
 have hD : crs (t.D.take k ++ ⟨c, some ⟨br, 0, none⟩, 1, 1⟩ :: t.D.drop k) = putAt 23 (crs t.D) (ckCells c (.slice (some ⟨br, 0, none⟩) 1 1)) k := by
  unfold putAt crs
  rw [flat_take hdl, flat_drop hdl, List.flatMap_append, List.flatMap_cons, List.append_assoc]
  rfl
 refine ⟨⟨⟨A', t.n + 1, c', t.m, N', t.D.take k ++ ⟨c, some ⟨br, 0, none⟩, 1, 1⟩ :: t.D.drop k⟩, ?_, ?_, ?_, ?_, fun x hx => ?_, .inl rfl, .inr (.inl rfl), fun g hg => .inr (.inr ⟨g, hg, rfl⟩), h.am, fun g hg => ?_, fun b hF hS => ?_, hi⟩, hK _ hTS, fun b e => ?_, fun b e => ?_, fun b e => ?_⟩
 ·
  have h6 := (h.row.below' hB5).keep (hg.block a (by omega) hag6)
  have h7 := h6.set 0 (.slice A' (t.n + 1) c')
  exact h7.keep (hT.block a (by simp [World.setCell]; omega) h.am)
 ·
  show W8.ownsRow 0 _ 23 (.slice A' (t.n + 1) c') (t.n + 1) (crs (t.D.take k ++ ⟨c, some ⟨br, 0, none⟩, 1, 1⟩ :: t.D.drop k))
  rw [hD]
  obtain ⟨g, cap, hv, _, hlt⟩ := ho.form (by omega)
  have hA' : A' = some ⟨g, 0, none⟩ := by injection hv
  have hga : g ≠ a ∧ g ≠ t.m := by
   rcases hAb _ hA' with ⟨e, _⟩ | ⟨e, _⟩
   ·
    exact h.ag _ e
   ·
    dsimp only at e; omega
  rw [hA'] at ho ⊢
  refine own_kb ho fun _ => (hT.block g (by simp [World.setCell]; omega) hga.2).trans (Below.heap_setCell _ _ _ _ hga.1)
 ·
  show List.map CR.c _ = _
  rw [List.map_append, List.map_cons, List.map_take, List.map_drop, h.d]
 ·
  refine hm.congr fun y => ?_
  have hu := congrFun (Chk.unitAt_put h.inv (k := k) (by rw [h.len.1]; exact hk) hi hlo) y
  show _ = unM (l.take k ++ c :: l.drop k) y
  unfold unM
  rw [hu]
  split <;> rfl
 ·
  rcases List.mem_append.1 hx with hx | hx
  ·
   have hx := List.mem_of_mem_take hx
   exact ((h.ok x hx).keep (hK _ hTS) h.fs).mono fun b e => .inl e
  ·
   rcases List.mem_cons.1 hx with rfl | hx
   ·
    exact ⟨hbr8.rd (by show (rfs c.refs).length = _; rw [rfs_len, hrl]) hbr8.lt, hrl, Nat.le_refl _, (show 1 ≤ maxLen by unfold maxLen; omega), fun p hp => .inr (by rw [← Option.some.inj hp])⟩
   ·
    have hx := List.mem_of_mem_drop hx
    exact ((h.ok x hx).keep (hK _ hTS) h.fs).mono fun b e => .inl e
 ·
  rcases hAb g hg with ⟨e, _⟩ | ⟨e, _⟩
  ·
   exact h.ag g e
  ·
   exact ⟨by omega, by show g.block ≠ t.m; omega⟩
 ·
  rcases hF with hF | rfl
  ·
   have hl := hb b (.inl hF)
   rcases hS with rfl | rfl | ⟨g, hg, rfl⟩
   ·
    exact h.fs _ hF h.sa
   ·
    exact h.fs _ hF h.sm
   ·
    rcases hAb g hg with ⟨e, _⟩ | ⟨e, _⟩
    ·
     exact h.fs _ hF (h.sg g e)
    ·
     omega
  ·
   rcases hS with e | e | ⟨g, hg, e⟩
   ·
    omega
   ·
    omega
   ·
    rcases hAb g hg with ⟨_, e⟩ | ⟨e, _⟩ <;> omega
 ·
  rcases e with (e | e) | (e | e | ⟨g, hg, e⟩)
  ·
   have := hb b (.inl e); omega
  ·
   omega
  ·
   omega
  ·
   omega
  ·
   rcases hAb g hg with ⟨_, e⟩ | ⟨_, e⟩ <;> omega
 ·
  rcases e with rfl | rfl | ⟨g, hg, rfl⟩
  ·
   exact .inl h.sa
  ·
   exact .inl h.sm
  ·
   rcases hAb g hg with ⟨e, _⟩ | ⟨e, _⟩
   ·
    exact .inl (h.sg g e)
   ·
    exact .inr (by omega)
 ·
  rcases e with e | rfl
  ·
   exact .inl e
  ·
   exact .inr hbr
end
section
open Go.RowKit
theorem list23 (cs : List Value) (h : cs.length = 23) : ∃ a0 a1 a2 a3 a4 a5 a6 a7 a8 a9 b0 b1 b2 b3 b4 b5 b6 b7 b8 b9 c0 c1 c2, cs = [a0, a1, a2, a3, a4, a5, a6, a7, a8, a9, b0, b1, b2, b3, b4, b5, b6, b7, b8, b9, c0, c1, c2] := by
 match cs, h with
 | [a0, a1, a2, a3, a4, a5, a6, a7, a8, a9, b0, b1, b2, b3, b4, b5, b6, b7, b8, b9, c0, c1, c2], _ => exact ⟨_, _, _, _, _, _, _, _, _, _, _, _, _, _, _, _, _, _, _, _, _, _, _, rfl⟩
theorem list16' (cs : List Value) (h : cs.length = 16) : ∃ a0 a1 a2 a3 a4 a5 a6 a7 a8 a9 b0 b1 b2 b3 b4 b5, cs = [a0, a1, a2, a3, a4, a5, a6, a7, a8, a9, b0, b1, b2, b3, b4, b5] := by
 match cs, h with
 | [a0, a1, a2, a3, a4, a5, a6, a7, a8, a9, b0, b1, b2, b3, b4, b5], _ => exact ⟨_, _, _, _, _, _, _, _, _, _, _, _, _, _, _, _, rfl⟩
theorem run_build23 (w : World) (cs : List Value) (hl : cs.length = 23) : (Instr.buildSlice 56 1 #[(0, .agg cs.toArray)]).run Tryz.prog w = .ok (.slice (some ⟨w.heap.size, 0, none⟩) 1 1) (w.alloc (.cells cs.toArray 68)) := by
 obtain ⟨a0, a1, a2, a3, a4, a5, a6, a7, a8, a9, b0, b1, b2, b3, b4, b5, b6, b7, b8, b9, c0, c1, c2, rfl⟩ := list23 cs hl
 kernel_rfl
theorem wp_build23 {o : Oper} {a : Act} {w : World} {K : Act → World → Prop} {Q : Exit → Act → World → Prop} (x : Operand) (ho : o.op = .buildSlice 56 1 #[(0, x)]) (cs : List Value) (hl : cs.length = 23) (hx : a.eval x = .agg cs.toArray)
  (h : K (a.put o.dst (.slice (some ⟨w.heap.size, 0, none⟩) 1 1)) (w.alloc (.cells cs.toArray 68))) : o.wp Tryz.prog a w K Q := by
 unfold Oper.wp execOp
 simp only [ho, List.map_toArray, List.map_cons, List.map_nil, hx, Sem.run_bind, Sem.run_pure, run_build23 w cs hl, Result.andThen_ok]
 exact h
theorem built_ck (id pr r g n : Int) (D : List Value) (hD : D.length = 16) (v : Value) (hv : ∃ A n c, v = .slice A n c) :
  Tryz.prog.built 68 [(0, .int .i64 id), (1, .agg D.toArray), (2, .int .u32 pr), (3, .agg #[.int .i64 r, .int .i64 g, .int .i64 n]), (5, v)] = some (([.int .i64 id] ++ (D ++ [.int .u32 pr, .int .i64 r, .int .i64 g, .int .i64 n, .bool false, v]) : List Value)).toArray := by
 obtain ⟨a0, a1, a2, a3, a4, a5, a6, a7, a8, a9, b0, b1, b2, b3, b4, b5, rfl⟩ := list16' D hD
 obtain ⟨A, n', c, rfl⟩ := hv
 kernel_rfl
theorem ownB_some {A : Option Addr} {i : Nat} (h : (Value.slice A 0 0).ownBlock = some i) : ∃ g, A = some g ∧ i = g.block := by
 cases A with
 | none => cases h
 | some g => exact ⟨g, rfl, (Option.some.inj h).symm⟩
def AddRes (w : World) (F S : Nat → Prop) (a : Nat) (R : List Chk.Ck × Int × Int) (e : Ending) (w' : World) : Prop :=
 e = .returned (.tuple #[.int .i64 R.2.1, .int .i64 R.2.2]) ∧ ∃ F' S' : Nat → Prop, (∃ t', TAt w' F' S' a t' R.1) ∧ Keep S w w' ∧ (∀ b, F' b ∨ S' b → b < w'.heap.size) ∧ (∀ b, S' b → S b ∨ w.heap.size ≤ b) ∧ (∀ b, F' b → F b ∨ w.heap.size ≤ b)
set_option maxRecDepth 100000 in
set_option maxHeartbeats 1600000 in
theorem add_ok {w : World} {F S : Nat → Prop} {a : Nat} {t : TM} {l : List Chk.Ck} (h : TAt w F S a t l) (dg : List UInt8) (hdg : dg.length = 16) (pr : Int) (u : Chk.Un) (tn : Int) (hb : ∀ b, F b ∨ S b → b < w.heap.size) (hp : Chk.inR pr 4294967296) (hu : Chk.valid u) (ht : Chk.tenant tn) (hat : (Chk.unitAt l u).isSome = false) (hn : t.n < 65536) :
  Calls Tryz.prog 29 #[.pointer (some ⟨a, 0, none⟩), .agg (bvs dg).toArray, .int .u32 pr, unV u, .int .i64 tn] w (AddRes w F S a (Chk.add l dg pr u tn)) := by
 obtain ⟨v, hv⟩ : ∃ v, (Chk.unitAt l u).getD 0 = v := ⟨_, rfl⟩
 obtain ⟨s, hs⟩ : ∃ v, (Chk.unitAt l u).isSome = v := ⟨_, rfl⟩
 obtain ⟨m, hm⟩ : ∃ m, t.m = m := ⟨_, rfl⟩
 have HK := Lib.hid (fun W hW => h.look u W hW)
 rw [hv, hs, hm] at HK
 have HVA := Lib.hid (fun W S hS => valid_any u W S hS)
 have HTA := Lib.hid (fun W S hS => tenant_any tn W S hS)
 obtain ⟨r, g, n⟩ := u
 unfold unV at *
 obtain ⟨D, hD⟩ : ∃ D, bvs dg = D := ⟨_, rfl⟩
 have hDl : D.length = 16 := by rw [← hD, bvs_length, hdg]
 rw [hD]
 obtain ⟨w0, hw0⟩ : ∃ z, ((w.alloc (.cells #[.pointer (some ⟨a, 0, none⟩)] 28)).alloc (.cells D.toArray 60)).alloc (.cells #[.int .i64 r, .int .i64 g, .int .i64 n] 65) = z := ⟨_, rfl⟩
 have hb0 : Below w.heap.size w w0 := by rw [← hw0]; exact (((Below.refl _ w).alloc (Nat.le_refl _) _).alloc (by simp) _).alloc (by simp; omega) _
 have hz : w0.heap.size = w.heap.size + 3 := by rw [← hw0]; simp
 have hrd : IsRow w0 (w.heap.size + 1) 60 D := by
  rw [← hw0]
  have := (IsRow.new (w.alloc (.cells #[.pointer (some ⟨a, 0, none⟩)] 28)) 60 D).alloc (.cells #[.int .i64 r, .int .i64 g, .int .i64 n] 65)
  rwa [World.size_alloc] at this
 have hbx : w0.cell? ⟨w.heap.size, 0, none⟩ = some (.pointer (some ⟨a, 0, none⟩)) ∧ w0.cell? ⟨w.heap.size + 2, 0, none⟩ = some (.int .i64 r) ∧ w0.cell? ⟨w.heap.size + 2, 1, none⟩ = some (.int .i64 g) ∧ w0.cell? ⟨w.heap.size + 2, 2, none⟩ = some (.int .i64 n) := by
  have r0 : IsRow w0 w.heap.size 28 [.pointer (some ⟨a, 0, none⟩)] := by rw [← hw0]; exact ((IsRow.new w 28 [.pointer (some ⟨a, 0, none⟩)]).alloc _).alloc _
  have r2 : IsRow w0 (w.heap.size + 2) 65 [.int .i64 r, .int .i64 g, .int .i64 n] := by
   rw [← hw0]
   have := IsRow.new ((w.alloc (.cells #[.pointer (some ⟨a, 0, none⟩)] 28)).alloc (.cells D.toArray 60)) 65 [.int .i64 r, .int .i64 g, .int .i64 n]
   rwa [World.size_alloc, World.size_alloc] at this
  exact ⟨r0.cell 0, r2.cell 0, r2.cell 1, r2.cell 2⟩
 have c1 := (hb0.cell (p := ⟨a, 1, none⟩) h.row.lt).trans h.cells.2
 rw [hm] at c1
 have HV := Lib.hid (show decide (Chk.valid ⟨r, g, n⟩) = true from decide_eq_true hu)
 have HN := Lib.hid (decide_eq_true ht)
 obtain rfl : s = false := hs.symm.trans hat
 have hadd : Chk.add l dg pr ⟨r, g, n⟩ tn = (l.take (Chk.gap (Chk.ids l)) ++ ⟨(Chk.gap (Chk.ids l) : Int) + 1, dg, pr, ⟨r, g, n⟩, false, [⟨tn, 1⟩]⟩ :: l.drop (Chk.gap (Chk.ids l)), (Chk.gap (Chk.ids l) : Int) + 1, 0) := by
  unfold Chk.add
  rw [if_neg (fun e => e ⟨hu, ht⟩), if_neg (by rw [hat]; simp), if_neg (by rw [h.len.1]; omega)]
 have hinv := h.inv.add (dg := dg) (pr := pr) ⟨r, g, n⟩ tn hdg hp
 obtain ⟨k, hk⟩ : ∃ k, Chk.gap (Chk.ids l) = k := ⟨_, rfl⟩
 have HSR := Lib.hid (fun (W : World) (hW : Below w.heap.size w W) (hc : W.cell? ⟨w.heap.size, 0, none⟩ = some (.pointer (some ⟨a, 0, none⟩))) => search_any (h.below hW) w.heap.size hc)
 rw [hk] at HSR hadd
 rw [hadd] at hinv
 have HADD := Lib.hid (And.intro hadd hinv)
 have hC0 := h.cells.1
 obtain ⟨N, hN⟩ : ∃ N, t.n = N := ⟨_, rfl⟩
 have hkn : k ≤ N := by rw [← hN, ← h.len.1, ← hk]; have := Chk.gap_le (Chk.ids l); simpa using this
 rw [hN] at hC0 hn HSR
 obtain ⟨C, hC⟩ : ∃ C, t.c = C := ⟨_, rfl⟩
 obtain ⟨A, hA⟩ : ∃ A, t.A = A := ⟨_, rfl⟩
 rw [hC, hA] at hC0
 have HC0 := Lib.hid (And.intro hC0 h.row.lt)
 have HN1 := Lib.hid (show decide ((65536 : Int) ≤ (N : Int)) = false from decide_eq_false (by omega))
 have hw1 : IntKind.i64.wrap ((k : Int) + 1) = (k : Int) + 1 := IntWalk.i64_in _ (by omega)
 have HT := Lib.hid h
 have HDL := Lib.hid hDl
 have HNN := Lib.hid (And.intro hN (And.intro hC hA))
 have HKN := Lib.hid (And.intro hkn hn)
 clear hadd hinv hp hu ht hs hat hC0 hN hn hk hC hA hkn
 have HX := Lib.hid (And.intro hb0 (And.intro hz (And.intro hrd (And.intro hbx c1))))
 have hk := fun n => HK.out _ (below_drewN hb0 n)
 have HW0 := Lib.hid hw0
 obtain ⟨x0, y0, y1, y2⟩ := hbx
 have HD := Lib.hid hD
 have HM := Lib.hid hm
 have HBB := Lib.hid hb
 clear hb0 hz hrd hw0 hD hm hv h hb hDl hdg
 go_enter Tryz.func29, Tryz.ntmps29
 go_upto_region 1 with fail
 rw [HW0.out]
 go_quiet (fail)
 go_upto_region 6 with (first | (go_at_call 61; refine (HVA.out _ true HV.out).mono ?_; rintro e w3 ⟨rfl, b3⟩) | (go_at_call 62; refine (HTA.out _ true HN.out).mono ?_; rintro e w4 ⟨rfl, rfl⟩))
 have hb3 : Below w.heap.size w w4 := (below_drewN HX.out.1 _).trans (b3.mono (by first | exact HX.out.1.size | exact (below_drewN HX.out.1 _).size))
 have c0 := (hb3.cell (p := ⟨a, 0, none⟩) HC0.out.2).trans HC0.out.1
 have x3 := (b3.cell (p := ⟨w.heap.size, 0, none⟩) (by simp; rw [HX.out.2.1]; omega)).trans x0
 have y30 := (b3.cell (p := ⟨w.heap.size + 2, 0, none⟩) (by simp; rw [HX.out.2.1]; omega)).trans y0
 have y31 := (b3.cell (p := ⟨w.heap.size + 2, 1, none⟩) (by simp; rw [HX.out.2.1]; omega)).trans y1
 have y32 := (b3.cell (p := ⟨w.heap.size + 2, 2, none⟩) (by simp; rw [HX.out.2.1]; omega)).trans y2
 have r3 : IsRow w4 (w.heap.size + 1) 60 D := (HX.out.2.2.1.drewN nq).below' b3
 have x3' : w4.cell? ⟨w.heap.size, 0, none⟩ = some (.pointer (some ⟨a, 0, none⟩)) := x3
 have hn1 := HN1.out
 have HS := Lib.hid (HSR.out w4 hb3 x3')
 have HB3 := Lib.hid hb3
 have hz4 : w.heap.size + 3 ≤ w4.heap.size := by have := b3.size; simp at this; rw [HX.out.2.1] at this; exact this
 have HZ4 := Lib.hid hz4
 clear hz4 b3 x0 y0 y1 y2 hk hb3 x3'
 go_upto_region 9 with (go_at_call 63; refine HS.out.mono ?_; rintro e w5 ⟨rfl, hw5⟩; obtain rfl := hw5.symm)
 obtain ⟨cs, hcs⟩ : ∃ cs : List Value, [.int .i64 ((k : Int) + 1)] ++ (D ++ [.int .u32 pr, .int .i64 r, .int .i64 g, .int .i64 n, .bool false, .slice (some ⟨w4.heap.size, 0, none⟩) 1 1]) = cs := ⟨_, rfl⟩
 have hbt := built_ck ((k : Int) + 1) pr r g n D HDL.out (.slice (some ⟨w4.heap.size, 0, none⟩) 1 1) ⟨_, _, _, rfl⟩
 rw [hcs] at hbt
 have HBT := Lib.hid hbt
 have HCS := Lib.hid hcs
 have HCL := Lib.hid (show cs.length = 23 by rw [← hcs]; simp [HDL.out])
 have HALL := Lib.hid (show cs.all (·.oneCell') = true by rw [← hcs, ← HD.out]; simp [Value.oneCell'])
 clear hbt hcs
 go_upto_region 10 with (first
  | (refine wpList_loadRow rfl _ (.tmp 6) rfl r3 rfl Tryz.underlying60 (by rw [HDL.out]; exact size16d) ?_)
  | (refine wpList_buildTo rfl 68 _ rfl (some 58) rfl cs.toArray (by simpa [Act.eval] using HBT.out) ?_)
  | (refine wpList_allocRow rfl _ rfl _ infoCk' ?_; intro w6 rz6 b6 z6)
  | (refine wpList_storeRow rfl _ (.tmp 15) (.tmp 58) rfl (l' := cs) rz6 rfl rfl (by rw [HCL.out]; exact sizeCk) (by rw [HCL.out]; rfl) HALL.out ?_; intro w7 rz7 g7 z7))
 have e58 : w4.heap.size + 1 = (w4.alloc (.cells #[.int .i64 tn, .int .i64 1] 76)).heap.size := by simp
 have hb45 : Below w4.heap.size w4 w7 := (((Below.refl _ w4).alloc (Nat.le_refl _) _).trans (b6.mono (by rw [← e58]; omega))).grown g7 (by rw [z6, ← e58]; omega) (fun i hi => by have := Option.some.inj hi; rw [← e58] at this; omega)
 have hbr : IsRow w7 w4.heap.size 76 [.int .i64 tn, .int .i64 1] := (((IsRow.new w4 76 [.int .i64 tn, .int .i64 1])).below' b6).grown g7 (fun e => by have := Option.some.inj e; rw [← e58] at this; omega)
 obtain ⟨bc, hbc⟩ : ∃ x, (w4.alloc (.cells #[.int .i64 tn, .int .i64 1] 76)).heap.size = x := ⟨_, rfl⟩
 rw [hbc] at rz7 b6 z6 g7 e58 ⊢
 have hb7 : Below w.heap.size w w7 := HB3.out.trans (hb45.mono HB3.out.size)
 have hsz := HZ4.out
 have hsz7 := hb45.size
 have hlt7 := rz7.lt
 have x7 := (hb45.cell (p := ⟨w.heap.size, 0, none⟩) (show w.heap.size < w4.heap.size by omega)).trans x3
 have y70 := (hb45.cell (p := ⟨w.heap.size + 2, 0, none⟩) (show w.heap.size + 2 < w4.heap.size by omega)).trans y30
 have y71 := (hb45.cell (p := ⟨w.heap.size + 2, 1, none⟩) (show w.heap.size + 2 < w4.heap.size by omega)).trans y31
 have y72 := (hb45.cell (p := ⟨w.heap.size + 2, 2, none⟩) (show w.heap.size + 2 < w4.heap.size by omega)).trans y32
 have HY7 := Lib.hid (And.intro x7 (And.intro y70 (And.intro y71 y72)))
 have HB7 := Lib.hid hb7
 have HSZ := Lib.hid (show w.heap.size + 2 < w4.heap.size ∧ w4.heap.size < w7.heap.size ∧ bc < w7.heap.size ∧ bc = w4.heap.size + 1 from ⟨by omega, by omega, hlt7, by omega⟩)
 have HRA : Hid (IsRow w7 a 116 [.slice A N C, .map (some m)]) := Lib.hid (by have := HT.out.row.below' hb7; rw [HNN.out.1, HNN.out.2.1, HNN.out.2.2, HM.out] at this; exact this)
 have HAL : Hid (∀ x, (∃ g, A = some g ∧ x = g.block) → x < w.heap.size ∧ x ≠ a ∧ x ≠ m) := Lib.hid (fun x ⟨g, hg, e⟩ => by
  have hg2 := HNN.out.2.2.trans hg
  have h1 := HBB.out _ (.inr (HT.out.sg g hg2))
  have h2 := HT.out.ag g hg2
  rw [HM.out] at h2
  subst e
  exact ⟨h1, h2⟩)
 have HINS := Lib.hid (fun (W : World) (hW : Below w.heap.size w W) (vb : Nat) (rv : IsRow W vb 68 cs) (hvb : w.heap.size ≤ vb) => ins_anyCk A N C k (crs t.D) cs W (by have := HKN.out; omega) HKN.out.1 (by have := own_below HT.out.own hW; rw [HNN.out.1, HNN.out.2.1, HNN.out.2.2] at this; exact this) (fun u hu => by obtain ⟨x, _, hx⟩ := List.mem_flatMap.1 hu; exact ckCells_one _ _ rfl u hx) vb HCL.out rv (fun p hp e => by have := (HAL.out p.block ⟨p, hp, rfl⟩).1; omega) (List.all_eq_true.1 HALL.out))
 have HM7 : Hid (MapIs w7 m unV (unM l) t.N) := Lib.hid (by have := HT.out.map.keep (Keep.of_below (S := fun _ => False) hb7) (fun e => e); rw [HM.out] at this; exact this)
 have HRZ := Lib.hid rz7
 have HBR := Lib.hid hbr
 have HMA : Hid (a < w.heap.size ∧ m < w.heap.size ∧ a ≠ m) := Lib.hid ⟨HC0.out.2, by rw [← HM.out]; exact HT.out.map.lt, by rw [← HM.out]; exact HT.out.am⟩
 have hbl0 : Below w.heap.size w w7.drew := hb7.drew
 clear x3 y30 y31 y32 r3 c0 hb45 b6 z6 g7 z7 e58 hb7 hsz hsz7 hlt7 x7 y70 y71 y72 hbc rz7 hbr HS hn1 rz6
 try simp only [PT]
 have hv0 : Keep (fun x => ∃ g, A = some g ∧ x = g.block) w7 w7.drew := Keep.of_below (Below.refl _ _).drew
 refine wp_region_late (fun W => Keep (fun x => ∃ g, A = some g ∧ x = g.block) w7 W) [11] (by kernel_rfl) (hv0) (fun hHeld => ?_)
 obtain ⟨wd, hwd⟩ : ∃ x, w7.drew = x := ⟨_, rfl⟩
 rw [hwd] at hv0 hHeld hbl0 ⊢
 clear hwd
 refine wpAnyL_take (i := 0) (oi := { dst := some 59, op := Op.load 28 (Operand.tmp 5), type := 28, pos := "chunks.go:153", after := #[], guard := none }) (v := ?v0_1) rfl (by kernel_rfl) (by kernel_rfl) (by kernel_rfl) (by kernel_rfl) (fun _ _ _ h => h) (Or.inl ⟨by rfl, ?h0_1⟩) (by assumption) ?r0_1
 case h0_1 =>
  intro W hSW
  try dsimp only at hSW
  have hcc := (hSW.cell (p := ⟨w.heap.size, 0, none⟩) (show w.heap.size < w7.heap.size by have := HSZ.out; omega) (fun e => by have := HAL.out _ e; (try dsimp only at this); omega)).trans HY7.out.1
  go_simp
  try with_reducible rfl
 try simp only [PT]
 refine wpAnyL_take (i := 1) (oi := { dst := some 60, op := Op.load 28 (Operand.tmp 5), type := 28, pos := "chunks.go:153", after := #[], guard := none }) (v := ?v1_2) rfl (by kernel_rfl) (by kernel_rfl) (by kernel_rfl) (by kernel_rfl) (fun _ _ _ h => h) (Or.inl ⟨by rfl, ?h1_2⟩) (by assumption) ?r1_2
 case h1_2 =>
  intro W hSW
  try dsimp only at hSW
  have hcc := (hSW.cell (p := ⟨w.heap.size, 0, none⟩) (show w.heap.size < w7.heap.size by have := HSZ.out; omega) (fun e => by have := HAL.out _ e; (try dsimp only at this); omega)).trans HY7.out.1
  go_simp
  try with_reducible rfl
 try simp only [PT]
 refine wpAnyL_take (i := 2) (oi := { dst := some 61, op := Op.nilCheck (Operand.tmp 60), type := 0, pos := "chunks.go:153", after := #[{ on := 1, ground := Ground.data }], guard := none }) (v := ?v2_3) rfl (by kernel_rfl) (by kernel_rfl) (by kernel_rfl) (by kernel_rfl) (fun _ _ _ h => h) (Or.inl ⟨by rfl, ?h2_3⟩) (by assumption) ?r2_3
 case h2_3 =>
  intro W hSW
  try dsimp only at hSW
  go_simp
  try with_reducible rfl
 try simp only [PT]
 refine wpAnyL_take (i := 3) (oi := { dst := some 62, op := Op.fieldAddr 116 (Operand.tmp 61) 0, type := 0, pos := "chunks.go:153", after := #[{ on := 2, ground := Ground.data }], guard := none }) (v := ?v3_4) rfl (by kernel_rfl) (by kernel_rfl) (by kernel_rfl) (by kernel_rfl) (fun _ _ _ h => h) (Or.inl ⟨by rfl, ?h3_4⟩) (by assumption) ?r3_4
 case h3_4 =>
  intro W hSW
  try dsimp only at hSW
  go_simp
  try with_reducible rfl
 try simp only [PT]
 refine wpAnyL_take (i := 4) (oi := { dst := some 63, op := Op.load 56 (Operand.tmp 62), type := 56, pos := "chunks.go:153", after := #[{ on := 3, ground := Ground.data }], guard := none }) (v := ?v4_5) rfl (by kernel_rfl) (by kernel_rfl) (by kernel_rfl) (by kernel_rfl) (fun _ _ _ h => h) (Or.inl ⟨by rfl, ?h4_5⟩) (by assumption) ?r4_5
 case h4_5 =>
  intro W hSW
  try dsimp only at hSW
  have hcc := (hSW.cell (p := ⟨a, 0, none⟩) (show a < w7.heap.size by have := HSZ.out; have := HMA.out; omega) (fun e => by have := HAL.out _ e; (try dsimp only at this); omega)).trans (HRA.out.cell 0)
  go_simp
  try with_reducible rfl
 try simp only [PT]
 refine wpAnyL_take (i := 5) (oi := { dst := some 64, op := Op.move (Operand.tmp 14), type := 3, pos := "chunks.go:153", after := #[], guard := none }) (v := ?v5_6) rfl (by kernel_rfl) (by kernel_rfl) (by kernel_rfl) (by kernel_rfl) (fun _ _ _ h => h) (Or.inl ⟨by rfl, ?h5_6⟩) (by assumption) ?r5_6
 case h5_6 =>
  intro W hSW
  try dsimp only at hSW
  go_simp
  try with_reducible rfl
 try simp only [PT]
 refine wpAnyL_take (i := 6) (oi := { dst := some 65, op := Op.load 68 (Operand.tmp 15), type := 68, pos := "chunks.go:153", after := #[], guard := none }) (v := (.agg cs.toArray)) rfl (by kernel_rfl) (by kernel_rfl) (by kernel_rfl) (by kernel_rfl) (fun _ _ _ h => h) (yieldsIf_load_mid (by rfl) 68 (.tmp 15) rfl bc 0 rfl cs _ (fun W hW j v hv => by rw [Nat.zero_add]; exact (hW.cell (p := ⟨bc, j, none⟩) HSZ.out.2.2.1 (fun e => by have q1 := (HAL.out bc e).1; have := HSZ.out; omega)).trans ((HRZ.out.cell j).trans hv)) Tryz.underlying68 rfl (by rw [HCL.out]; exact sizeCk)) (by assumption) ?_
 try simp only [PT]
 refine wpAnyL_ready (rs := [7]) (by kernel_rfl) (by simp) ?_
 refine AllReadyL.cons (o := { dst := some 66, op := Op.buildSlice 56 1 #[(0, Operand.tmp 65)], type := 56, pos := "chunks.go:153", after := #[{ on := 6, ground := Ground.data }], guard := none }) rfl (fun K hK => ?_) AllReadyL.nil
 rw [if_pos (by rfl)]
 refine wp_build23 (.tmp 65) rfl cs HCL.out rfl ?_
 obtain ⟨vb, hvb⟩ : ∃ x, wd.heap.size = x := ⟨_, rfl⟩
 have rv := IsRow.new wd 68 cs
 obtain ⟨w81, hw81⟩ : ∃ x, wd.alloc (.cells cs.toArray 68) = x := ⟨_, rfl⟩
 rw [hw81, hvb] at rv
 rw [hw81, hvb]
 have hv81 : Keep (fun x => ∃ g, A = some g ∧ x = g.block) w7 w81 := by rw [← hw81]; exact (hv0).alloc _
 have hbl1 : Below w.heap.size w w81 := by rw [← hw81]; exact hbl0.alloc hbl0.size _
 have hvl : w.heap.size ≤ vb := by rw [← hvb]; exact hbl0.size
 clear hw81 hvb
 refine hK.out _ _ (hv81) (fun hHeld => ?_)
 clear hK K
 try simp only [PT]
 refine wpAnyL_ready (rs := [8]) (by kernel_rfl) (by simp) ?_
 refine AllReadyL.cons (o := { dst := some 67, op := Op.call { callee := Callee.value (Operand.func 65), args := #[Operand.tmp 63, Operand.tmp 64, Operand.tmp 66], argTypes := #[56, 3, 56] }, type := 56, pos := "chunks.go:153", after := #[{ on := 4, ground := Ground.data }, { on := 5, ground := Ground.data }, { on := 7, ground := Ground.data }], guard := none }) rfl (fun K hK => ?_) AllReadyL.nil
 go_simp
 refine (HINS.out w81 hbl1 vb rv hvl).mono ?_
 rintro e w82 ⟨A8, c8, rfl, own8, g8, hA8⟩
 have hv82 : Keep (fun x => ∃ g, A = some g ∧ x = g.block) w7 w82 := (hv81).grown g8 (fun i hi => .inl (ownB_some hi))
 have ra := HRA.out.keep (hv82.block a (by have := HSZ.out; have := HMA.out; omega) (fun e => by have := HAL.out _ e; omega))
 have ka := ra.cell 0
 have fa := ra.frozen 0
 have hA9 : A8 = A ∨ ∃ p, A8 = some p ∧ w7.heap.size ≤ p.block := hA8.elim .inl (fun h => h.elim fun p h => .inr ⟨p, h.1, Nat.le_trans (hv81).size h.2⟩)
 have HO8 := Lib.hid (And.intro own8 hA9)
 clear own8 g8 hA8 hA9
 refine hK.out _ _ (hv82) (fun hHeld => ?_)
 clear hK K
 try simp only [PT]
 refine wpAnyL_take (i := 9) (oi := { dst := some 68, op := Op.nilCheck (Operand.tmp 59), type := 0, pos := "chunks.go:153", after := #[{ on := 0, ground := Ground.data }, { on := 0, ground := Ground.phase }, { on := 1, ground := Ground.phase }, { on := 2, ground := Ground.phase }, { on := 3, ground := Ground.phase }, { on := 4, ground := Ground.phase }, { on := 5, ground := Ground.phase }, { on := 6, ground := Ground.phase }, { on := 7, ground := Ground.phase }, { on := 8, ground := Ground.phase }], guard := none }) (v := ?v9_8) rfl (by kernel_rfl) (by kernel_rfl) (by kernel_rfl) (by kernel_rfl) (fun _ _ _ h => h) (Or.inl ⟨by rfl, ?h9_8⟩) (by assumption) ?r9_8
 case h9_8 =>
  intro W hSW
  try dsimp only at hSW
  go_simp
  try with_reducible rfl
 try simp only [PT]
 refine wpAnyL_take (i := 10) (oi := { dst := some 69, op := Op.fieldAddr 116 (Operand.tmp 68) 0, type := 0, pos := "chunks.go:153", after := #[{ on := 9, ground := Ground.data }, { on := 0, ground := Ground.phase }, { on := 1, ground := Ground.phase }, { on := 2, ground := Ground.phase }, { on := 3, ground := Ground.phase }, { on := 4, ground := Ground.phase }, { on := 5, ground := Ground.phase }, { on := 6, ground := Ground.phase }, { on := 7, ground := Ground.phase }, { on := 8, ground := Ground.phase }], guard := none }) (v := ?v10_9) rfl (by kernel_rfl) (by kernel_rfl) (by kernel_rfl) (by kernel_rfl) (fun _ _ _ h => h) (Or.inl ⟨by rfl, ?h10_9⟩) (by assumption) ?r10_9
 case h10_9 =>
  intro W hSW
  try dsimp only at hSW
  go_simp
  try with_reducible rfl
 try simp only [PT]
 refine wpAnyL_ready (rs := [11]) (by kernel_rfl) (by simp) ?_
 refine AllReadyL.late (o := { dst := none, op := Op.store 56 (Operand.tmp 69) (Operand.tmp 67), type := 0, pos := "chunks.go:153", after := #[{ on := 10, ground := Ground.data }, { on := 8, ground := Ground.data }, { on := 8, ground := Ground.chain }, { on := 0, ground := Ground.phase }, { on := 1, ground := Ground.phase }, { on := 2, ground := Ground.phase }, { on := 3, ground := Ground.phase }, { on := 4, ground := Ground.phase }, { on := 5, ground := Ground.phase }, { on := 6, ground := Ground.phase }, { on := 7, ground := Ground.phase }, { on := 8, ground := Ground.phase }], guard := none }) rfl (by rfl) (fun K hK => ?_) AllReadyL.nil
 go_simp
 have HV8 := Lib.hid hv82
 obtain ⟨w83, hw83⟩ : ∃ x, w82.setCell ⟨a, 0, none⟩ (.slice A8 (N + 1) c8) = x := ⟨_, rfl⟩
 rw [hw83]
 clear ka fa ra
 refine hK.out _ _ ?_
 clear hK K
 try simp only [PT]
 refine wpAnyL_done (by kernel_rfl) ?_ _
 go_upto_region 11 with fail
 have hm9 : MapIs w83 m unV (unM l) t.N := by rw [← hw83]; exact ((HM7.out.keep HV8.out (fun e => (HAL.out m e).2.2 rfl)).setCell (show m ≠ a from fun e => HMA.out.2.2 e.symm) _)
 obtain ⟨w10, hrun, hm10, ht10⟩ := hm9.drew.update keyT_un Tryz.underlying114 ⟨r, g, n⟩ (.int .i64 ((k : Int) + 1))
 unfold unV at hrun
 have hk9 : Keep (fun x => x = a ∨ ∃ g, A = some g ∧ x = g.block) w7 w83 := by rw [← hw83]; exact (HV8.out.mono (fun x _ e => .inr e)).setCell (.inl (.inl rfl)) _
 have hfr : ∀ x, w.heap.size ≤ x → ¬ (x = a ∨ ∃ g, A = some g ∧ x = g.block) := fun x hx e => by
  rcases e with e | e
  ·
   have := HMA.out.1; omega
  ·
   have := (HAL.out x e).1; omega
 have x9 := (hk9.cell (p := ⟨w.heap.size, 0, none⟩) (show w.heap.size < w7.heap.size by have := HSZ.out; omega) (hfr w.heap.size (Nat.le_refl _))).trans HY7.out.1
 have y90 := (hk9.cell (p := ⟨w.heap.size + 2, 0, none⟩) (show w.heap.size + 2 < w7.heap.size by have := HSZ.out; omega) (hfr (w.heap.size + 2) (by omega))).trans HY7.out.2.1
 have y91 := (hk9.cell (p := ⟨w.heap.size + 2, 1, none⟩) (show w.heap.size + 2 < w7.heap.size by have := HSZ.out; omega) (hfr (w.heap.size + 2) (by omega))).trans HY7.out.2.2.1
 have y92 := (hk9.cell (p := ⟨w.heap.size + 2, 2, none⟩) (show w.heap.size + 2 < w7.heap.size by have := HSZ.out; omega) (hfr (w.heap.size + 2) (by omega))).trans HY7.out.2.2.2
 have am9 : w83.cell? ⟨a, 1, none⟩ = some (.map (some m)) := by
  have h1 := (HRA.out.keep (HV8.out.block a (by have := HSZ.out; have := HMA.out; omega) (fun e => (HAL.out a e).2.1 rfl))).set 0 (.slice A8 (N + 1) c8)
  rw [hw83] at h1
  exact h1.cell 1
 have bc9 : w83.cell? ⟨bc, 0, none⟩ = some (.int .i64 ((k : Int) + 1)) := (hk9.cell (p := ⟨bc, 0, none⟩) HSZ.out.2.2.1 (hfr bc (by have := HSZ.out; omega))).trans ((HRZ.out.cell 0).trans (by rw [← HCS.out]; rfl))
 have hk10 := (Keep.refl (fun b => b = m) w83.drew).turned ht10 (.inl rfl)
 have bc10 : w10.cell? ⟨bc, 0, none⟩ = some (.int .i64 ((k : Int) + 1)) := (hk10.cell (p := ⟨bc, 0, none⟩) (show bc < w83.heap.size by have := HSZ.out; have := hk9.size; omega) (show bc ≠ m by have := HSZ.out; have := HMA.out; omega)).trans bc9
 have HW83 := Lib.hid hw83
 have HK10 : Hid (Keep (fun b => b = m) w83 w10) := Lib.hid hk10.l_drew
 have HM10 := Lib.hid hm10
 clear hk10 hk9 hw83 hm9 hm10 ht10 hfr
 go_region
 go_wp2
 go_ret2
 unfold AddRes
 obtain ⟨ha1, ha2⟩ := HADD.out
 have hdg : dg.length = 16 := by have := HDL.out; rw [← HD.out, bvs_length] at this; exact this
 have hcs : cs = ckCells ⟨(k : Int) + 1, dg, pr, ⟨r, g, n⟩, false, [⟨tn, 1⟩]⟩ (.slice (some ⟨w4.heap.size, 0, none⟩) 1 1) := by rw [← HCS.out, ← HD.out]; rfl
 obtain ⟨ho8, hA8⟩ := HO8.out
 have hv8 := HV8.out
 have hw8 := HW83.out
 have hk10 := HK10.out
 have hm10 := HM10.out
 have hkn := HKN.out
 obtain ⟨e1, e2, e3⟩ := HNN.out
 have e4 := HM.out
 rw [← e1] at ho8 hw8 hkn
 rw [← e3] at hv8 hA8
 rw [← e4] at hk10 hm10
 rw [hcs] at ho8
 rw [← hw8] at hk10
 have hfin := HT.out.added HBB.out (c := ⟨(k : Int) + 1, dg, pr, ⟨r, g, n⟩, false, [⟨tn, 1⟩]⟩) hdg rfl hkn.1 HB7.out (show w.heap.size ≤ w4.heap.size by have := HSZ.out; omega) HBR.out ho8 hv8 hA8 hk10 hm10 ha2 rfl
 rw [ha1]
 exact ⟨rfl, _, _, hfin⟩
end
section
open Go.RowKit
theorem AddRes.same {w : World} {F S : Nat → Prop} {a : Nat} {t : TM} {l : List Chk.Ck} (h : TAt w F S a t l) (hb : ∀ b, F b ∨ S b → b < w.heap.size) {n c : Int} {e : Ending} {w' : World} (he : e = .returned (.tuple #[.int .i64 n, .int .i64 c])) (hw : Below w.heap.size w w') : AddRes w F S a (l, n, c) e w' :=
 ⟨he, F, S, ⟨t, h.below hw⟩, Keep.of_below hw, fun b hb' => Nat.lt_of_lt_of_le (hb b hb') hw.size, fun _ h => .inl h, fun _ h => .inl h⟩
theorem add_any {w : World} {F S : Nat → Prop} {a : Nat} {t : TM} {l : List Chk.Ck} (h : TAt w F S a t l) (hb : ∀ b, F b ∨ S b → b < w.heap.size) (dg : List UInt8) (hdg : dg.length = 16) (pr : Int) (hp : Chk.inR pr 4294967296) (u : Chk.Un) (tn : Int) :
  Calls Tryz.prog 29 #[.pointer (some ⟨a, 0, none⟩), .agg (bvs dg).toArray, .int .u32 pr, unV u, .int .i64 tn] w (AddRes w F S a (Chk.add l dg pr u tn)) := by
 by_cases hu : Chk.valid u
 ·
  by_cases ht : Chk.tenant tn
  ·
   cases hat : (Chk.unitAt l u).isSome with
   | true =>
    have e : Chk.add l dg pr u tn = (l, 0, 20) := by unfold Chk.add; rw [if_neg (fun e => e ⟨hu, ht⟩), if_pos hat]
    rw [e]
    exact (add_taken h dg hdg pr u tn hu ht hat).mono fun e w' ⟨h1, h2⟩ => AddRes.same h hb h1 h2
   | false =>
    by_cases hn : 65536 ≤ t.n
    ·
     have e : Chk.add l dg pr u tn = (l, 0, 2) := by unfold Chk.add; rw [if_neg (fun e => e ⟨hu, ht⟩), if_neg (by rw [hat]; simp), if_pos (by rw [h.len.1]; exact hn)]
     rw [e]
     exact (add_full h dg hdg pr u tn hu ht hat hn).mono fun e w' ⟨h1, h2⟩ => AddRes.same h hb h1 h2
    ·
     exact add_ok h dg hdg pr u tn hb hp hu ht hat (by omega)
  ·
   have e : Chk.add l dg pr u tn = (l, 0, 1) := by unfold Chk.add; rw [if_pos (fun e => ht e.2)]
   rw [e]
   exact (add_tenant h dg hdg pr u tn hu ht).mono fun e w' ⟨h1, h2⟩ => AddRes.same h hb h1 h2
 ·
  have e : Chk.add l dg pr u tn = (l, 0, 1) := by unfold Chk.add; rw [if_pos (fun e => hu e.1)]
  rw [e]
  exact (add_unit h dg hdg pr u tn hu).mono fun e w' ⟨h1, h2⟩ => AddRes.same h hb h1 h2
end
end Go.Proofs.YtfllkaeaanahmaaGreat
