/- The reference's decoder: Decode. Conditions: at most 2^40 bytes are read. -/
import Derived.Test.YtcicfneekmbamaaChkSI
namespace Go.Proofs.Ytcicfneekmbamaa
set_option linter.unusedVariables false
set_option linter.unusedSimpArgs false
open Go.RowKit
def setLC (l : List Value) (o : Nat) : List Value → List Value
  | [] => l
  | v :: vs => setLC (l.set o v) (o + 1) vs
theorem setLC_mid (post : List Value) : ∀ (pre old new : List Value), old.length = new.length → setLC (pre ++ old ++ post) pre.length new = pre ++ new ++ post
  | pre, [], [], _ => by simp [setLC]
  | pre, [], _ :: _, h => by simp at h
  | pre, _ :: _, [], h => by simp at h
  | pre, a :: old, b :: new, h => by
    have h1 : (pre ++ a :: old ++ post).set pre.length b = (pre ++ [b]) ++ old ++ post := by simp
    have h2 := setLC_mid post (pre ++ [b]) old new (by simpa using h)
    rw [setLC, h1]
    rw [List.length_append] at h2
    simpa using h2
theorem row_setCells {b t : Nat} : ∀ (vs l : List Value) (o : Nat) (w : World), IsRow w b t l → IsRow (w.setCells b o vs) b t (setLC l o vs) ∧ Keep (fun q => q = b) w (w.setCells b o vs)
  | [], _, _, w, h => ⟨h, Keep.refl _ _⟩
  | v :: vs, l, o, w, h => by
    obtain ⟨h1, h2⟩ := row_setCells vs (l.set o v) (o + 1) (w.setCell ⟨b, o, none⟩ v) (h.set o v)
    exact ⟨h1, (setE_keep w b o v).trans h2⟩
theorem row_there {w : World} {b t : Nat} {l : List Value} (h : IsRow w b t l) {o n : Nat} (hn : o + n ≤ l.length) : w.there b o n := fun j hj => by
  refine ⟨?_, h.frozen _⟩
  rw [h.cell]
  simp [show o + j < l.length by omega]
theorem ckCells_dg (c : Chk.Ck) (v : Value) (h : c.dg.length = 16) (D : List UInt8) (hD : D.length = 16) : setLC (ckCells c v) 1 (bvs D) = ckCells { c with dg := D } v := by
  unfold ckCells
  have := setLC_mid [.int .u32 c.pr, .int .i64 c.at_.r, .int .i64 c.at_.g, .int .i64 c.at_.u, .bool c.lost, v] [.int .i64 c.id] (bvs c.dg) (bvs D) (by rw [bvs_length, bvs_length, h, hD])
  rw [List.append_assoc, List.append_assoc] at this
  exact this
theorem wpList_store_dg {w : World} {ops : Array Oper} {rest : List Oper} {o : Oper} {a : Act} {Q : Exit → Act → World → Prop} (hgd : o.guard = none) (x y : Operand) (ho : o.op = .store 42 x y) {bc : Nat} {C : List Value} (hr : IsRow w bc 45 C) (hC : C.length = 23) (D : List UInt8) (hD : D.length = 16)
    (hx : a.eval x = .pointer (some ⟨bc, 1, none⟩)) (hy : a.eval y = .agg (bvs D).toArray) (h : wpList Try.prog ops Q rest (a.put o.dst undef) (w.setCells bc 1 (bvs D))) : wpList Try.prog ops Q (o :: rest) a w := by
  have hl : (bvs D).length = 16 := by rw [bvs_length, hD]
  refine wpList_store_mid hgd _ x y ho bc 1 (bvs D).toArray hx hy (row_there hr (by rw [hC, List.size_toArray, hl]; omega)) (by rw [List.size_toArray, hl]; exact size16d) (all_oneCell_toArray (bvs_one D)) ?_
  rw [List.toList_toArray]
  exact h
/-- what lies in memory between two chunks -/
def RDSt (w : World) (rb a : Nat) (l : List Chk.Ck) (s : Chk.Rdr) (W : World) : Prop :=
  ∃ F S : Nat → Prop, (∃ t, RAt W F S a t l) ∧ (∀ b, F b ∨ S b → rb < b ∧ b < W.heap.size) ∧ Below w.heap.size w W ∧ RdrAt W 106 rb w.heap.size s ∧ w.heap.size = rb
section
variable {w W W' : World} {rb a : Nat} {l : List Chk.Ck} {s s' : Chk.Rdr}
theorem RDSt.b (h : RDSt w rb a l s W) : Below w.heap.size w W := by obtain ⟨F, S, _, _, h3, _⟩ := h; exact h3
theorem RDSt.rd (h : RDSt w rb a l s W) : RdrAt W 106 rb w.heap.size s := by obtain ⟨F, S, _, _, _, h4, _⟩ := h; exact h4
theorem RDSt.read (h : RDSt w rb a l s W) (hs : RdrAt W' 106 rb w.heap.size s') (hk : Keep (fun q => q = rb) W W') : RDSt w rb a l s' W' := by
  obtain ⟨F, S, ⟨t, h1⟩, h2, h3, h4, h5⟩ := h
  refine ⟨F, S, ⟨t, h1.keep hk (fun b hb e => ?_) (fun b hb e => ?_)⟩, fun b e => ⟨(h2 b e).1, Nat.lt_of_lt_of_le (h2 b e).2 hk.size⟩, Below.then_keep h3 hk (fun k e => by omega) (Nat.le_refl _), hs, h5⟩
  · have := (h2 b (.inr hb)).1; omega
  · have := (h2 b (.inl hb)).1; omega
theorem RDSt.inv (h : RDSt w rb a l s W) : Chk.Inv l := by obtain ⟨F, S, ⟨t, h1⟩, _⟩ := h; exact h1.inv
end
/-- what the reference's Decode gives -/
def RDecRes (w : World) (R : List Chk.Ck ⊕ Int) (e : Ending) (w' : World) : Prop :=
  Below w.heap.size w w' ∧ ((∃ l a, R = .inl l ∧ e = .returned (.tuple #[.pointer (some ⟨a, 0, none⟩), .int .i64 0]) ∧ ∃ F S t, RAt w' F S a t l) ∨ (∃ er, R = .inr er ∧ er ≠ 0 ∧ e = .returned (.tuple #[.pointer none, .int .i64 er])))
/-- the chunk in hand: bc, its cells C; the reader -/
structure QSt (w : World) (rb B bc : Nat) (C : List Value) (s : Chk.Rdr) (W : World) : Prop where
  row : IsRow W bc 45 C
  rd : RdrAt W 106 rb B s
  kp : Keep (fun q => q = rb) w W
  o : rb < w.heap.size ∧ w.heap.size ≤ bc ∧ B ≤ rb
section
variable {w W W' : World} {rb B bc : Nat} {C : List Value} {s s' : Chk.Rdr}
theorem QSt.read (h : QSt w rb B bc C s W) (hs : RdrAt W' 106 rb B s') (hk : Keep (fun q => q = rb) W W') : QSt w rb B bc C s' W' :=
  ⟨h.row.keep (hk.block bc h.row.lt (by have := h.o; omega)), hs, h.kp.trans hk, h.o⟩
theorem QSt.put (h : QSt w rb B bc C s W) (j : Nat) (v : Value) : QSt w rb B bc (C.set j v) s (W.setCell ⟨bc, j, none⟩ v) := by
  have ho := h.o
  have hk : Keep (fun q => q = bc) W (W.setCell ⟨bc, j, none⟩ v) := setE_keep W bc j v
  exact ⟨h.row.set j v, h.rd.keep hk (by show ¬ rb = bc; omega) (fun k hk => by show ¬ k = bc; omega), h.kp.then hk (fun k e => .inr (by omega)), h.o⟩
theorem QSt.puts (h : QSt w rb B bc C s W) (j : Nat) (vs : List Value) : QSt w rb B bc (setLC C j vs) s (W.setCells bc j vs) := by
  have ho := h.o
  obtain ⟨h1, hk⟩ := row_setCells vs C j W h.row
  exact ⟨h1, h.rd.keep hk (by show ¬ rb = bc; omega) (fun k hk => by show ¬ k = bc; omega), h.kp.then hk (fun k e => .inr (by omega)), h.o⟩
theorem QSt.below (h : QSt w rb B bc C s W) (hb : Below W.heap.size W W') : QSt w rb B bc C s W' := ⟨h.row.below' hb, h.rd.below hb, h.kp.trans (Keep.of_below hb), h.o⟩
theorem QSt.setE (h : QSt w rb B bc C s W) (e : Int) : QSt w rb B bc C ⟨s.b, e⟩ (W.setCell ⟨rb, 1, none⟩ (.int .i64 e)) := h.read (h.rd.setE e) (setE_keep W rb 1 _)
theorem QSt.grow {row : Option Nat} (h : QSt w rb B bc C s W) (hg : W.grownBy W' row) (hr : ∀ k, row = some k → bc < k) : QSt w rb B bc C s W' := by
  have ho := h.o
  have hk : Keep (fun q => bc < q) W W' := Keep.of_grown hg hr
  exact ⟨h.row.keep (hk.block bc h.row.lt (by omega)), h.rd.keep hk (by omega) (fun k hk => by omega), h.kp.then hk (fun k e => .inr (by omega)), h.o⟩
end
theorem built_ck1 (id : Int) : Try.prog.built 45 [(0, .int .i64 id)] = some (ckCells ⟨id, List.replicate 16 0, 0, Chk.z, false, []⟩ (.slice none 0 0)).toArray := by kernel_rfl
set_option maxRecDepth 100000 in
set_option maxHeartbeats 12800000 in
theorem rdecode_any (b : List UInt8) (A : Option Addr) (n c : Nat) (hbn : b.length = n) (hL : n ≤ 1099511627776) (hc : n ≤ c) (hcm : c ≤ maxLen) (w : World) (rd : Rd w w.heap.size 1 A n (bvs b)) :
    Calls Try.prog 38 #[.slice A n c] w (RDecRes w (Chk.decT b)) := by
  obtain ⟨x, s1, h1⟩ : ∃ x y, Chk.num ⟨b, 0⟩ 0 65536 = (x, y) := ⟨_, _, rfl⟩
  obtain ⟨L, s2, h2⟩ : ∃ y z, Chk.decN x.toNat [] 0 s1 = (y, z) := ⟨_, _, rfl⟩
  have HDT := Lib.hid (Chk.decT_eq h1 h2)
  obtain ⟨N, hN⟩ : ∃ N : Nat, x.toNat = N := ⟨_, rfl⟩
  have hxr := num_range h1
  have hxN : x = (N : Int) := by omega
  subst hxN
  have hN6 : N ≤ 65536 := by omega
  rw [Int.toNat_natCast] at h2
  have HD2 := Lib.hid h2
  have HNZ : Hid (s1.e ≠ 0 → N = 0) := Lib.hid (fun h => by
    unfold Chk.num at h1
    split at h1
    · have := (Prod.mk.inj h1).1; omega
    · split at h1
      · have := (Prod.mk.inj h1).1; omega
      · split at h1
        · have := (Prod.mk.inj h1).2; rw [← this] at h; exact absurd rfl h
        · have := (Prod.mk.inj h1).1; omega)
  have HL1 : Hid (s1.b.length ≤ 1099511627776) := Lib.hid (by have := num_len h1; have h3 : s1.b.length ≤ b.length := this; omega)
  obtain ⟨w0, hw0⟩ : ∃ z, w.alloc (.cells #[.slice A n c, .int .i64 0] 106) = z := ⟨_, rfl⟩
  have hb0 : Below w.heap.size w w0 := by rw [← hw0]; exact (Below.refl _ _).alloc (Nat.le_refl _) _
  have hrw : IsRow w0 w.heap.size 106 [.slice A n c, .int .i64 0] := by rw [← hw0]; exact IsRow.new w _ [.slice A n c, .int .i64 0]
  have hs0 : w0.heap.size = w.heap.size + 1 := by rw [← hw0]; simp
  have hrd0 : RdrAt w0 106 w.heap.size w.heap.size ⟨b, 0⟩ := ⟨A, n, c, hrw, hbn, hc, hcm, rd.below hb0, Nat.le_refl _⟩
  obtain ⟨w1, hw1⟩ : ∃ z, w0.alloc (.cells #[.slice none 0 0] 34) = z := ⟨_, rfl⟩
  have hb1 : Below w0.heap.size w0 w1 := by rw [← hw1]; exact (Below.refl _ _).alloc (Nat.le_refl _) _
  have hra : IsRow w1 w0.heap.size 34 [.slice none 0 0] := by rw [← hw1]; exact IsRow.new w0 _ [.slice none 0 0]
  have hs1 : w1.heap.size = w0.heap.size + 1 := by rw [← hw1]; simp
  obtain ⟨rb, hrb⟩ : ∃ y, w.heap.size = y := ⟨_, rfl⟩
  obtain ⟨a, ha⟩ : ∃ y, w0.heap.size = y := ⟨_, rfl⟩
  have hst : RDSt w rb a [] ⟨b, 0⟩ w1 := by
    refine ⟨fun _ => False, fun q => q = a, ⟨⟨none, 0, 0, []⟩, by rw [← ha]; exact hra, World.ownsRow_nil _ _ _ _, rfl, fun _ hx => (List.not_mem_nil hx).elim, rfl, fun g hg => (by cases hg), fun g hg => (by cases hg), fun _ e => e.elim, Chk.Inv.nil⟩, fun q e => ?_, hb0.trans (hb1.mono hb0.size), by rw [← hrb]; exact hrd0.below hb1, hrb⟩
    rcases e with e | e
    · exact e.elim
    · omega
  have HS1 := Lib.hid hst
  have HW0 := Lib.hid hw0
  have HW1 := Lib.hid hw1
  have HRB := Lib.hid (And.intro hrb ha)
  have HN1 := Lib.hid (fun W h => rnumber_any rb w.heap.size ⟨b, 0⟩ 0 65536 (by show b.length ≤ _; omega) (N : Int) s1 h1 W h)
  clear hw0 hb0 hrw hs0 hrd0 rd hxr hN h1 h2 hcm hc hL hbn hw1 hb1 hra hs1 hst hrb ha
  go_enter Try.func38, Try.ntmps38
  go_upto_region 2 with fail
  rw [HW0.out]
  go_upto_region 3 with fail
  rw [HW1.out]
  try rw [HRB.out.1]
  try rw [HRB.out.2]
  go_upto_region 4 with (go_at_call 64; refine (HN1.out w1 HS1.out.rd).mono ?_; rintro e' w3 ⟨rfl, hs3, hk3⟩; have HS3 := Lib.hid (HS1.out.read hs3 hk3); clear hs3 hk3)
  go_upto_region 6 with fail
  go_loopw [7, 8] (fun u7 u8 wx => ∃ (wr : World) (j : Nat) (last : Int) (s : Chk.Rdr), wr = wx ∧ j ≤ N ∧ u8 = .int .i64 (j : Int) ∧ u7 = .int .i64 last ∧ Hid ((∃ l, RDSt w rb a l s wr ∧ Chk.decN (N - j) l last s = (L, s2) ∧ (0 ≤ last ∧ last ≤ 65536 ∧ (∀ x ∈ l, x.id ≤ last) ∧ s.b.length ≤ 1099511627776) ∧ (j < N → s.e = 0)) ∨ (Below w.heap.size w wr ∧ RdrAt wr 106 rb w.heap.size s ∧ s.e ≠ 0 ∧ Chk.decT b = .inr s.e))) (fun _ u8 _ => N - (intOf u8).toNat)
  case atStart => exact ⟨_, 0, 0, s1, rfl, Nat.zero_le _, rfl, rfl, Lib.hid (.inl ⟨[], HS3.out, HD2.out, ⟨by omega, by omega, by simp, HL1.out⟩, fun h => Classical.byContradiction fun h2 => by have := HNZ.out h2; omega⟩)⟩
  case round =>
    obtain ⟨wr, j, last, s, rfl, hj, rfl, rfl, HSJ⟩ := hrel
    have HRD : Hid (RdrAt wr 106 rb w.heap.size s) := Lib.hid (by
      rcases HSJ.out with ⟨l, h, _⟩ | ⟨_, h, _⟩
      · exact h.rd
      · exact h)
    have c1 := HRD.out.cellE
    by_cases hgo : j < N ∧ s.e = 0
    · obtain ⟨hlt, hse⟩ := hgo
      obtain ⟨l, hRS, hDN, hLJ, _⟩ : ∃ l, RDSt w rb a l s wr ∧ Chk.decN (N - j) l last s = (L, s2) ∧ (0 ≤ last ∧ last ≤ 65536 ∧ (∀ x ∈ l, x.id ≤ last) ∧ s.b.length ≤ 1099511627776) ∧ (j < N → s.e = 0) := by
        rcases HSJ.out with h | ⟨_, _, h, _⟩
        · exact h
        · exact absurd hse h
      have HRS := Lib.hid hRS
      have HDJ := Lib.hid hDN
      have HLJ := Lib.hid hLJ
      rw [hse] at c1
      have e2 : (j : Int) < (N : Int) := by omega
      clear hRS hDN hLJ hse
      obtain ⟨x1, q1, h1⟩ : ∃ x y, Chk.num s (last + 1) 65536 = (x, y) := ⟨_, _, rfl⟩
      obtain ⟨dg, q2, h2⟩ : ∃ x y, Chk.dgs q1 = (x, y) := ⟨_, _, rfl⟩
      obtain ⟨x3, q3, h3⟩ : ∃ x y, Chk.num q2 0 4294967295 = (x, y) := ⟨_, _, rfl⟩
      obtain ⟨xq, sq, hq⟩ : ∃ x y, Chk.num q3 0 1 = (x, y) := ⟨_, _, rfl⟩
      obtain ⟨ur, sr, hur⟩ : ∃ x y, Chk.num sq 0 4095 = (x, y) := ⟨_, _, rfl⟩
      obtain ⟨ug, sg, hug⟩ : ∃ x y, Chk.num sr 0 63 = (x, y) := ⟨_, _, rfl⟩
      obtain ⟨uu, su, huu⟩ : ∃ x y, Chk.num sg 0 31 = (x, y) := ⟨_, _, rfl⟩
      obtain ⟨lo, u, s4, h4⟩ : ∃ lo u s4, Chk.place l q3 = (lo, u, s4) := ⟨_, _, _, rfl⟩
      obtain ⟨x5, s5, h5⟩ : ∃ x y, Chk.num s4 1 16 = (x, y) := ⟨_, _, rfl⟩
      obtain ⟨rs, s6, h6⟩ : ∃ x y, Chk.refsN x5.toNat [] (-1) s5 = (x, y) := ⟨_, _, rfl⟩
      have HDC : Hid (Chk.decC l last s = (⟨x1, dg, x3, u, lo, rs⟩, s6)) := Lib.hid (by unfold Chk.decC; simp only [h1, h2, h3, h4, h5, h6])
      have hun : Chk.unit sq = (⟨ur, ug, uu⟩, su) := by unfold Chk.unit; simp only [hur, hug, huu]
      have HPL : Hid (lo = (xq == 1) ∧ ((xq == 1) = true → u = Chk.z ∧ s4 = sq) ∧ ((xq == 1) = false → u = ⟨ur, ug, uu⟩ ∧ s4 = if su.e = 0 ∧ (Chk.unitAt l ⟨ur, ug, uu⟩).isSome = true then ⟨su.b, 6⟩ else su)) := Lib.hid (by
        have h4' := h4
        unfold Chk.place at h4'
        simp only [hq, hun] at h4'
        by_cases hxq : xq = 1
        · rw [if_pos hxq] at h4'
          injection h4' with e1 e2
          injection e2 with e2 e3
          subst e1 e2 e3
          exact ⟨by simp [hxq], fun _ => ⟨rfl, rfl⟩, fun h => by simp [hxq] at h⟩
        · rw [if_neg hxq] at h4'
          injection h4' with e1 e2
          injection e2 with e2 e3
          subst e1 e2
          exact ⟨by simp [hxq], fun h => absurd (by simpa using h) hxq, fun _ => ⟨rfl, e3.symm⟩⟩)
      have l1 := num_len h1
      have l2 := dgs_len h2
      have l3 := num_len h3
      have lq := num_len hq
      have lr := num_len hur
      have lg := num_len hug
      have lu := num_len huu
      have HDG := Lib.hid (dgs_16 h2)
      have r3 := num_range h3
      have r5 := num_range h5
      have hL := HLJ.out.2.2.2
      have hL4 : s4.b.length ≤ 1099511627776 := by
        obtain ⟨_, p1, p2⟩ := HPL.out
        cases hlo : (xq == 1) with
        | true => rw [(p1 hlo).2]; omega
        | false => rw [(p2 hlo).2]; split <;> (try dsimp only) <;> omega
      have l5 := num_len h5
      have N1 := Lib.hid (fun W h => rnumber_any rb w.heap.size s (last + 1) 65536 hL x1 q1 h1 W h)
      have N2 := Lib.hid (fun W h => rdigestR_any rb w.heap.size q1 (by omega) dg q2 h2 W h)
      have N3 := Lib.hid (fun W h => rnumber_any rb w.heap.size q2 0 4294967295 (by omega) x3 q3 h3 W h)
      have NQ := Lib.hid (fun W h => rnumber_any rb w.heap.size q3 0 1 (by omega) xq sq hq W h)
      have NR := Lib.hid (fun W h => rnumber_any rb w.heap.size sq 0 4095 (by omega) ur sr hur W h)
      have NG := Lib.hid (fun W h => rnumber_any rb w.heap.size sr 0 63 (by omega) ug sg hug W h)
      have NU := Lib.hid (fun W h => rnumber_any rb w.heap.size sg 0 31 (by omega) uu su huu W h)
      have N5 := Lib.hid (fun W h => rnumber_any rb w.heap.size s4 1 16 hL4 x5 s5 h5 W h)
      have HL5 : Hid (s5.b.length ≤ 1099511627776) := Lib.hid (by omega)
      have HX5 : Hid (0 ≤ x5 ∧ x5 ≤ 16) := Lib.hid (by omega)
      have HRF := Lib.hid h6
      have HE5 := Lib.hid h5
      have HX3 : Hid (IntKind.u32.wrap x3 = x3) := Lib.hid (IntWalk.u32_in _ (by omega))
      have HBT := Lib.hid (built_ck1 x1)
      have HZ16 : Hid ((List.replicate 16 (0 : UInt8)).length = 16) := Lib.hid (by simp)
      have el : IntKind.i64.wrap (last + 1) = last + 1 := IntWalk.i64_in _ (by have := HLJ.out; omega)
      clear h1 h2 h3 hq hur hug huu h4 h5 h6 hun l1 l2 l3 lq lr lg lu l5 hL hL4 r3 r5
      obtain ⟨cs1, hc1⟩ : ∃ y, ckCells ⟨x1, List.replicate 16 0, 0, Chk.z, false, []⟩ (.slice none 0 0) = y := ⟨_, rfl⟩
      rw [hc1] at HBT
      have HC1 := Lib.hid hc1
      have HL1' : Hid (cs1.length = 23 ∧ ∀ v ∈ cs1, v.oneCell' = true) := Lib.hid ⟨by rw [← hc1]; exact ckCells_len HZ16.out _, by rw [← hc1]; exact ckCells_one _ _ rfl⟩
      clear hc1
      go_upto_region 9 with (go_at_call 64; refine (N1.out wr HRD.out).mono ?_; rintro e' w4 ⟨rfl, hs4, hk4⟩; have HS4 := Lib.hid (And.intro hs4 hk4); clear hs4 hk4)
      clear c1 el
      go_upto_region 10 with (first
        | (refine wpList_storeRow rfl _ (.tmp 9) (.tmp 39) rfl (l' := cs1) rz5 rfl rfl (by rw [HL1'.out.1]; exact sizeCk) (by rw [HL1'.out.1]; rfl) (List.all_eq_true.2 HL1'.out.2) ?_; intro w6 rz6 g6 z6)
        | (refine wpList_buildTo rfl 45 _ rfl (some 39) rfl cs1.toArray (by simpa [Act.eval] using HBT.out) ?_)
        | (refine wpList_allocRow rfl _ rfl _ infoCk' ?_; intro w5 rz5 b5 z5))
      obtain ⟨bc, hbc⟩ : ∃ y, w4.heap.size = y := ⟨_, rfl⟩
      have hb46 : Below w4.heap.size w4 w6 := b5.grown g6 b5.size (fun i hi => by have := Option.some.inj hi; omega)
      have hst : QSt wr rb w.heap.size bc cs1 q1 w6 := by
        rw [hbc] at rz6
        exact ⟨rz6, HS4.out.1.below hb46, HS4.out.2.trans (Keep.of_below hb46), HRD.out.lt, by have := HS4.out.2.size; omega, by have := HRB.out.1; omega⟩
      try rw [hbc]
      have HP6 := Lib.hid hst
      clear hst hb46 rz5 b5 z5 rz6 g6 z6 hbc HS4 N1 HBT
      go_upto_region 11 with (first
        | (refine wpList_store_dg rfl (.tmp 42) (.tmp 41) rfl HP7.out.row HL1'.out.1 dg HDG.out rfl rfl ?_)
        | (go_at_call 65; refine (N2.out w6 HP6.out.rd).mono ?_; rintro e' w7 ⟨rfl, hs7, hk7⟩; have HP7 := Lib.hid (HP6.out.read hs7 hk7); clear hs7 hk7))
      have HP8 := Lib.hid (HP7.out.puts 1 (bvs dg))
      have HC8 : Hid (setLC cs1 1 (bvs dg) = ckCells ⟨x1, dg, 0, Chk.z, false, []⟩ (.slice none 0 0)) := Lib.hid (by rw [← HC1.out, ckCells_dg _ _ HZ16.out _ HDG.out])
      obtain ⟨w8, hw8⟩ : ∃ y, w7.setCells bc 1 (bvs dg) = y := ⟨_, rfl⟩
      rw [hw8, HC8.out] at HP8
      try rw [show w7.setCells bc 1 (bvs dg).toArray.toList = w8 from by simpa using hw8]
      try rw [hw8]
      have ew := HX3.out
      clear hw8 HP6 HP7 HC8 HC1 HL1' N2
      have HK17 : Hid ((ckCells ⟨x1, dg, 0, Chk.z, false, []⟩ (.slice none 0 0))[17]? = some (.int .u32 0)) := Lib.hid (ckCells_at _ _ HDG.out).2.1
      go_upto_region 12 with (go_at_call 64; refine (N3.out w8 HP8.out.rd).mono ?_; rintro e' w9 ⟨rfl, hs9, hk9⟩; have HP9 := Lib.hid (HP8.out.read hs9 hk9); have k17 : w9.cell? ⟨bc, 17, none⟩ = some (.int .u32 0) := (HP9.out.row.cell 17).trans HK17.out; have f17 := HP9.out.row.frozen 17; clear hs9 hk9)
      have HP10 := Lib.hid (HP9.out.put 17 (.int .u32 x3))
      have HC10 : Hid ((ckCells ⟨x1, dg, 0, Chk.z, false, []⟩ (.slice none 0 0)).set 17 (.int .u32 x3) = ckCells ⟨x1, dg, x3, Chk.z, false, []⟩ (.slice none 0 0)) := Lib.hid (ckCells_pr _ _ HDG.out x3)
      obtain ⟨w10, hw10⟩ : ∃ y, w9.setCell ⟨bc, 17, none⟩ (.int .u32 x3) = y := ⟨_, rfl⟩
      rw [hw10, HC10.out] at HP10
      try rw [hw10]
      clear hw10 k17 f17 ew HP8 HP9 HC10
      have hqb : (xq == 1) = lo := HPL.out.1.symm
      have HK21 : Hid (∀ (v : Value) (b : Bool), (ckCells ⟨x1, dg, x3, Chk.z, b, []⟩ v)[21]? = some (.bool b)) := Lib.hid (fun v b => (ckCells_at _ _ HDG.out).2.2.2.2.2.1)
      have HPT : Hid (lo = true → u = Chk.z ∧ s4 = sq) := Lib.hid (fun h => HPL.out.2.1 (by rw [hqb]; exact h))
      have HPF : Hid (lo = false → u = ⟨ur, ug, uu⟩ ∧ s4 = if su.e = 0 ∧ (Chk.unitAt l ⟨ur, ug, uu⟩).isSome = true then ⟨su.b, 6⟩ else su) := Lib.hid (fun h => HPL.out.2.2 (by rw [hqb]; exact h))
      go_upto_region 13 with (go_at_call 64; refine (NQ.out w10 HP10.out.rd).mono ?_; rintro e' w11 ⟨rfl, hs11, hk11⟩; have HP11 := Lib.hid (HP10.out.read hs11 hk11); have k21 : w11.cell? ⟨bc, 21, none⟩ = some (.bool false) := (HP11.out.row.cell 21).trans (HK21.out _ _); have f21 := HP11.out.row.frozen 21; clear hs11 hk11)
      have HP12 := Lib.hid (HP11.out.put 21 (.bool lo))
      have HC12 : Hid ((ckCells ⟨x1, dg, x3, Chk.z, false, []⟩ (.slice none 0 0)).set 21 (.bool lo) = ckCells ⟨x1, dg, x3, Chk.z, lo, []⟩ (.slice none 0 0)) := Lib.hid (ckCells_put _ _ HDG.out Chk.z lo).2.2.2
      obtain ⟨w12, hw12⟩ : ∃ y, w11.setCell ⟨bc, 21, none⟩ (.bool lo) = y := ⟨_, rfl⟩
      rw [hw12, HC12.out] at HP12
      try rw [hw12]
      clear hw12 k21 f21 hqb HP10 HP11 HC12 HPL
      have k21 : w12.cell? ⟨bc, 21, none⟩ = some (.bool lo) := (HP12.out.row.cell 21).trans (HK21.out _ _)
      have HAT : Hid (∀ W, Keep (fun q => q = rb) wr W → ∀ (y : Chk.Un) (v : Int) (q : Bool), (Chk.unitAt l y).getD 0 = v → (Chk.unitAt l y).isSome = q → Calls Try.prog 17 #[.pointer (some ⟨a, 0, none⟩), unV y] W fun e w' => e = .returned (.tuple #[.int .i64 v, .bool q]) ∧ Below W.heap.size W w') := Lib.hid (fun W hW y v q hv hq => by
        obtain ⟨F, S, ⟨t, ht⟩, hbd, _⟩ := HRS.out
        exact rat_any (ht.keep hW (fun b hb e => by have := (hbd b (.inr hb)).1; omega) (fun b hb e => by have := (hbd b (.inl hb)).1; omega)) y v q hv hq)
      go_upto_if 53 with fail
      clear k21
      go_cut [10, 11] from 54 to 85 (fun u10 u11 wx => ∃ (wv : World), wv = wx ∧ Hid (QSt wr rb w.heap.size bc (ckCells ⟨x1, dg, x3, u, lo, []⟩ (.slice none 0 0)) s4 wv))
      case first =>
        cases lo with
        | true =>
          go_wp2_with fail
          go_meet
          obtain ⟨hu, h4⟩ : u = Chk.z ∧ s4 = sq := by have := HPT.out; first | exact this rfl | exact this trivial
          refine ⟨_, rfl, Lib.hid ?_⟩
          rw [hu, h4]
          exact HP12.out
        | false =>
          obtain ⟨hu, h4⟩ : u = ⟨ur, ug, uu⟩ ∧ s4 = if su.e = 0 ∧ (Chk.unitAt l ⟨ur, ug, uu⟩).isSome = true then ⟨su.b, 6⟩ else su := by have := HPF.out; first | exact this rfl | exact this trivial
          have HU := Lib.hid hu
          have HH4 := Lib.hid h4
          have HATZ := Lib.hid (ckCells_at ⟨x1, dg, x3, Chk.z, false, []⟩ (.slice none 0 0) HDG.out)
          clear hu h4 HPT HPF
          go_upto_region 15 with (go_at_call 64; refine (NR.out w12 HP12.out.rd).mono ?_; rintro e' w13 ⟨rfl, hs13, hk13⟩; have HP13 := Lib.hid (HP12.out.read hs13 hk13); have k18 : w13.cell? ⟨bc, 18, none⟩ = some (.int .i64 0) := (HP13.out.row.cell 18).trans HATZ.out.2.2.1; have f18 := HP13.out.row.frozen 18; clear hs13 hk13)
          have HP14 := Lib.hid (HP13.out.put 18 (.int .i64 ur))
          have HC14 : Hid ((ckCells ⟨x1, dg, x3, Chk.z, false, []⟩ (.slice none 0 0)).set 18 (.int .i64 ur) = ckCells ⟨x1, dg, x3, ⟨ur, 0, 0⟩, false, []⟩ (.slice none 0 0)) := Lib.hid (ckCells_put ⟨x1, dg, x3, Chk.z, false, []⟩ _ HDG.out ⟨ur, 0, 0⟩ false).1
          obtain ⟨w14, hw14⟩ : ∃ y, w13.setCell ⟨bc, 18, none⟩ (.int .i64 ur) = y := ⟨_, rfl⟩
          rw [hw14, HC14.out] at HP14
          try rw [hw14]
          clear hw14 k18 f18 HP13 HC14 HP12
          have HATA := Lib.hid (ckCells_at ⟨x1, dg, x3, ⟨ur, 0, 0⟩, false, []⟩ (.slice none 0 0) HDG.out)
          go_upto_region 16 with (go_at_call 64; refine (NG.out w14 HP14.out.rd).mono ?_; rintro e' w15 ⟨rfl, hs15, hk15⟩; have HP15 := Lib.hid (HP14.out.read hs15 hk15); have k19 : w15.cell? ⟨bc, 19, none⟩ = some (.int .i64 0) := (HP15.out.row.cell 19).trans HATA.out.2.2.2.1; have f19 := HP15.out.row.frozen 19; clear hs15 hk15)
          have HP16 := Lib.hid (HP15.out.put 19 (.int .i64 ug))
          have HC16 : Hid ((ckCells ⟨x1, dg, x3, ⟨ur, 0, 0⟩, false, []⟩ (.slice none 0 0)).set 19 (.int .i64 ug) = ckCells ⟨x1, dg, x3, ⟨ur, ug, 0⟩, false, []⟩ (.slice none 0 0)) := Lib.hid (ckCells_put ⟨x1, dg, x3, ⟨ur, 0, 0⟩, false, []⟩ _ HDG.out ⟨0, ug, 0⟩ false).2.1
          obtain ⟨w16, hw16⟩ : ∃ y, w15.setCell ⟨bc, 19, none⟩ (.int .i64 ug) = y := ⟨_, rfl⟩
          rw [hw16, HC16.out] at HP16
          try rw [hw16]
          clear hw16 k19 f19 HP15 HC16 HP14
          have HATB := Lib.hid (ckCells_at ⟨x1, dg, x3, ⟨ur, ug, 0⟩, false, []⟩ (.slice none 0 0) HDG.out)
          go_upto_region 17 with (go_at_call 64; refine (NU.out w16 HP16.out.rd).mono ?_; rintro e' w17 ⟨rfl, hs17, hk17⟩; have HP17 := Lib.hid (HP16.out.read hs17 hk17); have k20 : w17.cell? ⟨bc, 20, none⟩ = some (.int .i64 0) := (HP17.out.row.cell 20).trans HATB.out.2.2.2.2.1; have f20 := HP17.out.row.frozen 20; clear hs17 hk17)
          have HP18 := Lib.hid (HP17.out.put 20 (.int .i64 uu))
          have HC18 : Hid ((ckCells ⟨x1, dg, x3, ⟨ur, ug, 0⟩, false, []⟩ (.slice none 0 0)).set 20 (.int .i64 uu) = ckCells ⟨x1, dg, x3, ⟨ur, ug, uu⟩, false, []⟩ (.slice none 0 0)) := Lib.hid (ckCells_put ⟨x1, dg, x3, ⟨ur, ug, 0⟩, false, []⟩ _ HDG.out ⟨0, 0, uu⟩ false).2.2.1
          obtain ⟨w18, hw18⟩ : ∃ y, w17.setCell ⟨bc, 20, none⟩ (.int .i64 uu) = y := ⟨_, rfl⟩
          rw [hw18, HC18.out] at HP18
          try rw [hw18]
          clear hw18 k20 f20 HP17 HC18 HP16
          obtain ⟨q, hq⟩ : ∃ q, (Chk.unitAt l ⟨ur, ug, uu⟩).isSome = q := ⟨_, rfl⟩
          obtain ⟨v, hv⟩ : ∃ q, (Chk.unitAt l ⟨ur, ug, uu⟩).getD 0 = q := ⟨_, rfl⟩
          have HAQ := Lib.hid (HAT.out w18 HP18.out.kp ⟨ur, ug, uu⟩ v q hv hq)
          unfold unV at HAQ
          rw [hq] at HH4
          have HATC := Lib.hid (ckCells_at ⟨x1, dg, x3, ⟨ur, ug, uu⟩, false, []⟩ (.slice none 0 0) HDG.out)
          have k18 : w18.cell? ⟨bc, 18, none⟩ = some (.int .i64 ur) := (HP18.out.row.cell 18).trans HATC.out.2.2.1
          have k19 : w18.cell? ⟨bc, 19, none⟩ = some (.int .i64 ug) := (HP18.out.row.cell 19).trans HATC.out.2.2.2.1
          have k20 : w18.cell? ⟨bc, 20, none⟩ = some (.int .i64 uu) := (HP18.out.row.cell 20).trans HATC.out.2.2.2.2.1
          clear hq hv
          go_upto_region 18 with (go_at_call 17; refine HAQ.out.mono ?_; rintro e' w19 ⟨rfl, b19⟩; have HP19 := Lib.hid (HP18.out.below b19); clear b19)
          clear k18 k19 k20
          have c1 := HP19.out.rd.cellE
          have f1 := HP19.out.rd.frozen 1
          obtain ⟨ue, hue⟩ : ∃ y, su.e = y := ⟨_, rfl⟩
          rw [hue] at c1
          rw [hue] at HH4
          have HUE := Lib.hid hue
          clear hue
          cases q with
          | false =>
            go_wp2_with fail
            go_meet
            refine ⟨_, rfl, Lib.hid ?_⟩
            have h4 := HH4.out
            rw [if_neg (fun h => by cases h.2)] at h4
            rw [HU.out, h4]
            exact HP19.out
          | true =>
            by_cases hz : ue = 0
            · subst hz
              have HSE := Lib.hid (HP19.out.setE 6)
              go_wp2_with fail
              go_meet
              refine ⟨_, rfl, Lib.hid ?_⟩
              have h4 : s4 = ⟨su.b, 6⟩ := by have := HH4.out; simpa using this
              rw [HU.out, h4]
              exact HSE.out
            · have hz' : (ue == 0) = false := by simpa using hz
              have h4 := HH4.out
              rw [if_neg (fun h => hz h.1)] at h4
              have HH := Lib.hid h4
              clear hz h4
              go_wp2_with fail
              go_meet
              refine ⟨_, rfl, Lib.hid ?_⟩
              rw [HU.out, HH.out]
              exact HP19.out
      case rest =>
        obtain ⟨w20, rfl, HP20⟩ := hcut
        clear HAT HPT HPF HP12 NQ NR NG NU N3
        obtain ⟨nr, rfl⟩ : ∃ n : Nat, x5 = (n : Int) := ⟨x5.toNat, by have := HX5.out.1; omega⟩
        have hn16 : nr ≤ 16 := by have := HX5.out.2; omega
        have hrf := HRF.out
        rw [Int.toNat_natCast] at hrf
        have HRF1 := Lib.hid hrf
        clear hrf HRF HX5
        go_upto_region 21 with (go_at_call 64; refine (N5.out w20 HP20.out.rd).mono ?_; rintro e' w21 ⟨rfl, hs21, hk21⟩; have HP21 := Lib.hid (HP20.out.read hs21 hk21); clear hs21 hk21)
        clear HP20
        go_cut [13] from 13 to 13 (fun u13 wx => u13 = .int .i64 (-1) ∧ w21 = wx)
        case first =>
          go_wp2_with fail
          go_meet
          exact ⟨rfl, rfl⟩
        case rest =>
          obtain ⟨rfl, rfl⟩ := hcut
          go_step
          go_step
          go_cut [13, 14] from 88 to 116 (fun u13 u14 wx => ∃ (wv : World) (acc : List Chk.Rf) (A : Option Addr) (k i : Nat), wv = wx ∧ Hid (acc.length = i ∧ i ≤ 16) ∧ Hid (s6.e = 0 → acc = rs) ∧ Hid (QSt wr rb w.heap.size bc (ckCells ⟨x1, dg, x3, u, lo, []⟩ (.slice A i k)) s6 wv) ∧ Hid (wv.ownsRow (bc + 1) 83 2 (.slice A i k) i (rfs acc)))
          case first =>
            go_upto_region 23 with fail
            go_loopw [13, 14] (fun u13 u14 wx => ∃ (wd : World) (i : Nat) (acc : List Chk.Rf) (t : Int) (sj : Chk.Rdr) (A : Option Addr) (k : Nat), wd = wx ∧ i ≤ nr ∧ u14 = .int .i64 (i : Int) ∧ u13 = .int .i64 t ∧ Hid (-1 ≤ t ∧ t ≤ 15) ∧ Hid (acc.length = i ∧ (sj.e = 0 → ∀ r ∈ acc, 1 ≤ r.n) ∧ Chk.total acc ≤ 2147483647) ∧ Hid (sj.b.length ≤ 1099511627776) ∧ Hid (Chk.refsN (nr - i) acc t sj = (rs, s6)) ∧ Hid (QSt wr rb w.heap.size bc (ckCells ⟨x1, dg, x3, u, lo, []⟩ (.slice A i k)) sj wd) ∧ Hid (wd.ownsRow (bc + 1) 83 2 (.slice A i k) i (rfs acc))) (fun _ u14 _ => nr - (intOf u14).toNat)
            case atStart => exact ⟨_, 0, [], -1, s5, none, 0, rfl, Nat.zero_le _, rfl, rfl, Lib.hid ⟨by omega, by omega⟩, Lib.hid ⟨rfl, by simp, by simp [Chk.total]⟩, HL5, Lib.hid HRF1.out, HP21, Lib.hid (World.ownsRow_nil _ _ _ _)⟩
            case round =>
              obtain ⟨wd, i, acc, t, sj, A, k, rfl, hi, rfl, rfl, HT, HA, HLJ2, HRJ, HPJ, HOJ⟩ := hrel
              have c1 := HPJ.out.rd.cellE
              by_cases hlt : i < nr
              · by_cases hse : sj.e = 0
                · obtain ⟨x, sa, hxa⟩ : ∃ x y, Chk.num sj (t + 1) 15 = (x, y) := ⟨_, _, rfl⟩
                  obtain ⟨T, hT⟩ : ∃ T, Chk.total acc = T := ⟨_, rfl⟩
                  obtain ⟨y, sb, hyb⟩ : ∃ x y, Chk.num sa 1 (2147483647 - T) = (x, y) := ⟨_, _, rfl⟩
                  have hp1 := HA.out.2.1 hse
                  have hT0 : 0 ≤ T := by rw [← hT]; exact Chk.total_nonneg hp1
                  have hT1 : T ≤ 2147483647 := by rw [← hT]; exact HA.out.2.2
                  have ha := num_len hxa
                  have hb := num_len hyb
                  have hra := num_range hxa
                  have hrb := num_range hyb
                  have HRJ2 : Hid (Chk.refsN (nr - (i + 1)) (acc ++ [(⟨x, y⟩ : Chk.Rf)]) x sb = (rs, s6)) := Lib.hid (by
                    have h0 := HRJ.out
                    rw [show nr - i = (nr - (i + 1)) + 1 by omega] at h0
                    have h1 : Chk.refsN (nr - (i + 1) + 1) acc t sj = Chk.refsN (nr - (i + 1)) (acc ++ [⟨(Chk.num sj (t + 1) 15).1, (Chk.num (Chk.num sj (t + 1) 15).2 1 (Chk.most - Chk.total acc)).1⟩]) (Chk.num sj (t + 1) 15).1 (Chk.num (Chk.num sj (t + 1) 15).2 1 (Chk.most - Chk.total acc)).2 := rfl
                    rw [h1, hxa, hT] at h0
                    simp only [show Chk.most = 2147483647 from rfl, hyb] at h0
                    exact h0)
                  have HA2 : Hid ((acc ++ [(⟨x, y⟩ : Chk.Rf)]).length = i + 1 ∧ (sb.e = 0 → ∀ r ∈ acc ++ [(⟨x, y⟩ : Chk.Rf)], 1 ≤ r.n) ∧ Chk.total (acc ++ [(⟨x, y⟩ : Chk.Rf)]) ≤ 2147483647) := Lib.hid ⟨by rw [List.length_append, HA.out.1]; rfl, fun he r hr => (by
                    rcases List.mem_append.1 hr with hr | hr
                    · exact hp1 r hr
                    · rw [List.mem_singleton] at hr; subst hr; exact (Chk.num_ok hyb he).2.1), by rw [Chk.total_app, hT]; show T + (y + 0) ≤ 2147483647; omega⟩
                  have HT2 : Hid (-1 ≤ x ∧ x ≤ 15) := Lib.hid (by have := HT.out; omega)
                  have HLB : Hid (sb.b.length ≤ 1099511627776) := Lib.hid (by have := HLJ2.out; omega)
                  have NA := Lib.hid (fun W h => rnumber_any rb w.heap.size sj (t + 1) 15 HLJ2.out x sa hxa W h)
                  have NB := Lib.hid (fun W h => rnumber_any rb w.heap.size sa 1 (2147483647 - T) (by have := HLJ2.out; omega) y sb hyb W h)
                  have HTO := Lib.hid (fun W B h1 => rtotal_any A i k acc HA.out.1 (by omega) hp1 HA.out.2.2 B W h1 T hT)
                  have HRS2 : Hid (rfs acc ++ [.int .i64 x, .int .i64 y] = rfs (acc ++ [⟨x, y⟩])) := Lib.hid (by unfold rfs; simp [rfCells])
                  have HON := Lib.hid (fun (v v' : Value) => show (ckCells ⟨x1, dg, x3, u, lo, []⟩ v).set 22 v' = ckCells ⟨x1, dg, x3, u, lo, []⟩ v' from ckCells_set _ v v' HDG.out)
                  have et : IntKind.i64.wrap (t + 1) = t + 1 := IntWalk.i64_in _ (by have := HT.out; omega)
                  have HEW : Hid (IntKind.i64.wrap (2147483647 - T) = 2147483647 - T) := Lib.hid (IntWalk.i64_in _ (by omega))
                  have e2 : (i : Int) < (nr : Int) := by omega
                  have HK22 := Lib.hid ((ckCells_at ⟨x1, dg, x3, u, lo, []⟩ (.slice A i k) HDG.out).2.2.2.2.2.2)
                  rw [hse] at c1
                  clear hxa hT hyb hT0 hT1 ha hb hra hrb hp1 hse
                  go_upto_region 26 with (go_at_call 64; refine (NA.out wd HPJ.out.rd).mono ?_; rintro e' w22 ⟨rfl, hs22, hk22⟩; have HP22 := Lib.hid (HPJ.out.read hs22 hk22); have HK22K := Lib.hid hk22; clear hs22 hk22)
                  have HO22 : Hid (w22.ownsRow (bc + 1) 83 2 (.slice A i k) i (rfs acc)) := Lib.hid (own_keepS HOJ.out HK22K.out (fun g hg => by subst hg; have := HP22.out.o; omega))
                  have HABL : Hid (∀ p, A = some p → bc < p.block) := Lib.hid (fun p hp => by
                    rcases HO22.out.2 with h0 | ⟨g, cap, cur, hv, hg, _⟩
                    · injection h0.1 with h1; rw [hp] at h1; cases h1
                    · injection hv with h1; rw [hp] at h1; rw [Option.some.inj h1]; exact hg)
                  clear et HPJ HOJ HK22K c1
                  have hv0 : Keep (fun q => q = rb ∨ ∃ p, A = some p ∧ q = p.block) w22 w22.drew := Keep.of_below (Below.refl _ _).drew
                  refine wp_region_late (fun W => Keep (fun q => q = rb ∨ ∃ p, A = some p ∧ q = p.block) w22 W) [13] (by kernel_rfl) (hv0) (fun hHeld => ?_)
                  refine wpAnyL_take (i := 0) (oi := { dst := some 104, op := Op.fieldAddr 45 (Operand.tmp 9) 5, type := 0, pos := "ref.go:323", after := #[], guard := none }) (v := ?v0_1) rfl (by kernel_rfl) (by kernel_rfl) (by kernel_rfl) (by kernel_rfl) (fun _ _ _ h => h) (Or.inl ⟨by rfl, ?h0_1⟩) (by assumption) ?r0_1
                  case h0_1 =>
                    intro W hSW
                    try dsimp only at hSW
                    go_simp
                    try with_reducible rfl
                  try simp only [Act.put, List.setIfInBounds_toArray, List.set_cons_zero, List.set_cons_succ]
                  refine wpAnyL_take (i := 1) (oi := { dst := some 105, op := Op.load 43 (Operand.tmp 104), type := 43, pos := "ref.go:323", after := #[{ on := 0, ground := Ground.data }], guard := none }) (v := ?v1_2) rfl (by kernel_rfl) (by kernel_rfl) (by kernel_rfl) (by kernel_rfl) (fun _ _ _ h => h) (Or.inl ⟨by rfl, ?h1_2⟩) (by assumption) ?r1_2
                  case h1_2 =>
                    intro W hSW
                    try dsimp only at hSW
                    have k22 := (hSW.cell (p := ⟨bc, 22, none⟩) HP22.out.row.lt (fun e => by have ho := HP22.out.o; rcases e with e | ⟨p, hp, e⟩; (dsimp only at e; omega); (have := HABL.out p hp; dsimp only at e; omega))).trans ((HP22.out.row.cell 22).trans HK22.out)
                    go_simp
                    try with_reducible rfl
                  try simp only [Act.put, List.setIfInBounds_toArray, List.set_cons_zero, List.set_cons_succ]
                  refine wpAnyL_take (i := 2) (oi := { dst := some 106, op := Op.move (Operand.tmp 13), type := 3, pos := "ref.go:323", after := #[], guard := none }) (v := ?v2_3) rfl (by kernel_rfl) (by kernel_rfl) (by kernel_rfl) (by kernel_rfl) (fun _ _ _ h => h) (Or.inl ⟨by rfl, ?h2_3⟩) (by assumption) ?r2_3
                  case h2_3 =>
                    intro W hSW
                    try dsimp only at hSW
                    go_simp
                    try with_reducible rfl
                  try simp only [Act.put, List.setIfInBounds_toArray, List.set_cons_zero, List.set_cons_succ]
                  refine wpAnyL_take (i := 3) (oi := { dst := some 107, op := Op.move (Operand.tmp 4), type := 104, pos := "ref.go:323", after := #[], guard := none }) (v := ?v3_4) rfl (by kernel_rfl) (by kernel_rfl) (by kernel_rfl) (by kernel_rfl) (fun _ _ _ h => h) (Or.inl ⟨by rfl, ?h3_4⟩) (by assumption) ?r3_4
                  case h3_4 =>
                    intro W hSW
                    try dsimp only at hSW
                    go_simp
                    try with_reducible rfl
                  try simp only [Act.put, List.setIfInBounds_toArray, List.set_cons_zero, List.set_cons_succ]
                  refine wpAnyL_take (i := 4) (oi := { dst := some 108, op := Op.fieldAddr 45 (Operand.tmp 9) 5, type := 0, pos := "ref.go:323", after := #[], guard := none }) (v := ?v4_5) rfl (by kernel_rfl) (by kernel_rfl) (by kernel_rfl) (by kernel_rfl) (fun _ _ _ h => h) (Or.inl ⟨by rfl, ?h4_5⟩) (by assumption) ?r4_5
                  case h4_5 =>
                    intro W hSW
                    try dsimp only at hSW
                    go_simp
                    try with_reducible rfl
                  try simp only [Act.put, List.setIfInBounds_toArray, List.set_cons_zero, List.set_cons_succ]
                  refine wpAnyL_take (i := 5) (oi := { dst := some 109, op := Op.load 43 (Operand.tmp 108), type := 43, pos := "ref.go:323", after := #[{ on := 4, ground := Ground.data }], guard := none }) (v := ?v5_6) rfl (by kernel_rfl) (by kernel_rfl) (by kernel_rfl) (by kernel_rfl) (fun _ _ _ h => h) (Or.inl ⟨by rfl, ?h5_6⟩) (by assumption) ?r5_6
                  case h5_6 =>
                    intro W hSW
                    try dsimp only at hSW
                    have k22 := (hSW.cell (p := ⟨bc, 22, none⟩) HP22.out.row.lt (fun e => by have ho := HP22.out.o; rcases e with e | ⟨p, hp, e⟩; (dsimp only at e; omega); (have := HABL.out p hp; dsimp only at e; omega))).trans ((HP22.out.row.cell 22).trans HK22.out)
                    go_simp
                    try with_reducible rfl
                  try simp only [Act.put, List.setIfInBounds_toArray, List.set_cons_zero, List.set_cons_succ]
                  refine wpAnyL_ready (rs := [6]) (by kernel_rfl) (by simp) ?_
                  refine AllReadyL.cons (o := { dst := some 110, op := Op.call { callee := Callee.value (Operand.func 66), args := #[Operand.tmp 109], argTypes := #[43] }, type := 3, pos := "ref.go:323", after := #[{ on := 5, ground := Ground.data }], guard := none }) rfl (fun K hK => ?_) AllReadyL.nil
                  go_simp
                  have hp0 := HP22.out.below (Below.refl w22.heap.size w22).drew
                  have ho0 : w22.drew.ownsRow (bc + 1) 83 2 (.slice A i k) i (rfs acc) := own_below HO22.out (Below.refl w22.heap.size w22).drew
                  refine (HTO.out w22.drew _ (Rd.of_own ho0)).mono ?_
                  rintro e w60 ⟨rfl, hw60⟩
                  obtain rfl := hw60.symm
                  have HPa := Lib.hid hp0
                  have HOa := Lib.hid ho0
                  clear hp0 ho0
                  refine hK.out _ _ (hv0) (fun hHeld => ?_)
                  clear hK K
                  try simp only [Act.put, List.setIfInBounds_toArray, List.set_cons_zero, List.set_cons_succ]
                  refine wpAnyL_take (i := 7) (oi := { dst := some 111, op := Op.binOp BinOp.sub 3 (Operand.const (Value.int IntKind.i64 2147483647)) (Operand.tmp 110) 3, type := 3, pos := "ref.go:323", after := #[{ on := 6, ground := Ground.data }], guard := none }) (v := ?v7_7) rfl (by kernel_rfl) (by kernel_rfl) (by kernel_rfl) (by kernel_rfl) (fun _ _ _ h => h) (Or.inl ⟨by rfl, ?h7_7⟩) (by assumption) ?r7_7
                  case h7_7 =>
                    intro W hSW
                    try dsimp only at hSW
                    have ew7 := HEW.out
                    go_simp
                    try with_reducible rfl
                  try simp only [Act.put, List.setIfInBounds_toArray, List.set_cons_zero, List.set_cons_succ]
                  refine wpAnyL_ready (rs := [8]) (by kernel_rfl) (by simp) ?_
                  refine AllReadyL.cons (o := { dst := some 112, op := Op.call { callee := Callee.value (Operand.func 64), args := #[Operand.tmp 107, Operand.const (Value.int IntKind.i64 1), Operand.tmp 111], argTypes := #[104, 3, 3] }, type := 3, pos := "ref.go:323", after := #[{ on := 3, ground := Ground.data }, { on := 7, ground := Ground.data }, { on := 6, ground := Ground.chain }], guard := none }) rfl (fun K hK => ?_) AllReadyL.nil
                  go_simp
                  refine (NB.out w22.drew HPa.out.rd).mono ?_
                  rintro e w61 ⟨rfl, hs61, hk61⟩
                  have hv61 : Keep (fun q => q = rb ∨ ∃ p, A = some p ∧ q = p.block) w22 w61 := (hv0).trans (hk61.mono fun _ _ e => .inl e)
                  have HPb := Lib.hid (HPa.out.read hs61 hk61)
                  have HOb : Hid (w61.ownsRow (bc + 1) 83 2 (.slice A i k) i (rfs acc)) := Lib.hid (own_keepS HOa.out hk61 (fun g hg => by subst hg; have := HPa.out.o; omega))
                  clear hs61 hk61
                  refine hK.out _ _ (hv61) (fun hHeld => ?_)
                  clear hK K
                  try simp only [Act.put, List.setIfInBounds_toArray, List.set_cons_zero, List.set_cons_succ]
                  refine wpAnyL_take (i := 9) (oi := { dst := some 113, op := Op.build 83 #[(0, Operand.tmp 106), (1, Operand.tmp 112)], type := 83, pos := "ref.go:323", after := #[{ on := 2, ground := Ground.data }, { on := 8, ground := Ground.data }], guard := none }) (v := ?v9_8) rfl (by kernel_rfl) (by kernel_rfl) (by kernel_rfl) (by kernel_rfl) (fun _ _ _ h => h) (Or.inl ⟨by rfl, ?h9_8⟩) (by assumption) ?r9_8
                  case h9_8 =>
                    intro W hSW
                    try dsimp only at hSW
                    go_simp
                    try with_reducible rfl
                  try simp only [Act.put, List.setIfInBounds_toArray, List.set_cons_zero, List.set_cons_succ]
                  refine wpAnyL_ready (rs := [10]) (by kernel_rfl) (by simp) ?_
                  refine AllReadyL.cons (o := { dst := some 114, op := Op.buildSlice 43 1 #[(0, Operand.tmp 113)], type := 43, pos := "ref.go:323", after := #[{ on := 9, ground := Ground.data }], guard := none }) rfl (fun K hK => ?_) AllReadyL.nil
                  rw [if_pos (by rfl)]
                  refine wp_buildR (.tmp 113) rfl x y rfl ?_
                  obtain ⟨vb, hvb⟩ : ∃ q, w61.heap.size = q := ⟨_, rfl⟩
                  have rv := IsRow.new w61 83 [.int .i64 x, .int .i64 y]
                  have hbw : Below w61.heap.size w61 (w61.alloc (.cells [.int .i64 x, .int .i64 y].toArray 83)) := (Below.refl _ _).alloc (Nat.le_refl _) _
                  obtain ⟨w62, hw62⟩ : ∃ q, w61.alloc (.cells [.int .i64 x, .int .i64 y].toArray 83) = q := ⟨_, rfl⟩
                  rw [hw62, hvb] at rv
                  rw [hw62] at hbw
                  rw [show w61.alloc (.cells #[.int .i64 x, .int .i64 y] 83) = w62 from hw62, hvb]
                  have hv62 : Keep (fun q => q = rb ∨ ∃ p, A = some p ∧ q = p.block) w22 w62 := (hv61).trans (Keep.of_below hbw)
                  have HPc := Lib.hid (HPb.out.below hbw)
                  have HOc := Lib.hid (own_below HOb.out hbw)
                  have HRV := Lib.hid rv
                  clear hw62 hvb hbw rv
                  refine hK.out _ _ (hv62) (fun hHeld => ?_)
                  clear hK K
                  try simp only [Act.put, List.setIfInBounds_toArray, List.set_cons_zero, List.set_cons_succ]
                  refine wpAnyL_ready (rs := [11]) (by kernel_rfl) (by simp) ?_
                  refine AllReadyL.cons (o := { dst := some 115, op := Op.call { callee := Callee.builtin Builtin.append, args := #[Operand.tmp 105, Operand.tmp 114], argTypes := #[43, 43] }, type := 43, pos := "ref.go:323", after := #[{ on := 1, ground := Ground.data }, { on := 10, ground := Ground.data }, { on := 8, ground := Ground.chain }], guard := none }) rfl (fun K hK => ?_) AllReadyL.nil
                  rw [if_pos (by rfl)]
                  have hrv := HRV.out.rd (B := w62.heap.size) (n := 1) (size := 2) rfl HRV.out.lt
                  refine wp_app _ (.tmp 105) (.tmp 114) 43 rfl (bc + 1) 83 _ 2 16 refT A i k (rfs acc) rfl HOc.out w62.heap.size (some ⟨vb, 0, none⟩) 1 1 [.int .i64 x, .int .i64 y] rfl hrv (by intro v hv; simp only [List.mem_cons, List.not_mem_nil, or_false] at hv; rcases hv with rfl | rfl <;> rfl) (by omega) (by unfold maxLen; omega) (by have := HPc.out.row.lt; omega) ?_
                  intro A3 c3 w63 own3 g3 hA3
                  rw [HRS2.out] at own3
                  have hv63 : Keep (fun q => q = rb ∨ ∃ p, A = some p ∧ q = p.block) w22 w63 := (hv62).grown g3 (fun i hi => .inl (.inr (ownB_any hi)))
                  have HPd := Lib.hid (HPc.out.grow g3 (fun i hi => by obtain ⟨p, hp, e⟩ := ownB_any hi; rw [e]; exact HABL.out p hp))
                  have ka := (HPd.out.row.cell 22).trans HK22.out
                  have fa := HPd.out.row.frozen 22
                  have HOd := Lib.hid own3
                  clear own3 g3 hA3 hrv
                  refine hK.out _ _ (hv63) (fun hHeld => ?_)
                  clear hK K
                  try simp only [Act.put, List.setIfInBounds_toArray, List.set_cons_zero, List.set_cons_succ]
                  refine wpAnyL_take (i := 12) (oi := { dst := some 116, op := Op.fieldAddr 45 (Operand.tmp 9) 5, type := 0, pos := "ref.go:323", after := #[{ on := 0, ground := Ground.phase }, { on := 1, ground := Ground.phase }, { on := 2, ground := Ground.phase }, { on := 3, ground := Ground.phase }, { on := 4, ground := Ground.phase }, { on := 5, ground := Ground.phase }, { on := 6, ground := Ground.phase }, { on := 7, ground := Ground.phase }, { on := 8, ground := Ground.phase }, { on := 9, ground := Ground.phase }, { on := 10, ground := Ground.phase }, { on := 11, ground := Ground.phase }], guard := none }) (v := ?v12_9) rfl (by kernel_rfl) (by kernel_rfl) (by kernel_rfl) (by kernel_rfl) (fun _ _ _ h => h) (Or.inl ⟨by rfl, ?h12_9⟩) (by assumption) ?r12_9
                  case h12_9 =>
                    intro W hSW
                    try dsimp only at hSW
                    go_simp
                    try with_reducible rfl
                  try simp only [Act.put, List.setIfInBounds_toArray, List.set_cons_zero, List.set_cons_succ]
                  refine wpAnyL_ready (rs := [13]) (by kernel_rfl) (by simp) ?_
                  refine AllReadyL.late (o := { dst := none, op := Op.store 43 (Operand.tmp 116) (Operand.tmp 115), type := 0, pos := "ref.go:323", after := #[{ on := 12, ground := Ground.data }, { on := 11, ground := Ground.data }, { on := 11, ground := Ground.chain }, { on := 0, ground := Ground.phase }, { on := 1, ground := Ground.phase }, { on := 2, ground := Ground.phase }, { on := 3, ground := Ground.phase }, { on := 4, ground := Ground.phase }, { on := 5, ground := Ground.phase }, { on := 6, ground := Ground.phase }, { on := 7, ground := Ground.phase }, { on := 8, ground := Ground.phase }, { on := 9, ground := Ground.phase }, { on := 10, ground := Ground.phase }, { on := 11, ground := Ground.phase }], guard := none }) rfl (by rfl) (fun K hK => ?_) AllReadyL.nil
                  go_simp
                  have HPe := Lib.hid (HPd.out.put 22 (.slice A3 (i + 1) c3))
                  rw [HON.out] at HPe
                  have hks : Keep (fun q => q = bc) w63 (w63.setCell ⟨bc, 22, none⟩ (.slice A3 (i + 1) c3)) := setE_keep w63 bc 22 _
                  have HOe := Lib.hid (own_keepS HOd.out hks (fun g hg => by subst hg; omega))
                  obtain ⟨w64, hw64⟩ : ∃ q, w63.setCell ⟨bc, 22, none⟩ (.slice A3 (i + 1) c3) = q := ⟨_, rfl⟩
                  rw [hw64] at HPe HOe
                  rw [hw64]
                  clear ka fa hks hw64
                  refine hK.out _ _ ?_
                  clear hK K
                  try simp only [Act.put, List.setIfInBounds_toArray, List.set_cons_zero, List.set_cons_succ]
                  refine wpAnyL_done (by kernel_rfl) ?_ _
                  clear HPa HOa HPb HOb HPc HOc HPd HOd
                  go_wp2_with fail
                  go_roundw
                  case rel => exact ⟨_, i + 1, _, x, sb, A3, c3, rfl, by omega, by go_num, rfl, HT2, HA2, HLB, HRJ2, HPe, HOe⟩
                  case measure => simp [intOf]; omega
                · have hse' : (sj.e == 0) = false := by simpa using hse
                  have e2 : (i : Int) < (nr : Int) := by omega
                  obtain ⟨je, hje⟩ : ∃ y, sj.e = y := ⟨_, rfl⟩
                  rw [hje] at c1 hse'
                  have HSE := Lib.hid hse
                  clear hse hje
                  go_wp2_with fail
                  go_meet
                  have h6 := Chk.refsN_err (nr - i) acc t HSE.out
                  rw [HRJ.out] at h6
                  have h6 : s6 = sj := h6
                  exact ⟨_, acc, A, k, i, rfl, Lib.hid ⟨HA.out.1, by omega⟩, Lib.hid (fun h => absurd (h6 ▸ h) HSE.out), Lib.hid (h6 ▸ HPJ.out), HOJ⟩
              · obtain rfl : i = nr := by omega
                have hrj := HRJ.out
                rw [Nat.sub_self] at hrj
                obtain ⟨hr1, hr2⟩ := Prod.mk.inj (show (acc, sj) = (rs, s6) from hrj)
                have HR12 := Lib.hid (And.intro hr1 hr2)
                clear hrj hr1 hr2
                go_wp2_with fail
                go_meet
                exact ⟨_, acc, A, k, i, rfl, Lib.hid ⟨HA.out.1, hn16⟩, Lib.hid (fun _ => HR12.out.1), Lib.hid (HR12.out.2 ▸ HPJ.out), HOJ⟩
          case rest =>
            obtain ⟨w27, acc, A9, k9, i9, rfl, HAC, HEQ, HP27, HO27⟩ := hcut
            obtain ⟨F, S, ⟨t, ht⟩, hbd, hbl, hrdr, hrb⟩ := HRS.out
            have hrS : ¬ S rb := fun e => by have := (hbd rb (.inr e)).1; omega
            have hrF : ¬ F rb := fun e => by have := (hbd rb (.inl e)).1; omega
            have hkp := HP27.out.kp
            have ht27 := ht.keep hkp (fun b hb e => hrS (e ▸ hb)) (fun b hb e => hrF (e ▸ hb))
            have HTB := Lib.hid (And.intro ht (And.intro hbd (And.intro hbl (And.intro hrS (And.intro hrF hrb)))))
            have HT27 := Lib.hid ht27
            have hn6 : t.n ≤ 65536 := ht.max
            have HAL : Hid (∀ p, t.A = some p → p.block < wr.heap.size ∧ p.block ≠ a ∧ p.block ≠ rb) := Lib.hid (fun p hp => ⟨(hbd _ (.inr (ht.sg p hp))).2, ht.ag p hp, fun e => hrS (e ▸ ht.sg p hp)⟩)
            have HBC : Hid (wr.heap.size ≤ bc ∧ bc < w27.heap.size ∧ a < wr.heap.size ∧ a ≠ rb) := Lib.hid ⟨HP27.out.o.2.1, HP27.out.row.lt, ht.row.lt, fun e => hrS (e ▸ ht.sa)⟩
            have HLC := Lib.hid (ckCells_len (c := ⟨x1, dg, x3, u, lo, []⟩) HDG.out (.slice A9 i9 k9))
            have HOC := Lib.hid (ckCells_one ⟨x1, dg, x3, u, lo, []⟩ (.slice A9 i9 k9) rfl)
            obtain ⟨cs, hcs⟩ : ∃ y, ckCells ⟨x1, dg, x3, u, lo, []⟩ (.slice A9 i9 k9) = y := ⟨_, rfl⟩
            rw [hcs] at HLC HOC HP27
            have HCS := Lib.hid hcs
            clear hcs ht hbd hbl hrdr hrb hrS hrF hkp ht27 HP21 HRF1 N5
            go_upto_region 27 with fail
            have hv0 : Keep (fun q => ∃ p, t.A = some p ∧ q = p.block) w27 w27.drew := Keep.of_below (Below.refl _ _).drew
            refine wp_region_late (fun W => Keep (fun q => ∃ p, t.A = some p ∧ q = p.block) w27 W) [10] (by kernel_rfl) (hv0) (fun hHeld => ?_)
            refine wpAnyL_take (i := 0) (oi := { dst := some 117, op := Op.move (Operand.tmp 5), type := 31, pos := "ref.go:325", after := #[], guard := none }) (v := ?v0_2001) rfl (by kernel_rfl) (by kernel_rfl) (by kernel_rfl) (by kernel_rfl) (fun _ _ _ h => h) (Or.inl ⟨by rfl, ?h0_2001⟩) (by assumption) ?r0_2001
            case h0_2001 =>
              intro W hSW
              try dsimp only at hSW
              go_simp
              try with_reducible rfl
            try simp only [Act.put, List.setIfInBounds_toArray, List.set_cons_zero, List.set_cons_succ]
            refine wpAnyL_take (i := 1) (oi := { dst := some 118, op := Op.move (Operand.tmp 5), type := 31, pos := "ref.go:325", after := #[], guard := none }) (v := ?v1_2002) rfl (by kernel_rfl) (by kernel_rfl) (by kernel_rfl) (by kernel_rfl) (fun _ _ _ h => h) (Or.inl ⟨by rfl, ?h1_2002⟩) (by assumption) ?r1_2002
            case h1_2002 =>
              intro W hSW
              try dsimp only at hSW
              go_simp
              try with_reducible rfl
            try simp only [Act.put, List.setIfInBounds_toArray, List.set_cons_zero, List.set_cons_succ]
            refine wpAnyL_take (i := 2) (oi := { dst := some 119, op := Op.nilCheck (Operand.tmp 118), type := 0, pos := "ref.go:325", after := #[{ on := 1, ground := Ground.data }], guard := none }) (v := ?v2_2003) rfl (by kernel_rfl) (by kernel_rfl) (by kernel_rfl) (by kernel_rfl) (fun _ _ _ h => h) (Or.inl ⟨by rfl, ?h2_2003⟩) (by assumption) ?r2_2003
            case h2_2003 =>
              intro W hSW
              try dsimp only at hSW
              go_simp
              try with_reducible rfl
            try simp only [Act.put, List.setIfInBounds_toArray, List.set_cons_zero, List.set_cons_succ]
            refine wpAnyL_take (i := 3) (oi := { dst := some 120, op := Op.fieldAddr 34 (Operand.tmp 119) 0, type := 0, pos := "ref.go:325", after := #[{ on := 2, ground := Ground.data }], guard := none }) (v := ?v3_2004) rfl (by kernel_rfl) (by kernel_rfl) (by kernel_rfl) (by kernel_rfl) (fun _ _ _ h => h) (Or.inl ⟨by rfl, ?h3_2004⟩) (by assumption) ?r3_2004
            case h3_2004 =>
              intro W hSW
              try dsimp only at hSW
              go_simp
              try with_reducible rfl
            try simp only [Act.put, List.setIfInBounds_toArray, List.set_cons_zero, List.set_cons_succ]
            refine wpAnyL_take (i := 4) (oi := { dst := some 121, op := Op.load 32 (Operand.tmp 120), type := 32, pos := "ref.go:325", after := #[{ on := 3, ground := Ground.data }], guard := none }) (v := ?v4_2005) rfl (by kernel_rfl) (by kernel_rfl) (by kernel_rfl) (by kernel_rfl) (fun _ _ _ h => h) (Or.inl ⟨by rfl, ?h4_2005⟩) (by assumption) ?r4_2005
            case h4_2005 =>
              intro W hSW
              try dsimp only at hSW
              have c0 := (hSW.cell (p := ⟨a, 0, none⟩) HT27.out.row.lt (fun ⟨p, hp, e⟩ => (HAL.out p hp).2.1 e.symm)).trans HT27.out.cell
              go_simp
              try with_reducible rfl
            try simp only [Act.put, List.setIfInBounds_toArray, List.set_cons_zero, List.set_cons_succ]
            refine wpAnyL_take (i := 5) (oi := { dst := some 122, op := Op.load 45 (Operand.tmp 9), type := 45, pos := "ref.go:325", after := #[], guard := none }) (v := (.agg cs.toArray)) rfl (by kernel_rfl) (by kernel_rfl) (by kernel_rfl) (by kernel_rfl) (fun _ _ _ h => h) (yieldsIf_load_mid (by rfl) 45 (.tmp 9) rfl bc 0 rfl cs _ (fun W hW q v hv => by rw [Nat.zero_add]; exact (hW.cell (p := ⟨bc, q, none⟩) HBC.out.2.1 (fun ⟨p, hp, e⟩ => by have h1 := (HAL.out p hp).1; have h2 := HBC.out.1; dsimp only at e; omega)).trans ((HP27.out.row.cell q).trans hv)) Try.underlying45 rfl (by rw [HLC.out]; exact sizeCk)) (by assumption) ?_
            try simp only [Act.put, List.setIfInBounds_toArray, List.set_cons_zero, List.set_cons_succ]
            refine wpAnyL_ready (rs := [6]) (by kernel_rfl) (by simp) ?_
            refine AllReadyL.cons (o := { dst := some 123, op := Op.buildSlice 32 1 #[(0, Operand.tmp 122)], type := 32, pos := "ref.go:325", after := #[{ on := 5, ground := Ground.data }], guard := none }) rfl (fun K hK => ?_) AllReadyL.nil
            rw [if_pos (by rfl)]
            refine wp_build23 (.tmp 122) rfl cs HLC.out rfl ?_
            obtain ⟨vb, hvb⟩ : ∃ q, w27.drew.heap.size = q := ⟨_, rfl⟩
            have rv := IsRow.new w27.drew 45 cs
            have hbw : Below w27.drew.heap.size w27.drew (w27.drew.alloc (.cells cs.toArray 45)) := (Below.refl _ _).alloc (Nat.le_refl _) _
            have hbz : Below w27.heap.size w27 w27.drew := (Below.refl w27.heap.size w27).drew
            obtain ⟨w80, hw80⟩ : ∃ q, w27.drew.alloc (.cells cs.toArray 45) = q := ⟨_, rfl⟩
            rw [hw80, hvb] at rv
            rw [hw80] at hbw
            rw [hw80, hvb]
            have hv80 : Keep (fun q => ∃ p, t.A = some p ∧ q = p.block) w27 w80 := (hv0).trans (Keep.of_below hbw)
            have HBc := Lib.hid (hbz.trans (hbw.mono hbz.size))
            have HOc := Lib.hid (own_below HT27.out.own HBc.out)
            have HRV := Lib.hid rv
            clear hw80 hvb hbw rv hbz
            refine hK.out _ _ (hv80) (fun hHeld => ?_)
            clear hK K
            try simp only [Act.put, List.setIfInBounds_toArray, List.set_cons_zero, List.set_cons_succ]
            refine wpAnyL_ready (rs := [7]) (by kernel_rfl) (by simp) ?_
            refine AllReadyL.cons (o := { dst := some 124, op := Op.call { callee := Callee.builtin Builtin.append, args := #[Operand.tmp 121, Operand.tmp 123], argTypes := #[32, 32] }, type := 32, pos := "ref.go:325", after := #[{ on := 4, ground := Ground.data }, { on := 6, ground := Ground.data }], guard := none }) rfl (fun K hK => ?_) AllReadyL.nil
            rw [if_pos (by rfl)]
            have hrv := HRV.out.rd (B := w80.heap.size) (n := 1) (size := 23) (by rw [HLC.out]) HRV.out.lt
            refine wp_app _ (.tmp 121) (.tmp 123) 32 rfl 0 45 _ 23 88 chunkT t.A t.n t.c (crs t.D) rfl HOc.out w80.heap.size (some ⟨vb, 0, none⟩) 1 1 cs rfl hrv HOC.out (by omega) (by unfold maxLen; omega) (Nat.zero_le _) ?_
            intro A3 c3 w81 own3 g3 hA3
            have hv81 : Keep (fun q => ∃ p, t.A = some p ∧ q = p.block) w27 w81 := (hv80).grown g3 (fun i hi => .inl (ownB_any hi))
            have hkg : Keep (fun q => ∃ p, t.A = some p ∧ q = p.block) w80 w81 := Keep.of_grown g3 fun k e => ownB_any e
            have hra := (HT27.out.row.below' HBc.out).keep (hkg.block a (Nat.lt_of_lt_of_le HT27.out.row.lt HBc.out.size) (fun ⟨p, hp, e⟩ => (HAL.out p hp).2.1 e.symm))
            have ka := hra.cell 0
            have fa := hra.frozen 0
            have HOd := Lib.hid (And.intro own3 (And.intro g3 hA3))
            clear own3 g3 hA3 hrv hra hkg
            refine hK.out _ _ (hv81) (fun hHeld => ?_)
            clear hK K
            try simp only [Act.put, List.setIfInBounds_toArray, List.set_cons_zero, List.set_cons_succ]
            refine wpAnyL_take (i := 8) (oi := { dst := some 125, op := Op.nilCheck (Operand.tmp 117), type := 0, pos := "ref.go:325", after := #[{ on := 0, ground := Ground.data }, { on := 0, ground := Ground.phase }, { on := 1, ground := Ground.phase }, { on := 2, ground := Ground.phase }, { on := 3, ground := Ground.phase }, { on := 4, ground := Ground.phase }, { on := 5, ground := Ground.phase }, { on := 6, ground := Ground.phase }, { on := 7, ground := Ground.phase }], guard := none }) (v := ?v8_2007) rfl (by kernel_rfl) (by kernel_rfl) (by kernel_rfl) (by kernel_rfl) (fun _ _ _ h => h) (Or.inl ⟨by rfl, ?h8_2007⟩) (by assumption) ?r8_2007
            case h8_2007 =>
              intro W hSW
              try dsimp only at hSW
              go_simp
              try with_reducible rfl
            try simp only [Act.put, List.setIfInBounds_toArray, List.set_cons_zero, List.set_cons_succ]
            refine wpAnyL_take (i := 9) (oi := { dst := some 126, op := Op.fieldAddr 34 (Operand.tmp 125) 0, type := 0, pos := "ref.go:325", after := #[{ on := 8, ground := Ground.data }, { on := 0, ground := Ground.phase }, { on := 1, ground := Ground.phase }, { on := 2, ground := Ground.phase }, { on := 3, ground := Ground.phase }, { on := 4, ground := Ground.phase }, { on := 5, ground := Ground.phase }, { on := 6, ground := Ground.phase }, { on := 7, ground := Ground.phase }], guard := none }) (v := ?v9_2008) rfl (by kernel_rfl) (by kernel_rfl) (by kernel_rfl) (by kernel_rfl) (fun _ _ _ h => h) (Or.inl ⟨by rfl, ?h9_2008⟩) (by assumption) ?r9_2008
            case h9_2008 =>
              intro W hSW
              try dsimp only at hSW
              go_simp
              try with_reducible rfl
            try simp only [Act.put, List.setIfInBounds_toArray, List.set_cons_zero, List.set_cons_succ]
            refine wpAnyL_ready (rs := [10]) (by kernel_rfl) (by simp) ?_
            refine AllReadyL.late (o := { dst := none, op := Op.store 32 (Operand.tmp 126) (Operand.tmp 124), type := 0, pos := "ref.go:325", after := #[{ on := 9, ground := Ground.data }, { on := 7, ground := Ground.data }, { on := 7, ground := Ground.chain }, { on := 0, ground := Ground.phase }, { on := 1, ground := Ground.phase }, { on := 2, ground := Ground.phase }, { on := 3, ground := Ground.phase }, { on := 4, ground := Ground.phase }, { on := 5, ground := Ground.phase }, { on := 6, ground := Ground.phase }, { on := 7, ground := Ground.phase }], guard := none }) rfl (by rfl) (fun K hK => ?_) AllReadyL.nil
            go_simp
            obtain ⟨w82, hw82⟩ : ∃ q, w81.setCell ⟨a, 0, none⟩ (.slice A3 (t.n + 1) c3) = q := ⟨_, rfl⟩
            have HW9 := Lib.hid hw82
            rw [hw82]
            clear ka fa hw82
            refine hK.out _ _ ?_
            clear hK K
            try simp only [Act.put, List.setIfInBounds_toArray, List.set_cons_zero, List.set_cons_succ]
            refine wpAnyL_done (by kernel_rfl) ?_ _
            have HRZ : Hid (RdrAt w82 106 rb w.heap.size s6) := Lib.hid (by
              have h1 := HP27.out.rd.below HBc.out
              have hkg : Keep (fun q => ∃ p, t.A = some p ∧ q = p.block) w80 w81 := Keep.of_grown HOd.out.2.1 fun k e => ownB_any e
              have h2 := h1.keep hkg (fun ⟨p, hp, e⟩ => (HAL.out p hp).2.2 e.symm) (fun k hk ⟨p, hp, e⟩ => by have := (HTB.out.2.1 _ (.inr (HTB.out.1.sg p hp))).1; have := HTB.out.2.2.2.2.2; omega)
              have h3 := h2.keep (setE_keep w81 a 0 (.slice A3 (t.n + 1) c3)) (fun e => HBC.out.2.2.2 e.symm) (fun k hk e => by have := (HTB.out.2.1 _ (.inr HTB.out.1.sa)).1; have := HTB.out.2.2.2.2.2; omega)
              rw [HW9.out] at h3
              exact h3)
            have HKF : Hid (Keep (fun q => S q ∨ q = rb) wr w82) := Lib.hid (by
              have h1 := (HP27.out.kp.mono (T := fun q => S q ∨ q = rb) fun _ _ e => .inr e).trans (Keep.of_below HBc.out)
              have h2 := h1.trans (Keep.of_grown HOd.out.2.1 (S := fun q => S q ∨ q = rb) fun k e => by obtain ⟨p, hp, e⟩ := ownB_any e; exact .inl (e ▸ HTB.out.1.sg p hp))
              have h3 := h2.trans ((setE_keep w81 a 0 (.slice A3 (t.n + 1) c3)).mono (T := fun q => S q ∨ q = rb) fun _ _ e => .inl (e ▸ HTB.out.1.sa))
              rw [HW9.out] at h3
              exact h3)
            have HBF : Hid (Below w.heap.size w w82) := Lib.hid (Below.then_keep HTB.out.2.2.1 HKF.out (fun k e => by
              rcases e with e | e
              · have := (HTB.out.2.1 k (.inr e)).1; have := HTB.out.2.2.2.2.2; omega
              · have := HTB.out.2.2.2.2.2; omega) (Nat.le_refl _))
            have HNXT : Hid ((∃ l', RDSt w rb a l' s6 w82 ∧ Chk.decN (N - (j + 1)) l' x1 s6 = (L, s2) ∧ (0 ≤ x1 ∧ x1 ≤ 65536 ∧ (∀ x ∈ l', x.id ≤ x1) ∧ s6.b.length ≤ 1099511627776) ∧ (j + 1 < N → s6.e = 0)) ∨ (Below w.heap.size w w82 ∧ RdrAt w82 106 rb w.heap.size s6 ∧ s6.e ≠ 0 ∧ Chk.decT b = .inr s6.e)) := Lib.hid (by
              have h0 := HDJ.out
              rw [show N - j = (N - (j + 1)) + 1 by omega] at h0
              have h1 : Chk.decN (N - (j + 1) + 1) l last s = if (Chk.decC l last s).2.e ≠ 0 then (l, (Chk.decC l last s).2) else Chk.decN (N - (j + 1)) (l ++ [(Chk.decC l last s).1]) (Chk.decC l last s).1.id (Chk.decC l last s).2 := rfl
              rw [h1, HDC.out] at h0
              dsimp only at h0
              by_cases he : s6.e = 0
              · rw [if_neg (fun h => h he)] at h0
                obtain ⟨_, hck, hid, hun, hbe⟩ := Chk.decC_ok HDC.out he HLJ.out.1
                have hacc := HEQ.out he
                have hi9 : rs.length = i9 := by rw [← hacc]; exact HAC.out.1
                obtain ⟨own3, g3, hA3⟩ := HOd.out
                have href := own_base (own_below HO27.out HBc.out) (show wr.heap.size ≤ bc + 1 by have := HBC.out.1; omega)
                rw [← HCS.out] at own3
                rw [hacc, ← hi9] at href
                rw [← hi9] at own3
                have hfin := HTB.out.1.snoc (c := ⟨x1, dg, x3, u, lo, rs⟩) (fun b e => (HTB.out.2.1 b e).2) HTB.out.2.2.2.1 HTB.out.2.2.2.2.1 (HP27.out.kp.trans (Keep.of_below HBc.out)) href own3 g3 hA3 (HTB.out.1.inv.snoc HLJ.out.2.2.1 hid hck hun)
                rw [HW9.out] at hfin
                obtain ⟨F', S', p1, p2, p3, p4, p5⟩ := hfin
                refine .inl ⟨l ++ [⟨x1, dg, x3, u, lo, rs⟩], ⟨F', S', p1, fun q e => ⟨?_, p3 q e⟩, HBF.out, HRZ.out, HTB.out.2.2.2.2.2⟩, h0, ⟨by have h : (1 : Int) ≤ x1 := hck.id1; omega, hck.id2, fun x hx => ?_, ?_⟩, fun _ => he⟩
                · rcases e with e | e
                  · rcases p5 q e with h | h
                    · exact (HTB.out.2.1 q (.inl h)).1
                    · have := HRD.out.lt; omega
                  · rcases p4 q e with h | h
                    · exact (HTB.out.2.1 q (.inr h)).1
                    · have := HRD.out.lt; omega
                · rcases List.mem_append.1 hx with hx | hx
                  · have := HLJ.out.2.2.1 x hx; have h : last < x1 := hid; omega
                  · rw [List.mem_singleton] at hx; subst hx; exact Int.le_refl _
                · have := decC_len HDC.out he HLJ.out.1; have := HLJ.out.2.2.2; omega
              · rw [if_pos he] at h0
                obtain ⟨_, e2⟩ := Prod.mk.inj h0
                exact .inr ⟨HBF.out, HRZ.out, he, by rw [HDT.out, ← e2, if_pos he]⟩)
            clear HRZ HKF HBF
            go_wp2_with fail
            go_roundw
            case rel => exact ⟨_, j + 1, x1, s6, rfl, by omega, by go_num, rfl, HNXT⟩
            case measure => simp [intOf]; omega
    · have hX : (s.e ≠ 0 ∧ Chk.decT b = .inr s.e) ∨ (s.e = 0 ∧ j = N ∧ ∃ l, RDSt w rb a l s wr ∧ (l, s) = (L, s2)) := by
        rcases HSJ.out with ⟨l, h1, h2, h3, h4⟩ | ⟨h1, h2, h3, h4⟩
        · have hjN : j = N := by
            rcases Nat.lt_or_ge j N with h | h
            · exact absurd ⟨h, h4 h⟩ hgo
            · omega
          subst hjN
          rw [Nat.sub_self] at h2
          have h2 : (l, s) = (L, s2) := h2
          by_cases he : s.e = 0
          · exact .inr ⟨he, rfl, l, h1, h2⟩
          · refine .inl ⟨he, ?_⟩
            rw [HDT.out, ← (Prod.mk.inj h2).2, if_pos he]
        · exact .inl ⟨h3, h4⟩
      have HBW : Hid (Below w.heap.size w wr) := Lib.hid (by
        rcases HSJ.out with ⟨l, h, _⟩ | ⟨h, _⟩
        · exact h.b
        · exact h)
      rcases hX with ⟨he, hd⟩ | ⟨he, hjN, l, hrs, hls⟩
      · obtain ⟨er, her⟩ : ∃ y, s.e = y := ⟨_, rfl⟩
        rw [her] at c1 he hd
        have hz : (er == 0) = false := by simpa using he
        have hz2 : (er != 0) = true := by simpa using he
        have HD := Lib.hid (And.intro he hd)
        clear he hd her hgo
        by_cases hlt : j < N
        · have e2 : (j : Int) < (N : Int) := by omega
          go_wp2_with fail
          go_quiet (fail)
          go_wp2_with fail
          go_ret2
          exact ⟨below_drewN HBW.out _, .inr ⟨er, HD.out.2, HD.out.1, rfl⟩⟩
        · obtain rfl : j = N := by omega
          go_wp2_with fail
          go_quiet (fail)
          go_wp2_with fail
          go_ret2
          exact ⟨below_drewN HBW.out _, .inr ⟨er, HD.out.2, HD.out.1, rfl⟩⟩
      · subst hjN
        rw [he] at c1
        obtain ⟨hl1, hl2⟩ := Prod.mk.inj hls
        have HDE : Hid (Chk.decT b = if s.b = [] then .inl l else .inr 6) := Lib.hid (by
          rw [HDT.out, ← hl2, ← hl1, if_neg (fun h => h he)])
        have HRSX := Lib.hid hrs
        obtain ⟨A5, n5, c5, hb5, hn5, _, _, _, _⟩ := hrs.rd
        have c0 := hb5.cell 0
        dsimp only [List.getElem?_cons_zero] at c0
        have f1 := hb5.frozen 1
        have HN5 := Lib.hid hn5
        clear he hls hl1 hl2 hrs hb5 hn5 hgo
        by_cases h5 : n5 = 0
        · subst h5
          have HDF : Hid (Chk.decT b = .inl l) := Lib.hid (by rw [HDE.out, if_pos (List.eq_nil_of_length_eq_zero HN5.out)])
          go_wp2_with fail
          go_ret2
          obtain ⟨F, S, ⟨t, ht⟩, _⟩ := HRSX.out
          exact ⟨HBW.out, .inl ⟨l, a, HDF.out, rfl, F, S, t, ht⟩⟩
        · have HDF : Hid (Chk.decT b = .inr 6) := Lib.hid (by rw [HDE.out, if_neg (fun h => h5 (by rw [← HN5.out, h]; rfl))])
          have e5 : (0 : Int) < (n5 : Int) := by omega
          have HSE := Lib.hid (HRSX.out.rd.setE 6)
          have HKB := Lib.hid (Below.then_keep HBW.out (setE_keep wr rb 1 (.int .i64 6)) (fun k e => by have := HRB.out.1; omega) (Nat.le_refl _))
          obtain ⟨w40, hw40⟩ : ∃ y, wr.setCell ⟨rb, 1, none⟩ (.int .i64 6) = y := ⟨_, rfl⟩
          rw [hw40] at HSE HKB
          have HW40 := Lib.hid hw40
          clear hw40 h5
          go_upto_region 30 with fail
          rw [HW40.out]
          clear c1 c0 f1
          have c1 := HSE.out.cellE
          dsimp only at c1
          go_wp2_with fail
          go_quiet (fail)
          go_wp2_with fail
          go_ret2
          exact ⟨below_drewN HKB.out _, .inr ⟨6, HDF.out, by decide, rfl⟩⟩
end Go.Proofs.Ytcicfneekmbamaa
