/- Joined texts: Chunk, ShaC, ShaE, ShaF. Conditions: as each part says. -/
import Derived.Test.YtfnbcchmembomaaDoorRowIn
import Derived.Test.YtfnbcchmembomaaDoorShaBase
import Derived.WalkSpells
import Derived.StillTailTactics
import Derived.Deep.QuietTactic
import Derived.BigQuiet
import Derived.ChangeAlike
import Derived.Laws.Cover3
import Derived.Deep.RegionHeld3
import Derived.Deep.DeepCutAuto
import Derived.Test.YtfnbcchmembomaaDoorWireEnc
namespace Go.Proofs.YtfnbcchmembomaaDoor
set_option linter.unusedVariables false
set_option linter.unusedSimpArgs false
/-! slices.Clone and slices.Chunk of bytes: walks of their text. -/
section
open Go.RowKit Go.Shelf
set_option maxHeartbeats 400000 in
theorem clone_any (A : Option Addr) (n c : Nat) (l : List UInt8) (hl : l.length = n) (hn : n ≤ 1099511627776) (B : Nat) (w : World) (hr : Rd w B 1 A n (bvs l)) (hB : B ≤ w.heap.size) :
    Calls Tryd.prog 30 #[.slice A n c] w fun e w' => ∃ A' c', e = .returned (.slice A' n c') ∧ w'.ownsRow w.heap.size 5 1 (.slice A' n c') n (bvs l) ∧ Below w.heap.size w w' := by
  have he := fun w => Lib.run_eql_slice_nil (P := Tryd.prog) w 22 5 A n c 0 0 Tryd.underlying22
  cases A with
  | none =>
    have h0 : n = 0 := by
      rcases Nat.eq_zero_or_pos n with h | h
      · exact h
      · obtain ⟨b, off, e, _⟩ := hr.2 h; cases e
    subst h0
    obtain rfl : l = [] := List.eq_nil_of_length_eq_zero hl
    go_enter Tryd.func30, Tryd.ntmps30
    go_wp2
    go_ret
    exact ⟨none, 0, rfl, World.ownsRow_nil _ _ _ _, Below.refl _ _⟩
  | some ad =>
    have he := fun w => (he w).trans (show _ = Result.ok (Value.bool false) w from rfl)
    clear hl
    go_enter Tryd.func30, Tryd.ntmps30
    go_wp2_with (at_builtin; refine wpList_appR rfl (.tmp 5) (.tmp 6) 22 rfl w.heap.size 5 _ 1 1 bytesE (some ⟨w.heap.size, 0, none⟩) 0 0 [] (some ad) n c (bvs l) rfl rfl (own_zero w _ 1 _ (Nat.le_refl _)) ((hr.more hB).alloc (Nat.le_refl _) _) (bvs_one _) ((Below.refl _ _).alloc (Nat.le_refl _) _) (by omega) (Nat.le_refl _) (by simp) ?_; intro A1 c1 w1 own1 hb1; simp only [Nat.zero_add, List.nil_append] at own1)
    go_ret
    exact ⟨A1, c1, rfl, own1, hb1⟩

/-- 's[l:h:m]' -/
theorem run_cut3 {P : Program} (w : World) {t e : TypeId} {z : Value} {size bytes : Nat} (E : ElemT P t e z size bytes) (A : Option Addr) (n c l h m : Nat) (kl kh km : IntKind) (hl : l ≤ h) (hh : h ≤ m) (hm : m ≤ c) :
    (Instr.sliceAt t (.slice A n c) (some (.int kl l)) (some (.int kh h)) (some (.int km m))).run P w = .ok (.slice (if m = l then A else A.map (·.add (l * size))) (h - l) (m - l)) w := by
  obtain ⟨i, hi, hz, hsize, hby⟩ := info_parts E.info
  simp [Instr.sliceAt, run_underlying E.sl, Instr.slice, Instr.sliceBounds, run_sliceBound, hl, hh, hm, sizeOf, typeInfo, hi, hsize]

attribute [local go_sem] Oper.semAt_some
/-- what a round keeps: what lay below n₀, and the blocks B1, B2 -/
def KeepsTwo (n₀ B1 B2 : Nat) (W W' : World) : Prop := Below n₀ W W' ∧ W'.heap[B1]? = W.heap[B1]? ∧ W'.heap[B2]? = W.heap[B2]?
theorem keepsTwo_t {n₀ B1 B2 : Nat} {A B C : World} (h : KeepsTwo n₀ B1 B2 A B) (k : KeepsTwo n₀ B1 B2 B C) : KeepsTwo n₀ B1 B2 A C := ⟨h.1.trans k.1, k.2.1.trans h.2.1, k.2.2.trans h.2.2⟩
theorem keepsTwo_b {n₀ B1 B2 : Nat} {w : World} (hn : n₀ ≤ w.heap.size) (h1 : B1 < w.heap.size) (h2 : B2 < w.heap.size) (W : World) (l : Nat) (o o' : Obj) (hl : w.heap.size ≤ l) (h : W.heap[l]? = some o) (k1 : o.isCells = false) (k2 : o.isWalk = false) : KeepsTwo n₀ B1 B2 W (W.putObj l o') := by
  have hlt := (Array.getElem?_eq_some_iff.1 h).1
  exact ⟨belowK_b hn W l o o' hl h k1 k2, (grownBy_putObj' W l o').block B1 (by omega) (fun e => by have e := Option.some.inj e; omega), (grownBy_putObj' W l o').block B2 (by omega) (fun e => by have e := Option.some.inj e; omega)⟩
/-- the k-th chunk of 64 of a slice -/
abbrev chunkV (ad : Addr) (k : Nat) : Array Value := #[.slice (some (ad.add (64 * k))) 64 64]
theorem finRange_at {M : Nat} {pre rest : List (Fin M)} {x : Fin M} (h : List.finRange M = pre ++ x :: rest) : x.val = pre.length := by
  have h1 : (List.finRange M)[pre.length]? = some x := by rw [h]; simp
  rw [List.getElem?_eq_some_iff] at h1
  obtain ⟨hl, he⟩ := h1
  rw [← he]; simp

set_option maxRecDepth 100000 in
set_option maxHeartbeats 2000000 in
theorem chunk1_in (F : Fence) (n : Nat) (h6 : F.fn 54) (hro : F.round = none) (hn : 1 ≤ n) (l Bs Bn n₀ : Nat) (ad : Addr) (N c M : Nat) (hN : N = 64 * M) (hc : N ≤ c) (hcm : c ≤ maxLen) (J Jx : List (Fin M) → World → Prop) (hJd : ∀ pre W, J pre W → J pre W.drew)
    (hY : ∀ pre x W, J pre W → pre.length < (List.finRange M).length → YieldAt F (n - 1) Tryd.prog l (chunkV ad x.val) W fun e W' =>
      (e = .returned (.bool true) ∧ J (pre ++ [x]) W' ∧ KeepsTwo n₀ Bs Bn W W') ∨ (e = .returned (.bool false) ∧ Jx (pre ++ [x]) W'))
    (W : World) (hBs : W.cell? ⟨Bs, 0, none⟩ = some (.slice (some ad) N c)) (hBn : W.cell? ⟨Bn, 0, none⟩ = some (.int .i64 64)) (h0 : J [] W) :
    CallsIn F n Tryd.prog 54 #[.func (.yield l) #[] #[], .pointer (some ⟨Bs, 0, none⟩), .pointer (some ⟨Bn, 0, none⟩)] W fun e W' => (∃ v, e = .returned v) ∧
      ((∃ ys, ys = List.finRange M ∧ J ys W') ∨ (∃ pre, pre <+: List.finRange M ∧ Jx pre W')) := by
  unfold maxLen at hcm
  have HN := Lib.hid hN
  clear hN
  refine callsIn_of_wp Tryd.func54 rfl h6 ?_ hro
  simp only [Tryd.ntmps54, List.size_toArray, List.length_cons, List.length_nil, Nat.reduceAdd, Nat.reduceSub, Array.replicate_succ, Array.replicate_zero, List.push_toArray, List.append_toArray, List.nil_append, List.cons_append]
  gi_wp2
  gi_loopw [4] (fun p wr => ∃ (pre rest : List (Fin M)), p = .int .i64 ((64 * pre.length : Nat) : Int) ∧ List.finRange M = pre ++ rest ∧ wr.cell? ⟨Bs, 0, none⟩ = some (.slice (some ad) N c) ∧ wr.cell? ⟨Bn, 0, none⟩ = some (.int .i64 64) ∧ J pre wr)
    (fun p _ => N - (intOf p).toNat)
  case atStart => exact ⟨[], _, rfl, rfl, hBs, hBn, h0⟩
  case round =>
    clear hBs hBn
    obtain ⟨pre, rest, rfl, hx, hBs, hBn, hJs⟩ := hrel
    have hlen : pre.length + rest.length = M := by have := congrArg List.length hx; simpa using this.symm
    have HX := Lib.hid hx
    clear hx
    cases rest with
    | nil =>
      have hk : 64 * pre.length = N := by rw [HN.out]; simp at hlen; omega
      have HK := Lib.hid hk
      have hk1 : ¬ 64 * pre.length < N := by omega
      clear hk
      gi_wp2
      go_end0
      exact ⟨⟨_, rfl⟩, .inl ⟨pre, by rw [HX.out, List.append_nil], hJs⟩⟩
    | cons x rest =>
      obtain ⟨fn, tmps, assign, body, hy, hR⟩ := hY pre x wr.drew (hJd _ _ hJs) (by rw [HX.out]; simp)
      have hxk := finRange_at HX.out
      rw [hxk] at hy
      have hlp : pre.length + 1 ≤ M := by simp at hlen; omega
      have hN2 : 64 * pre.length + 64 ≤ N := by rw [HN.out]; omega
      have HXK := Lib.hid hxk
      obtain ⟨k, hk⟩ : ∃ k, pre.length = k := ⟨_, rfl⟩
      rw [hk] at hy hN2 ⊢
      have HK := Lib.hid hk
      clear hxk hlen hlp hk
      have hcut := fun w => run_cut3 (P := Tryd.prog) w bytesE (some ad) N c (64 * k) (64 * k + 64) (64 * k + 64) .i64 .i64 .i64 (by omega) (by omega) (by omega)
      simp only [show ¬ (64 * k + 64 = 64 * k) from by omega, if_false, Nat.mul_one, Option.map_some, show 64 * k + 64 - 64 * k = 64 from by omega] at hcut
      have hne : ¬ c = 64 * k := by omega
      have hlt : 64 * k < N := by omega
      have m1 : (64 : Int) ≤ ((N - 64 * k : Nat) : Int) := by omega
      gi_wp2
      gi_region
      all_goals gi_wp2
      all_goals refine hR.mono ?_
      all_goals rintro e W3 (⟨rfl, hJ3, hk3⟩ | ⟨rfl, hJx3⟩)
      all_goals clear hy hcut m1
      all_goals first
        | (have hB3 : W3.cell? ⟨Bs, 0, none⟩ = some (.slice (some ad) N c) := (World.cell?_of_block (a := ⟨Bs, 0, none⟩) hk3.2.1).trans hBs
           have hN3 : W3.cell? ⟨Bn, 0, none⟩ = some (.int .i64 64) := (World.cell?_of_block (a := ⟨Bn, 0, none⟩) hk3.2.2).trans hBn
           clear hBs hBn hR
           gi_wp2
           go_roundw
           case rel => exact ⟨pre ++ [x], rest, by have := HK.out; rw [List.length_append, this]; simp; omega, by rw [HX.out]; simp, hB3, hN3, hJ3⟩
           case measure => simp [intOf]; omega)
        | (clear hBs hBn
           gi_wp2
           refine bodyPost_ret (results_none rfl _ _ _) rfl ?_
           exact ⟨⟨_, rfl⟩, .inr ⟨pre ++ [x], ⟨rest, by rw [HX.out]; simp⟩, hJx3⟩⟩)
theorem chunk_stops (F : Fence) (n : Nat) (h6 : F.fn 54) (hro : F.round = none) (hn : 1 ≤ n) (Bs Bn n₀ : Nat) (ad : Addr) (N c M : Nat) (hN : N = 64 * M) (hc : N ≤ c) (hcm : c ≤ maxLen) (w : World) (h1 : Bs < w.heap.size) (h2 : Bn < w.heap.size)
    (hBs : w.cell? ⟨Bs, 0, none⟩ = some (.slice (some ad) N c)) (hBn : w.cell? ⟨Bn, 0, none⟩ = some (.int .i64 64)) :
    SeqStopsK F n Tryd.prog 54 #[.pointer (some ⟨Bs, 0, none⟩), .pointer (some ⟨Bn, 0, none⟩)] (fun x : Fin M => chunkV ad x.val) (KeepsTwo n₀ Bs Bn) (fun ys => ys = List.finRange M) (fun pre => pre <+: List.finRange M) (List.finRange M).length w := fun l J Jx W hW hJ _ hY h0 =>
  chunk1_in F n h6 hro hn l Bs Bn n₀ ad N c M hN hc hcm J Jx (fun pre W hj => hJ pre W W.drew none hj ⟨rfl, rfl, rfl, Nat.le_refl _, fun _ _ _ => rfl⟩ (fun r e => by cases e)) hY W ((hW.cell (p := ⟨Bs, 0, none⟩) h1).trans hBs) ((hW.cell (p := ⟨Bn, 0, none⟩) h2).trans hBn) h0
end
/-! The compression of a block: walks of digest's compress. -/
section
open Go.RowKit
attribute [local go_sem] U.add U.xor U.and U.or U.not U.add_mod
/-- the value of a state: an array of eight words -/
abbrev stv (s : Sha.St) : Array Value := #[.int .u32 (U.uv s.a), .int .u32 (U.uv s.b), .int .u32 (U.uv s.c), .int .u32 (U.uv s.d), .int .u32 (U.uv s.e), .int .u32 (U.uv s.f), .int .u32 (U.uv s.g), .int .u32 (U.uv s.h)]
theorem size8 : (Tryd.prog.info? 63).map (·.size) = some 8 := by kernel_rfl
theorem size4 : (Tryd.prog.info? 90).map (·.size) = some 4 := by kernel_rfl
set_option maxRecDepth 100000 in
set_option maxHeartbeats 2000000 in
theorem compress_any (s : Sha.St) (A : Option Addr) (c : Nat) (b : List UInt8) (hb : b.length = 64) (B : Nat) (w : World) (hr : Rd w B 1 A 64 (bvs b)) (hB : B ≤ w.heap.size) (hc : 64 ≤ c) (hcm : c ≤ maxLen) (hK : HasRow w 2 (wvs Sha.K)) :
    Calls Tryd.prog 32 #[.agg (stv s), .slice A 64 c] w fun e w' => e = .returned (.agg (stv (Sha.comp s b))) ∧ Below w.heap.size w w' := by
  have hs8 : stv s = (wvs s.list).toArray := rfl
  have r0 : IsRow (w.alloc (.cells (stv s) 63)) w.heap.size 63 (wvs s.list) := IsRow.new w _ (wvs s.list)
  have HS8 := Lib.hid hs8
  clear hs8
  go_enter Tryd.func32, Tryd.ntmps32
  go_wp2_with fail
  have r1 := r0.alloc (.cells #[Value.int .u32 0, Value.int .u32 0, Value.int .u32 0, Value.int .u32 0, Value.int .u32 0, Value.int .u32 0, Value.int .u32 0, Value.int .u32 0] 63)
  have q1 : IsRow ((w.alloc (.cells (stv s) 63)).alloc (.cells #[Value.int .u32 0, Value.int .u32 0, Value.int .u32 0, Value.int .u32 0, Value.int .u32 0, Value.int .u32 0, Value.int .u32 0, Value.int .u32 0] 63)) (w.heap.size + 1) 63 (List.replicate 8 (Value.int .u32 0)) := by
    have := IsRow.new (w.alloc (.cells (stv s) 63)) 63 (List.replicate 8 (Value.int .u32 0))
    rw [World.size_alloc] at this
    exact this
  refine (schedule_any A c b hb B _ ((hr.alloc hB _).alloc (by simp; omega) _) (by simp; omega) hc hcm).mono ?_
  rintro e w2 ⟨rfl, b2⟩
  have r2 := r1.below' b2
  have q2 := q1.below' b2
  have hb2 : Below w.heap.size w w2 := (((Below.refl _ _).alloc (Nat.le_refl _) _).alloc (by simp) _).trans (b2.mono (by simp; omega))
  have hsz2 : w.heap.size + 2 ≤ w2.heap.size := by have := b2.size; simp at this; omega
  clear r0 r1 q1 b2 hr
  go_upto_region 2 with (first
    | (refine wpList_allocRow rfl _ rfl _ info64 ?_; intro w3 r3 b3 z3)
    | (refine wpList_storeRow rfl _ (.tmp 5) (.tmp 14) rfl r3 rfl rfl (by rw [wvs_len, Sha.sched_len]; exact size64) (by rw [List.length_replicate, wvs_len, Sha.sched_len]) (wvs_one _) ?_; intro w4 r4 g4 z4))
  have r5 := (r2.below' b3).grown g4 (by have := r2.lt; simp; omega)
  have q5 := (q2.below' b3).grown g4 (by have := q2.lt; simp; omega)
  have hb4 : Below w.heap.size w w4 := (hb2.trans (b3.mono (by omega))).grown g4 (by omega) (by intro k hk; have hk := Option.some.inj hk; omega)
  have hz4 : w4.heap.size = w2.heap.size + 1 := by omega
  try simp only [Act.put, List.setIfInBounds_toArray, List.set_cons_zero, List.set_cons_succ]
  go_cut [6, 7] (fun u6 u7 wx => ∃ bv be, u6 = .pointer (some ⟨bv, 0, none⟩) ∧ u7 = .pointer (some ⟨be, 0, none⟩) ∧ bv ≠ be ∧ IsRow wx bv 90 (wvs [s.a, s.b, s.c, s.d]) ∧ IsRow wx be 90 (wvs [s.e, s.f, s.g, s.h]) ∧ Below w4.heap.size w4 wx ∧ w4.heap.size ≤ bv ∧ w4.heap.size ≤ be)
  case first =>
    have c0 : w4.cell? ⟨w.heap.size, 0, none⟩ = some (.int .u32 (U.uv s.a)) := r5.cell 0
    have c1 : w4.cell? ⟨w.heap.size, 1, none⟩ = some (.int .u32 (U.uv s.b)) := r5.cell 1
    have c2 : w4.cell? ⟨w.heap.size, 2, none⟩ = some (.int .u32 (U.uv s.c)) := r5.cell 2
    have c3 : w4.cell? ⟨w.heap.size, 3, none⟩ = some (.int .u32 (U.uv s.d)) := r5.cell 3
    have c4 : w4.cell? ⟨w.heap.size, 4, none⟩ = some (.int .u32 (U.uv s.e)) := r5.cell 4
    have c5 : w4.cell? ⟨w.heap.size, 5, none⟩ = some (.int .u32 (U.uv s.f)) := r5.cell 5
    have c6 : w4.cell? ⟨w.heap.size, 6, none⟩ = some (.int .u32 (U.uv s.g)) := r5.cell 6
    have c7 : w4.cell? ⟨w.heap.size, 7, none⟩ = some (.int .u32 (U.uv s.h)) := r5.cell 7
    have HZ4 := Lib.hid hz4
    clear hz4 z3 z4
    have hat := fun (a : Option Addr) (len cap : Nat) (h : 4 ≤ len) (W : World) => run_arrayAt (P := Tryd.prog) W 90 62 4 a len cap Tryd.underlying90 h
    have ha1 := hat (some ⟨w.heap.size, 0, none⟩) 4 8 (by omega)
    have ha2 := hat (some ⟨w.heap.size, 4, none⟩) 4 4 (by omega)
    clear hat
    have e0 : ∀ o, (w4.alloc o).cell? ⟨w.heap.size, 0, none⟩ = some (.int .u32 (U.uv s.a)) := fun o => (r5.alloc o).cell 0
    have f0 : ∀ o o', ((w4.alloc o).alloc o').cell? ⟨w.heap.size, 0, none⟩ = some (.int .u32 (U.uv s.a)) := fun o o' => ((r5.alloc o).alloc o').cell 0
    have e1 : ∀ o, (w4.alloc o).cell? ⟨w.heap.size, 1, none⟩ = some (.int .u32 (U.uv s.b)) := fun o => (r5.alloc o).cell 1
    have f1 : ∀ o o', ((w4.alloc o).alloc o').cell? ⟨w.heap.size, 1, none⟩ = some (.int .u32 (U.uv s.b)) := fun o o' => ((r5.alloc o).alloc o').cell 1
    have e2 : ∀ o, (w4.alloc o).cell? ⟨w.heap.size, 2, none⟩ = some (.int .u32 (U.uv s.c)) := fun o => (r5.alloc o).cell 2
    have f2 : ∀ o o', ((w4.alloc o).alloc o').cell? ⟨w.heap.size, 2, none⟩ = some (.int .u32 (U.uv s.c)) := fun o o' => ((r5.alloc o).alloc o').cell 2
    have e3 : ∀ o, (w4.alloc o).cell? ⟨w.heap.size, 3, none⟩ = some (.int .u32 (U.uv s.d)) := fun o => (r5.alloc o).cell 3
    have f3 : ∀ o o', ((w4.alloc o).alloc o').cell? ⟨w.heap.size, 3, none⟩ = some (.int .u32 (U.uv s.d)) := fun o o' => ((r5.alloc o).alloc o').cell 3
    have e4 : ∀ o, (w4.alloc o).cell? ⟨w.heap.size, 4, none⟩ = some (.int .u32 (U.uv s.e)) := fun o => (r5.alloc o).cell 4
    have f4 : ∀ o o', ((w4.alloc o).alloc o').cell? ⟨w.heap.size, 4, none⟩ = some (.int .u32 (U.uv s.e)) := fun o o' => ((r5.alloc o).alloc o').cell 4
    have e5 : ∀ o, (w4.alloc o).cell? ⟨w.heap.size, 5, none⟩ = some (.int .u32 (U.uv s.f)) := fun o => (r5.alloc o).cell 5
    have f5 : ∀ o o', ((w4.alloc o).alloc o').cell? ⟨w.heap.size, 5, none⟩ = some (.int .u32 (U.uv s.f)) := fun o o' => ((r5.alloc o).alloc o').cell 5
    have e6 : ∀ o, (w4.alloc o).cell? ⟨w.heap.size, 6, none⟩ = some (.int .u32 (U.uv s.g)) := fun o => (r5.alloc o).cell 6
    have f6 : ∀ o o', ((w4.alloc o).alloc o').cell? ⟨w.heap.size, 6, none⟩ = some (.int .u32 (U.uv s.g)) := fun o o' => ((r5.alloc o).alloc o').cell 6
    have e7 : ∀ o, (w4.alloc o).cell? ⟨w.heap.size, 7, none⟩ = some (.int .u32 (U.uv s.h)) := fun o => (r5.alloc o).cell 7
    have f7 : ∀ o o', ((w4.alloc o).alloc o').cell? ⟨w.heap.size, 7, none⟩ = some (.int .u32 (U.uv s.h)) := fun o o' => ((r5.alloc o).alloc o').cell 7
    have hn4 : w.heap.size < w4.heap.size := by have := HZ4.out; omega
    have hn1 : ¬ w.heap.size = w4.heap.size := by omega
    have hn2 : ¬ w4.heap.size = w.heap.size := by omega
    have hn3 : ¬ w.heap.size = w4.heap.size + 1 := by omega
    have hn5 : ¬ w4.heap.size + 1 = w.heap.size := by omega
    go_region
    all_goals go_wp2_with fail
    all_goals go_meet
    · have h2 := rows2 w4 90 90 (wvs [s.a, s.b, s.c, s.d]) (wvs [s.e, s.f, s.g, s.h])
      exact ⟨_, _, rfl, rfl, by omega, h2.1.drew, h2.2.drew, (((Below.refl _ _).alloc (Nat.le_refl _) _).alloc (by simp) _).drew, Nat.le_refl _, by omega⟩
    · have h2 := rows2 w4 90 90 (wvs [s.e, s.f, s.g, s.h]) (wvs [s.a, s.b, s.c, s.d])
      exact ⟨_, _, rfl, rfl, by omega, h2.2.drew, h2.1.drew, (((Below.refl _ _).alloc (Nat.le_refl _) _).alloc (by simp) _).drew, by omega, Nat.le_refl _⟩
  case rest =>
    obtain ⟨bv, be, rfl, rfl, hne, rv, re, hb5, hbv, hbe⟩ := hcut
    have hKl := hK.lt
    have hK4 := (hK.below hb4 hKl).below' hb5
    have r6 := r5.below' hb5
    have q6 := q5.below' hb5
    have w6 := r4.below' hb5
    have hb6 : Below w.heap.size w wc := hb4.trans (hb5.mono (by omega))
    have hl4 : w2.heap.size < w4.heap.size := by omega
    have HZ4 := Lib.hid hz4
    clear hz4 z3 z4 r5 q5 r4 hb5 r2 q2 r3 g4 b3
    go_wp2_with (refine wpList_loadVar rfl _ (.global 2) rfl hK4 rfl Tryd.underlying68 (by rw [wvs_len]; exact size64) ?_)
    have a0 := Sha.after_zero b s
    go_loopw [22] (fun i wr => ∃ t : Nat, t ≤ 64 ∧ i = .int .i64 t ∧ IsRow wr bv 90 (wvs [(Sha.after b s t).a, (Sha.after b s t).b, (Sha.after b s t).c, (Sha.after b s t).d]) ∧ IsRow wr be 90 (wvs [(Sha.after b s t).e, (Sha.after b s t).f, (Sha.after b s t).g, (Sha.after b s t).h]) ∧
        IsRow wr w2.heap.size 68 (wvs (Sha.sched b)) ∧ IsRow wr w.heap.size 63 (wvs s.list) ∧ IsRow wr (w.heap.size + 1) 63 (List.replicate 8 (.int .u32 0)) ∧ Below w.heap.size w wr)
      (fun i _ => 64 - (intOf i).toNat)
    case atStart => exact ⟨0, by omega, rfl, by rw [a0]; exact rv, by rw [a0]; exact re, w6, r6, q6, hb6⟩
    case round =>
      clear a0 rv re w6 r6 q6 hb6 hK4
      obtain ⟨t, ht, rfl, rv, re, rw6, r6, q6, hb6⟩ := hrel
      by_cases hlt : t < 64
      · have hsc := Sha.after_succ b s hlt
        have HSC := Lib.hid hsc
        clear hsc
        generalize Sha.after b s t = v at *
        have v0 : wr.cell? ⟨bv, 0, none⟩ = some (.int .u32 (U.uv v.a)) := rv.cell 0
        have v1 : wr.cell? ⟨bv, 1, none⟩ = some (.int .u32 (U.uv v.b)) := rv.cell 1
        have v2 : wr.cell? ⟨bv, 2, none⟩ = some (.int .u32 (U.uv v.c)) := rv.cell 2
        have v3 : wr.cell? ⟨bv, 3, none⟩ = some (.int .u32 (U.uv v.d)) := rv.cell 3
        have e0 : wr.cell? ⟨be, 0, none⟩ = some (.int .u32 (U.uv v.e)) := re.cell 0
        have e1 : wr.cell? ⟨be, 1, none⟩ = some (.int .u32 (U.uv v.f)) := re.cell 1
        have e2 : wr.cell? ⟨be, 2, none⟩ = some (.int .u32 (U.uv v.g)) := re.cell 2
        have e3 : wr.cell? ⟨be, 3, none⟩ = some (.int .u32 (U.uv v.h)) := re.cell 3
        have hix := fun wx => run_indexArr (P := Tryd.prog) 68 62 64 .u32 Tryd.underlying68 Tryd.underlying62 (by kernel_rfl) wx (wvs Sha.K).toArray .i64 t hlt (.int .u32 (U.uv (Sha.K.getD t 0))) (by rw [List.getElem?_toArray, wvs_getD _ _ (by rw [Sha.K_len]; exact hlt)])
        have wt : wr.cell? ⟨w2.heap.size, t, none⟩ = some (.int .u32 (U.uv ((Sha.sched b).getD t 0))) := by rw [rw6.cell, wvs_getD _ _ (by rw [Sha.sched_len]; exact hlt)]
        generalize Sha.K.getD t 0 = k at *
        generalize (Sha.sched b).getD t 0 = x at *
        have t0 : (0 : Int) ≤ (t : Int) := by omega
        have t1 : (t : Int) < 64 := by omega
        go_wp2
        go_quiet ((go_at_call 56; exact quiet_mix v.e 6 11 25 _ _ _ (by omega) (by omega) (by omega) (by omega) (by omega) (by omega) _ _))
        go_wp2
        go_quiet ((go_at_call 56; exact quiet_mix2 v.a 2 13 22 _ _ _ (by omega) (by omega) (by omega) (by omega) (by omega) (by omega) _ _ _))
        have hsc := HSC.out
        obtain ⟨X, hX⟩ : ∃ X, X = v.h + (Sha.rotr v.e 6 ^^^ Sha.rotr v.e 11 ^^^ Sha.rotr v.e 25) + (v.e &&& v.f ^^^ ~~~v.e &&& v.g) + k + x := ⟨_, rfl⟩
        obtain ⟨Y, hY⟩ : ∃ Y, Y = (Sha.rotr v.a 2 ^^^ Sha.rotr v.a 13 ^^^ Sha.rotr v.a 22) + (v.a &&& v.b ^^^ v.a &&& v.c ^^^ v.b &&& v.c) := ⟨_, rfl⟩
        have hrnd : Sha.rnd v k x = ⟨X + Y, v.a, v.b, v.c, v.d + X, v.e, v.f, v.g⟩ := by rw [hX, hY]; rfl
        rw [hrnd] at hsc
        rw [← hX, ← hY]
        have HX := Lib.hid hX
        have HY := Lib.hid hY
        have HR := Lib.hid hsc
        clear hX hY hrnd hsc hix wt t0 t1
        generalize hwd : (wr.drewN _).drewN _ = w7
        have rv7 : IsRow w7 bv 90 (wvs [v.a, v.b, v.c, v.d]) := by rw [← hwd]; exact rv
        have re7 : IsRow w7 be 90 (wvs [v.e, v.f, v.g, v.h]) := by rw [← hwd]; exact re
        have rw7 : IsRow w7 w2.heap.size 68 (wvs (Sha.sched b)) := by rw [← hwd]; exact rw6
        have r7 : IsRow w7 w.heap.size 63 (wvs s.list) := by rw [← hwd]; exact r6
        have q7 : IsRow w7 (w.heap.size + 1) 63 (List.replicate 8 (.int .u32 0)) := by rw [← hwd]; exact q6
        have hb7 : Below w.heap.size w w7 := by rw [← hwd]; exact below_drewN (below_drewN hb6 _) _
        clear hwd rv re rw6 r6 q6 hb6 v0 v1 v2 v3 e0 e1 e2 e3
        have v3 : w7.cell? ⟨bv, 3, none⟩ = some (.int .u32 (U.uv v.d)) := rv7.cell 3
        have e0 : w7.cell? ⟨be, 0, none⟩ = some (.int .u32 (U.uv v.e)) := re7.cell 0
        have e1 : w7.cell? ⟨be, 1, none⟩ = some (.int .u32 (U.uv v.f)) := re7.cell 1
        have e2 : w7.cell? ⟨be, 2, none⟩ = some (.int .u32 (U.uv v.g)) := re7.cell 2
        have tok1 : True := trivial
        go_wp2_with (first
          | (have _t := tok1
             refine wpList_storeRow rfl _ (.tmp 7) (.tmp 82) rfl re7 rfl (l' := wvs [v.d + X, v.e, v.f, v.g]) rfl size4 rfl (wvs_one _) ?_
             intro w8 r8 g8 z8
             clear tok1 e0 e1 e2 v3
             have rv8 := rv7.grown g8 (fun h => hne (Option.some.inj h).symm)
             have rw8 := rw7.grown g8 (by intro h; have h := Option.some.inj h; omega)
             have r08 := r7.grown g8 (by intro h; have h := Option.some.inj h; omega)
             have q8 := q7.grown g8 (by intro h; have h := Option.some.inj h; omega)
             have hb8 := hb7.grown g8 hb7.size (by intro k hk; have hk := Option.some.inj hk; omega)
             have v0 : w8.cell? ⟨bv, 0, none⟩ = some (.int .u32 (U.uv v.a)) := rv8.cell 0
             have v1 : w8.cell? ⟨bv, 1, none⟩ = some (.int .u32 (U.uv v.b)) := rv8.cell 1
             have v2 : w8.cell? ⟨bv, 2, none⟩ = some (.int .u32 (U.uv v.c)) := rv8.cell 2
             clear rv7 re7 rw7 r7 q7 hb7 z8 g8)
          | (refine wpList_storeRow rfl _ (.tmp 6) (.tmp 92) rfl rv8 rfl (l' := wvs [X + Y, v.a, v.b, v.c]) rfl size4 rfl (wvs_one _) ?_
             intro w9 r9 g9 z9
             clear v0 v1 v2))
        have re9 := r8.grown g9 (fun h => hne (Option.some.inj h))
        have rw9 := rw8.grown g9 (by intro h; have h := Option.some.inj h; omega)
        have r09 := r08.grown g9 (by intro h; have h := Option.some.inj h; omega)
        have q9 := q8.grown g9 (by intro h; have h := Option.some.inj h; omega)
        have hb9 := hb8.grown g9 hb8.size (by intro k hk; have hk := Option.some.inj hk; omega)
        clear r8 rw8 r08 q8 hb8 rv8 g9 z9
        go_wp2
        go_roundw
        case rel => exact ⟨t + 1, by omega, by go_num, by rw [HR.out]; exact r9, by rw [HR.out]; exact re9, rw9, r09, q9, hb9⟩
        case measure => simp [intOf]; omega
      · obtain rfl : t = 64 := by omega
        have hfin := Sha.after_end b s
        generalize Sha.after b s 64 = v at *
        have HF := Lib.hid hfin
        clear hfin hlt ht
        go_wp2
        rw [← Sha.mid_zero s v] at r6
        go_loopw [94] (fun i wr => ∃ t : Nat, t ≤ 4 ∧ i = .int .i64 t ∧ IsRow wr w.heap.size 63 (wvs (Sha.mid s v t)) ∧ IsRow wr bv 90 (wvs [v.a, v.b, v.c, v.d]) ∧ IsRow wr be 90 (wvs [v.e, v.f, v.g, v.h]) ∧ IsRow wr (w.heap.size + 1) 63 (List.replicate 8 (.int .u32 0)) ∧ Below w.heap.size w wr)
          (fun i _ => 4 - (intOf i).toNat)
        case atStart => exact ⟨0, by omega, rfl, r6, rv, re, q6, hb6⟩
        case round =>
          clear r6 rv re q6 hb6 rw6
          obtain ⟨t, ht, rfl, r6, rv, re, q6, hb6⟩ := hrel
          by_cases hlt : t < 4
          · have hm := Sha.mid_set s v hlt
            have c1 : wr.cell? ⟨w.heap.size, t, none⟩ = some (.int .u32 (U.uv (s.list.getD t 0))) := by rw [r6.cell, wvs_getD _ _ (by rw [Sha.mid_len]; omega), Sha.mid_lo s v hlt]
            have c2 : wr.cell? ⟨w.heap.size, t + 4, none⟩ = some (.int .u32 (U.uv (s.list.getD (t + 4) 0))) := by rw [r6.cell, wvs_getD _ _ (by rw [Sha.mid_len]; omega), Sha.mid_hi s v hlt]
            have c3 : wr.cell? ⟨bv, t, none⟩ = some (.int .u32 (U.uv (v.list.getD t 0))) := by rw [rv.cell, wvs_getD _ _ (by simp; omega), Sha.half_lo v hlt]
            have c4 : wr.cell? ⟨be, t, none⟩ = some (.int .u32 (U.uv (v.list.getD (t + 4) 0))) := by rw [re.cell, wvs_getD _ _ (by simp; omega), Sha.half_hi v hlt]
            have f1 := r6.frozen t
            have f2 := r6.frozen (t + 4)
            generalize s.list.getD t 0 = x1 at *
            generalize s.list.getD (t + 4) 0 = x2 at *
            generalize v.list.getD t 0 = y1 at *
            generalize v.list.getD (t + 4) 0 = y2 at *
            have hset := (r6.set t (.int .u32 (U.uv (x1 + y1)))).set (t + 4) (.int .u32 (U.uv (x2 + y2)))
            rw [wvs_set, wvs_set, hm] at hset
            have n1 : ¬ be = w.heap.size := by omega
            have n2 : ¬ w.heap.size = be := by omega
            have n3 : ¬ bv = w.heap.size := by omega
            have n4 : ¬ w.heap.size = bv := by omega
            have t0 : (0 : Int) ≤ (t : Int) := by omega
            have t1 : (t : Int) < 4 := by omega
            have t2 : (t : Int) < 8 := by omega
            have n2' : w.heap.size ≠ bv := n4
            have n1' : w.heap.size ≠ be := n2
            have n0 : w.heap.size ≠ w.heap.size + 1 := by omega
            clear hm
            go_wp2
            go_region
            go_wp2
            go_region
            go_wp2
            go_roundw
            case rel => exact ⟨t + 1, by omega, by go_num, hset, ((rv.setOther (p := ⟨w.heap.size, t, none⟩) n2' _).setOther (p := ⟨w.heap.size, t + 4, none⟩) n2' _), ((re.setOther (p := ⟨w.heap.size, t, none⟩) n1' _).setOther (p := ⟨w.heap.size, t + 4, none⟩) n1' _), ((q6.setOther (p := ⟨w.heap.size, t, none⟩) n0 _).setOther (p := ⟨w.heap.size, t + 4, none⟩) n0 _), ((hb6.setCell (p := ⟨w.heap.size, t, none⟩) (Nat.le_refl _) _).setCell (p := ⟨w.heap.size, t + 4, none⟩) (Nat.le_refl _) _).drew.drew⟩
            case measure => simp [intOf]; omega
          · obtain rfl : t = 4 := by omega
            rw [Sha.mid_end, HF.out] at r6
            obtain ⟨z, hz⟩ : ∃ z, z = Sha.comp s b := ⟨_, rfl⟩
            rw [← hz] at r6
            have HZ := Lib.hid hz
            have HB := Lib.hid hb6
            clear hz
            clear hb6 rv re hlt ht
            go_wp2_with (first
              | (refine wpList_loadRow rfl _ (.tmp 2) rfl r6 rfl Tryd.underlying63 size8 ?_)
              | (refine wpList_storeRow rfl _ (.tmp 4) (.tmp 115) rfl q6 rfl rfl size8 rfl (wvs_one _) ?_; intro w9 r9 g9 z9))
            exact bodyPost_ret (resultRow rfl _ _ r9 rfl Tryd.underlying63 size8) rfl ⟨by rw [← HZ.out]; rfl, HB.out.grown g9 HB.out.size (by intro k hk; have hk := Option.some.inj hk; omega)⟩
end
/-! SHA-256 by the reference: a walk of its Sum. -/
section
open Go.RowKit
attribute [local go_sem] U.add U.xor U.and U.or U.not U.add_mod U.xor_ones
theorem info8 : (Tryd.prog.info? 63).map (fun i => (i.zero, i.size)) = some (some (.agg (List.replicate 8 (Value.int .u32 0)).toArray), (List.replicate 8 (Value.int .u32 0)).length) := by kernel_rfl
theorem info32 : (Tryd.prog.info? 24).map (fun i => (i.zero, i.size)) = some (some (.agg (List.replicate 32 (Value.int .u8 0)).toArray), (List.replicate 32 (Value.int .u8 0)).length) := by kernel_rfl
theorem size32 : (Tryd.prog.info? 24).map (·.size) = some 32 := by kernel_rfl
theorem zeros32 : List.replicate 32 (Value.int .u8 0) = bvs (List.replicate 32 (0 : UInt8)) := by simp [bvs]
theorem bvs_all (l : List UInt8) : (bvs l).all (·.oneCell') = true := by simp [bvs, Value.oneCell']
theorem bvs_len (l : List UInt8) : (bvs l).length = l.length := by simp
theorem bvs_set (l : List UInt8) (j : Nat) (x : UInt8) : (bvs l).set j (.int .u8 (x.toNat : Int)) = bvs (l.set j x) := by simp [bvs, List.map_set]
theorem start_agg : #[Value.int .u32 1779033703, .int .u32 3144134277, .int .u32 1013904242, .int .u32 2773480762, .int .u32 1359893119, .int .u32 2600822924, .int .u32 528734635, .int .u32 1541459225] = (wvs Sha.start.list).toArray := by kernel_rfl
theorem blk_len {m : List UInt8} {N t : Nat} (hN : m.length = N) (h : 64 * t + 64 ≤ N) : (Sha.blk m t).length = 64 := by simp [Sha.blk]; omega
/-- what the reference's walk keeps between two blocks -/
structure RefSt (w wr : World) (m : List UInt8) (N : Nat) (A : Option Addr) (bs t : Nat) : Prop where
  row : IsRow wr bs 63 (wvs (Sha.run m t).list)
  out : IsRow wr w.heap.size 24 (List.replicate 32 (Value.int .u8 0))
  rd : Rd wr wr.heap.size 1 A N (bvs m)
  below : Below w.heap.size w wr
set_option maxRecDepth 100000 in
set_option maxHeartbeats 4000000 in
theorem refSum_any (A : Option Addr) (n c : Nat) (l : List UInt8) (hl : l.length = n) (hn : n ≤ 1099511627776) (B : Nat) (w : World) (hr : Rd w B 1 A n (bvs l)) (hB : B ≤ w.heap.size) (hK : HasRow w 1 (wvs Sha.K)) :
    Calls Tryd.prog 12 #[.slice A n c] w fun e w' => e = .returned (.agg (bvs (Sha.sum l)).toArray) ∧ Below w.heap.size w w' := by
  obtain ⟨N, hN⟩ : ∃ N, (Sha.pad l).length = N := ⟨_, rfl⟩
  have hz := Sha.zeros_lt n
  have hNb : N ≤ n + 80 := by rw [← hN, Sha.pad_len, hl]; omega
  have hN64 : N % 64 = 0 := by rw [← hN]; exact Sha.pad_64 l
  have tok1 : True := trivial
  have HSA := Lib.hid start_agg
  have hKl := hK.lt
  go_enter Tryd.func12, Tryd.ntmps12
  have HN64 := Lib.hid hN64
  have HN := Lib.hid hN
  have HL := Lib.hid hl
  clear hN64 hN hl
  go_wp2_with (first
    | (have _t := tok1; refine wpList_allocRow rfl _ rfl _ info32 ?_; intro w1 r1 b1 z1; have HZ1 := Lib.hid z1; clear tok1 z1)
    | (refine wpList_allocRow rfl _ rfl _ info8 ?_; intro w2 r2 b2 z2; have HZ2 := Lib.hid z2; clear z2)
    | (refine wpList_storeRowA rfl _ (.tmp 3) (.tmp 14) rfl r2 rfl rfl start_agg size8 rfl (wvs_one _) ?_; intro w3 r3 g3 z3))
  have z1 := HZ1.out
  have z2 := HZ2.out
  have hb3 : Below w.heap.size w w3 := (b1.trans (b2.mono (by omega))).grown g3 (by omega) (by intro k hk; have hk := Option.some.inj hk; omega)
  have hz3 : w3.heap.size = w.heap.size + 2 := by omega
  have o3 := (r1.below' b2).grown g3 (by intro h; have h := Option.some.inj h; omega)
  have hw1 : w.heap.size < w1.heap.size := by omega
  have hw13 : w1.heap.size < w3.heap.size := by omega
  clear r1 r2 b1 b2 g3 z1 z2 z3
  refine (padded_any A n c l HL.out hn B w3 (hr.below (hb3.mono hB)) (by omega) N HN.out).mono ?_
  rintro e w4 ⟨A4, c4, rfl, own4, b4⟩
  have hb4 : Below w.heap.size w w4 := hb3.trans (b4.mono (by omega))
  have S0 : RefSt w w4 (Sha.pad l) N A4 w1.heap.size 0 := ⟨r3.below' b4, o3.below' b4, Rd.of_own own4, hb4⟩
  have hcap := own_cap own4
  have HA4 : Hid (∀ a, A4 = some a → a.block ≠ w1.heap.size) := fun a ha => by have := own_block_lt own4 a ha; omega
  have hs4 := b4.size
  have hw14 : w1.heap.size < w4.heap.size := by omega
  have HZ3 := Lib.hid hz3
  clear hz3 r3 o3 own4 b4 hb3 hb4
  go_wp2
  go_loopw [5] (fun u wr => ∃ t : Nat, 64 * t ≤ N ∧ u = .int .i64 ((64 * t : Nat) : Int) ∧ RefSt w wr (Sha.pad l) N A4 w1.heap.size t)
    (fun u _ => N - (intOf u).toNat)
  case atStart => exact ⟨0, by omega, rfl, S0⟩
  case round =>
    clear S0
    obtain ⟨t, ht, rfl, S⟩ := hrel
    by_cases hlt : 64 * t < N
    · have hl64 : 64 * t + 64 ≤ N := by have := HN64.out; omega
      have hrow := S.row
      have hout := S.out
      have hrd := S.rd
      have hbel := S.below
      have hbl := blk_len HN.out hl64
      have hgrow := hrow.lt
      clear S
      go_wp2_with (first
        | (refine wpList_cut rfl (.tmp 23) (.tmp 24) (.tmp 26) 22 rfl 5 _ 1 1 bytesE A4 N c4 rfl (64 * t) (64 * t + 64) .i64 .i64 _ _ rfl rfl (by omega) (by omega) (by omega) (by omega) hcap.1 hrd ?_; intro A5 rd5)
        | fail)
      have rd5' : Rd wr wr.heap.size 1 A5 64 (bvs (Sha.blk (Sha.pad l) t)) := by
        have e : 64 * t + 64 - 64 * t = 64 := by omega
        rw [e] at rd5
        simpa [bvs, Sha.blk, List.map_take, List.map_drop] using rd5
      clear rd5
      refine (words_any A5 _ (Sha.blk (Sha.pad l) t) hbl _ wr rd5' (Nat.le_refl _)).mono ?_
      rintro e w5 ⟨rfl, b5⟩
      have row5 := hrow.below' b5
      have out5 := hout.below' b5
      have hm5 := hrd.below b5
      have bel5 := hbel.trans (b5.mono hbel.size)
      have hs5 := b5.size
      have hsw := hbel.size
      clear hrow hout hrd hbel rd5' b5
      generalize hv : Sha.run (Sha.pad l) t = s at *
      generalize hB : Sha.blk (Sha.pad l) t = b at *
      have HV := Lib.hid hv
      have HBB := Lib.hid hB
      clear hv hB hbl
      have tokA : True := trivial
      go_wp2_with (first
        | (refine wpList_allocRow rfl _ rfl _ info64 ?_; intro w6 r6 b6 z6; have HZ6 := Lib.hid z6; clear z6)
        | (refine wpList_storeRow rfl _ (.tmp 6) (.tmp 28) rfl r6 rfl rfl (by rw [wvs_len, Sha.sched_len]; exact size64) (by rw [List.length_replicate, wvs_len, Sha.sched_len]) (wvs_one _) ?_; intro w7 r7 g7 z7; have HZ7 := Lib.hid z7; have row7 := (row5.below' b6).grown g7 (by intro h; have h := Option.some.inj h; omega); clear z7)
        | (refine wpList_loadRow rfl _ (.tmp 3) rfl row7 rfl Tryd.underlying63 size8 ?_)
        | (refine wpList_allocRow rfl _ rfl _ info8 ?_; intro w8 r8 b8 z8; have HZ8 := Lib.hid z8; clear z8)
        | (refine wpList_storeRow rfl _ (.tmp 7) (.tmp 29) rfl r8 rfl rfl size8 rfl (wvs_one _) ?_; intro w9 r9 g9 z9; have HZ9 := Lib.hid z9; clear z9))
      have z6 := HZ6.out
      have z7 := HZ7.out
      have z8 := HZ8.out
      have z9 := HZ9.out
      have b7 : Below w5.heap.size w5 w7 := b6.grown g7 (by omega) (by intro k hk; have hk := Option.some.inj hk; omega)
      have b9 : Below w5.heap.size w5 w9 := (b7.trans (b8.mono (by omega))).grown g9 (by omega) (by intro k hk; have hk := Option.some.inj hk; omega)
      have row9 := row5.below' b9
      have out9 := out5.below' b9
      have hm9 := hm5.below (b9.mono hs5)
      have bel9 := bel5.trans (b9.mono bel5.size)
      have sch9 := (r7.below' b8).grown g9 (by intro h; have h := Option.some.inj h; omega)
      have hw57 : w5.heap.size < w7.heap.size := by omega
      have hw79 : w7.heap.size < w9.heap.size := by omega
      have hK9 := hK.below bel9 hKl
      clear z6 z7 z8 z9 b7 b8 b9 g9 g7 r8 r7 row7 r6 b6 row5 out5 hm5 bel5 hK9
      go_wp2
      have a0 := Sha.after_zero b s
      go_loopw [8] (fun u wr => ∃ i : Nat, i ≤ 64 ∧ u = .int .i64 i ∧ IsRow wr w7.heap.size 63 (wvs (Sha.after b s i).list) ∧ IsRow wr w5.heap.size 68 (wvs (Sha.sched b)) ∧ IsRow wr w1.heap.size 63 (wvs s.list) ∧ IsRow wr w.heap.size 24 (List.replicate 32 (.int .u8 0)) ∧ Below w7.heap.size w9 wr)
        (fun u _ => 64 - (intOf u).toNat)
      case atStart => exact ⟨0, by omega, rfl, by rw [a0]; exact r9, sch9, row9, out9, Below.refl _ _⟩
      case round =>
        clear a0 r9 sch9 row9 out9
        obtain ⟨i, hi, rfl, rv, rs, rw1, ro, hbi⟩ := hrel
        by_cases hil : i < 64
        · have hsc := Sha.after_succ b s hil
          have HSC := Lib.hid hsc
          clear hsc
          generalize Sha.after b s i = v at *
          have v0 : wr.cell? ⟨w7.heap.size, 0, none⟩ = some (.int .u32 (U.uv v.a)) := rv.cell 0
          have v1 : wr.cell? ⟨w7.heap.size, 1, none⟩ = some (.int .u32 (U.uv v.b)) := rv.cell 1
          have v2 : wr.cell? ⟨w7.heap.size, 2, none⟩ = some (.int .u32 (U.uv v.c)) := rv.cell 2
          have v3 : wr.cell? ⟨w7.heap.size, 3, none⟩ = some (.int .u32 (U.uv v.d)) := rv.cell 3
          have v4 : wr.cell? ⟨w7.heap.size, 4, none⟩ = some (.int .u32 (U.uv v.e)) := rv.cell 4
          have v5 : wr.cell? ⟨w7.heap.size, 5, none⟩ = some (.int .u32 (U.uv v.f)) := rv.cell 5
          have v6 : wr.cell? ⟨w7.heap.size, 6, none⟩ = some (.int .u32 (U.uv v.g)) := rv.cell 6
          have v7 : wr.cell? ⟨w7.heap.size, 7, none⟩ = some (.int .u32 (U.uv v.h)) := rv.cell 7
          have hKi := (hK.below bel9 hKl).below (w' := wr) hbi (by omega)
          have kt : wr.cell? ⟨1, i, none⟩ = some (.int .u32 (U.uv (Sha.K.getD i 0))) := by rw [hKi.cell, wvs_getD _ _ (by rw [Sha.K_len]; exact hil)]
          have wt : wr.cell? ⟨w5.heap.size, i, none⟩ = some (.int .u32 (U.uv ((Sha.sched b).getD i 0))) := by rw [rs.cell, wvs_getD _ _ (by rw [Sha.sched_len]; exact hil)]
          generalize Sha.K.getD i 0 = k at *
          generalize (Sha.sched b).getD i 0 = x at *
          have t0 : (0 : Int) ≤ (i : Int) := by omega
          have t1 : (i : Int) < 64 := by omega
          clear hKi
          go_wp2
          go_quiet ((first | (go_at_call 35; exact quiet_rotr v.e 6 (by omega) (by omega) _ (by omega) _ _) | (go_at_call 35; exact quiet_rotr v.e 11 (by omega) (by omega) _ (by omega) _ _) | (go_at_call 35; exact quiet_rotr v.e 25 (by omega) (by omega) _ (by omega) _ _)))
          clear kt wt t0 t1
          go_wp2
          go_quiet ((first | (go_at_call 35; exact quiet_rotr2 v.a 2 (by omega) (by omega) _ (by omega) _ _ _) | (go_at_call 35; exact quiet_rotr2 v.a 13 (by omega) (by omega) _ (by omega) _ _ _) | (go_at_call 35; exact quiet_rotr2 v.a 22 (by omega) (by omega) _ (by omega) _ _ _)))
          have hsc := HSC.out
          obtain ⟨X, hX⟩ : ∃ X, X = v.h + (Sha.rotr v.e 6 ^^^ Sha.rotr v.e 11 ^^^ Sha.rotr v.e 25) + (v.e &&& v.f ^^^ ~~~v.e &&& v.g) + k + x := ⟨_, rfl⟩
          obtain ⟨Y, hY⟩ : ∃ Y, Y = (Sha.rotr v.a 2 ^^^ Sha.rotr v.a 13 ^^^ Sha.rotr v.a 22) + (v.a &&& v.b ^^^ v.a &&& v.c ^^^ v.b &&& v.c) := ⟨_, rfl⟩
          have hrnd : Sha.rnd v k x = ⟨X + Y, v.a, v.b, v.c, v.d + X, v.e, v.f, v.g⟩ := by rw [hX, hY]; rfl
          rw [hrnd] at hsc
          rw [← hX, ← hY]
          have HX := Lib.hid hX
          have HY := Lib.hid hY
          have HR := Lib.hid hsc
          clear hX hY hrnd hsc
          generalize hwd : (wr.drewN _).drewN _ = w10
          have rv10 : IsRow w10 w7.heap.size 63 (wvs v.list) := by rw [← hwd]; exact rv
          have rs10 : IsRow w10 w5.heap.size 68 (wvs (Sha.sched b)) := by rw [← hwd]; exact rs
          have r110 : IsRow w10 w1.heap.size 63 (wvs s.list) := by rw [← hwd]; exact rw1
          have ro10 : IsRow w10 w.heap.size 24 (List.replicate 32 (.int .u8 0)) := by rw [← hwd]; exact ro
          have hbi10 : Below w7.heap.size w9 w10 := by rw [← hwd]; exact below_drewN (below_drewN hbi _) _
          clear hwd rv rs rw1 ro hbi v0 v1 v2 v3 v4 v5 v6 v7
          have v0 : w10.cell? ⟨w7.heap.size, 0, none⟩ = some (.int .u32 (U.uv v.a)) := rv10.cell 0
          have v1 : w10.cell? ⟨w7.heap.size, 1, none⟩ = some (.int .u32 (U.uv v.b)) := rv10.cell 1
          have v2 : w10.cell? ⟨w7.heap.size, 2, none⟩ = some (.int .u32 (U.uv v.c)) := rv10.cell 2
          have v3 : w10.cell? ⟨w7.heap.size, 3, none⟩ = some (.int .u32 (U.uv v.d)) := rv10.cell 3
          have v4 : w10.cell? ⟨w7.heap.size, 4, none⟩ = some (.int .u32 (U.uv v.e)) := rv10.cell 4
          have v5 : w10.cell? ⟨w7.heap.size, 5, none⟩ = some (.int .u32 (U.uv v.f)) := rv10.cell 5
          have v6 : w10.cell? ⟨w7.heap.size, 6, none⟩ = some (.int .u32 (U.uv v.g)) := rv10.cell 6
          go_wp2_with (refine wpList_storeRow rfl _ (.tmp 7) (.tmp 117) rfl rv10 rfl (l' := wvs [X + Y, v.a, v.b, v.c, v.d + X, v.e, v.f, v.g]) rfl size8 rfl (wvs_one _) ?_; intro w11 r11 g11 z11; clear v0 v1 v2 v3 v4 v5 v6 z11)
          have rs11 := rs10.grown g11 (by intro h; have h := Option.some.inj h; omega)
          have r111 := r110.grown g11 (by intro h; have h := Option.some.inj h; omega)
          have ro11 := ro10.grown g11 (by intro h; have h := Option.some.inj h; omega)
          have hbi11 := hbi10.grown g11 (by have := rv10.lt; omega) (by intro k hk; have hk := Option.some.inj hk; omega)
          clear rv10 rs10 r110 ro10 hbi10 g11
          go_roundw
          case rel => exact ⟨i + 1, by omega, by go_num, by rw [HR.out]; exact r11, rs11, r111, ro11, hbi11⟩
          case measure => simp [intOf]; omega
        · obtain rfl : i = 64 := by omega
          have hfin := Sha.after_end b s
          have hsucc : Sha.run (Sha.pad l) (t + 1) = Sha.comp s b := by rw [← HV.out, ← HBB.out]; rfl
          have HF := Lib.hid (hfin.trans hsucc.symm)
          clear hfin hsucc rs hil hi
          generalize Sha.after b s 64 = v at *
          go_wp2
          rw [← Sha.mid8_zero s v] at rw1
          go_loopw [11] (fun u wr => ∃ j : Nat, j ≤ 8 ∧ u = .int .i64 j ∧ IsRow wr w1.heap.size 63 (wvs (Sha.mid8 s v j)) ∧ IsRow wr w7.heap.size 63 (wvs v.list) ∧ IsRow wr w.heap.size 24 (List.replicate 32 (.int .u8 0)) ∧ Rd wr w7.heap.size 1 A4 N (bvs (Sha.pad l)) ∧ Below w.heap.size w wr ∧ w7.heap.size ≤ wr.heap.size)
            (fun u _ => 8 - (intOf u).toNat)
          case atStart => exact ⟨0, by omega, rfl, rw1, rv, ro, (hm9.more (by omega)).below hbi, bel9.trans (hbi.mono (by omega)), by have := hbi.size; omega⟩
          case round =>
            clear rw1 rv ro hm9 bel9 hbi
            obtain ⟨j, hj, rfl, rw1, rv, ro, hm9, bel9, hsz9⟩ := hrel
            by_cases hjl : j < 8
            · have hset0 := Sha.mid8_set s v hjl
              have c1 : wr.cell? ⟨w1.heap.size, j, none⟩ = some (.int .u32 (U.uv (s.list.getD j 0))) := by rw [rw1.cell, wvs_getD _ _ (by rw [Sha.mid8_len]; omega), Sha.mid8_at s v hjl]
              have c2 : wr.cell? ⟨w7.heap.size, j, none⟩ = some (.int .u32 (U.uv (v.list.getD j 0))) := by rw [rv.cell, wvs_getD _ _ (by rw [Sha.list_len]; omega)]
              have f1 := rw1.frozen j
              have hset := rw1.set j (.int .u32 (U.uv (s.list.getD j 0 + v.list.getD j 0)))
              rw [wvs_set, hset0] at hset
              generalize s.list.getD j 0 = x1 at *
              generalize v.list.getD j 0 = y1 at *
              clear hset0
              have t0 : (0 : Int) ≤ (j : Int) := by omega
              have t2 : (j : Int) < 8 := by omega
              go_wp2
              go_region
              go_wp2
              go_roundw
              case rel => exact ⟨j + 1, by omega, by go_num, hset, rv.setOther (p := ⟨w1.heap.size, j, none⟩) (by show w1.heap.size ≠ _; omega) _, ro.setOther (p := ⟨w1.heap.size, j, none⟩) (by show w1.heap.size ≠ _; omega) _, (hm9.setCell_far (p := ⟨w1.heap.size, j, none⟩) HA4.out _).drew, (bel9.setCell (p := ⟨w1.heap.size, j, none⟩) (by show _ ≤ w1.heap.size; omega) _).drew, by simpa [World.setCell] using hsz9⟩
              case measure => simp [intOf]; omega
            · obtain rfl : j = 8 := by omega
              rw [Sha.mid8_end, HF.out] at rw1
              clear rv hjl hj
              go_wp2
              go_roundw
              case rel => exact ⟨t + 1, by omega, by go_num, rw1, ro, hm9.more hsz9, bel9⟩
              case measure => simp [intOf]; omega
    · have hN : N = 64 * t := by omega
      have hrow := S.row
      have hout := S.out
      have hbel := S.below
      have hsum : Sha.sum l = Sha.outb (Sha.run (Sha.pad l) t) := by unfold Sha.sum; rw [HN.out, hN]; congr 2; omega
      have HS := Lib.hid hsum
      clear S hN hsum hr
      generalize Sha.run (Sha.pad l) t = s at *
      rw [zeros32, ← Sha.outp_zero s] at hout
      have tokB : True := trivial
      go_wp2_with (refine wpList_allocRow rfl _ rfl _ info32 ?_; intro w5 r5 b5 z5; have HZ5 := Lib.hid z5; clear z5)
      have row5 := hrow.below' b5
      have out5 := hout.below' b5
      have bel5 := hbel.trans (b5.mono hbel.size)
      have hg1 := hrow.lt
      rw [zeros32, ← Sha.outp_zero s] at r5
      have hw5 : w.heap.size < wr.heap.size := hout.lt
      clear hrow hout hbel b5
      generalize wr.heap.size = G at *
      go_loopw [13] (fun u wx => ∃ i : Nat, i ≤ 32 ∧ u = .int .i64 i ∧ IsRow wx G 24 (bvs (Sha.outp s i)) ∧ IsRow wx w.heap.size 24 (bvs (Sha.outp s 0)) ∧ IsRow wx w1.heap.size 63 (wvs s.list) ∧ Below w.heap.size w wx)
        (fun u _ => 32 - (intOf u).toNat)
      case atStart => exact ⟨0, by omega, rfl, r5, out5, row5, bel5⟩
      case round =>
        clear r5 out5 row5 bel5
        obtain ⟨i, hi, rfl, r5, out5, row5, bel5⟩ := hrel
        by_cases hil : i < 32
        · obtain ⟨q, hq⟩ : ∃ q, i / 4 = q := ⟨_, rfl⟩
          obtain ⟨r, hrr⟩ : ∃ r, i % 4 = r := ⟨_, rfl⟩
          obtain ⟨J, hJ⟩ : ∃ J, J = 24 - 8 * r := ⟨_, rfl⟩
          have hset0 := Sha.outp_set s hil
          rw [hq, hrr] at hset0
          have c1 : wr.cell? ⟨w1.heap.size, q, none⟩ = some (.int .u32 (U.uv (s.list.getD q 0))) := by rw [row5.cell, wvs_getD _ _ (by rw [Sha.list_len]; omega)]
          have c2 : wr.cell? ⟨G, i, none⟩ = some (.int .u8 (((Sha.outp s i).getD i 0).toNat : Int)) := by
            rw [r5.cell]
            simp [bvs, Sha.outp_len s hi, hil]
          have hb := U.byteOf (s.list.getD q 0) r J hJ
          have e1 : (i : Int) / 4 = (q : Int) := by omega
          have e2 : (i : Int) % 4 = (r : Int) := by omega
          have e3 : (24 : Int) - 8 * (r : Int) = (J : Int) := by omega
          have q8 : q < 8 := by omega
          have J24 : J ≤ 24 := by omega
          have r4 : r < 4 := by omega
          generalize s.list.getD q 0 = x at *
          have f1 := r5.frozen i
          have hset := r5.set i (.int .u8 ((Sha.byteOf x r).toNat : Int))
          rw [bvs_set, hset0] at hset
          clear hset0 hq hrr hJ
          go_wp2
          go_roundw
          case rel => exact ⟨i + 1, by omega, by go_num, hset, out5.setOther (p := ⟨G, i, none⟩) (by show G ≠ _; omega) _, row5.setOther (p := ⟨G, i, none⟩) (by show G ≠ _; omega) _, bel5.setCell (p := ⟨G, i, none⟩) (by show _ ≤ G; omega) _⟩
          case measure => simp [intOf]; omega
        · obtain rfl : i = 32 := by omega
          have hl0 : (Sha.outp s 0).length = 32 := Sha.outp_len s (by omega)
          have hl1 : (Sha.outb s).length = 32 := Sha.outb_len s
          rw [Sha.outp_end] at r5
          generalize Sha.outp s 0 = o0 at *
          generalize Sha.outb s = o1 at *
          have HL0 := Lib.hid hl0
          have HL1 := Lib.hid hl1
          have HB := Lib.hid bel5
          clear hl0 hl1 hi hil bel5
          go_wp2_with (first
            | (refine wpList_loadRow rfl _ (.tmp 12) rfl r5 rfl Tryd.underlying24 (by rw [bvs_len, HL1.out]; exact size32) ?_)
            | (refine wpList_storeRow rfl _ (.tmp 2) (.tmp 147) rfl out5 rfl rfl (by rw [bvs_len, HL1.out]; exact size32) (by rw [bvs_len, bvs_len, HL1.out, HL0.out]) (bvs_all _) ?_; intro w9 r9 g9 z9))
          exact bodyPost_ret (resultRow rfl _ _ r9 rfl Tryd.underlying24 (by rw [bvs_len, HL1.out]; exact size32)) rfl ⟨by rw [HS.out], HB.out.grown g9 HB.out.size (by intro k hk; have hk := Option.some.inj hk; omega)⟩
end
/-! SHA-256 by the program: a walk of digest's Sum. -/
section
open Go.RowKit Go.Shelf
attribute [local go_sem] Oper.semAt_some
theorem compress_row (s : Sha.St) (A : Option Addr) (c : Nat) (b : List UInt8) (hb : b.length = 64) (B : Nat) (w : World) (hr : Rd w B 1 A 64 (bvs b)) (hB : B ≤ w.heap.size) (hc : 64 ≤ c) (hcm : c ≤ maxLen) (hK : HasRow w 2 (wvs Sha.K)) :
    Calls Tryd.prog 32 #[.agg (wvs s.list).toArray, .slice A 64 c] w fun e w' => e = .returned (.agg (wvs (Sha.comp s b).list).toArray) ∧ Below w.heap.size w w' := by
  have h1 : (wvs s.list).toArray = stv s := rfl
  generalize hz : Sha.comp s b = z
  have h2 : (wvs z.list).toArray = stv z := rfl
  rw [h1, h2, ← hz]
  exact compress_any s A c b hb B w hr hB hc hcm hK
theorem keepsO_below {W W' : World} (h : Below W.heap.size W W') : KeepsOthers W W' := ⟨h.size, fun k o hk _ => (h.block k (Array.getElem?_eq_some_iff.1 hk).1).trans hk⟩
theorem rd_chunk {W : World} {B : Nat} {ad : Addr} {N : Nat} {m : List UInt8} (hr : Rd W B 1 (some ad) N (bvs m)) {k : Nat} (hk : 64 * k + 64 ≤ N) : Rd W B 1 (some (ad.add (64 * k))) 64 (bvs (Sha.blk m k)) := by
  have h := (hr.cut (k := 64 * k) (cap := N) (by omega) (Nat.le_refl _)).take (k := 64) (by omega)
  rw [if_neg (by omega)] at h
  simpa [Sha.blk, bvs, List.map_take, List.map_drop] using h
/-- the state behind some blocks -/
def blks {M : Nat} (m : List UInt8) (pre : List (Fin M)) : Sha.St := pre.foldl (fun s k => Sha.comp s (Sha.blk m k.val)) Sha.start
theorem blks_snoc {M : Nat} (m : List UInt8) (pre : List (Fin M)) (x : Fin M) : blks m (pre ++ [x]) = Sha.comp (blks m pre) (Sha.blk m x.val) := by simp [blks]
theorem run_range (m : List UInt8) (M : Nat) : (List.range M).foldl (fun s k => Sha.comp s (Sha.blk m k)) Sha.start = Sha.run m M := by
  induction M with
  | zero => rfl
  | succ M ih => rw [List.range_succ, List.foldl_append, ih]; rfl
theorem blks_all (m : List UInt8) (M : Nat) : blks m (List.finRange M) = Sha.run m M := by
  have e : (List.finRange M).map (fun k => k.val) = List.range M := by
    apply List.ext_getElem
    · simp
    · intro i h1 h2; simp
  rw [← run_range, ← e, List.foldl_map]; rfl
/-- what holds between two rounds of the range over the chunks -/
structure SumSt (w W0 : World) (m : List UInt8) (N : Nat) (A4 : Option Addr) (bs : Nat) (s : Sha.St) (W : World) : Prop where
  row : IsRow W bs 63 (wvs s.list)
  out : IsRow W w.heap.size 24 (List.replicate 32 (Value.int .u8 0))
  rd : Rd W W0.heap.size 1 A4 N (bvs m)
  below : Below w.heap.size w W
  size : W0.heap.size ≤ W.heap.size
theorem sumSt_own {β : Type} (f : β → Sha.St) (w W0 : World) (m : List UInt8) (N : Nat) (A4 : Option Addr) (bs : Nat) (h1 : bs < W0.heap.size) (h2 : w.heap.size < W0.heap.size) : OwnFrom W0.heap.size (fun (pre : β) W => SumSt w W0 m N A4 bs (f pre) W) := by
  intro s W W' row h hg hr
  refine ⟨h.row.grown hg (fun e => by have := (hr _ e).1; omega), h.out.grown hg (fun e => by have := (hr _ e).1; omega), h.rd.grown hg h.size (fun g e => (hr g e).1), h.below.grown hg h.below.size (fun k e => by have := (hr _ e).1; omega), Nat.le_trans h.size hg.size⟩
theorem chunk_in (F : Fence) (n : Nat) (h5 : F.fn 31) (hro : F.round = none) (A : Option Addr) (N c : Nat) (w : World) :
    CallsIn F n Tryd.prog 31 #[.slice A N c, .int .i64 64] w fun e w' => e = .returned (.func (.func 54) #[] #[.pointer (some ⟨w.heap.size, 0, none⟩), .pointer (some ⟨w.heap.size + 1, 0, none⟩)]) ∧
      w' = (w.alloc (.cells #[.slice A N c] 22)).alloc (.cells #[.int .i64 64] 3) := by
  refine callsIn_of_wp Tryd.func31 rfl h5 ?_ hro
  simp only [Tryd.ntmps31, List.size_toArray, List.length_cons, List.length_nil, Nat.reduceAdd, Nat.reduceSub, Array.replicate_succ, Array.replicate_zero, List.push_toArray, List.append_toArray, List.nil_append, List.cons_append]
  gi_wp2
  go_ret
  exact ⟨rfl, rfl⟩
set_option maxRecDepth 100000 in
set_option maxHeartbeats 4000000 in
theorem sum_any (A : Option Addr) (n c : Nat) (l : List UInt8) (hl : l.length = n) (hn : n ≤ 1099511627776) (B : Nat) (w : World) (hr : Rd w B 1 A n (bvs l)) (hB : B ≤ w.heap.size) (hK : HasRow w 2 (wvs Sha.K)) (hS : HasRow w 0 (wvs Sha.start.list)) :
    Calls Tryd.prog 11 #[.slice A n c] w fun e w' => e = .returned (.agg (bvs (Sha.sum l)).toArray) ∧ Below w.heap.size w w' := by
  obtain ⟨N, hN⟩ : ∃ N, (Sha.pad l).length = N := ⟨_, rfl⟩
  have hz := Sha.zeros_lt n
  have hNb : N ≤ n + 80 := by rw [← hN, Sha.pad_len, hl]; omega
  have hN9 : 9 ≤ N := by rw [← hN, Sha.pad_len]; omega
  have hN64 : N % 64 = 0 := by rw [← hN]; exact Sha.pad_64 l
  have hKl := hK.lt
  have hSl := hS.lt
  have HN64 := Lib.hid hN64
  have HN := Lib.hid hN
  have HL := Lib.hid hl
  clear hN64 hN hl
  refine (callsIn_wide (n := 6)).1 ?_
  refine callsIn_of_wp_marks Tryd.func11 rfl trivial ?_ rfl
  simp only [Tryd.ntmps11, List.size_toArray, List.length_cons, List.length_nil, Nat.reduceAdd, Nat.reduceSub, Array.replicate_succ, Array.replicate_zero, List.push_toArray, List.append_toArray, List.nil_append, List.cons_append]
  gi_wp2_with (first
    | (refine wpListIn_allocRow rfl _ rfl _ info32 ?_; intro w1 r1 b1 z1; have HZ1 := Lib.hid z1; clear z1)
    | (refine ⟨trivial, ?_⟩; gi_at_call 30; refine (callsIn_wide.2 (clone_any A n c l HL.out hn B w1 (hr.below (b1.mono hB)) (Nat.le_trans hB b1.size))).mono ?_; rintro e w2 ⟨A2, c2, rfl, own2, b2⟩)
    | (gi_at_builtin; refine wpListIn_app rfl (.tmp 11) (.tmp 12) 22 rfl w1.heap.size 5 _ 1 1 bytesE A2 n c2 (bvs l) (some ⟨w2.heap.size, 0, none⟩) 1 1 (bvs [128]) rfl rfl (own2.alloc _) (Rd.one w2 _ _) (bvs_one _) (b2.alloc b2.size _) (by omega) (Nat.le_refl _) (by have := b2.size; simp; omega) ?_; intro A3 c3 w3 own3 b3))
  have own3' : w3.ownsRow w1.heap.size 5 1 (.slice A3 (n + 1 + 0) c3) (n + 1 + 0) (bvs (l ++ [128] ++ List.replicate 0 0)) := by simpa using own3
  have hB1 := b1.size
  gi_loopw [3] (fun v wr => ∃ (k : Nat) (A' : Option Addr) (c' : Nat), k ≤ Sha.zeros n ∧ v = .slice A' (n + 1 + k) c' ∧ wr.ownsRow w1.heap.size 5 1 (.slice A' (n + 1 + k) c') (n + 1 + k) (bvs (l ++ [128] ++ List.replicate k 0)) ∧ Below w1.heap.size w1 wr)
    (fun v _ => n + 1 + Sha.zeros n - slen v)
  case atStart => exact ⟨0, _, c3, by omega, rfl, own3', b3⟩
  case round =>
    clear own2 own3 own3' b2 b3
    obtain ⟨k, A7, c7, hk, rfl, own3, hb3⟩ := hrel
    by_cases hlt : k < Sha.zeros n
    · have hm := Sha.zeros_more hlt
      have hm' : (((n : Int) + 1 + (k : Int)) % 64 != 56) = true := by rw [bne_iff_ne]; omega
      have hm'' : ((((n + 1 + k : Nat) : Int)) % 64 != 56) = true := by rw [bne_iff_ne]; omega
      have hm3 : ¬ (((n + 1 + k : Nat) : Int) % 64 = 56) := by omega
      clear hm
      gi_wp2_with (gi_at_builtin; refine wpListIn_app rfl (.tmp 18) (.tmp 19) 22 rfl w1.heap.size 5 _ 1 1 bytesE A7 (n + 1 + k) c7 _ (some ⟨wr.heap.size, 0, none⟩) 1 1 (bvs [0]) rfl rfl (own3.alloc _) (Rd.one wr _ _) (bvs_one _) (hb3.alloc hb3.size _) (by omega) (Nat.le_refl _) (by have := hb3.size; simp; omega) ?_; intro A4 c4 w4 own4 hb4)
      have eapp : bvs (l ++ [128] ++ List.replicate k 0) ++ bvs [0] = bvs (l ++ [128] ++ List.replicate (k + 1) 0) := by rw [List.replicate_succ', ← List.append_assoc, bvs_append _ [0]]
      rw [eapp] at own4
      clear eapp
      go_roundw
      case rel => exact ⟨k + 1, _, c4, by omega, rfl, own4, hb4⟩
      case measure => simp [slen]; omega
    · obtain rfl : k = Sha.zeros n := by omega
      have hm := Sha.zeros_end n
      have hm' : ((((n + 1 + Sha.zeros n : Nat) : Int)) % 64 != 56) = false := by rw [bne_eq_false_iff_eq]; omega
      clear hm hlt hk
      generalize hZ : Sha.zeros n = z at *
      have hm2 : (((n : Int) + 1 + (z : Int)) % 64 != 56) = false := by
        have e : ((n : Int) + 1 + (z : Int)) = (((n + 1 + z : Nat) : Int)) := by push_cast; rfl
        rw [e]; exact hm'
      have HZ := Lib.hid hZ
      clear hZ
      gi_wp2
      have own3' : wr.ownsRow w1.heap.size 5 1 (.slice A7 (n + 1 + z + 0) c7) (n + 1 + z + 0) (bvs (l ++ [128] ++ List.replicate z 0 ++ (Sha.be8 (8 * n)).take 0)) := by simpa using own3
      gi_loopw [3, 25] (fun v u wr => ∃ (i : Nat) (A' : Option Addr) (c' : Nat), i ≤ 8 ∧ u = .int .i64 i ∧ v = .slice A' (n + 1 + z + i) c' ∧ wr.ownsRow w1.heap.size 5 1 (.slice A' (n + 1 + z + i) c') (n + 1 + z + i) (bvs (l ++ [128] ++ List.replicate z 0 ++ (Sha.be8 (8 * n)).take i)) ∧ Below w1.heap.size w1 wr)
        (fun _ u _ => 8 - (intOf u).toNat)
      case atStart => exact ⟨0, A7, c7, by omega, rfl, rfl, own3', hb3⟩
      case round =>
        clear own3 own3' hb3 hm' hm2
        obtain ⟨i, A4, c4, hi, rfl, rfl, own4, hb4⟩ := hrel
        by_cases hlt : i < 8
        · have ht := Sha.be8_take (n := 8 * n) hlt
          obtain ⟨J, hJ⟩ : ∃ J, 56 - 8 * i = J := ⟨_, rfl⟩
          rw [hJ] at ht
          have hb := byte_of (8 * n) J
          have hj : (56 : Int) - 8 * (i : Int) = (J : Int) := by omega
          have hJ2 : J ≤ 56 := by omega
          rw [show (((8 * n : Nat)) : Int) = (n : Int) * 8 from by push_cast; exact Int.mul_comm _ _] at hb
          have HT := Lib.hid ht
          clear ht hJ
          generalize UInt8.ofNat (8 * n / 2 ^ J) = y at *
          gi_wp2_with (gi_at_builtin; refine wpListIn_app rfl (.tmp 28) (.tmp 35) 22 rfl w1.heap.size 5 _ 1 1 bytesE A4 (n + 1 + z + i) c4 _ (some ⟨wr.heap.size, 0, none⟩) 1 1 (bvs [y]) rfl rfl (own4.alloc _) (Rd.one wr _ _) (bvs_one _) (hb4.alloc hb4.size _) (by omega) (Nat.le_refl _) (by have := hb4.size; simp; omega) ?_; intro A5 c5 w5 own5 hb5)
          have eapp : bvs (l ++ [128] ++ List.replicate z 0 ++ List.take i (Sha.be8 (8 * n))) ++ bvs [y] = bvs (l ++ [128] ++ List.replicate z 0 ++ List.take (i + 1) (Sha.be8 (8 * n))) := by rw [HT.out, ← List.append_assoc, bvs_append _ [y]]
          rw [eapp] at own5
          clear eapp
          go_roundw
          case rel => exact ⟨i + 1, _, c5, by omega, by go_num, rfl, own5, hb5⟩
          case measure => simp [intOf]; omega
        · obtain rfl : i = 8 := by omega
          have hp : l ++ [128] ++ List.replicate z 0 ++ (Sha.be8 (8 * n)).take 8 = Sha.pad l := by rw [← HZ.out, ← HL.out]; rfl
          have hNN : n + 1 + z + 8 = N := by rw [← HN.out, ← HZ.out, ← HL.out, Sha.pad_len]
          rw [hp, hNN] at own4
          have HP := Lib.hid hNN
          clear hp hNN
          gi_wp2_with (first
            | (refine wpListIn_loadVar rfl _ (.global 0) rfl (hS.below (b1.trans (hb4.mono hB1)) hSl) rfl Tryd.underlying63 size8 ?_)
            | (refine wpListIn_allocRow rfl _ rfl _ info8 ?_; intro w5 r5 b5 z5; have HZ5 := Lib.hid z5; clear z5)
            | (refine wpListIn_storeRow rfl _ (.tmp 6) (.tmp 38) rfl r5 rfl rfl size8 rfl (wvs_one _) ?_; intro w6 r6 g6 z6 k6; have HZ6 := Lib.hid z6; clear z6))
          have z5 := HZ5.out
          have z6 := HZ6.out
          refine ⟨trivial, ?_⟩
          gi_at_call 31
          rw [HP.out]
          refine (chunk_in Fence.wide _ trivial rfl A4 N c4 w6).mono ?_
          rintro e w' ⟨rfl, rfl⟩
          gi_wp2
          have hN64 := HN64.out
          obtain ⟨M, hM⟩ : ∃ M, N = 64 * M := ⟨N / 64, by omega⟩
          have hM1 : 1 ≤ M := by omega
          obtain ⟨bm, om, eA, hbm, _⟩ := (Rd.of_own own4).2 (by rw [hM]; omega)
          have hA4lt := own_block_lt own4 ⟨bm, om, none⟩ eA
          subst eA
          obtain ⟨ad, had⟩ : ∃ ad : Addr, ad = ⟨bm, om, none⟩ := ⟨_, rfl⟩
          have hadb : ad.block = bm := by rw [had]
          rw [← had] at own4 ⊢
          have hcap := own_cap own4
          have HM := Lib.hid hM
          have HAD := Lib.hid had
          clear hM had hN64
          have hb6 : Below w1.heap.size w1 w6 := (hb4.trans (b5.mono hb4.size)).grown g6 (by have := hb4.size; omega) (by intro k hk; have hk := Option.some.inj hk; have := hb4.size; omega)
          have rd6 : Rd w6 wr.heap.size 1 (some ad) N (bvs (Sha.pad l)) := ((Rd.of_own own4).below b5).grown g6 (by omega) (by intro k hk; have hk := Option.some.inj hk; omega)
          have hwr := hb4.size
          obtain ⟨W0, hW0⟩ : ∃ W0, W0 = (w6.alloc (.cells #[.slice (some ad) N c4] 22)).alloc (.cells #[.int .i64 64] 3) := ⟨_, rfl⟩
          have hb0 : Below w6.heap.size w6 W0 := by rw [hW0]; exact ((Below.refl _ _).alloc (Nat.le_refl _) _).alloc (by simp) _
          have hsz0 : W0.heap.size = wr.heap.size + 3 := by rw [hW0]; simp; omega
          have hbx1 : W0.cell? ⟨wr.heap.size + 1, 0, none⟩ = some (.slice (some ad) N c4) := by
            rw [hW0, ← z5, ← z6]
            exact ((Boxed.new w6 22 (.slice (some ad) N c4)).alloc _).cell
          have hbx2 : W0.cell? ⟨wr.heap.size + 2, 0, none⟩ = some (.int .i64 64) := by
            have e : wr.heap.size + 2 = w6.heap.size + 1 := by omega
            have b := Boxed.new (w6.alloc (.cells #[.slice (some ad) N c4] 22)) 3 (.int .i64 64)
            rw [World.size_alloc] at b
            rw [hW0, e]
            exact b.cell
          rw [← hW0]
          have S0 : SumSt w W0 (Sha.pad l) N (some ad) wr.heap.size Sha.start W0 := ⟨r6.below' hb0, ((r1.below hb6 (by have := r1.lt; exact this)).below' hb0), (rd6.below (hb0.mono (by omega))).more (by omega), (b1.trans (hb6.mono hB1)).trans (hb0.mono (by have := hb6.size; omega)), Nat.le_refl _⟩
          have HZ0 := Lib.hid hsz0
          have HW0 := Lib.hid hW0
          have hwW : w.heap.size < W0.heap.size := by omega
          have hbsW : wr.heap.size < W0.heap.size := by omega
          have hbs2 : wr.heap.size + 2 < W0.heap.size := by omega
          have hwwr : w.heap.size < wr.heap.size := by have := HZ1.out; omega
          clear hsz0 hW0 own4 hb4 b5 r5 r6 g6 k6 hb6 rd6 z5 z6
          refine wpIn_rangeFunc_ownG rfl (show 1 ≤ 6 by omega) (gf := 54) (lb := #[.pointer (some ⟨wr.heap.size + 1, 0, none⟩), .pointer (some ⟨wr.heap.size + 2, 0, none⟩)]) rfl trivial (enters_of Tryd.func54 (by kernel_rfl) rfl)
            (chunk_stops Fence.wide (6 - 1) trivial rfl (by omega) (wr.heap.size + 1) (wr.heap.size + 2) w.heap.size ad N c4 M HM.out hcap.1 hcap.2 W0 (by omega) (by omega) hbx1 hbx2) keepsTwo_t (keepsTwo_b (by omega) (by omega) (by omega)) (Below.refl _ _) ?hps
            (fun pre W => SumSt w W0 (Sha.pad l) N (some ad) wr.heap.size (blks (Sha.pad l) pre) W)
            (fun _ _ _ => False)
            (sumSt_own _ w W0 _ N _ _ hbsW hwW)
            (fun _ _ _ _ _ hs _ _ => hs)
            S0
            (fun x => { tmps := #[.slice A n c, undef, .pointer (some ⟨w.heap.size, 0, none⟩), .slice (some ad) N c4, .int .u64 ((n : Int) * 8), u5, .pointer (some ⟨wr.heap.size, 0, none⟩), .slice (some (ad.add (64 * x.val))) 64 64, undef, undef, .slice A n c, .slice A2 n c2, .slice (some ⟨w2.heap.size, 0, none⟩) 1 1, .slice A3 (n + 1) c3, .slice A7 (n + 1 + z) c7, .int .i64 ((n : Int) + 1 + z), .int .i64 (((n : Int) + 1 + z) % 64), .bool false, u18, u19, u20, .slice A n c, .int .i64 n, .int .u64 n, .int .u64 ((n : Int) * 8), .int .i64 8, .bool false, u27, u28, u29, u30, u31, u32, u33, u34, u35, u36, u37, .agg (wvs Sha.start.list).toArray, .slice (some ad) N c4, .func (.func 54) #[] #[.pointer (some ⟨wr.heap.size + 1, 0, none⟩), .pointer (some ⟨wr.heap.size + 2, 0, none⟩)], .slice (some (ad.add (64 * x.val))) 64 64, undef, undef, undef, undef, undef, undef, undef, undef, undef, undef, undef, undef, undef, undef, undef, undef, undef, undef, undef, undef], defers := [] }) ?assign ?body ?done ?stop
          case hps => intro x; rfl
          case assign =>
            intro l x W K hK
            gi_wp2
            exact hK
          case body =>
            rintro lr pre x W S hlt
            have hx := x.isLt
            have hk : 64 * x.val + 64 ≤ N := by rw [HM.out]; omega
            have hrow := S.row
            have hrd := rd_chunk S.rd hk
            have hKW := hK.below S.below hKl
            have hsn := blks_snoc (Sha.pad l) pre x
            have hbl := blk_len HN.out hk
            have hcap64 : 64 ≤ maxLen := by unfold maxLen; omega
            have hcomp := compress_row (blks (Sha.pad l) pre) (some (ad.add (64 * x.val))) 64 (Sha.blk (Sha.pad l) x.val) hbl _ W hrd S.size (Nat.le_refl _) hcap64 hKW
            have HC := Lib.hid hcomp
            clear hcomp hcap64
            have HSN := Lib.hid hsn
            clear hsn hbl hrd hKW
            gi_wp2_with (first
              | (refine wpListIn_loadRow rfl _ (.tmp 6) rfl hrow rfl Tryd.underlying63 (by rw [wvs_len, Sha.list_len]; exact size8) ?_)
              | (refine ⟨trivial, ?_⟩; gi_at_call 32; refine (CallsIn.inRound lr (callsIn_wide.2 HC.out)).mono ?_; rintro e W1 ⟨rfl, bW⟩; have row1 := hrow.below' bW)
              | (refine wpListIn_storeRow rfl _ (.tmp 6) (.tmp 44) rfl row1 rfl rfl (by rw [wvs_len, Sha.list_len]; exact size8) (by rw [wvs_len, wvs_len, Sha.list_len, Sha.list_len]) (wvs_one _) ?_; intro W2 r2 g2 z2 k2))
            have hbl1 : wr.heap.size + 1 < W.heap.size := by have := S.size; omega
            have hbl2 : wr.heap.size + 2 < W.heap.size := by have := S.size; omega
            have hbW2 : Below w.heap.size W W2 := (bW.mono S.below.size).grown g2 (by have := bW.size; have := S.below.size; omega) (by intro k hk; have hk := Option.some.inj hk; omega)
            have e1 : W2.heap[wr.heap.size + 1]? = W.heap[wr.heap.size + 1]? := (g2.block _ (by have := bW.size; omega) (by intro h; have h := Option.some.inj h; omega)).trans (bW.block _ hbl1)
            have e2 : W2.heap[wr.heap.size + 2]? = W.heap[wr.heap.size + 2]? := (g2.block _ (by have := bW.size; omega) (by intro h; have h := Option.some.inj h; omega)).trans (bW.block _ hbl2)
            have hrd2 : Rd W2 W0.heap.size 1 (some ad) N (bvs (Sha.pad l)) := (S.rd.below (bW.mono S.size)).grown_far g2 (by have := bW.size; have := S.size; omega) (fun a ha h => by
              have h1 := Option.some.inj ha
              have h2 := Option.some.inj h
              rw [← h1, hadb] at h2
              omega)
            refine ⟨((keepsO_below bW).trans k2).from _, ⟨hbW2, e1, e2⟩, ?_⟩
            show SumSt w W0 (Sha.pad l) N (some ad) wr.heap.size (blks (Sha.pad l) (pre ++ [x])) W2
            rw [HSN.out]
            exact ⟨r2, (S.out.below' bW).grown g2 (by intro h; have h := Option.some.inj h; omega), hrd2, S.below.trans hbW2, by have := bW.size; have := S.size; omega⟩
          case done =>
            rintro D ys W hD rfl S hKD
            rw [blks_all] at S
            have hrow := S.row
            have hout := S.out
            have hbel := S.below
            have hsum : Sha.sum l = Sha.outb (Sha.run (Sha.pad l) M) := by unfold Sha.sum; rw [HN.out, HM.out]; congr 2; omega
            have HS := Lib.hid hsum
            have hszW := S.size
            have hDW : D < W.heap.size := (Array.getElem?_eq_some_iff.1 hKD).1
            have HKD := Lib.hid hKD
            clear S hsum hKD
            generalize Sha.run (Sha.pad l) M = s at *
            rw [zeros32, ← Sha.outp_zero s] at hout
            gi_wp2_with (refine wpListIn_allocRow rfl _ rfl _ info32 ?_; intro W3 r3 b3 z3; have HZ3 := Lib.hid z3; clear z3)
            rw [zeros32, ← Sha.outp_zero s] at r3
            have row3 := hrow.below' b3
            have out3 := hout.below' b3
            have bel3 := hbel.trans (b3.mono hbel.size)
            have HKD3 := Lib.hid ((b3.block D hDW).trans HKD.out)
            have hDw : w.heap.size < D := by omega
            have hwG : w.heap.size < W.heap.size := by omega
            have hbG : wr.heap.size < W.heap.size := by omega
            clear hrow hout hbel b3
            generalize W.heap.size = G at *
            obtain ⟨bs, hbs⟩ : ∃ bs, bs = wr.heap.size := ⟨_, rfl⟩
            rw [← hbs] at row3 hbG ⊢
            clear hbs
            gi_loopw [45] (fun u wx => ∃ i : Nat, i ≤ 32 ∧ u = .int .i64 i ∧ IsRow wx G 24 (bvs (Sha.outp s i)) ∧ IsRow wx w.heap.size 24 (bvs (Sha.outp s 0)) ∧ IsRow wx bs 63 (wvs s.list) ∧ Below w.heap.size w wx ∧ Hid (wx.heap[D]? = some (.deferred (some []))))
              (fun u _ => 32 - (intOf u).toNat)
            case atStart => exact ⟨0, by omega, rfl, r3, out3, row3, bel3, HKD3⟩
            case round =>
              clear r3 out3 row3 bel3 HKD3
              obtain ⟨i, hi, rfl, r5, out5, row5, bel5, HKD5⟩ := hrel
              by_cases hil : i < 32
              · obtain ⟨q, hq⟩ : ∃ q, i / 4 = q := ⟨_, rfl⟩
                obtain ⟨r, hrr⟩ : ∃ r, i % 4 = r := ⟨_, rfl⟩
                obtain ⟨J, hJ⟩ : ∃ J, J = 24 - 8 * r := ⟨_, rfl⟩
                have hq8 : q < 8 := by omega
                have hset0 := Sha.outp_set s hil
                rw [hq, hrr] at hset0
                have c1 : wr.cell? ⟨bs, q, none⟩ = some (.int .u32 (U.uv (s.list.getD q 0))) := by rw [row5.cell, wvs_getD _ _ (by rw [Sha.list_len]; omega)]
                have c2 : wr.cell? ⟨G, i, none⟩ = some (.int .u8 (((Sha.outp s i).getD i 0).toNat : Int)) := by
                  rw [r5.cell]
                  simp [bvs, Sha.outp_len s hi, hil]
                have hb := U.byteOf (s.list.getD q 0) r J hJ
                have e1 : (i : Int) / 4 = (q : Int) := by omega
                have e2 : (i : Int) % 4 = (r : Int) := by omega
                have e3 : (24 : Int) - 8 * (r : Int) = (J : Int) := by omega
                have J24 : J ≤ 24 := by omega
                have r4 : r < 4 := by omega
                generalize s.list.getD q 0 = x at *
                have f1 := r5.frozen i
                have hset := r5.set i (.int .u8 ((Sha.byteOf x r).toNat : Int))
                rw [bvs_set, hset0] at hset
                clear hset0 hq hrr hJ
                gi_wp2
                go_roundw
                case rel => exact ⟨i + 1, by omega, by go_num, hset, out5.setOther (p := ⟨G, i, none⟩) (by show G ≠ _; omega) _, row5.setOther (p := ⟨G, i, none⟩) (by show G ≠ _; omega) _, bel5.setCell (p := ⟨G, i, none⟩) (by show _ ≤ G; omega) _, (Below.heap_setCell _ _ _ _ (by show D ≠ G; omega)).trans HKD5.out⟩
                case measure => simp [intOf]; omega
              · obtain rfl : i = 32 := by omega
                have hl0 : (Sha.outp s 0).length = 32 := Sha.outp_len s (by omega)
                have hl1 : (Sha.outb s).length = 32 := Sha.outb_len s
                rw [Sha.outp_end] at r5
                generalize Sha.outp s 0 = o0 at *
                generalize Sha.outb s = o1 at *
                have HL0 := Lib.hid hl0
                have HL1 := Lib.hid hl1
                have HB := Lib.hid bel5
                clear hl0 hl1 hi hil bel5
                gi_wp2_with (first
                  | (refine wpListIn_loadRow rfl _ (.tmp 8) rfl r5 rfl Tryd.underlying24 (by rw [bvs_len, HL1.out]; exact size32) ?_)
                  | (refine wpListIn_storeRow rfl _ (.tmp 2) (.tmp 61) rfl out5 rfl rfl (by rw [bvs_len, HL1.out]; exact size32) (by rw [bvs_len, bvs_len, HL1.out, HL0.out]) (bvs_all _) ?_; intro w9 r9 g9 z9 k9))
                have hKD9 : w9.heap[D]? = some (.deferred (some [])) := (g9.block D (Array.getElem?_eq_some_iff.1 HKD5.out).1 (by intro h; have h := Option.some.inj h; omega)).trans HKD5.out
                refine ⟨by simp, .inl ⟨_, _, rfl, run_takeDeferred hKD9, ?_⟩⟩
                have r10 := r9.grown (grownBy_putObj' w9 D (.deferred none)) (by intro h; have h := Option.some.inj h; omega)
                exact ⟨_, resultRow rfl _ _ r10 rfl Tryd.underlying24 (by rw [bvs_len, HL1.out]; exact size32), by rw [HS.out], (HB.out.grown g9 HB.out.size (by intro k hk; have hk := Option.some.inj hk; omega)).grown (grownBy_putObj' w9 D (.deferred none)) (by have := HB.out.size; omega) (by intro k hk; have hk := Option.some.inj hk; omega)⟩
          case stop =>
            rintro D c pre W _ _ h _
            exact h.elim
end
end Go.Proofs.YtfnbcchmembomaaDoor
