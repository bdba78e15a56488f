/- The examples that every law of layer 22 plays first. No condition. -/
import Derived.Test.YtcicfneekmbamaaChkOps
namespace Go.Proofs.Ytcicfneekmbamaa
set_option linter.unusedVariables false
set_option linter.unusedSimpArgs false
open Go.RowKit
namespace Chk
def sU : Un := ⟨2, 1, 3⟩
def sC (u : Un) (b : Bool) (rs : List Rf) : List Ck := [⟨1, dig 9, 7, u, b, rs⟩]
theorem s_add : add [] (dig 9) 7 sU 1 = (sC sU false [⟨1, 1⟩], 1, 0) := rfl
theorem s_add2 : add (sC sU false [⟨1, 1⟩]) (dig 8) 7 sU 1 = (sC sU false [⟨1, 1⟩], 0, 20) := rfl
theorem s_refer : refer (sC sU false [⟨1, 1⟩]) 1 0 2 = (sC sU false [⟨0, 2⟩, ⟨1, 1⟩], 0, 0) := by decide +kernel
theorem s_pos : pos (ids (sC sU false [⟨0, 2⟩, ⟨1, 1⟩])) 1 = some 0 := by decide +kernel
theorem s_live : live (sC sU false [⟨0, 2⟩, ⟨1, 1⟩]) 2 1 = [1] := by decide +kernel
theorem s_count : count (sC sU false [⟨0, 2⟩, ⟨1, 1⟩]) 0 = 2 := by decide +kernel
theorem s_lose : lose (sC sU false [⟨0, 2⟩, ⟨1, 1⟩]) 1 = (sC z true [⟨0, 2⟩, ⟨1, 1⟩], 0, 0) := by decide +kernel
theorem s_lost : lostIds (sC z true [⟨0, 2⟩, ⟨1, 1⟩]) (dig 9) = [1] := by decide +kernel
theorem s_un1 : unrefer (sC z true [⟨0, 2⟩, ⟨1, 1⟩]) 1 1 1 = (sC z true [⟨0, 2⟩], 0, 0) := by decide +kernel
theorem s_un2 : unrefer (sC z true [⟨0, 2⟩]) 1 0 2 = ([], 1, 0) := by decide +kernel
end Chk
def Chk.sK : Chk.Ck := ⟨1, Chk.dig 9, 7, Chk.sU, false, [⟨0, 2⟩, ⟨1, 1⟩]⟩
theorem TabG.getOkN {w0 w : World} {a : Nat} {l : List Chk.Ck} {G : Nat → Prop} (h : TabG w0 w a l G) (id : Int) (k : Nat) (c : Chk.Ck) (hp : Chk.pos (Chk.ids l) id = some k) (hc : Chk.nth l k = c) (N : Nat) (hN : c.refs.length = N) :
    Calls Try.prog 14 #[.pointer (some ⟨a, 0, none⟩), .int .i64 id] w fun e w' => ∃ A k, e = .returned (.tuple #[.agg (ckCells c (.slice A N k)).toArray, .bool true]) ∧ w'.ownsRow w.heap.size 83 2 (.slice A N k) N (rfs c.refs) ∧ Below w.heap.size w w' := by
  subst hN
  exact h.getOk id k c hp hc
theorem own_same {w w' : World} {base size n c : Nat} {A : Option Addr} {e : TypeId} {xs : List Value} {G : Nat → Prop} (h : w.ownsRow base e size (.slice A n c) n xs) (hs : SameG w w' G) (hG : ∀ p, A = some p → G p.block) : w'.ownsRow base e size (.slice A n c) n xs := by
  refine ⟨h.1, ?_⟩
  rcases h.2 with h0 | ⟨g, cap, cur, hv, hg, hh, r⟩
  · exact .inl h0
  · injection hv with h1
    exact .inr ⟨g, cap, cur, by rw [h1]; congr 1, hg, (hs g (hG ⟨g, 0, none⟩ h1)).trans hh, r⟩
theorem y_build5 {P : Program} {ops : Array Oper} {S : World → Prop} {o : Oper} {a : Act} (hw : Region.wanted o (yielded ops a.tmps) = true) (t : TypeId) (i j k q m : Nat) (x y z r s' : Operand) (ho : o.op = .build t #[(i, x), (j, y), (k, z), (q, r), (m, s')]) (u v s p f : Value) (hx : a.eval x = u) (hy : a.eval y = v) (hz : a.eval z = s) (hq : a.eval r = p) (hm : a.eval s' = f) (cells : Array Value)
    (hf : P.built t [(i, u), (j, v), (k, s), (q, p), (m, f)] = some cells) : YieldsIf P ops S o (.agg cells) a := by
  subst hx hy hz hq hm
  refine .inl ⟨hw, fun W _ => ?_⟩
  have hr := run_build (P := P) W t #[(i, a.eval x), (j, a.eval y), (k, a.eval z), (q, a.eval r), (m, a.eval s')] cells hf
  unfold execOp
  simp only [ho, List.map_toArray, List.map_cons, List.map_nil, Sem.run_bind, Sem.run_pure, Result.andThen_ok, hr]
theorem run_buildR2 (w : World) (a b c d : Int) : (Instr.buildSlice 43 2 #[(0, .agg #[.int .i64 a, .int .i64 b]), (1, .agg #[.int .i64 c, .int .i64 d])]).run Try.prog w = .ok (.slice (some ⟨w.heap.size, 0, none⟩) 2 2) (w.alloc (.cells #[.int .i64 a, .int .i64 b, .int .i64 c, .int .i64 d] 83)) := by kernel_rfl
theorem wp_buildR2 {o : Oper} {ac : Act} {w : World} {K : Act → World → Prop} {Q : Exit → Act → World → Prop} (x y : Operand) (ho : o.op = .buildSlice 43 2 #[(0, x), (1, y)]) (a b c d : Int) (hx : ac.eval x = .agg #[.int .i64 a, .int .i64 b]) (hy : ac.eval y = .agg #[.int .i64 c, .int .i64 d])
    (h : K (ac.put o.dst (.slice (some ⟨w.heap.size, 0, none⟩) 2 2)) (w.alloc (.cells #[.int .i64 a, .int .i64 b, .int .i64 c, .int .i64 d] 83))) : o.wp Try.prog ac w K Q := by
  unfold Oper.wp execOp
  simp only [ho, List.map_toArray, List.map_cons, List.map_nil, hx, hy, Sem.run_bind, Sem.run_pure, run_buildR2 w, Result.andThen_ok]
  exact h
theorem wp_allocRowC {P : Program} {w : World} {o : Oper} {a : Act} {K : Act → World → Prop} {Q : Exit → Act → World → Prop} (ty : TypeId) (ho : o.op = .alloc ty) (zs : List Value) (hz : (P.info? ty).map (fun i => (i.zero, i.size)) = some (some (.agg zs.toArray), zs.length))
    (h : K (a.put o.dst (.pointer (some ⟨w.heap.size, 0, none⟩))) (w.alloc (.cells zs.toArray ty))) : o.wp P a w K Q := by
  have hz1 := (zero_of_info (P := P) hz).1
  have hn : Sem.run P (newVar ty (.agg zs.toArray)) w = .ok ⟨w.heap.size, 0, none⟩ (w.alloc (.cells zs.toArray ty)) := by
    simp [newVar, Value.cells, go_sem]
  unfold Oper.wp execOp
  simp only [ho, Instr.alloc, Sem.run_bind, Sem.run_pure, Result.andThen_ok, hz1, hn]
  exact h
set_option maxRecDepth 100000 in
set_option maxHeartbeats 8000000 in
theorem sanity_any (w : World) : Calls Try.prog 12 #[] w fun e w' => e = .returned (.bool true) ∧ Below w.heap.size w w' := by
  obtain ⟨D9, hD9⟩ : ∃ D, bvs (Chk.dig 9) = D := ⟨_, rfl⟩
  obtain ⟨D8, hD8⟩ : ∃ D, bvs (Chk.dig 8) = D := ⟨_, rfl⟩
  have HD9 := Lib.hid (fun W => show Calls Try.prog 23 #[.int .u8 9] W fun e w' => e = .returned (.agg D9.toArray) ∧ Below W.heap.size W w' from by rw [← hD9]; exact digest_any 9 W)
  have HD8 := Lib.hid (fun W => show Calls Try.prog 23 #[.int .u8 8] W fun e w' => e = .returned (.agg D8.toArray) ∧ Below W.heap.size W w' from by rw [← hD8]; exact digest_any 8 W)
  have HA1 := Lib.hid (fun (W : World) (a : Nat) (G : Nat → Prop) (h : TabG w W a [] G) => show Calls Try.prog 40 #[.pointer (some ⟨a, 0, none⟩), .agg D9.toArray, .int .u32 7, .agg #[.int .i64 2, .int .i64 1, .int .i64 3], .int .i64 1] W _ from by rw [← hD9]; exact h.add_ (Chk.dig 9) rfl 7 (by decide) Chk.sU 1 Chk.s_add)
  have HA2 := Lib.hid (fun (W : World) (a : Nat) (G : Nat → Prop) (h : TabG w W a (Chk.sC Chk.sU false [⟨1, 1⟩]) G) => show Calls Try.prog 40 #[.pointer (some ⟨a, 0, none⟩), .agg D8.toArray, .int .u32 7, .agg #[.int .i64 2, .int .i64 1, .int .i64 3], .int .i64 1] W _ from by rw [← hD8]; exact h.add_ (Chk.dig 8) rfl 7 (by decide) Chk.sU 1 Chk.s_add2)
  have HLO := Lib.hid (fun (W : World) (a : Nat) (G : Nat → Prop) (h : TabG w W a (Chk.sC Chk.z true [⟨0, 2⟩, ⟨1, 1⟩]) G) => show Calls Try.prog 22 #[.pointer (some ⟨a, 0, none⟩), .agg D9.toArray] W _ from by rw [← hD9]; exact h.lost_ (Chk.dig 9) rfl [1] Chk.s_lost 1 rfl)
  have HDL := Lib.hid (show D9.length = 16 by rw [← hD9]; rfl)
  have HDD := Lib.hid hD9
  clear hD9 hD8
  go_enter Try.func12, Try.ntmps12
  go_upto_region 5 with (go_at_call 27; refine (new_new _).mono ?_; rintro e w1 ⟨a, rfl, h1⟩; have H1 := Lib.hid h1; clear h1)
  have ru := IsRow.new w1 26 [.int .i64 2, .int .i64 1, .int .i64 3]
  have bu2 : Below w1.heap.size w1 (w1.alloc (.cells #[.int .i64 2, .int .i64 1, .int .i64 3] 26)) := (Below.refl _ _).alloc (Nat.le_refl _) _
  obtain ⟨w2, hw2⟩ : ∃ y, w1.alloc (.cells #[.int .i64 2, .int .i64 1, .int .i64 3] 26) = y := ⟨_, rfl⟩
  obtain ⟨bu, hbu⟩ : ∃ y, w1.heap.size = y := ⟨_, rfl⟩
  rw [show ([.int .i64 2, .int .i64 1, .int .i64 3] : List Value).toArray = #[.int .i64 2, .int .i64 1, .int .i64 3] from rfl, hw2, hbu] at ru
  rw [hw2] at bu2
  have HT2 : Hid (TabG w w2 a [] (fun b => b = bu)) := Lib.hid ((H1.out.g.more bu2 bu (by omega) ru.lt).less fun b e => .inr e)
  have HU2 := Lib.hid ru
  rw [hw2, hbu]
  clear ru bu2 hw2 hbu H1
  have hv0 : TabG w w2.drew a [] (fun b => b = bu) ∧ SameG w2 w2.drew (fun b => b = bu) := ⟨HT2.out.below (Below.refl _ _).drew, SameG.of_below (Below.refl _ _).drew HT2.out.lt⟩
  refine wp_region_held_drew (S := fun W => SameG w2 W (fun b => b = bu)) (by kernel_rfl) ((hv0).2) (fun hHeld => ?_)
  refine wpAnyH_take (i := 0) (oi := { dst := some 27, op := Op.move (Operand.tmp 1), type := 27, pos := "law.go:17", after := #[], guard := none }) (v := ?v0_611) rfl (by kernel_rfl) (by kernel_rfl) (by kernel_rfl) (fun _ _ _ h => h) (Or.inl ⟨by rfl, ?h0_611⟩) (by assumption) ?r0_611
  case h0_611 =>
    intro W hSW
    try dsimp only at hSW
    go_simp
    try with_reducible rfl
  try simp only [Act.put, List.setIfInBounds_toArray, List.set_cons_zero, List.set_cons_succ]
  refine wpAnyH_take (i := 2) (oi := { dst := some 29, op := Op.load 26 (Operand.tmp 2), type := 26, pos := "law.go:17", after := #[], guard := none }) (v := ?v2_612) rfl (by kernel_rfl) (by kernel_rfl) (by kernel_rfl) (fun _ _ _ h => h) (Or.inl ⟨by rfl, ?h2_612⟩) (by assumption) ?r2_612
  case h2_612 =>
    intro W hSW
    try dsimp only at hSW
    have c0 := (IsRow.keep HU2.out (hSW bu rfl)).cell 0
    have c1 := (IsRow.keep HU2.out (hSW bu rfl)).cell 1
    have c2 := (IsRow.keep HU2.out (hSW bu rfl)).cell 2
    dsimp only [List.getElem?_cons_zero, List.getElem?_cons_succ] at c0 c1 c2
    go_simp
    try with_reducible rfl
  try simp only [Act.put, List.setIfInBounds_toArray, List.set_cons_zero, List.set_cons_succ]
  refine wpAnyH_ready (rs := [1]) (by kernel_rfl) (by simp) ?_
  refine AllReadyH.cons (o := { dst := some 28, op := Op.call { callee := Callee.value (Operand.func 23), args := #[Operand.const (Value.int IntKind.u8 9)], argTypes := #[5] }, type := 42, pos := "law.go:17", after := #[], guard := none }) rfl (fun K hK => ?_) AllReadyH.nil
  go_simp
  refine (HD9.out _).mono ?_
  rintro e w61 ⟨rfl, b61⟩
  have hv61 : TabG w w61 a [] (fun b => b = bu) ∧ SameG w2 w61 (fun b => b = bu) := ⟨(hv0).1.below b61, (hv0).2.trans (SameG.of_below b61 (hv0).1.lt)⟩
  clear b61
  refine hK.out _ _ ((hv61).2) (fun hHeld => ?_)
  clear hK K
  try simp only [Act.put, List.setIfInBounds_toArray, List.set_cons_zero, List.set_cons_succ]
  refine wpAnyH_ready (rs := [3]) (by kernel_rfl) (by simp) ?_
  refine AllReadyH.cons (o := { dst := some 30, op := Op.call { callee := Callee.value (Operand.func 40), args := #[Operand.tmp 27, Operand.tmp 28, Operand.const (Value.int IntKind.u32 7), Operand.tmp 29, Operand.const (Value.int IntKind.i64 1)], argTypes := #[27, 42, 35, 26, 3] }, type := 39, pos := "law.go:17", after := #[{ on := 0, ground := Ground.data }, { on := 1, ground := Ground.data }, { on := 2, ground := Ground.data }, { on := 1, ground := Ground.chain }], guard := none }) rfl (fun K hK => ?_) AllReadyH.nil
  go_simp
  refine (HA1.out _ a _ (hv61).1).mono ?_
  rintro e w62 ⟨rfl, h62, s62⟩
  have hv62 : TabG w w62 a (Chk.sC Chk.sU false [⟨1, 1⟩]) (fun b => b = bu) ∧ SameG w2 w62 (fun b => b = bu) := ⟨h62, (hv61).2.trans s62⟩
  have HF5 := Lib.hid hv62
  clear h62 s62
  refine hK.out _ _ ((hv62).2) (fun hHeld => ?_)
  clear hK K
  try simp only [Act.put, List.setIfInBounds_toArray, List.set_cons_zero, List.set_cons_succ]
  refine wpAnyH_take (i := 4) (oi := { dst := some 26, op := Op.move (Operand.tmp 30), type := 39, pos := "law.go:17", after := #[{ on := 3, ground := Ground.data }], guard := none }) (v := ?v4_613) rfl (by kernel_rfl) (by kernel_rfl) (by kernel_rfl) (fun _ _ _ h => h) (Or.inl ⟨by rfl, ?h4_613⟩) (by assumption) ?r4_613
  case h4_613 =>
    intro W hSW
    try dsimp only at hSW
    go_simp
    try with_reducible rfl
  try simp only [Act.put, List.setIfInBounds_toArray, List.set_cons_zero, List.set_cons_succ]
  refine wpAnyH_take (i := 5) (oi := { dst := some 31, op := Op.extract (Operand.tmp 26) 0, type := 3, pos := "law.go:17", after := #[{ on := 4, ground := Ground.data }], guard := none }) (v := ?v5_614) rfl (by kernel_rfl) (by kernel_rfl) (by kernel_rfl) (fun _ _ _ h => h) (Or.inl ⟨by rfl, ?h5_614⟩) (by assumption) ?r5_614
  case h5_614 =>
    intro W hSW
    try dsimp only at hSW
    go_simp
    try with_reducible rfl
  try simp only [Act.put, List.setIfInBounds_toArray, List.set_cons_zero, List.set_cons_succ]
  refine wpAnyH_take (i := 6) (oi := { dst := some 32, op := Op.extract (Operand.tmp 26) 1, type := 38, pos := "law.go:17", after := #[{ on := 4, ground := Ground.data }, { on := 7, ground := Ground.gcOnly Departure.lateStores }], guard := none }) (v := ?v6_615) rfl (by kernel_rfl) (by kernel_rfl) (by kernel_rfl) (fun _ _ _ h => h) (Or.inl ⟨by rfl, ?h6_615⟩) (by assumption) ?r6_615
  case h6_615 =>
    intro W hSW
    try dsimp only at hSW
    go_simp
    try with_reducible rfl
  try simp only [Act.put, List.setIfInBounds_toArray, List.set_cons_zero, List.set_cons_succ]
  refine wpAnyH_take (i := 7) (oi := { dst := some 3, op := Op.assign (Operand.tmp 31), type := 3, pos := "law.go:17", after := #[{ on := 5, ground := Ground.data }, { on := 3, ground := Ground.chain }, { on := 0, ground := Ground.phase }, { on := 1, ground := Ground.phase }, { on := 2, ground := Ground.phase }, { on := 3, ground := Ground.phase }, { on := 4, ground := Ground.phase }, { on := 5, ground := Ground.phase }, { on := 6, ground := Ground.textOnly Departure.lateStores }], guard := none }) (v := ?v7_616) rfl (by kernel_rfl) (by kernel_rfl) (by kernel_rfl) (fun _ _ _ h => h) (Or.inl ⟨by rfl, ?h7_616⟩) (by assumption) ?r7_616
  case h7_616 =>
    intro W hSW
    try dsimp only at hSW
    go_simp
    try with_reducible rfl
  try simp only [Act.put, List.setIfInBounds_toArray, List.set_cons_zero, List.set_cons_succ]
  refine wpAnyH_take (i := 8) (oi := { dst := some 4, op := Op.assign (Operand.tmp 32), type := 38, pos := "law.go:17", after := #[{ on := 6, ground := Ground.data }, { on := 7, ground := Ground.chain }, { on := 0, ground := Ground.phase }, { on := 1, ground := Ground.phase }, { on := 2, ground := Ground.phase }, { on := 3, ground := Ground.phase }, { on := 4, ground := Ground.phase }, { on := 5, ground := Ground.phase }, { on := 6, ground := Ground.phase }, { on := 7, ground := Ground.phase }], guard := none }) (v := ?v8_617) rfl (by kernel_rfl) (by kernel_rfl) (by kernel_rfl) (fun _ _ _ h => h) (Or.inl ⟨by rfl, ?h8_617⟩) (by assumption) ?r8_617
  case h8_617 =>
    intro W hSW
    try dsimp only at hSW
    go_simp
    try with_reducible rfl
  try simp only [Act.put, List.setIfInBounds_toArray, List.set_cons_zero, List.set_cons_succ]
  refine wpAnyH_done (by kernel_rfl) ?_ _
  obtain ⟨w3, hw3⟩ : ∃ y, w62 = y := ⟨_, rfl⟩
  rw [hw3] at HF5 ⊢
  have HT3 := Lib.hid HF5.out.1
  have HU3 := Lib.hid (HF5.out.2.row HU2.out rfl)
  clear hw3 hHeld HF5 HU2 HT2
  go_upto_region 6 with fail
  have hv0 : TabG w w3.drew a (Chk.sC Chk.sU false [⟨1, 1⟩]) (fun b => b = bu) ∧ SameG w3 w3.drew (fun b => b = bu) := ⟨HT3.out.below (Below.refl _ _).drew, SameG.of_below (Below.refl _ _).drew HT3.out.lt⟩
  refine wp_region_held_drew (S := fun W => SameG w3 W (fun b => b = bu)) (by kernel_rfl) ((hv0).2) (fun hHeld => ?_)
  refine wpAnyH_take (i := 0) (oi := { dst := some 34, op := Op.move (Operand.tmp 1), type := 27, pos := "law.go:18", after := #[], guard := none }) (v := ?v0_711) rfl (by kernel_rfl) (by kernel_rfl) (by kernel_rfl) (fun _ _ _ h => h) (Or.inl ⟨by rfl, ?h0_711⟩) (by assumption) ?r0_711
  case h0_711 =>
    intro W hSW
    try dsimp only at hSW
    go_simp
    try with_reducible rfl
  try simp only [Act.put, List.setIfInBounds_toArray, List.set_cons_zero, List.set_cons_succ]
  refine wpAnyH_take (i := 2) (oi := { dst := some 36, op := Op.load 26 (Operand.tmp 2), type := 26, pos := "law.go:18", after := #[], guard := none }) (v := ?v2_712) rfl (by kernel_rfl) (by kernel_rfl) (by kernel_rfl) (fun _ _ _ h => h) (Or.inl ⟨by rfl, ?h2_712⟩) (by assumption) ?r2_712
  case h2_712 =>
    intro W hSW
    try dsimp only at hSW
    have c0 := (IsRow.keep HU3.out (hSW bu rfl)).cell 0
    have c1 := (IsRow.keep HU3.out (hSW bu rfl)).cell 1
    have c2 := (IsRow.keep HU3.out (hSW bu rfl)).cell 2
    dsimp only [List.getElem?_cons_zero, List.getElem?_cons_succ] at c0 c1 c2
    go_simp
    try with_reducible rfl
  try simp only [Act.put, List.setIfInBounds_toArray, List.set_cons_zero, List.set_cons_succ]
  refine wpAnyH_ready (rs := [1]) (by kernel_rfl) (by simp) ?_
  refine AllReadyH.cons (o := { dst := some 35, op := Op.call { callee := Callee.value (Operand.func 23), args := #[Operand.const (Value.int IntKind.u8 8)], argTypes := #[5] }, type := 42, pos := "law.go:18", after := #[], guard := none }) rfl (fun K hK => ?_) AllReadyH.nil
  go_simp
  refine (HD8.out _).mono ?_
  rintro e w71 ⟨rfl, b71⟩
  have hv71 : TabG w w71 a (Chk.sC Chk.sU false [⟨1, 1⟩]) (fun b => b = bu) ∧ SameG w3 w71 (fun b => b = bu) := ⟨(hv0).1.below b71, (hv0).2.trans (SameG.of_below b71 (hv0).1.lt)⟩
  clear b71
  refine hK.out _ _ ((hv71).2) (fun hHeld => ?_)
  clear hK K
  try simp only [Act.put, List.setIfInBounds_toArray, List.set_cons_zero, List.set_cons_succ]
  refine wpAnyH_ready (rs := [3]) (by kernel_rfl) (by simp) ?_
  refine AllReadyH.cons (o := { dst := some 37, op := Op.call { callee := Callee.value (Operand.func 40), args := #[Operand.tmp 34, Operand.tmp 35, Operand.const (Value.int IntKind.u32 7), Operand.tmp 36, Operand.const (Value.int IntKind.i64 1)], argTypes := #[27, 42, 35, 26, 3] }, type := 39, pos := "law.go:18", after := #[{ on := 0, ground := Ground.data }, { on := 1, ground := Ground.data }, { on := 2, ground := Ground.data }, { on := 1, ground := Ground.chain }], guard := none }) rfl (fun K hK => ?_) AllReadyH.nil
  go_simp
  refine (HA2.out _ a _ (hv71).1).mono ?_
  rintro e w72 ⟨rfl, h72, s72⟩
  have hv72 : TabG w w72 a (Chk.sC Chk.sU false [⟨1, 1⟩]) (fun b => b = bu) ∧ SameG w3 w72 (fun b => b = bu) := ⟨h72, (hv71).2.trans s72⟩
  have HF6 := Lib.hid hv72
  clear h72 s72
  refine hK.out _ _ ((hv72).2) (fun hHeld => ?_)
  clear hK K
  try simp only [Act.put, List.setIfInBounds_toArray, List.set_cons_zero, List.set_cons_succ]
  refine wpAnyH_take (i := 4) (oi := { dst := some 33, op := Op.move (Operand.tmp 37), type := 39, pos := "law.go:18", after := #[{ on := 3, ground := Ground.data }], guard := none }) (v := ?v4_713) rfl (by kernel_rfl) (by kernel_rfl) (by kernel_rfl) (fun _ _ _ h => h) (Or.inl ⟨by rfl, ?h4_713⟩) (by assumption) ?r4_713
  case h4_713 =>
    intro W hSW
    try dsimp only at hSW
    go_simp
    try with_reducible rfl
  try simp only [Act.put, List.setIfInBounds_toArray, List.set_cons_zero, List.set_cons_succ]
  refine wpAnyH_take (i := 5) (oi := { dst := some 38, op := Op.extract (Operand.tmp 33) 0, type := 3, pos := "law.go:18", after := #[{ on := 4, ground := Ground.data }], guard := none }) (v := ?v5_714) rfl (by kernel_rfl) (by kernel_rfl) (by kernel_rfl) (fun _ _ _ h => h) (Or.inl ⟨by rfl, ?h5_714⟩) (by assumption) ?r5_714
  case h5_714 =>
    intro W hSW
    try dsimp only at hSW
    go_simp
    try with_reducible rfl
  try simp only [Act.put, List.setIfInBounds_toArray, List.set_cons_zero, List.set_cons_succ]
  refine wpAnyH_take (i := 6) (oi := { dst := some 39, op := Op.extract (Operand.tmp 33) 1, type := 38, pos := "law.go:18", after := #[{ on := 4, ground := Ground.data }, { on := 7, ground := Ground.gcOnly Departure.lateStores }], guard := none }) (v := ?v6_715) rfl (by kernel_rfl) (by kernel_rfl) (by kernel_rfl) (fun _ _ _ h => h) (Or.inl ⟨by rfl, ?h6_715⟩) (by assumption) ?r6_715
  case h6_715 =>
    intro W hSW
    try dsimp only at hSW
    go_simp
    try with_reducible rfl
  try simp only [Act.put, List.setIfInBounds_toArray, List.set_cons_zero, List.set_cons_succ]
  refine wpAnyH_take (i := 7) (oi := { dst := some 5, op := Op.assign (Operand.tmp 38), type := 3, pos := "law.go:18", after := #[{ on := 5, ground := Ground.data }, { on := 3, ground := Ground.chain }, { on := 0, ground := Ground.phase }, { on := 1, ground := Ground.phase }, { on := 2, ground := Ground.phase }, { on := 3, ground := Ground.phase }, { on := 4, ground := Ground.phase }, { on := 5, ground := Ground.phase }, { on := 6, ground := Ground.textOnly Departure.lateStores }], guard := none }) (v := ?v7_716) rfl (by kernel_rfl) (by kernel_rfl) (by kernel_rfl) (fun _ _ _ h => h) (Or.inl ⟨by rfl, ?h7_716⟩) (by assumption) ?r7_716
  case h7_716 =>
    intro W hSW
    try dsimp only at hSW
    go_simp
    try with_reducible rfl
  try simp only [Act.put, List.setIfInBounds_toArray, List.set_cons_zero, List.set_cons_succ]
  refine wpAnyH_take (i := 8) (oi := { dst := some 6, op := Op.assign (Operand.tmp 39), type := 38, pos := "law.go:18", after := #[{ on := 6, ground := Ground.data }, { on := 7, ground := Ground.chain }, { on := 0, ground := Ground.phase }, { on := 1, ground := Ground.phase }, { on := 2, ground := Ground.phase }, { on := 3, ground := Ground.phase }, { on := 4, ground := Ground.phase }, { on := 5, ground := Ground.phase }, { on := 6, ground := Ground.phase }, { on := 7, ground := Ground.phase }], guard := none }) (v := ?v8_717) rfl (by kernel_rfl) (by kernel_rfl) (by kernel_rfl) (fun _ _ _ h => h) (Or.inl ⟨by rfl, ?h8_717⟩) (by assumption) ?r8_717
  case h8_717 =>
    intro W hSW
    try dsimp only at hSW
    go_simp
    try with_reducible rfl
  try simp only [Act.put, List.setIfInBounds_toArray, List.set_cons_zero, List.set_cons_succ]
  refine wpAnyH_done (by kernel_rfl) ?_ _
  obtain ⟨w4, hw4⟩ : ∃ y, w72 = y := ⟨_, rfl⟩
  rw [hw4] at HF6 ⊢
  have HT4 := Lib.hid HF6.out.1
  have HU4 := Lib.hid (HF6.out.2.row HU3.out rfl)
  clear hw4 hHeld HF6 HU3 HT3
  go_upto_region 7 with fail
  go_upto_region 8 with (go_at_call 41; refine (HT4.out.refer_ 1 0 2 Chk.s_refer).mono ?_; rintro e w5 ⟨rfl, h5, s5⟩; have HT5 := Lib.hid h5; have HU5 := Lib.hid (s5.row HU4.out rfl); clear h5 s5)
  have HGT := Lib.hid (HT5.out.getOkN 1 0 Chk.sK Chk.s_pos rfl 2 rfl)
  have hall : ∀ v : Value, v.oneCell' = true → (ckCells Chk.sK v).all (·.oneCell') = true := fun v hv => List.all_eq_true.2 (ckCells_one Chk.sK v hv)
  have hlen : ∀ v : Value, (ckCells Chk.sK v).length = 23 := fun v => ckCells_len (c := Chk.sK) rfl v
  have HAL := Lib.hid hall
  have HLE := Lib.hid hlen
  clear hall hlen
  go_upto_region 9 with (first
    | (go_at_call 14; refine HGT.out.mono ?_; rintro e w6 ⟨A6, k6, rfl, own6, b6⟩; (obtain ⟨cs, hcs⟩ : ∃ cs, ckCells Chk.sK (.slice A6 2 k6) = cs := ⟨_, rfl⟩); rw [hcs]; have HCS := Lib.hid hcs; clear hcs)
    | (refine wpList_storeRow rfl _ (.tmp 8) (.tmp 45) rfl (l' := cs) rz7 rfl rfl (by rw [← HCS.out, HLE.out]; exact sizeCk) (by rw [← HCS.out, HLE.out]; rfl) (by rw [← HCS.out]; exact HAL.out _ rfl) ?_; intro w8 rz8 g8 z8)
    | (refine wpList_allocRow rfl _ rfl _ infoCk' ?_; intro w7 rz7 b7 z7))
  try simp only [Act.put, List.setIfInBounds_toArray, List.set_cons_zero, List.set_cons_succ]
  have b68 : Below w6.heap.size w6 w8 := b7.grown g8 b7.size (fun i hi => by have := Option.some.inj hi; omega)
  obtain ⟨g6, cap6, hv6, hg6, hg6l⟩ := own6.form (by omega)
  obtain rfl : A6 = some ⟨g6, 0, none⟩ := by injection hv6
  have hs68 := b68.size
  have hlt8 := rz8.lt
  have own8 := own_below own6 b68
  obtain ⟨b8, hb8⟩ : ∃ y, w6.heap.size = y := ⟨_, rfl⟩
  have hT8 := (HT5.out.more b6 g6 hg6 hg6l).more b68 b8 (by omega) (by rw [← hb8]; exact hlt8)
  rw [hb8] at rz8 ⊢
  have HT8 : Hid (TabG w w8 a _ (fun b => (b = bu ∨ b = g6) ∨ b = b8)) := Lib.hid hT8
  have HU8 := Lib.hid ((HU5.out.below' b6).below' b68)
  have HR8 := Lib.hid rz8
  have HO8 := Lib.hid own8
  clear b6 b7 g8 z8 z7 rz7 rz8 own6 own8 hv6 hg6 hg6l hs68 hlt8 hb8 hT8 b68 HGT HT5 HU5 HU4 HT4
  have u0 := HU8.out.cell 0
  have u1 := HU8.out.cell 1
  have u2 := HU8.out.cell 2
  dsimp only [List.getElem?_cons_zero, List.getElem?_cons_succ] at u0 u1 u2
  have HAT := Lib.hid (show Calls Try.prog 16 #[.pointer (some ⟨a, 0, none⟩), .agg #[.int .i64 2, .int .i64 1, .int .i64 3]] w8 _ from HT8.out.at_ Chk.sU 1 true rfl rfl)
  go_upto_region 10 with (go_at_call 16; refine HAT.out.mono ?_; rintro e w9 ⟨rfl, b9⟩)
  have HT9 := Lib.hid (HT8.out.below b9)
  have HU9 := Lib.hid (HU8.out.below' b9)
  have HR9 := Lib.hid (HR8.out.below' b9)
  have HO9 := Lib.hid (own_below HO8.out b9)
  clear u0 u1 u2 HAT HT8 HU8 HR8 HO8 b9
  have u0 := HU9.out.cell 0
  have u1 := HU9.out.cell 1
  dsimp only [List.getElem?_cons_zero, List.getElem?_cons_succ] at u0 u1
  have HLV := Lib.hid (HT9.out.live_ 2 1 [1] Chk.s_live 1 rfl)
  go_upto_region 11 with (go_at_call 20; refine HLV.out.mono ?_; rintro e w10 ⟨A10, c10, rfl, own10, b10⟩)
  obtain ⟨g10, cap10, hv10, hg10, hg10l⟩ := own10.form (by omega)
  obtain rfl : A10 = some ⟨g10, 0, none⟩ := by injection hv10
  have HT10 : Hid (TabG w w10 a _ (fun b => ((b = bu ∨ b = g6) ∨ b = b8) ∨ b = g10)) := Lib.hid (HT9.out.more b10 g10 hg10 hg10l)
  have HR10 := Lib.hid (HR9.out.below' b10)
  have HU10 := Lib.hid (HU9.out.below' b10)
  have HO10 := Lib.hid (own_below HO9.out b10)
  have HL10 := Lib.hid own10
  clear own10 b10 hv10 hg10 hg10l HLV HT9 HU9 HR9 HO9 u0 u1
  go_upto_region 12 with (go_at_call 25; refine (HT10.out.count_ 0 2 Chk.s_count).mono ?_; rintro e w11 ⟨rfl, b11⟩)
  have HT11 := Lib.hid (HT10.out.below b11)
  have HR11 := Lib.hid (HR10.out.below' b11)
  have HU11 := Lib.hid (HU10.out.below' b11)
  have HO11 := Lib.hid (own_below HO10.out b11)
  have HL11 := Lib.hid (own_below HL10.out b11)
  clear b11 HT10 HR10 HO10 HL10 HU10
  go_upto_region 13 with (go_at_call 32; refine (HT11.out.lose_ 1 Chk.s_lose).mono ?_; rintro e w12 ⟨rfl, h12, s12⟩)
  have HT12 := Lib.hid h12
  have HR12 := Lib.hid (s12.row HR11.out (.inl (.inr rfl)))
  have HU12 := Lib.hid (s12.row HU11.out (.inl (.inl (.inl rfl))))
  have HO12 := Lib.hid (own_same HO11.out s12 (fun p hp => by rw [← Option.some.inj hp]; exact .inl (.inl (.inr rfl))))
  have HL12 := Lib.hid (own_same HL11.out s12 (fun p hp => by rw [← Option.some.inj hp]; exact .inr rfl))
  clear h12 s12 HT11 HR11 HO11 HL11 HU11
  go_upto_region 14 with (first
    | (go_at_call 23; refine (HD9.out _).mono ?_; rintro e w13 ⟨rfl, b13⟩)
    | (go_at_call 22; refine (HLO.out _ a _ (HT12.out.below b13)).mono ?_; rintro e w14 ⟨A14, c14, rfl, own14, b14⟩))
  obtain ⟨g14, cap14, hv14, hg14, hg14l⟩ := own14.form (by omega)
  obtain rfl : A14 = some ⟨g14, 0, none⟩ := by injection hv14
  have HT14 : Hid (TabG w w14 a _ (fun b => (((b = bu ∨ b = g6) ∨ b = b8) ∨ b = g10) ∨ b = g14)) := Lib.hid ((HT12.out.below b13).more b14 g14 hg14 hg14l)
  have HR14 := Lib.hid ((HR12.out.below' b13).below' b14)
  have HU14 := Lib.hid ((HU12.out.below' b13).below' b14)
  have HO14 := Lib.hid (own_below (own_below HO12.out b13) b14)
  have HL14 := Lib.hid (own_below (own_below HL12.out b13) b14)
  have HZ14 := Lib.hid own14
  clear own14 b14 b13 hv14 hg14 hg14l HT12 HR12 HO12 HL12 HU12
  go_upto_region 15 with (go_at_call 42; refine (HT14.out.unrefer_ 1 1 1 false Chk.s_un1 rfl).mono ?_; rintro e w15 ⟨rfl, h15, s15⟩)
  have HT15 := Lib.hid h15
  have HS15 := Lib.hid s15
  clear h15 s15
  go_upto_region 16 with (go_at_call 42; refine (HT15.out.unrefer_ 1 0 2 true Chk.s_un2 rfl).mono ?_; rintro e w16 ⟨rfl, h16, s16⟩)
  have s16 := HS15.out.trans s16
  have HT16 := Lib.hid h16
  have HR16 := Lib.hid (s16.row HR14.out (.inl (.inl (.inr rfl))))
  have HU16 := Lib.hid (s16.row HU14.out (.inl (.inl (.inl (.inl rfl)))))
  have HO16 := Lib.hid (own_same HO14.out s16 (fun p hp => by rw [← Option.some.inj hp]; exact .inl (.inl (.inl (.inr rfl)))))
  have HL16 := Lib.hid (own_same HL14.out s16 (fun p hp => by rw [← Option.some.inj hp]; exact .inl (.inr rfl)))
  have HZ16 := Lib.hid (own_same HZ14.out s16 (fun p hp => by rw [← Option.some.inj hp]; exact .inr rfl))
  have HB16 := Lib.hid HT16.out.b
  clear h16 s16 HT14 HR14 HO14 HL14 HZ14 HU14 HS15 HT15
  go_cut [20] (fun u20 wx => ∃ (wv : World) (b20 br : Nat), wv = wx ∧ u20 = .pointer (some ⟨b20, 0, none⟩) ∧ Hid (IsRow wv b20 45 (ckCells Chk.sK (.slice (some ⟨br, 0, none⟩) 2 2))) ∧ Hid (IsRow wv br 83 (rfs Chk.sK.refs)) ∧ Hid (Below w16.heap.size w16 wv))
  case first => as_aux_lemma =>
    have hv0 : Below w16.heap.size w16 w16.drew := (Below.refl _ _).drew
    refine wp_region_late (fun W => Below w16.heap.size w16 W) [7] (by kernel_rfl) (hv0) (fun hHeld => ?_)
    refine wpAnyL_take (i := 1) (oi := { dst := some 75, op := Op.load 26 (Operand.tmp 2), type := 26, pos := "law.go:28", after := #[], guard := none }) (v := ?v1_901) rfl (by kernel_rfl) (by kernel_rfl) (by kernel_rfl) (by kernel_rfl) (fun _ _ _ h => h) (Or.inl ⟨by rfl, ?h1_901⟩) (by assumption) ?r1_901
    case h1_901 =>
      intro W hSW
      try dsimp only at hSW
      have c0 := (HU16.out.below' hSW).cell 0
      have c1 := (HU16.out.below' hSW).cell 1
      have c2 := (HU16.out.below' hSW).cell 2
      dsimp only [List.getElem?_cons_zero, List.getElem?_cons_succ] at c0 c1 c2
      go_simp
      try with_reducible rfl
    try simp only [Act.put, List.setIfInBounds_toArray, List.set_cons_zero, List.set_cons_succ]
    refine wpAnyL_take (i := 2) (oi := { dst := some 76, op := Op.build 83 #[(0, Operand.const (Value.int IntKind.i64 0)), (1, Operand.const (Value.int IntKind.i64 2))], type := 83, pos := "law.go:28", after := #[], guard := none }) (v := ?v2_902) rfl (by kernel_rfl) (by kernel_rfl) (by kernel_rfl) (by kernel_rfl) (fun _ _ _ h => h) (Or.inl ⟨by rfl, ?h2_902⟩) (by assumption) ?r2_902
    case h2_902 =>
      intro W hSW
      try dsimp only at hSW
      go_simp
      try with_reducible rfl
    try simp only [Act.put, List.setIfInBounds_toArray, List.set_cons_zero, List.set_cons_succ]
    refine wpAnyL_take (i := 3) (oi := { dst := some 77, op := Op.build 83 #[(0, Operand.const (Value.int IntKind.i64 1)), (1, Operand.const (Value.int IntKind.i64 1))], type := 83, pos := "law.go:28", after := #[], guard := none }) (v := ?v3_903) rfl (by kernel_rfl) (by kernel_rfl) (by kernel_rfl) (by kernel_rfl) (fun _ _ _ h => h) (Or.inl ⟨by rfl, ?h3_903⟩) (by assumption) ?r3_903
    case h3_903 =>
      intro W hSW
      try dsimp only at hSW
      go_simp
      try with_reducible rfl
    try simp only [Act.put, List.setIfInBounds_toArray, List.set_cons_zero, List.set_cons_succ]
    refine wpAnyL_ready (rs := [0, 4, 6]) (by kernel_rfl) (by simp) ?_
    refine AllReadyL.cons (o := { dst := some 74, op := Op.call { callee := Callee.value (Operand.func 23), args := #[Operand.const (Value.int IntKind.u8 9)], argTypes := #[5] }, type := 42, pos := "law.go:28", after := #[], guard := none }) rfl (fun K hK => ?_) ?_
    · skip
      go_simp
      refine (HD9.out _).mono ?_
      rintro e w81 ⟨rfl, b81⟩
      have hv81 : Below w16.heap.size w16 w81 := (hv0).trans (b81.mono (hv0).size)
      try have rr := rr.below' b81
      try have rz := rz.below' b81
      clear b81
      refine hK.out _ _ (hv81) (fun hHeld => ?_)
      clear hK K
      try simp only [Act.put, List.setIfInBounds_toArray, List.set_cons_zero, List.set_cons_succ]
      refine wpAnyL_ready (rs := [4, 6]) (by kernel_rfl) (by simp) ?_
      refine AllReadyL.cons (o := { dst := some 78, op := Op.buildSlice 43 2 #[(0, Operand.tmp 76), (1, Operand.tmp 77)], type := 43, pos := "law.go:28", after := #[{ on := 2, ground := Ground.data }, { on := 3, ground := Ground.data }], guard := none }) rfl (fun K hK => ?_) ?_
      · skip
        rw [if_pos (by rfl)]
        refine wp_buildR2 (.tmp 76) (.tmp 77) rfl 0 2 1 1 rfl rfl ?_
        have b82 : Below w81.heap.size w81 (w81.alloc (.cells #[.int .i64 0, .int .i64 2, .int .i64 1, .int .i64 1] 83)) := (Below.refl _ _).alloc (Nat.le_refl _) _
        have rr := IsRow.new w81 83 (rfs Chk.sK.refs)
        rw [show (rfs Chk.sK.refs).toArray = #[.int .i64 0, .int .i64 2, .int .i64 1, .int .i64 1] from rfl] at rr
        obtain ⟨w82, hw82⟩ : ∃ y, w81.alloc (.cells #[.int .i64 0, .int .i64 2, .int .i64 1, .int .i64 1] 83) = y := ⟨_, rfl⟩
        rw [hw82] at b82 rr
        rw [hw82]
        have hbz := (hv81).size
        obtain ⟨br, hbr⟩ : ∃ y, w81.heap.size = y := ⟨_, rfl⟩
        rw [hbr] at rr
        rw [hbr]
        have hv82 : Below w16.heap.size w16 w82 := (hv81).trans (b82.mono (hv81).size)
        try have rz := rz.below' b82
        obtain ⟨ds, hds⟩ : ∃ ds, ckCells Chk.sK (.slice (some ⟨br, 0, none⟩) 2 2) = ds := ⟨_, rfl⟩
        have hbt := built_ck 1 7 2 1 3 D9 HDL.out (.slice (some ⟨br, 0, none⟩) 2 2) ⟨_, _, _, rfl⟩
        rw [← HDD.out] at hbt
        rw [show ([.int .i64 1] ++ (bvs (Chk.dig 9) ++ [.int .u32 7, .int .i64 2, .int .i64 1, .int .i64 3, .bool false, .slice (some ⟨br, 0, none⟩) 2 2]) : List Value) = ds from hds, HDD.out] at hbt
        have HBT := Lib.hid hbt
        have HDS := Lib.hid hds
        have HBRL := Lib.hid (show w16.heap.size ≤ br by rw [← hbr]; exact hbz)
        clear hbt hds hw82 hbr hbz b82
        refine hK.out _ _ (hv82) (fun hHeld => ?_)
        clear hK K
        try simp only [Act.put, List.setIfInBounds_toArray, List.set_cons_zero, List.set_cons_succ]
        refine wpAnyL_take (i := 5) (oi := { dst := some 79, op := Op.build 45 #[(0, Operand.const (Value.int IntKind.i64 1)), (1, Operand.tmp 74), (2, Operand.const (Value.int IntKind.u32 7)), (3, Operand.tmp 75), (5, Operand.tmp 78)], type := 45, pos := "law.go:28", after := #[{ on := 0, ground := Ground.data }, { on := 1, ground := Ground.data }, { on := 4, ground := Ground.data }], guard := none }) (v := (.agg ds.toArray)) rfl (by kernel_rfl) (by kernel_rfl) (by kernel_rfl) (by kernel_rfl) (fun _ _ _ h => h) (y_build5 rfl 45 0 1 2 3 5 (.const (.int .i64 1)) (.tmp 74) (.const (.int .u32 7)) (.tmp 75) (.tmp 78) rfl (.int .i64 1) (.agg D9.toArray) (.int .u32 7) (.agg #[.int .i64 2, .int .i64 1, .int .i64 3]) (.slice (some ⟨br, 0, none⟩) 2 2) rfl rfl rfl rfl rfl ds.toArray HBT.out) (by assumption) ?_
        try simp only [Act.put, List.setIfInBounds_toArray, List.set_cons_zero, List.set_cons_succ]
        refine wpAnyL_ready (rs := [6]) (by kernel_rfl) (by simp) ?_
        refine AllReadyL.cons (o := { dst := some 20, op := Op.alloc 45, type := 0, pos := "law.go:28", after := #[], guard := none }) rfl (fun K hK => ?_) AllReadyL.nil
        rw [if_pos (by rfl)]
        refine wp_allocRowC _ rfl _ infoCk' ?_
        have b83 : Below w82.heap.size w82 (w82.alloc (.cells zCk.toArray 45)) := (Below.refl _ _).alloc (Nat.le_refl _) _
        have rz := IsRow.new w82 45 zCk
        obtain ⟨w83, hw83⟩ : ∃ y, w82.alloc (.cells zCk.toArray 45) = y := ⟨_, rfl⟩
        rw [hw83] at b83 rz
        rw [hw83]
        have hbz := (hv82).size
        obtain ⟨b20, hb20⟩ : ∃ y, w82.heap.size = y := ⟨_, rfl⟩
        rw [hb20] at rz
        rw [hb20]
        have hv83 : Below w16.heap.size w16 w83 := (hv82).trans (b83.mono (hv82).size)
        try have rr := rr.below' b83
        have HB20 := Lib.hid (show w16.heap.size ≤ b20 by rw [← hb20]; exact hbz)
        clear hw83 hb20 hbz b83
        refine hK.out _ _ (hv83) (fun hHeld => ?_)
        clear hK K
        try simp only [Act.put, List.setIfInBounds_toArray, List.set_cons_zero, List.set_cons_succ]
        refine wpAnyL_ready (rs := [7]) (by kernel_rfl) (by simp) ?_
        refine AllReadyL.late (o := { dst := none, op := Op.store 45 (Operand.tmp 20) (Operand.tmp 79), type := 0, pos := "law.go:28", after := #[{ on := 6, ground := Ground.data }, { on := 5, ground := Ground.data }, { on := 0, ground := Ground.chain }, { on := 0, ground := Ground.phase }, { on := 1, ground := Ground.phase }, { on := 2, ground := Ground.phase }, { on := 3, ground := Ground.phase }, { on := 4, ground := Ground.phase }, { on := 5, ground := Ground.phase }, { on := 6, ground := Ground.phase }], guard := none }) rfl (by rfl) (fun K hK => ?_) AllReadyL.nil
        rw [if_pos (by rfl)]
        refine wp_storeRow _ (.tmp 20) (.tmp 79) rfl (l' := ds) rz rfl rfl (by rw [← HDS.out, HLE.out]; exact sizeCk) (by rw [← HDS.out, HLE.out]; rfl) (by rw [← HDS.out]; exact HAL.out _ rfl) ?_
        intro w84 rz84 g84 z84
        have hne : br ≠ b20 := fun e => by subst e; have h1 : w83.heap[br]? = _ := rr; have h2 : w83.heap[br]? = _ := rz; rw [h1] at h2; injection h2 with h2; injection h2 with _ h3 _; cases h3
        have HF := Lib.hid (And.intro rz84 (And.intro (rr.grown g84 (fun e => hne (Option.some.inj e).symm)) ((hv83).grown g84 (hv83).size (fun i hi => by have := Option.some.inj hi; have := HB20.out; omega))))
        clear rz84 g84 z84 rz rr hne
        refine hK.out _ _ ?_
        clear hK K
        try simp only [Act.put, List.setIfInBounds_toArray, List.set_cons_zero, List.set_cons_succ]
        refine wpAnyL_done (by kernel_rfl) ?_ _
        go_wp2_with fail
        go_meet
        have hf := HF.out
        rw [← HDS.out] at hf
        exact ⟨_, b20, br, rfl, rfl, Lib.hid hf.1, Lib.hid hf.2.1, Lib.hid hf.2.2⟩
      · skip
        refine AllReadyL.cons (o := { dst := some 20, op := Op.alloc 45, type := 0, pos := "law.go:28", after := #[], guard := none }) rfl (fun K hK => ?_) AllReadyL.nil
        rw [if_pos (by rfl)]
        refine wp_allocRowC _ rfl _ infoCk' ?_
        have b82 : Below w81.heap.size w81 (w81.alloc (.cells zCk.toArray 45)) := (Below.refl _ _).alloc (Nat.le_refl _) _
        have rz := IsRow.new w81 45 zCk
        obtain ⟨w82, hw82⟩ : ∃ y, w81.alloc (.cells zCk.toArray 45) = y := ⟨_, rfl⟩
        rw [hw82] at b82 rz
        rw [hw82]
        have hbz := (hv81).size
        obtain ⟨b20, hb20⟩ : ∃ y, w81.heap.size = y := ⟨_, rfl⟩
        rw [hb20] at rz
        rw [hb20]
        have hv82 : Below w16.heap.size w16 w82 := (hv81).trans (b82.mono (hv81).size)
        try have rr := rr.below' b82
        have HB20 := Lib.hid (show w16.heap.size ≤ b20 by rw [← hb20]; exact hbz)
        clear hw82 hb20 hbz b82
        refine hK.out _ _ (hv82) (fun hHeld => ?_)
        clear hK K
        try simp only [Act.put, List.setIfInBounds_toArray, List.set_cons_zero, List.set_cons_succ]
        refine wpAnyL_ready (rs := [4]) (by kernel_rfl) (by simp) ?_
        refine AllReadyL.cons (o := { dst := some 78, op := Op.buildSlice 43 2 #[(0, Operand.tmp 76), (1, Operand.tmp 77)], type := 43, pos := "law.go:28", after := #[{ on := 2, ground := Ground.data }, { on := 3, ground := Ground.data }], guard := none }) rfl (fun K hK => ?_) AllReadyL.nil
        rw [if_pos (by rfl)]
        refine wp_buildR2 (.tmp 76) (.tmp 77) rfl 0 2 1 1 rfl rfl ?_
        have b83 : Below w82.heap.size w82 (w82.alloc (.cells #[.int .i64 0, .int .i64 2, .int .i64 1, .int .i64 1] 83)) := (Below.refl _ _).alloc (Nat.le_refl _) _
        have rr := IsRow.new w82 83 (rfs Chk.sK.refs)
        rw [show (rfs Chk.sK.refs).toArray = #[.int .i64 0, .int .i64 2, .int .i64 1, .int .i64 1] from rfl] at rr
        obtain ⟨w83, hw83⟩ : ∃ y, w82.alloc (.cells #[.int .i64 0, .int .i64 2, .int .i64 1, .int .i64 1] 83) = y := ⟨_, rfl⟩
        rw [hw83] at b83 rr
        rw [hw83]
        have hbz := (hv82).size
        obtain ⟨br, hbr⟩ : ∃ y, w82.heap.size = y := ⟨_, rfl⟩
        rw [hbr] at rr
        rw [hbr]
        have hv83 : Below w16.heap.size w16 w83 := (hv82).trans (b83.mono (hv82).size)
        try have rz := rz.below' b83
        obtain ⟨ds, hds⟩ : ∃ ds, ckCells Chk.sK (.slice (some ⟨br, 0, none⟩) 2 2) = ds := ⟨_, rfl⟩
        have hbt := built_ck 1 7 2 1 3 D9 HDL.out (.slice (some ⟨br, 0, none⟩) 2 2) ⟨_, _, _, rfl⟩
        rw [← HDD.out] at hbt
        rw [show ([.int .i64 1] ++ (bvs (Chk.dig 9) ++ [.int .u32 7, .int .i64 2, .int .i64 1, .int .i64 3, .bool false, .slice (some ⟨br, 0, none⟩) 2 2]) : List Value) = ds from hds, HDD.out] at hbt
        have HBT := Lib.hid hbt
        have HDS := Lib.hid hds
        have HBRL := Lib.hid (show w16.heap.size ≤ br by rw [← hbr]; exact hbz)
        clear hbt hds hw83 hbr hbz b83
        refine hK.out _ _ (hv83) (fun hHeld => ?_)
        clear hK K
        try simp only [Act.put, List.setIfInBounds_toArray, List.set_cons_zero, List.set_cons_succ]
        refine wpAnyL_take (i := 5) (oi := { dst := some 79, op := Op.build 45 #[(0, Operand.const (Value.int IntKind.i64 1)), (1, Operand.tmp 74), (2, Operand.const (Value.int IntKind.u32 7)), (3, Operand.tmp 75), (5, Operand.tmp 78)], type := 45, pos := "law.go:28", after := #[{ on := 0, ground := Ground.data }, { on := 1, ground := Ground.data }, { on := 4, ground := Ground.data }], guard := none }) (v := (.agg ds.toArray)) rfl (by kernel_rfl) (by kernel_rfl) (by kernel_rfl) (by kernel_rfl) (fun _ _ _ h => h) (y_build5 rfl 45 0 1 2 3 5 (.const (.int .i64 1)) (.tmp 74) (.const (.int .u32 7)) (.tmp 75) (.tmp 78) rfl (.int .i64 1) (.agg D9.toArray) (.int .u32 7) (.agg #[.int .i64 2, .int .i64 1, .int .i64 3]) (.slice (some ⟨br, 0, none⟩) 2 2) rfl rfl rfl rfl rfl ds.toArray HBT.out) (by assumption) ?_
        try simp only [Act.put, List.setIfInBounds_toArray, List.set_cons_zero, List.set_cons_succ]
        refine wpAnyL_ready (rs := [7]) (by kernel_rfl) (by simp) ?_
        refine AllReadyL.late (o := { dst := none, op := Op.store 45 (Operand.tmp 20) (Operand.tmp 79), type := 0, pos := "law.go:28", after := #[{ on := 6, ground := Ground.data }, { on := 5, ground := Ground.data }, { on := 0, ground := Ground.chain }, { on := 0, ground := Ground.phase }, { on := 1, ground := Ground.phase }, { on := 2, ground := Ground.phase }, { on := 3, ground := Ground.phase }, { on := 4, ground := Ground.phase }, { on := 5, ground := Ground.phase }, { on := 6, ground := Ground.phase }], guard := none }) rfl (by rfl) (fun K hK => ?_) AllReadyL.nil
        rw [if_pos (by rfl)]
        refine wp_storeRow _ (.tmp 20) (.tmp 79) rfl (l' := ds) rz rfl rfl (by rw [← HDS.out, HLE.out]; exact sizeCk) (by rw [← HDS.out, HLE.out]; rfl) (by rw [← HDS.out]; exact HAL.out _ rfl) ?_
        intro w84 rz84 g84 z84
        have hne : br ≠ b20 := fun e => by subst e; have h1 : w83.heap[br]? = _ := rr; have h2 : w83.heap[br]? = _ := rz; rw [h1] at h2; injection h2 with h2; injection h2 with _ h3 _; cases h3
        have HF := Lib.hid (And.intro rz84 (And.intro (rr.grown g84 (fun e => hne (Option.some.inj e).symm)) ((hv83).grown g84 (hv83).size (fun i hi => by have := Option.some.inj hi; have := HB20.out; omega))))
        clear rz84 g84 z84 rz rr hne
        refine hK.out _ _ ?_
        clear hK K
        try simp only [Act.put, List.setIfInBounds_toArray, List.set_cons_zero, List.set_cons_succ]
        refine wpAnyL_done (by kernel_rfl) ?_ _
        go_wp2_with fail
        go_meet
        have hf := HF.out
        rw [← HDS.out] at hf
        exact ⟨_, b20, br, rfl, rfl, Lib.hid hf.1, Lib.hid hf.2.1, Lib.hid hf.2.2⟩
    · skip
      refine AllReadyL.cons (o := { dst := some 78, op := Op.buildSlice 43 2 #[(0, Operand.tmp 76), (1, Operand.tmp 77)], type := 43, pos := "law.go:28", after := #[{ on := 2, ground := Ground.data }, { on := 3, ground := Ground.data }], guard := none }) rfl (fun K hK => ?_) ?_
      · skip
        rw [if_pos (by rfl)]
        refine wp_buildR2 (.tmp 76) (.tmp 77) rfl 0 2 1 1 rfl rfl ?_
        have b81 : Below w16.drew.heap.size w16.drew (w16.drew.alloc (.cells #[.int .i64 0, .int .i64 2, .int .i64 1, .int .i64 1] 83)) := (Below.refl _ _).alloc (Nat.le_refl _) _
        have rr := IsRow.new w16.drew 83 (rfs Chk.sK.refs)
        rw [show (rfs Chk.sK.refs).toArray = #[.int .i64 0, .int .i64 2, .int .i64 1, .int .i64 1] from rfl] at rr
        obtain ⟨w81, hw81⟩ : ∃ y, w16.drew.alloc (.cells #[.int .i64 0, .int .i64 2, .int .i64 1, .int .i64 1] 83) = y := ⟨_, rfl⟩
        rw [hw81] at b81 rr
        rw [hw81]
        have hbz := (hv0).size
        obtain ⟨br, hbr⟩ : ∃ y, w16.drew.heap.size = y := ⟨_, rfl⟩
        rw [hbr] at rr
        rw [hbr]
        have hv81 : Below w16.heap.size w16 w81 := (hv0).trans (b81.mono (hv0).size)
        try have rz := rz.below' b81
        obtain ⟨ds, hds⟩ : ∃ ds, ckCells Chk.sK (.slice (some ⟨br, 0, none⟩) 2 2) = ds := ⟨_, rfl⟩
        have hbt := built_ck 1 7 2 1 3 D9 HDL.out (.slice (some ⟨br, 0, none⟩) 2 2) ⟨_, _, _, rfl⟩
        rw [← HDD.out] at hbt
        rw [show ([.int .i64 1] ++ (bvs (Chk.dig 9) ++ [.int .u32 7, .int .i64 2, .int .i64 1, .int .i64 3, .bool false, .slice (some ⟨br, 0, none⟩) 2 2]) : List Value) = ds from hds, HDD.out] at hbt
        have HBT := Lib.hid hbt
        have HDS := Lib.hid hds
        have HBRL := Lib.hid (show w16.heap.size ≤ br by rw [← hbr]; exact hbz)
        clear hbt hds hw81 hbr hbz b81
        refine hK.out _ _ (hv81) (fun hHeld => ?_)
        clear hK K
        try simp only [Act.put, List.setIfInBounds_toArray, List.set_cons_zero, List.set_cons_succ]
        refine wpAnyL_ready (rs := [0, 6]) (by kernel_rfl) (by simp) ?_
        refine AllReadyL.cons (o := { dst := some 74, op := Op.call { callee := Callee.value (Operand.func 23), args := #[Operand.const (Value.int IntKind.u8 9)], argTypes := #[5] }, type := 42, pos := "law.go:28", after := #[], guard := none }) rfl (fun K hK => ?_) ?_
        · skip
          go_simp
          refine (HD9.out _).mono ?_
          rintro e w82 ⟨rfl, b82⟩
          have hv82 : Below w16.heap.size w16 w82 := (hv81).trans (b82.mono (hv81).size)
          try have rr := rr.below' b82
          try have rz := rz.below' b82
          clear b82
          refine hK.out _ _ (hv82) (fun hHeld => ?_)
          clear hK K
          try simp only [Act.put, List.setIfInBounds_toArray, List.set_cons_zero, List.set_cons_succ]
          refine wpAnyL_take (i := 5) (oi := { dst := some 79, op := Op.build 45 #[(0, Operand.const (Value.int IntKind.i64 1)), (1, Operand.tmp 74), (2, Operand.const (Value.int IntKind.u32 7)), (3, Operand.tmp 75), (5, Operand.tmp 78)], type := 45, pos := "law.go:28", after := #[{ on := 0, ground := Ground.data }, { on := 1, ground := Ground.data }, { on := 4, ground := Ground.data }], guard := none }) (v := (.agg ds.toArray)) rfl (by kernel_rfl) (by kernel_rfl) (by kernel_rfl) (by kernel_rfl) (fun _ _ _ h => h) (y_build5 rfl 45 0 1 2 3 5 (.const (.int .i64 1)) (.tmp 74) (.const (.int .u32 7)) (.tmp 75) (.tmp 78) rfl (.int .i64 1) (.agg D9.toArray) (.int .u32 7) (.agg #[.int .i64 2, .int .i64 1, .int .i64 3]) (.slice (some ⟨br, 0, none⟩) 2 2) rfl rfl rfl rfl rfl ds.toArray HBT.out) (by assumption) ?_
          try simp only [Act.put, List.setIfInBounds_toArray, List.set_cons_zero, List.set_cons_succ]
          refine wpAnyL_ready (rs := [6]) (by kernel_rfl) (by simp) ?_
          refine AllReadyL.cons (o := { dst := some 20, op := Op.alloc 45, type := 0, pos := "law.go:28", after := #[], guard := none }) rfl (fun K hK => ?_) AllReadyL.nil
          rw [if_pos (by rfl)]
          refine wp_allocRowC _ rfl _ infoCk' ?_
          have b83 : Below w82.heap.size w82 (w82.alloc (.cells zCk.toArray 45)) := (Below.refl _ _).alloc (Nat.le_refl _) _
          have rz := IsRow.new w82 45 zCk
          obtain ⟨w83, hw83⟩ : ∃ y, w82.alloc (.cells zCk.toArray 45) = y := ⟨_, rfl⟩
          rw [hw83] at b83 rz
          rw [hw83]
          have hbz := (hv82).size
          obtain ⟨b20, hb20⟩ : ∃ y, w82.heap.size = y := ⟨_, rfl⟩
          rw [hb20] at rz
          rw [hb20]
          have hv83 : Below w16.heap.size w16 w83 := (hv82).trans (b83.mono (hv82).size)
          try have rr := rr.below' b83
          have HB20 := Lib.hid (show w16.heap.size ≤ b20 by rw [← hb20]; exact hbz)
          clear hw83 hb20 hbz b83
          refine hK.out _ _ (hv83) (fun hHeld => ?_)
          clear hK K
          try simp only [Act.put, List.setIfInBounds_toArray, List.set_cons_zero, List.set_cons_succ]
          refine wpAnyL_ready (rs := [7]) (by kernel_rfl) (by simp) ?_
          refine AllReadyL.late (o := { dst := none, op := Op.store 45 (Operand.tmp 20) (Operand.tmp 79), type := 0, pos := "law.go:28", after := #[{ on := 6, ground := Ground.data }, { on := 5, ground := Ground.data }, { on := 0, ground := Ground.chain }, { on := 0, ground := Ground.phase }, { on := 1, ground := Ground.phase }, { on := 2, ground := Ground.phase }, { on := 3, ground := Ground.phase }, { on := 4, ground := Ground.phase }, { on := 5, ground := Ground.phase }, { on := 6, ground := Ground.phase }], guard := none }) rfl (by rfl) (fun K hK => ?_) AllReadyL.nil
          rw [if_pos (by rfl)]
          refine wp_storeRow _ (.tmp 20) (.tmp 79) rfl (l' := ds) rz rfl rfl (by rw [← HDS.out, HLE.out]; exact sizeCk) (by rw [← HDS.out, HLE.out]; rfl) (by rw [← HDS.out]; exact HAL.out _ rfl) ?_
          intro w84 rz84 g84 z84
          have hne : br ≠ b20 := fun e => by subst e; have h1 : w83.heap[br]? = _ := rr; have h2 : w83.heap[br]? = _ := rz; rw [h1] at h2; injection h2 with h2; injection h2 with _ h3 _; cases h3
          have HF := Lib.hid (And.intro rz84 (And.intro (rr.grown g84 (fun e => hne (Option.some.inj e).symm)) ((hv83).grown g84 (hv83).size (fun i hi => by have := Option.some.inj hi; have := HB20.out; omega))))
          clear rz84 g84 z84 rz rr hne
          refine hK.out _ _ ?_
          clear hK K
          try simp only [Act.put, List.setIfInBounds_toArray, List.set_cons_zero, List.set_cons_succ]
          refine wpAnyL_done (by kernel_rfl) ?_ _
          go_wp2_with fail
          go_meet
          have hf := HF.out
          rw [← HDS.out] at hf
          exact ⟨_, b20, br, rfl, rfl, Lib.hid hf.1, Lib.hid hf.2.1, Lib.hid hf.2.2⟩
        · skip
          refine AllReadyL.cons (o := { dst := some 20, op := Op.alloc 45, type := 0, pos := "law.go:28", after := #[], guard := none }) rfl (fun K hK => ?_) AllReadyL.nil
          rw [if_pos (by rfl)]
          refine wp_allocRowC _ rfl _ infoCk' ?_
          have b82 : Below w81.heap.size w81 (w81.alloc (.cells zCk.toArray 45)) := (Below.refl _ _).alloc (Nat.le_refl _) _
          have rz := IsRow.new w81 45 zCk
          obtain ⟨w82, hw82⟩ : ∃ y, w81.alloc (.cells zCk.toArray 45) = y := ⟨_, rfl⟩
          rw [hw82] at b82 rz
          rw [hw82]
          have hbz := (hv81).size
          obtain ⟨b20, hb20⟩ : ∃ y, w81.heap.size = y := ⟨_, rfl⟩
          rw [hb20] at rz
          rw [hb20]
          have hv82 : Below w16.heap.size w16 w82 := (hv81).trans (b82.mono (hv81).size)
          try have rr := rr.below' b82
          have HB20 := Lib.hid (show w16.heap.size ≤ b20 by rw [← hb20]; exact hbz)
          clear hw82 hb20 hbz b82
          refine hK.out _ _ (hv82) (fun hHeld => ?_)
          clear hK K
          try simp only [Act.put, List.setIfInBounds_toArray, List.set_cons_zero, List.set_cons_succ]
          refine wpAnyL_ready (rs := [0]) (by kernel_rfl) (by simp) ?_
          refine AllReadyL.cons (o := { dst := some 74, op := Op.call { callee := Callee.value (Operand.func 23), args := #[Operand.const (Value.int IntKind.u8 9)], argTypes := #[5] }, type := 42, pos := "law.go:28", after := #[], guard := none }) rfl (fun K hK => ?_) AllReadyL.nil
          go_simp
          refine (HD9.out _).mono ?_
          rintro e w83 ⟨rfl, b83⟩
          have hv83 : Below w16.heap.size w16 w83 := (hv82).trans (b83.mono (hv82).size)
          try have rr := rr.below' b83
          try have rz := rz.below' b83
          clear b83
          refine hK.out _ _ (hv83) (fun hHeld => ?_)
          clear hK K
          try simp only [Act.put, List.setIfInBounds_toArray, List.set_cons_zero, List.set_cons_succ]
          refine wpAnyL_take (i := 5) (oi := { dst := some 79, op := Op.build 45 #[(0, Operand.const (Value.int IntKind.i64 1)), (1, Operand.tmp 74), (2, Operand.const (Value.int IntKind.u32 7)), (3, Operand.tmp 75), (5, Operand.tmp 78)], type := 45, pos := "law.go:28", after := #[{ on := 0, ground := Ground.data }, { on := 1, ground := Ground.data }, { on := 4, ground := Ground.data }], guard := none }) (v := (.agg ds.toArray)) rfl (by kernel_rfl) (by kernel_rfl) (by kernel_rfl) (by kernel_rfl) (fun _ _ _ h => h) (y_build5 rfl 45 0 1 2 3 5 (.const (.int .i64 1)) (.tmp 74) (.const (.int .u32 7)) (.tmp 75) (.tmp 78) rfl (.int .i64 1) (.agg D9.toArray) (.int .u32 7) (.agg #[.int .i64 2, .int .i64 1, .int .i64 3]) (.slice (some ⟨br, 0, none⟩) 2 2) rfl rfl rfl rfl rfl ds.toArray HBT.out) (by assumption) ?_
          try simp only [Act.put, List.setIfInBounds_toArray, List.set_cons_zero, List.set_cons_succ]
          refine wpAnyL_ready (rs := [7]) (by kernel_rfl) (by simp) ?_
          refine AllReadyL.late (o := { dst := none, op := Op.store 45 (Operand.tmp 20) (Operand.tmp 79), type := 0, pos := "law.go:28", after := #[{ on := 6, ground := Ground.data }, { on := 5, ground := Ground.data }, { on := 0, ground := Ground.chain }, { on := 0, ground := Ground.phase }, { on := 1, ground := Ground.phase }, { on := 2, ground := Ground.phase }, { on := 3, ground := Ground.phase }, { on := 4, ground := Ground.phase }, { on := 5, ground := Ground.phase }, { on := 6, ground := Ground.phase }], guard := none }) rfl (by rfl) (fun K hK => ?_) AllReadyL.nil
          rw [if_pos (by rfl)]
          refine wp_storeRow _ (.tmp 20) (.tmp 79) rfl (l' := ds) rz rfl rfl (by rw [← HDS.out, HLE.out]; exact sizeCk) (by rw [← HDS.out, HLE.out]; rfl) (by rw [← HDS.out]; exact HAL.out _ rfl) ?_
          intro w84 rz84 g84 z84
          have hne : br ≠ b20 := fun e => by subst e; have h1 : w83.heap[br]? = _ := rr; have h2 : w83.heap[br]? = _ := rz; rw [h1] at h2; injection h2 with h2; injection h2 with _ h3 _; cases h3
          have HF := Lib.hid (And.intro rz84 (And.intro (rr.grown g84 (fun e => hne (Option.some.inj e).symm)) ((hv83).grown g84 (hv83).size (fun i hi => by have := Option.some.inj hi; have := HB20.out; omega))))
          clear rz84 g84 z84 rz rr hne
          refine hK.out _ _ ?_
          clear hK K
          try simp only [Act.put, List.setIfInBounds_toArray, List.set_cons_zero, List.set_cons_succ]
          refine wpAnyL_done (by kernel_rfl) ?_ _
          go_wp2_with fail
          go_meet
          have hf := HF.out
          rw [← HDS.out] at hf
          exact ⟨_, b20, br, rfl, rfl, Lib.hid hf.1, Lib.hid hf.2.1, Lib.hid hf.2.2⟩
      · skip
        refine AllReadyL.cons (o := { dst := some 20, op := Op.alloc 45, type := 0, pos := "law.go:28", after := #[], guard := none }) rfl (fun K hK => ?_) AllReadyL.nil
        rw [if_pos (by rfl)]
        refine wp_allocRowC _ rfl _ infoCk' ?_
        have b81 : Below w16.drew.heap.size w16.drew (w16.drew.alloc (.cells zCk.toArray 45)) := (Below.refl _ _).alloc (Nat.le_refl _) _
        have rz := IsRow.new w16.drew 45 zCk
        obtain ⟨w81, hw81⟩ : ∃ y, w16.drew.alloc (.cells zCk.toArray 45) = y := ⟨_, rfl⟩
        rw [hw81] at b81 rz
        rw [hw81]
        have hbz := (hv0).size
        obtain ⟨b20, hb20⟩ : ∃ y, w16.drew.heap.size = y := ⟨_, rfl⟩
        rw [hb20] at rz
        rw [hb20]
        have hv81 : Below w16.heap.size w16 w81 := (hv0).trans (b81.mono (hv0).size)
        try have rr := rr.below' b81
        have HB20 := Lib.hid (show w16.heap.size ≤ b20 by rw [← hb20]; exact hbz)
        clear hw81 hb20 hbz b81
        refine hK.out _ _ (hv81) (fun hHeld => ?_)
        clear hK K
        try simp only [Act.put, List.setIfInBounds_toArray, List.set_cons_zero, List.set_cons_succ]
        refine wpAnyL_ready (rs := [0, 4]) (by kernel_rfl) (by simp) ?_
        refine AllReadyL.cons (o := { dst := some 74, op := Op.call { callee := Callee.value (Operand.func 23), args := #[Operand.const (Value.int IntKind.u8 9)], argTypes := #[5] }, type := 42, pos := "law.go:28", after := #[], guard := none }) rfl (fun K hK => ?_) ?_
        · skip
          go_simp
          refine (HD9.out _).mono ?_
          rintro e w82 ⟨rfl, b82⟩
          have hv82 : Below w16.heap.size w16 w82 := (hv81).trans (b82.mono (hv81).size)
          try have rr := rr.below' b82
          try have rz := rz.below' b82
          clear b82
          refine hK.out _ _ (hv82) (fun hHeld => ?_)
          clear hK K
          try simp only [Act.put, List.setIfInBounds_toArray, List.set_cons_zero, List.set_cons_succ]
          refine wpAnyL_ready (rs := [4]) (by kernel_rfl) (by simp) ?_
          refine AllReadyL.cons (o := { dst := some 78, op := Op.buildSlice 43 2 #[(0, Operand.tmp 76), (1, Operand.tmp 77)], type := 43, pos := "law.go:28", after := #[{ on := 2, ground := Ground.data }, { on := 3, ground := Ground.data }], guard := none }) rfl (fun K hK => ?_) AllReadyL.nil
          rw [if_pos (by rfl)]
          refine wp_buildR2 (.tmp 76) (.tmp 77) rfl 0 2 1 1 rfl rfl ?_
          have b83 : Below w82.heap.size w82 (w82.alloc (.cells #[.int .i64 0, .int .i64 2, .int .i64 1, .int .i64 1] 83)) := (Below.refl _ _).alloc (Nat.le_refl _) _
          have rr := IsRow.new w82 83 (rfs Chk.sK.refs)
          rw [show (rfs Chk.sK.refs).toArray = #[.int .i64 0, .int .i64 2, .int .i64 1, .int .i64 1] from rfl] at rr
          obtain ⟨w83, hw83⟩ : ∃ y, w82.alloc (.cells #[.int .i64 0, .int .i64 2, .int .i64 1, .int .i64 1] 83) = y := ⟨_, rfl⟩
          rw [hw83] at b83 rr
          rw [hw83]
          have hbz := (hv82).size
          obtain ⟨br, hbr⟩ : ∃ y, w82.heap.size = y := ⟨_, rfl⟩
          rw [hbr] at rr
          rw [hbr]
          have hv83 : Below w16.heap.size w16 w83 := (hv82).trans (b83.mono (hv82).size)
          try have rz := rz.below' b83
          obtain ⟨ds, hds⟩ : ∃ ds, ckCells Chk.sK (.slice (some ⟨br, 0, none⟩) 2 2) = ds := ⟨_, rfl⟩
          have hbt := built_ck 1 7 2 1 3 D9 HDL.out (.slice (some ⟨br, 0, none⟩) 2 2) ⟨_, _, _, rfl⟩
          rw [← HDD.out] at hbt
          rw [show ([.int .i64 1] ++ (bvs (Chk.dig 9) ++ [.int .u32 7, .int .i64 2, .int .i64 1, .int .i64 3, .bool false, .slice (some ⟨br, 0, none⟩) 2 2]) : List Value) = ds from hds, HDD.out] at hbt
          have HBT := Lib.hid hbt
          have HDS := Lib.hid hds
          have HBRL := Lib.hid (show w16.heap.size ≤ br by rw [← hbr]; exact hbz)
          clear hbt hds hw83 hbr hbz b83
          refine hK.out _ _ (hv83) (fun hHeld => ?_)
          clear hK K
          try simp only [Act.put, List.setIfInBounds_toArray, List.set_cons_zero, List.set_cons_succ]
          refine wpAnyL_take (i := 5) (oi := { dst := some 79, op := Op.build 45 #[(0, Operand.const (Value.int IntKind.i64 1)), (1, Operand.tmp 74), (2, Operand.const (Value.int IntKind.u32 7)), (3, Operand.tmp 75), (5, Operand.tmp 78)], type := 45, pos := "law.go:28", after := #[{ on := 0, ground := Ground.data }, { on := 1, ground := Ground.data }, { on := 4, ground := Ground.data }], guard := none }) (v := (.agg ds.toArray)) rfl (by kernel_rfl) (by kernel_rfl) (by kernel_rfl) (by kernel_rfl) (fun _ _ _ h => h) (y_build5 rfl 45 0 1 2 3 5 (.const (.int .i64 1)) (.tmp 74) (.const (.int .u32 7)) (.tmp 75) (.tmp 78) rfl (.int .i64 1) (.agg D9.toArray) (.int .u32 7) (.agg #[.int .i64 2, .int .i64 1, .int .i64 3]) (.slice (some ⟨br, 0, none⟩) 2 2) rfl rfl rfl rfl rfl ds.toArray HBT.out) (by assumption) ?_
          try simp only [Act.put, List.setIfInBounds_toArray, List.set_cons_zero, List.set_cons_succ]
          refine wpAnyL_ready (rs := [7]) (by kernel_rfl) (by simp) ?_
          refine AllReadyL.late (o := { dst := none, op := Op.store 45 (Operand.tmp 20) (Operand.tmp 79), type := 0, pos := "law.go:28", after := #[{ on := 6, ground := Ground.data }, { on := 5, ground := Ground.data }, { on := 0, ground := Ground.chain }, { on := 0, ground := Ground.phase }, { on := 1, ground := Ground.phase }, { on := 2, ground := Ground.phase }, { on := 3, ground := Ground.phase }, { on := 4, ground := Ground.phase }, { on := 5, ground := Ground.phase }, { on := 6, ground := Ground.phase }], guard := none }) rfl (by rfl) (fun K hK => ?_) AllReadyL.nil
          rw [if_pos (by rfl)]
          refine wp_storeRow _ (.tmp 20) (.tmp 79) rfl (l' := ds) rz rfl rfl (by rw [← HDS.out, HLE.out]; exact sizeCk) (by rw [← HDS.out, HLE.out]; rfl) (by rw [← HDS.out]; exact HAL.out _ rfl) ?_
          intro w84 rz84 g84 z84
          have hne : br ≠ b20 := fun e => by subst e; have h1 : w83.heap[br]? = _ := rr; have h2 : w83.heap[br]? = _ := rz; rw [h1] at h2; injection h2 with h2; injection h2 with _ h3 _; cases h3
          have HF := Lib.hid (And.intro rz84 (And.intro (rr.grown g84 (fun e => hne (Option.some.inj e).symm)) ((hv83).grown g84 (hv83).size (fun i hi => by have := Option.some.inj hi; have := HB20.out; omega))))
          clear rz84 g84 z84 rz rr hne
          refine hK.out _ _ ?_
          clear hK K
          try simp only [Act.put, List.setIfInBounds_toArray, List.set_cons_zero, List.set_cons_succ]
          refine wpAnyL_done (by kernel_rfl) ?_ _
          go_wp2_with fail
          go_meet
          have hf := HF.out
          rw [← HDS.out] at hf
          exact ⟨_, b20, br, rfl, rfl, Lib.hid hf.1, Lib.hid hf.2.1, Lib.hid hf.2.2⟩
        · skip
          refine AllReadyL.cons (o := { dst := some 78, op := Op.buildSlice 43 2 #[(0, Operand.tmp 76), (1, Operand.tmp 77)], type := 43, pos := "law.go:28", after := #[{ on := 2, ground := Ground.data }, { on := 3, ground := Ground.data }], guard := none }) rfl (fun K hK => ?_) AllReadyL.nil
          rw [if_pos (by rfl)]
          refine wp_buildR2 (.tmp 76) (.tmp 77) rfl 0 2 1 1 rfl rfl ?_
          have b82 : Below w81.heap.size w81 (w81.alloc (.cells #[.int .i64 0, .int .i64 2, .int .i64 1, .int .i64 1] 83)) := (Below.refl _ _).alloc (Nat.le_refl _) _
          have rr := IsRow.new w81 83 (rfs Chk.sK.refs)
          rw [show (rfs Chk.sK.refs).toArray = #[.int .i64 0, .int .i64 2, .int .i64 1, .int .i64 1] from rfl] at rr
          obtain ⟨w82, hw82⟩ : ∃ y, w81.alloc (.cells #[.int .i64 0, .int .i64 2, .int .i64 1, .int .i64 1] 83) = y := ⟨_, rfl⟩
          rw [hw82] at b82 rr
          rw [hw82]
          have hbz := (hv81).size
          obtain ⟨br, hbr⟩ : ∃ y, w81.heap.size = y := ⟨_, rfl⟩
          rw [hbr] at rr
          rw [hbr]
          have hv82 : Below w16.heap.size w16 w82 := (hv81).trans (b82.mono (hv81).size)
          try have rz := rz.below' b82
          obtain ⟨ds, hds⟩ : ∃ ds, ckCells Chk.sK (.slice (some ⟨br, 0, none⟩) 2 2) = ds := ⟨_, rfl⟩
          have hbt := built_ck 1 7 2 1 3 D9 HDL.out (.slice (some ⟨br, 0, none⟩) 2 2) ⟨_, _, _, rfl⟩
          rw [← HDD.out] at hbt
          rw [show ([.int .i64 1] ++ (bvs (Chk.dig 9) ++ [.int .u32 7, .int .i64 2, .int .i64 1, .int .i64 3, .bool false, .slice (some ⟨br, 0, none⟩) 2 2]) : List Value) = ds from hds, HDD.out] at hbt
          have HBT := Lib.hid hbt
          have HDS := Lib.hid hds
          have HBRL := Lib.hid (show w16.heap.size ≤ br by rw [← hbr]; exact hbz)
          clear hbt hds hw82 hbr hbz b82
          refine hK.out _ _ (hv82) (fun hHeld => ?_)
          clear hK K
          try simp only [Act.put, List.setIfInBounds_toArray, List.set_cons_zero, List.set_cons_succ]
          refine wpAnyL_ready (rs := [0]) (by kernel_rfl) (by simp) ?_
          refine AllReadyL.cons (o := { dst := some 74, op := Op.call { callee := Callee.value (Operand.func 23), args := #[Operand.const (Value.int IntKind.u8 9)], argTypes := #[5] }, type := 42, pos := "law.go:28", after := #[], guard := none }) rfl (fun K hK => ?_) AllReadyL.nil
          go_simp
          refine (HD9.out _).mono ?_
          rintro e w83 ⟨rfl, b83⟩
          have hv83 : Below w16.heap.size w16 w83 := (hv82).trans (b83.mono (hv82).size)
          try have rr := rr.below' b83
          try have rz := rz.below' b83
          clear b83
          refine hK.out _ _ (hv83) (fun hHeld => ?_)
          clear hK K
          try simp only [Act.put, List.setIfInBounds_toArray, List.set_cons_zero, List.set_cons_succ]
          refine wpAnyL_take (i := 5) (oi := { dst := some 79, op := Op.build 45 #[(0, Operand.const (Value.int IntKind.i64 1)), (1, Operand.tmp 74), (2, Operand.const (Value.int IntKind.u32 7)), (3, Operand.tmp 75), (5, Operand.tmp 78)], type := 45, pos := "law.go:28", after := #[{ on := 0, ground := Ground.data }, { on := 1, ground := Ground.data }, { on := 4, ground := Ground.data }], guard := none }) (v := (.agg ds.toArray)) rfl (by kernel_rfl) (by kernel_rfl) (by kernel_rfl) (by kernel_rfl) (fun _ _ _ h => h) (y_build5 rfl 45 0 1 2 3 5 (.const (.int .i64 1)) (.tmp 74) (.const (.int .u32 7)) (.tmp 75) (.tmp 78) rfl (.int .i64 1) (.agg D9.toArray) (.int .u32 7) (.agg #[.int .i64 2, .int .i64 1, .int .i64 3]) (.slice (some ⟨br, 0, none⟩) 2 2) rfl rfl rfl rfl rfl ds.toArray HBT.out) (by assumption) ?_
          try simp only [Act.put, List.setIfInBounds_toArray, List.set_cons_zero, List.set_cons_succ]
          refine wpAnyL_ready (rs := [7]) (by kernel_rfl) (by simp) ?_
          refine AllReadyL.late (o := { dst := none, op := Op.store 45 (Operand.tmp 20) (Operand.tmp 79), type := 0, pos := "law.go:28", after := #[{ on := 6, ground := Ground.data }, { on := 5, ground := Ground.data }, { on := 0, ground := Ground.chain }, { on := 0, ground := Ground.phase }, { on := 1, ground := Ground.phase }, { on := 2, ground := Ground.phase }, { on := 3, ground := Ground.phase }, { on := 4, ground := Ground.phase }, { on := 5, ground := Ground.phase }, { on := 6, ground := Ground.phase }], guard := none }) rfl (by rfl) (fun K hK => ?_) AllReadyL.nil
          rw [if_pos (by rfl)]
          refine wp_storeRow _ (.tmp 20) (.tmp 79) rfl (l' := ds) rz rfl rfl (by rw [← HDS.out, HLE.out]; exact sizeCk) (by rw [← HDS.out, HLE.out]; rfl) (by rw [← HDS.out]; exact HAL.out _ rfl) ?_
          intro w84 rz84 g84 z84
          have hne : br ≠ b20 := fun e => by subst e; have h1 : w83.heap[br]? = _ := rr; have h2 : w83.heap[br]? = _ := rz; rw [h1] at h2; injection h2 with h2; injection h2 with _ h3 _; cases h3
          have HF := Lib.hid (And.intro rz84 (And.intro (rr.grown g84 (fun e => hne (Option.some.inj e).symm)) ((hv83).grown g84 (hv83).size (fun i hi => by have := Option.some.inj hi; have := HB20.out; omega))))
          clear rz84 g84 z84 rz rr hne
          refine hK.out _ _ ?_
          clear hK K
          try simp only [Act.put, List.setIfInBounds_toArray, List.set_cons_zero, List.set_cons_succ]
          refine wpAnyL_done (by kernel_rfl) ?_ _
          go_wp2_with fail
          go_meet
          have hf := HF.out
          rw [← HDS.out] at hf
          exact ⟨_, b20, br, rfl, rfl, Lib.hid hf.1, Lib.hid hf.2.1, Lib.hid hf.2.2⟩
  case rest => as_aux_lemma =>
    obtain ⟨wv, b20, br, rfl, rfl, HV20, HVR, HBV⟩ := hcut
    obtain ⟨ds, hds⟩ : ∃ ds, ckCells Chk.sK (.slice (some ⟨br, 0, none⟩) 2 2) = ds := ⟨_, rfl⟩
    rw [hds] at HV20
    have HDS := Lib.hid hds
    have HR17 := Lib.hid (HR16.out.below' HBV.out)
    have HR : Hid (wv.rangeAt b8 0 cs ∧ wv.rangeAt b20 0 ds) := Lib.hid ⟨fun q u hu => by rw [Nat.zero_add, HR17.out.cell]; exact hu, fun q u hu => by rw [Nat.zero_add, HV20.out.cell]; exact hu⟩
    have HT17 := Lib.hid (HT16.out.below HBV.out)
    have hsa := sameCk_eq Chk.sK rfl 2 rfl (by omega) (some ⟨g6, 0, none⟩) (some ⟨br, 0, none⟩) k6 2 wv (Rd.of_own (own_below HO16.out HBV.out)) (HVR.out.rd rfl HVR.out.lt)
    have HSA : Hid (Calls Try.prog 18 #[.agg cs.toArray, .agg ds.toArray] wv fun e w' => e = .returned (.bool true) ∧ Below wv.heap.size wv w') := Lib.hid (by rw [hds, HCS.out] at hsa; exact hsa)
    have HS1 := Lib.hid (fun (W : World) (hW : Below wv.heap.size wv W) (vb : Nat) (hv : IsRow W vb 3 [.int .i64 1]) => same_eq (some ⟨g10, 0, none⟩) (some ⟨vb, 0, none⟩) c10 1 1 [1] rfl (by omega) W W.heap.size W.heap.size (Rd.of_own (own_below (own_below HL16.out HBV.out) hW)) (hv.rd rfl hv.lt))
    have HS2 := Lib.hid (fun (W : World) (hW : Below wv.heap.size wv W) (vb : Nat) (hv : IsRow W vb 3 [.int .i64 1]) => same_eq (some ⟨g14, 0, none⟩) (some ⟨vb, 0, none⟩) c14 1 1 [1] rfl (by omega) W W.heap.size W.heap.size (Rd.of_own (own_below (own_below HZ16.out HBV.out) hW)) (hv.rd rfl hv.lt))
    have HLN := Lib.hid (fun (W : World) (hW : Below wv.heap.size wv W) => (HT17.out.below hW).len_ 0 rfl)
    have HEN := Lib.hid (fun (W : World) (hW : Below wv.heap.size wv W) => (HT17.out.below hW).encode_ (Wire.enc 0) (by unfold Chk.encT; rfl))
    have HE1 := Lib.hid (show (Wire.enc 0).length = 1 from rfl)
    obtain ⟨E0, hE0⟩ : ∃ E0, Wire.enc 0 = E0 := ⟨_, rfl⟩
    rw [hE0] at HEN HE1
    clear hds hsa hE0
    have HSZ : Hid ((Try.prog.info? 45).map (·.size) = some cs.length ∧ (Try.prog.info? 45).map (·.size) = some ds.length) := Lib.hid ⟨by rw [← HCS.out, HLE.out]; exact sizeCk, by rw [← HDS.out, HLE.out]; exact sizeCk⟩
    go_upto_region 17 with fail
    simp only [List.append]
    go_wp2_with (first
      | (refine wpList_load_midG (by rfl) _ (.tmp 8) rfl b8 0 rfl cs _ (HR.out.1) Try.underlying45 rfl HSZ.out.1 ?_)
      | (refine wpList_load_midG (by rfl) _ (.tmp 20) rfl b20 0 rfl ds _ (HR.out.2) Try.underlying45 rfl HSZ.out.2 ?_)
      | (go_at_call 18; refine HSA.out.mono ?_; rintro e w30 ⟨rfl, b30⟩)
      | (go_at_call 19; (have q32 := b31.alloc b31.size (.cells #[.int .i64 1] 3)); refine (HS2.out _ q32 _ (IsRow.new _ 3 [.int .i64 1])).mono ?_; rintro e w32 ⟨rfl, b32'⟩; (have b32 := q32.trans (b32'.mono q32.size)); clear b32' q32)
      | (go_at_call 19; (have q31 := b30.alloc b30.size (.cells #[.int .i64 1] 3)); refine (HS1.out _ q31 _ (IsRow.new _ 3 [.int .i64 1])).mono ?_; rintro e w31 ⟨rfl, b31'⟩; (have b31 := q31.trans (b31'.mono q31.size)); clear b31' q31)
      | (go_at_call 34; refine (HLN.out _ b32).mono ?_; rintro e w33 ⟨rfl, hw33⟩; obtain rfl := hw33.symm)
      | (go_at_call 36; refine (HEN.out _ b32).mono ?_; rintro e w34 ⟨A34, c34, rfl, own34, b34⟩; rw [HE1.out]; clear own34))
    go_ret
    exact ⟨rfl, HB16.out.trans ((HBV.out.trans ((b32.trans (b34.mono b32.size)).mono HBV.out.size)).mono HB16.out.size)⟩
end Go.Proofs.Ytcicfneekmbamaa
