/- Joined texts: BilR7, BilR8, BilR9. Conditions: as each part says. -/
import Derived.Test.YtkjomnakolhdcaaDoorHeld2
import Derived.Test.YtkjomnakolhdcaaDoorBilRA
namespace Go.Proofs.YtkjomnakolhdcaaDoor
set_option linter.unusedVariables false
set_option linter.unusedSimpArgs false
/-! The reference of layer 35: New. Conditions: the tables of the digest are in memory. -/
section
open Go.RowKit
abbrev oRB0 : Oper := { dst := some 16, op := Op.move (Operand.tmp 0), type := 3, pos := "ref.go:27", after := #[], guard := none }
abbrev oRB1 : Oper := { dst := some 17, op := Op.load 66 (Operand.tmp 4), type := 66, pos := "ref.go:27", after := #[], guard := none }
abbrev oRB2 : Oper := { dst := some 18, op := Op.move (Operand.tmp 0), type := 3, pos := "ref.go:27", after := #[], guard := none }
abbrev oRB3 : Oper := { dst := some 20, op := Op.move (Operand.tmp 0), type := 3, pos := "ref.go:27", after := #[], guard := none }
abbrev oRB4 : Oper := { dst := some 19, op := Op.makeSlice 29 (Operand.tmp 18) (Operand.tmp 18), type := 29, pos := "ref.go:27", after := #[{ on := 2, ground := Ground.data }, { on := 2, ground := Ground.data }], guard := none }
abbrev oRB5 : Oper := { dst := some 21, op := Op.makeSlice 29 (Operand.tmp 20) (Operand.tmp 20), type := 29, pos := "ref.go:27", after := #[{ on := 4, ground := Ground.data }, { on := 4, ground := Ground.data }], guard := none }
abbrev oRB6 : Oper := { dst := some 22, op := Op.build 76 #[(0, Operand.tmp 16), (2, Operand.tmp 17), (3, Operand.tmp 19), (4, Operand.tmp 21)], type := 76, pos := "ref.go:27", after := #[{ on := 0, ground := Ground.data }, { on := 1, ground := Ground.data }, { on := 3, ground := Ground.data }, { on := 5, ground := Ground.data }], guard := none }
abbrev oRB7 : Oper := { dst := some 23, op := Op.box 76 (Operand.tmp 22), type := 40, pos := "ref.go:27", after := #[{ on := 6, ground := Ground.data }], guard := none }
abbrev oRB8 : Oper := { dst := some 2, op := Op.assign (Operand.tmp 23), type := 40, pos := "ref.go:27", after := #[{ on := 7, ground := Ground.data }, { on := 0, ground := Ground.phase }, { on := 1, ground := Ground.phase }, { on := 2, ground := Ground.phase }, { on := 3, ground := Ground.phase }, { on := 4, ground := Ground.phase }, { on := 5, ground := Ground.phase }, { on := 6, ground := Ground.phase }, { on := 7, ground := Ground.phase }], guard := none }
abbrev oRB9 : Oper := { dst := some 3, op := Op.assign (Operand.const (Value.int IntKind.i64 0)), type := 26, pos := "ref.go:27", after := #[{ on := 8, ground := Ground.chain }, { on := 0, ground := Ground.phase }, { on := 1, ground := Ground.phase }, { on := 2, ground := Ground.phase }, { on := 3, ground := Ground.phase }, { on := 4, ground := Ground.phase }, { on := 5, ground := Ground.phase }, { on := 6, ground := Ground.phase }, { on := 7, ground := Ground.phase }, { on := 8, ground := Ground.phase }], guard := none }
theorem built_rlg (n : Int) (A1 A2 : Option Addr) (k c1 c2 : Nat) (hd : List UInt8) (h : hd.length = 16) : Tryd.prog.built 76 [(0, .int .i64 n), (2, dv hd), (3, .slice A1 k c1), (4, .slice A2 k c2)] = some (([.int .i64 n, .int .i64 0] : List Value) ++ bvs hd ++ ([.slice A1 k c1, .slice A2 k c2, .slice none 0 0, .slice none 0 0] : List Value)).toArray := by
 have hc : (bvs hd).length = 16 := by rw [bvs_len, h]
 show Tryd.prog.built 76 [(0, .int .i64 n), (2, .agg (bvs hd).toArray), (3, .slice A1 k c1), (4, .slice A2 k c2)] = _
 obtain ⟨a0, a1, a2, a3, a4, a5, a6, a7, a8, a9, a10, a11, a12, a13, a14, a15, e⟩ := list16 (bvs hd) hc
 rw [e]
 kernel_rfl
theorem wp_boxRow {P : Program} {w : World} {o : Oper} {a : Act} {K : Act → World → Prop} {Q : Exit → Act → World → Prop} (t : TypeId) (x : Operand) (ho : o.op = .box t x) (l : List Value) (hx : a.eval x = .agg l.toArray) (h : K (a.put o.dst (.pointer (some ⟨w.heap.size, 0, none⟩))) (w.alloc (.cells l.toArray t))) : o.wp P a w K Q := by
 unfold Oper.wp execOp
 simp only [ho, hx]
 simpa [Instr.box, go_sem] using h
theorem y_build4 {ops : Array Oper} {S : World → Prop} {o : Oper} {a : Act} (hw : Region.wanted o (yielded ops a.tmps) = true) (t : TypeId) (i j k q : Nat) (x y z r : Operand) (ho : o.op = .build t #[(i, x), (j, y), (k, z), (q, r)]) (u v s p : Value) (hx : a.eval x = u) (hy : a.eval y = v) (hz : a.eval z = s) (hq : a.eval r = p) (cells : Array Value)
  (hf : Tryd.prog.built t [(i, u), (j, v), (k, s), (q, p)] = some cells) : YieldsIf Tryd.prog ops S o (.agg cells) a := by
 subst hx hy hz hq
 refine .inl ⟨hw, fun W _ => ?_⟩
 have hr := run_build (P := Tryd.prog) W t #[(i, a.eval x), (j, a.eval y), (k, a.eval z), (q, a.eval r)] cells hf
 unfold execOp
 simp only [ho, List.map_toArray, List.map_cons, List.map_nil, Sem.run_bind, Sem.run_pure, Result.andThen_ok, hr]
def RNewOk (w : World) (n : Nat) (e : Ending) (w' : World) : Prop := ∃ bl col m, e = .returned (.tuple #[.pointer (some ⟨bl, 0, none⟩), .int .i64 0]) ∧ RAt w' bl col m (Bil.newOf n (newHead n)) ∧ (∀ b, col b ≠ 0 → w.heap.size ≤ b) ∧ Below w.heap.size w w'
theorem rat_new {w' : World} {B g11 g13 bl n : Nat} {hd : List UInt8} (hB1 : B ≤ g11) (hB2 : B ≤ g13) (hne : g11 ≠ g13) (h1 : 1 ≤ n) (h2 : n ≤ 16) (r1 : FRow w' g11 n (fun _ => 0)) (r2 : FRow w' g13 n (fun _ => 0)) (hd16 : hd.length = 16) (hbl : B ≤ bl) (hl1 : g11 < bl) (hl2 : g13 < bl)
  (hr : IsRow w' bl 76 (([.int .i64 (n : Int), .int .i64 0] : List Value) ++ bvs hd ++ ([.slice (some ⟨g11, 0, none⟩) n n, .slice (some ⟨g13, 0, none⟩) n n, .slice none 0 0, .slice none 0 0] : List Value))) (ht1 : 2 < B) (ht2 : 0 < B) (ht3 : 1 < B) :
  ∃ col m, RAt w' bl col m (Bil.newOf n hd) ∧ ∀ b, col b ≠ 0 → B ≤ b := by
 refine ⟨fun b => if b = bl then 1 else if b = g11 then 2 else if b = g13 then 3 else 0, ⟨none, 0, none, 0, [], g11, n, g13, n⟩, ⟨hr, hd16, h1, h2, by show (0 : Nat) ≤ 65536; omega, by simp, ?_, ?_, by simp [Bil.newOf], by simp [Bil.newOf], rfl, ORow.nil _ _ _, ORow.nil _ _ _, by simp, by simp, ?_, ?_, by simp, by simp, ?_, ?_⟩, ?_⟩
 ·
  exact r1.congr fun t ht => Bil.rep_zero n t
 ·
  exact r2.congr fun t ht => Bil.rep_zero n t
 ·
  simp [show g11 ≠ bl by omega]
 ·
  simp [show g13 ≠ bl by omega, hne.symm]
 ·
  intro k hk
  split at hk
  ·
   subst k; exact hr.lt
  ·
   split at hk
   ·
    subst k; exact r1.lt
   ·
    split at hk
    ·
     subst k; exact r2.lt
    ·
     exact absurd rfl hk
 ·
  refine ⟨?_, ?_, ?_⟩ <;> (rw [if_neg (by omega), if_neg (by omega), if_neg (by omega)])
 ·
  intro b hb
  dsimp only at hb
  split at hb
  ·
   omega
  ·
   split at hb
   ·
    omega
   ·
    split at hb
    ·
     omega
    ·
     exact absurd rfl hb
set_option maxRecDepth 100000 in
set_option maxHeartbeats 1600000 in
theorem rNew_bad (n : Int) (h : ¬ (1 ≤ n ∧ n ≤ 16)) (w : World) : Calls Tryd.prog 16 #[.int .i64 n] w fun e w' => e = .returned (.tuple #[.pointer none, .int .i64 1]) ∧ w' = w := by
 by_cases h1 : n < 1
 ·
  go_enter Tryd.func16, Tryd.ntmps16
  go_wp2_with fail
  exact bodyPost_ret (results_tmp2 rfl _ _ _) rfl ⟨rfl, rfl⟩
 ·
  have h2 : 16 < n := by omega
  clear h
  go_enter Tryd.func16, Tryd.ntmps16
  go_wp2_with fail
  exact bodyPost_ret (results_tmp2 rfl _ _ _) rfl ⟨rfl, rfl⟩
set_option maxRecDepth 100000 in
set_option maxHeartbeats 3200000 in
theorem rNew_any (n : Nat) (h1 : 1 ≤ n) (h2 : n ≤ 16) (w : World) (hT : Tabs w) (hR : RTab w) : Calls Tryd.prog 16 #[.int .i64 n] w (RNewOk w n) := by
 obtain ⟨M, hM, hmk⟩ := mkInts n (by omega)
 have HM := Lib.hid hM
 have hin := input1_le (n : Int)
 obtain ⟨hd, hhd⟩ : ∃ x, newHead (n : Int) = x := ⟨_, rfl⟩
 have hd16 : hd.length = 16 := by rw [← hhd]; exact Mk.short_len _
 have HD := Lib.hid hd16
 have HHD := Lib.hid hhd
 have HOF := Lib.hid (show ∀ (W : World), Below w.heap.size w W → Calls Tryd.prog 34 #[.int .i64 6, .slice (some ⟨W.heap.size, 0, none⟩) 1 1] (W.alloc (.cells #[.string ⟨(Wire.enc (n : Int)).toArray⟩] 9)) fun e w' => e = .returned (dv hd) ∧ Below (W.alloc (.cells #[.string ⟨(Wire.enc (n : Int)).toArray⟩] 9)).heap.size (W.alloc (.cells #[.string ⟨(Wire.enc (n : Int)).toArray⟩] 9)) w' from fun W hW => by
  have := refOf_any 6 (some ⟨W.heap.size, 0, none⟩) 1 1 [⟨(Wire.enc (n : Int)).toArray⟩] rfl (W.heap.size + 1) (W.alloc (.cells #[.string ⟨(Wire.enc (n : Int)).toArray⟩] 9)) (Rd.new W (svs [⟨(Wire.enc (n : Int)).toArray⟩]) 9 1 (size := 1) rfl) (by rw [alloc_size1]; exact Nat.le_refl _) (by omega) ((hR.below hW).below ((Below.refl _ _).alloc (Nat.le_refl _) _))
  rwa [show Mk.of 6 [⟨(Wire.enc (n : Int)).toArray⟩] = hd from hhd] at this)
 have HTT := Lib.hid (And.intro hT.k.lt (And.intro hT.s.lt hR.r.lt))
 have HN := Lib.hid (And.intro h1 h2)
 have i1 : ¬ ((n : Int) < 1) := by omega
 have i2 : ¬ (16 < (n : Int)) := by omega
 have HI : Hid (-9223372036854775808 ≤ (n : Int) ∧ (n : Int) ≤ 9223372036854775807) := Lib.hid (by omega)
 clear hM hin hhd hd16 hT hR h1 h2
 go_enter Tryd.func16, Tryd.ntmps16
 go_upto_region 4 with (first
  | (go_at_call 35; refine (refInt_any (n : Int) HI.out.1 HI.out.2 _).mono ?_; rintro e w1 ⟨A1, c1, rfl, own1, b1⟩; have hcc := run_toS w1 58 9 5 Tryd.underlying58 Tryd.underlying5 Tryd.underlying9 A1 _ c1 _ _ (Rd.of_own own1); clear own1)
  | (go_at_call 34; refine (HOF.out w1 b1).mono ?_; rintro e w2 ⟨rfl, b2⟩; have HB2 := Lib.hid ((b1.alloc b1.size _).trans (b2.mono (by rw [alloc_size1]; have := b1.size; omega))); clear b2 hcc)
  | (refine wpList_allocRow rfl _ rfl _ info16 ?_; intro w3 r3 b3 z3)
  | (refine wpList_storeRow rfl _ (.tmp 4) (.tmp 15) rfl r3 rfl rfl (by rw [bvs_len, HD.out]; exact size16) (by rw [bvs_len, HD.out, List.length_replicate]) (bvs_all _) ?_; intro w4 r4 g4 z4))
 have hb3 := HB2.out.trans (b3.mono HB2.out.size)
 have hb4 : Below w.heap.size w w4 := hb3.grown g4 hb3.size (by intro j hj; have hj := Option.some.inj hj; have := HB2.out.size; omega)
 have HB4 := Lib.hid hb4
 obtain ⟨b4, hb4'⟩ : ∃ x, w2.heap.size = x := ⟨_, rfl⟩
 rw [hb4'] at r4 ⊢
 have HR4 := Lib.hid r4
 clear hb3 hb4 hb4' r3 r4 b1 b3 g4 z3 z4
 go_wp2_with fail
 have hv0 : Below w4.heap.size w4 w4.drew := (Below.refl _ _).drew
 refine wp_region_held_drew (S := fun W => Below w4.heap.size w4 W) (by kernel_rfl) (hv0) (fun hHeld => ?_)
 obtain ⟨wd, hwd⟩ : ∃ x, w4.drew = x := ⟨_, rfl⟩
 rw [hwd] at hv0 hHeld ⊢
 clear hwd
 refine tkH 0 oRB0 ?v0_1 (.inl ⟨by rfl, ?h0_1⟩) ?r0_1
 case h0_1 =>
  intro W hSW
  unfold oRB0
  try dsimp only at hSW
  go_simp
  try with_reducible rfl
 try simp only [oRB0, PT]
 refine tkH 1 oRB1 _ (yi_row rfl _ (.tmp 4) rfl rfl (fun W hW => HR4.out.below' hW) Tryd.underlying66 (by rw [bvs_len, HD.out]; exact size16)) ?_
 try simp only [oRB1, PT]
 refine tkH 2 oRB2 ?v2_3 (.inl ⟨by rfl, ?h2_3⟩) ?r2_3
 case h2_3 =>
  intro W hSW
  unfold oRB2
  try dsimp only at hSW
  go_simp
  try with_reducible rfl
 try simp only [oRB2, PT]
 refine tkH 4 oRB3 ?v4_4 (.inl ⟨by rfl, ?h4_4⟩) ?r4_4
 case h4_4 =>
  intro W hSW
  unfold oRB3
  try dsimp only at hSW
  go_simp
  try with_reducible rfl
 try simp only [oRB3, PT]
 refine rdyH [3, 5] ?_
 refine AllReadyH.cons (o := oRB4) rfl (fun K hK => ?_) ?_
 ·
  skip
  unfold oRB4
  go_simp
  obtain ⟨g11, hg11⟩ : ∃ x, wd.heap.size = x := ⟨_, rfl⟩
  obtain ⟨w40, hw40⟩ : ∃ x, wd.alloc (.cells M 3) = x := ⟨_, rfl⟩
  rw [hw40, hg11]
  obtain ⟨r11, z40, b40⟩ := new_ints hw40 HM.out
  rw [hg11] at r11
  have hv40 : Below w4.heap.size w4 w40 := hv0.trans (b40.mono hv0.size)
  have l11 : Hid (w4.heap.size ≤ g11) := Lib.hid (by rw [← hg11]; exact hv0.size)
  try have HNE : Hid (g11 ≠ g13) := Lib.hid (Nat.ne_of_gt (show g13 < g11 from hg11 ▸ r13.lt))
  try have r13 := r13.below b40
  clear hw40 b40 z40 hg11
  refine hK.out _ _ (hv40) (fun hHeld => ?_)
  clear hK K
  try simp only [PT]
  refine rdyH [5] ?_
  refine AllReadyH.cons (o := oRB5) rfl (fun K hK => ?_) AllReadyH.nil
  unfold oRB5
  go_simp
  obtain ⟨g13, hg13⟩ : ∃ x, w40.heap.size = x := ⟨_, rfl⟩
  obtain ⟨w41, hw41⟩ : ∃ x, w40.alloc (.cells M 3) = x := ⟨_, rfl⟩
  rw [hw41, hg13]
  obtain ⟨r13, z41, b41⟩ := new_ints hw41 HM.out
  rw [hg13] at r13
  have hv41 : Below w4.heap.size w4 w41 := hv40.trans (b41.mono hv40.size)
  have l13 : Hid (w4.heap.size ≤ g13) := Lib.hid (by rw [← hg13]; exact hv40.size)
  try have HNE : Hid (g11 ≠ g13) := Lib.hid (Nat.ne_of_lt (show g11 < g13 from hg13 ▸ r11.lt))
  try have r11 := r11.below b41
  clear hw41 b41 z41 hg13
  refine hK.out _ _ (hv41) (fun hHeld => ?_)
  clear hK K
  try simp only [PT]
  refine tkH 6 oRB6 _ (y_build4 rfl 76 0 2 3 4 (.tmp 16) (.tmp 17) (.tmp 19) (.tmp 21) rfl (.int .i64 (n : Int)) (dv hd) (.slice (some ⟨g11, 0, none⟩) n n) (.slice (some ⟨g13, 0, none⟩) n n) rfl rfl rfl rfl _ (built_rlg (n : Int) _ _ n n n hd HD.out)) ?_
  try simp only [oRB6, PT]
  refine rdyH [7] ?_
  refine AllReadyH.cons (o := oRB7) rfl (fun K hK => ?_) AllReadyH.nil
  unfold oRB7
  rw [if_pos (by rfl)]
  refine wp_boxRow 76 (.tmp 22) rfl (([.int .i64 (n : Int), .int .i64 0] : List Value) ++ bvs hd ++ ([.slice (some ⟨g11, 0, none⟩) n n, .slice (some ⟨g13, 0, none⟩) n n, .slice none 0 0, .slice none 0 0] : List Value)) rfl ?_
  obtain ⟨bl, hbl⟩ : ∃ x, w41.heap.size = x := ⟨_, rfl⟩
  have rbl := IsRow.new w41 76 (([.int .i64 (n : Int), .int .i64 0] : List Value) ++ bvs hd ++ ([.slice (some ⟨g11, 0, none⟩) n n, .slice (some ⟨g13, 0, none⟩) n n, .slice none 0 0, .slice none 0 0] : List Value))
  obtain ⟨w42, hw42⟩ : ∃ x, w41.alloc (.cells (([.int .i64 (n : Int), .int .i64 0] : List Value) ++ bvs hd ++ ([.slice (some ⟨g11, 0, none⟩) n n, .slice (some ⟨g13, 0, none⟩) n n, .slice none 0 0, .slice none 0 0] : List Value)).toArray 76) = x := ⟨_, rfl⟩
  rw [hw42, hbl] at rbl
  rw [hw42, hbl]
  have b42 : Below w41.heap.size w41 w42 := by rw [← hw42]; exact (Below.refl _ _).alloc (Nat.le_refl _) _
  have hv42 : Below w4.heap.size w4 w42 := hv41.trans (b42.mono hv41.size)
  have hl11 : g11 < bl := hbl ▸ r11.lt
  have hl13 : g13 < bl := hbl ▸ r13.lt
  have hlb : w4.heap.size ≤ bl := hbl ▸ hv41.size
  have r11 := r11.below b42
  have r13 := r13.below b42
  clear hw42 b42 hbl
  refine hK.out _ _ (hv42) (fun hHeld => ?_)
  clear hK K
  try simp only [PT]
  refine tkH 8 oRB8 ?v8_6 (.inl ⟨by rfl, ?h8_6⟩) ?r8_6
  case h8_6 =>
   intro W hSW
   unfold oRB8
   try dsimp only at hSW
   go_simp
   try with_reducible rfl
  try simp only [oRB8, PT]
  refine tkH 9 oRB9 ?v9_7 (.inl ⟨by rfl, ?h9_7⟩) ?r9_7
  case h9_7 =>
   intro W hSW
   unfold oRB9
   try dsimp only at hSW
   go_simp
   try with_reducible rfl
  try simp only [oRB9, PT]
  refine wpAnyH_done (by kernel_rfl) ?_ _
  have hs4 := HB4.out.size
  obtain ⟨col, m, hat, hcol⟩ := rat_new (B := w.heap.size) (Nat.le_trans hs4 l11.out) (Nat.le_trans hs4 l13.out) HNE.out HN.out.1 HN.out.2 r11 r13 HD.out (Nat.le_trans hs4 hlb) hl11 hl13 rbl HTT.out.1 HTT.out.2.1 HTT.out.2.2
  have HAT := Lib.hid hat
  have HCO := Lib.hid hcol
  have HV := Lib.hid (HB4.out.trans (hv42.mono hs4))
  clear hat hcol rbl r11 r13 hl11 hl13 hlb hs4 hv42
  go_wp2_with fail
  exact bodyPost_ret (results_tmp2 rfl _ _ _) rfl ⟨bl, col, m, rfl, by rw [show newHead (n : Int) = hd from HHD.out]; exact HAT.out, HCO.out, HV.out⟩
 ·
  skip
  refine AllReadyH.cons (o := oRB5) rfl (fun K hK => ?_) AllReadyH.nil
  unfold oRB5
  go_simp
  obtain ⟨g13, hg13⟩ : ∃ x, wd.heap.size = x := ⟨_, rfl⟩
  obtain ⟨w40, hw40⟩ : ∃ x, wd.alloc (.cells M 3) = x := ⟨_, rfl⟩
  rw [hw40, hg13]
  obtain ⟨r13, z40, b40⟩ := new_ints hw40 HM.out
  rw [hg13] at r13
  have hv40 : Below w4.heap.size w4 w40 := hv0.trans (b40.mono hv0.size)
  have l13 : Hid (w4.heap.size ≤ g13) := Lib.hid (by rw [← hg13]; exact hv0.size)
  try have HNE : Hid (g11 ≠ g13) := Lib.hid (Nat.ne_of_lt (show g11 < g13 from hg13 ▸ r11.lt))
  try have r11 := r11.below b40
  clear hw40 b40 z40 hg13
  refine hK.out _ _ (hv40) (fun hHeld => ?_)
  clear hK K
  try simp only [PT]
  refine rdyH [3] ?_
  refine AllReadyH.cons (o := oRB4) rfl (fun K hK => ?_) AllReadyH.nil
  unfold oRB4
  go_simp
  obtain ⟨g11, hg11⟩ : ∃ x, w40.heap.size = x := ⟨_, rfl⟩
  obtain ⟨w41, hw41⟩ : ∃ x, w40.alloc (.cells M 3) = x := ⟨_, rfl⟩
  rw [hw41, hg11]
  obtain ⟨r11, z41, b41⟩ := new_ints hw41 HM.out
  rw [hg11] at r11
  have hv41 : Below w4.heap.size w4 w41 := hv40.trans (b41.mono hv40.size)
  have l11 : Hid (w4.heap.size ≤ g11) := Lib.hid (by rw [← hg11]; exact hv40.size)
  try have HNE : Hid (g11 ≠ g13) := Lib.hid (Nat.ne_of_gt (show g13 < g11 from hg11 ▸ r13.lt))
  try have r13 := r13.below b41
  clear hw41 b41 z41 hg11
  refine hK.out _ _ (hv41) (fun hHeld => ?_)
  clear hK K
  try simp only [PT]
  refine tkH 6 oRB6 _ (y_build4 rfl 76 0 2 3 4 (.tmp 16) (.tmp 17) (.tmp 19) (.tmp 21) rfl (.int .i64 (n : Int)) (dv hd) (.slice (some ⟨g11, 0, none⟩) n n) (.slice (some ⟨g13, 0, none⟩) n n) rfl rfl rfl rfl _ (built_rlg (n : Int) _ _ n n n hd HD.out)) ?_
  try simp only [oRB6, PT]
  refine rdyH [7] ?_
  refine AllReadyH.cons (o := oRB7) rfl (fun K hK => ?_) AllReadyH.nil
  unfold oRB7
  rw [if_pos (by rfl)]
  refine wp_boxRow 76 (.tmp 22) rfl (([.int .i64 (n : Int), .int .i64 0] : List Value) ++ bvs hd ++ ([.slice (some ⟨g11, 0, none⟩) n n, .slice (some ⟨g13, 0, none⟩) n n, .slice none 0 0, .slice none 0 0] : List Value)) rfl ?_
  obtain ⟨bl, hbl⟩ : ∃ x, w41.heap.size = x := ⟨_, rfl⟩
  have rbl := IsRow.new w41 76 (([.int .i64 (n : Int), .int .i64 0] : List Value) ++ bvs hd ++ ([.slice (some ⟨g11, 0, none⟩) n n, .slice (some ⟨g13, 0, none⟩) n n, .slice none 0 0, .slice none 0 0] : List Value))
  obtain ⟨w42, hw42⟩ : ∃ x, w41.alloc (.cells (([.int .i64 (n : Int), .int .i64 0] : List Value) ++ bvs hd ++ ([.slice (some ⟨g11, 0, none⟩) n n, .slice (some ⟨g13, 0, none⟩) n n, .slice none 0 0, .slice none 0 0] : List Value)).toArray 76) = x := ⟨_, rfl⟩
  rw [hw42, hbl] at rbl
  rw [hw42, hbl]
  have b42 : Below w41.heap.size w41 w42 := by rw [← hw42]; exact (Below.refl _ _).alloc (Nat.le_refl _) _
  have hv42 : Below w4.heap.size w4 w42 := hv41.trans (b42.mono hv41.size)
  have hl11 : g11 < bl := hbl ▸ r11.lt
  have hl13 : g13 < bl := hbl ▸ r13.lt
  have hlb : w4.heap.size ≤ bl := hbl ▸ hv41.size
  have r11 := r11.below b42
  have r13 := r13.below b42
  clear hw42 b42 hbl
  refine hK.out _ _ (hv42) (fun hHeld => ?_)
  clear hK K
  try simp only [PT]
  refine tkH 8 oRB8 ?v8_9 (.inl ⟨by rfl, ?h8_9⟩) ?r8_9
  case h8_9 =>
   intro W hSW
   unfold oRB8
   try dsimp only at hSW
   go_simp
   try with_reducible rfl
  try simp only [oRB8, PT]
  refine tkH 9 oRB9 ?v9_10 (.inl ⟨by rfl, ?h9_10⟩) ?r9_10
  case h9_10 =>
   intro W hSW
   unfold oRB9
   try dsimp only at hSW
   go_simp
   try with_reducible rfl
  try simp only [oRB9, PT]
  refine wpAnyH_done (by kernel_rfl) ?_ _
  have hs4 := HB4.out.size
  obtain ⟨col, m, hat, hcol⟩ := rat_new (B := w.heap.size) (Nat.le_trans hs4 l11.out) (Nat.le_trans hs4 l13.out) HNE.out HN.out.1 HN.out.2 r11 r13 HD.out (Nat.le_trans hs4 hlb) hl11 hl13 rbl HTT.out.1 HTT.out.2.1 HTT.out.2.2
  have HAT := Lib.hid hat
  have HCO := Lib.hid hcol
  have HV := Lib.hid (HB4.out.trans (hv42.mono hs4))
  clear hat hcol rbl r11 r13 hl11 hl13 hlb hs4 hv42
  go_wp2_with fail
  exact bodyPost_ret (results_tmp2 rfl _ _ _) rfl ⟨bl, col, m, rfl, by rw [show newHead (n : Int) = hd from HHD.out]; exact HAT.out, HCO.out, HV.out⟩
end
/-! The reference of layer 35: Credit refused. Conditions: the ledger reads as told and keeps what it keeps (Ok). -/
section
open Go.RowKit
/-- what the reference's Credit does -/
def RCreditRes (w : World) (bl : Nat) (col : Nat → Nat) (l : Bil.Lg) (p t u : Int) (e : Ending) (w' : World) : Prop := e = .returned (.int .i64 (Bil.creditErr l p t u)) ∧ Keep (fun b => col b ≠ 0 ∧ col b ≠ 6) w w' ∧ ∃ m', RAt w' bl col m' (Bil.creditSt l p t u)
theorem RCreditRes.err {w w' : World} {bl : Nat} {col : Nat → Nat} {m : RM} {l : Bil.Lg} {p t u x : Int} (h : RAt w bl col m l) (hx : Bil.creditErr l p t u = x) (h0 : x ≠ 0) (hb : Below w.heap.size w w') : RCreditRes w bl col l p t u (.returned (.int .i64 x)) w' :=
 ⟨by rw [hx], Keep.of_below hb, m, by unfold Bil.creditSt; rw [hx, if_neg h0]; exact h.below hb⟩
section
variable (bl : Nat) (col : Nat → Nat) (m : RM) (l : Bil.Lg) (p t u : Int) (w : World)
set_option maxRecDepth 100000 in
set_option maxHeartbeats 1600000 in
theorem rcredit_none (h : RAt w bl col m l) (hO : Bil.Ok l) (hi : Bil.idx l p = none) :
  Calls Tryd.prog 42 #[.pointer (some ⟨bl, 0, none⟩), .int .i64 p, .int .i64 t, .int .i64 u] w (RCreditRes w bl col l p t u) := by
 have HA := Lib.hid (rBill_any bl col m l p w h hO)
 have hx : Bil.creditErr l p t u = 12 := by unfold Bil.creditErr; rw [hi]
 have HH := Lib.hid (And.intro h hx)
 have HI := Lib.hid hi
 clear h hi hx hO
 go_enter Tryd.func42, Tryd.ntmps42
 go_wp2_with (first
  | (go_at_call 50; refine HA.out.mono ?_; rintro e w1 (⟨_, rfl, b1⟩ | ⟨i, hi, hn, _⟩); rotate_left; exact (by rw [HI.out] at hn; exact absurd hn (by simp)); have HB1 := Lib.hid b1; unfold zBill)
  | (refine wpList_allocRow rfl _ rfl _ info6 ?_; intro w5 r5 b5 z5)
  | (refine wpList_storeRow rfl _ (.tmp 9) (.tmp 16) rfl (l' := Z6) r5 rfl rfl size6 rfl rfl ?_; intro w6 r6 g6 z6))
 have hB := HB1.out
 go_ret
 exact (RCreditRes.err HH.out.1 HH.out.2 (by decide) ((hB.trans (b5.mono hB.size)).grown g6 (hB.trans (b5.mono hB.size)).size (by intro j hj; have hj := Option.some.inj hj; have := hB.size; omega)))
theorem below_store {w w1 w5 w6 : World} {b : Nat} (h1 : Below w.heap.size w w1) (h5 : Below w1.heap.size w1 w5) (hb : w.heap.size ≤ b) (h6 : w5.grownBy w6 (some b)) : Below w.heap.size w w6 :=
 (h1.trans (h5.mono h1.size)).grown h6 (h1.trans (h5.mono h1.size)).size (by intro j hj; have hj := Option.some.inj hj; omega)
set_option maxRecDepth 100000 in
set_option maxHeartbeats 1600000 in
theorem rcredit_arg (h : RAt w bl col m l) (hO : Bil.Ok l) (i : Nat) (hi : Bil.idx l p = some i) (hbad : t < 0 ∨ (l.n : Int) ≤ t ∨ u < 1) :
  Calls Tryd.prog 42 #[.pointer (some ⟨bl, 0, none⟩), .int .i64 p, .int .i64 t, .int .i64 u] w (RCreditRes w bl col l p t u) := by
 have HA := Lib.hid (rBill_any bl col m l p w h hO)
 have hx : Bil.creditErr l p t u = 1 := by unfold Bil.creditErr; rw [hi]; simp only; rw [if_pos hbad]
 have hk : i < m.ks.length := by have := Bil.idx_some hi; rw [h.klen] at this; exact this.2.2.1
 have c0 : w.cell? ⟨bl, 0, none⟩ = some (.int .i64 (l.n : Int)) := h.row.cell 0
 have gl := h.row.lt
 have HH := Lib.hid (And.intro h hx)
 have HI := Lib.hid hi
 obtain ⟨P, M, H, n0, q1, c1, q2, c2, q3, c3, hrow⟩ : ∃ (P M H : Int) (n0 q1 c1 q2 c2 q3 c3 : Nat), RA.bill l.n (m.ks[i]'hk) = [.int .i64 P, .int .i64 M, .int .i64 H, .slice (some ⟨q1, 0, none⟩) n0 c1, .slice (some ⟨q2, 0, none⟩) n0 c2, .slice (some ⟨q3, 0, none⟩) n0 c3] := ⟨_, _, _, _, _, _, _, _, _, _, rfl⟩
 have HROW := Lib.hid (fun hj : i < m.ks.length => (show RA.bill l.n (m.ks[i]'hj) = _ from hrow))
 obtain ⟨N, hN⟩ : ∃ x, l.n = x := ⟨_, rfl⟩
 rw [hN] at c0 hbad
 clear h hi hx hO hk hrow hN
 have HB6f : Hid (∀ w1 w5 w6, Below w.heap.size w w1 → Below w1.heap.size w1 w5 → w5.grownBy w6 (some w1.heap.size) → Below w.heap.size w w6) := Lib.hid fun w1 w5 w6 a b c => below_store a b a.size c
 by_cases h1 : t < 0
 ·
  clear hbad
  go_enter Tryd.func42, Tryd.ntmps42
  go_wp2_with (first
   | (go_at_call 50; go_loud (refine HA.out.mono ?_; rintro e w1 (⟨hn, _, _⟩ | ⟨i', hi', hn, rfl, b1⟩); exact (by rw [HI.out] at hn; exact absurd hn (by simp)); obtain rfl : i' = i := (by rw [HI.out] at hn; exact (Option.some.inj hn).symm); have HB1 := Lib.hid b1; have hrow := HROW.out hi'; rw [hrow]; clear hrow hn))
   | (refine wpList_allocRow rfl _ rfl _ info6 ?_; intro w5 r5 b5 z5)
   | (refine wpList_storeRow rfl _ (.tmp 9) (.tmp 16) rfl (l' := [.int .i64 P, .int .i64 M, .int .i64 H, .slice (some ⟨q1, 0, none⟩) n0 c1, .slice (some ⟨q2, 0, none⟩) n0 c2, .slice (some ⟨q3, 0, none⟩) n0 c3]) r5 rfl rfl size6 rfl rfl ?_; intro w6 r6 g6 z6; have HB6 : Hid (Below w.heap.size w w6) := Lib.hid (HB6f.out w1 w5 w6 HB1.out b5 g6); have c0' := (HB6.out.cell (p := ⟨bl, 0, none⟩) gl).trans c0; clear b5 b1 g6 z5 z6))
  go_ret
  exact RCreditRes.err HH.out.1 HH.out.2 (by decide) HB6.out
 ·
  by_cases h2 : (N : Int) ≤ t
  ·
   clear hbad
   go_enter Tryd.func42, Tryd.ntmps42
   go_wp2_with (first
    | (go_at_call 50; refine HA.out.mono ?_; rintro e w1 (⟨hn, _, _⟩ | ⟨i', hi', hn, rfl, b1⟩); exact (by rw [HI.out] at hn; exact absurd hn (by simp)); obtain rfl : i' = i := (by rw [HI.out] at hn; exact (Option.some.inj hn).symm); have HB1 := Lib.hid b1; have hrow := HROW.out hi'; rw [hrow]; clear hrow hn)
    | (refine wpList_allocRow rfl _ rfl _ info6 ?_; intro w5 r5 b5 z5)
    | (refine wpList_storeRow rfl _ (.tmp 9) (.tmp 16) rfl (l' := [.int .i64 P, .int .i64 M, .int .i64 H, .slice (some ⟨q1, 0, none⟩) n0 c1, .slice (some ⟨q2, 0, none⟩) n0 c2, .slice (some ⟨q3, 0, none⟩) n0 c3]) r5 rfl rfl size6 rfl rfl ?_; intro w6 r6 g6 z6; have HB6 : Hid (Below w.heap.size w w6) := Lib.hid (HB6f.out w1 w5 w6 HB1.out b5 g6); have c0' := (HB6.out.cell (p := ⟨bl, 0, none⟩) gl).trans c0; clear b5 b1 g6 z5 z6))
   go_ret
   exact RCreditRes.err HH.out.1 HH.out.2 (by decide) HB6.out
  ·
   have h3 : u < 1 := by omega
   clear hbad
   go_enter Tryd.func42, Tryd.ntmps42
   go_wp2_with (first
    | (go_at_call 50; refine HA.out.mono ?_; rintro e w1 (⟨hn, _, _⟩ | ⟨i', hi', hn, rfl, b1⟩); exact (by rw [HI.out] at hn; exact absurd hn (by simp)); obtain rfl : i' = i := (by rw [HI.out] at hn; exact (Option.some.inj hn).symm); have HB1 := Lib.hid b1; have hrow := HROW.out hi'; rw [hrow]; clear hrow hn)
    | (refine wpList_allocRow rfl _ rfl _ info6 ?_; intro w5 r5 b5 z5)
    | (refine wpList_storeRow rfl _ (.tmp 9) (.tmp 16) rfl (l' := [.int .i64 P, .int .i64 M, .int .i64 H, .slice (some ⟨q1, 0, none⟩) n0 c1, .slice (some ⟨q2, 0, none⟩) n0 c2, .slice (some ⟨q3, 0, none⟩) n0 c3]) r5 rfl rfl size6 rfl rfl ?_; intro w6 r6 g6 z6; have HB6 : Hid (Below w.heap.size w w6) := Lib.hid (HB6f.out w1 w5 w6 HB1.out b5 g6); have c0' := (HB6.out.cell (p := ⟨bl, 0, none⟩) gl).trans c0; clear b5 b1 g6 z5 z6))
   go_ret
   exact RCreditRes.err HH.out.1 HH.out.2 (by decide) HB6.out
end
end
/-! The reference of layer 35: Credit. Conditions: the ledger reads as told and keeps what it keeps (Ok), its numbers are at most 2^60; the tables of the digest are in memory. -/
section
open Go.RowKit
section
variable (bl : Nat) (col : Nat → Nat) (m : RM) (l : Bil.Lg) (p t u : Int) (w : World)
set_option maxRecDepth 100000 in
set_option maxHeartbeats 3200000 in
theorem rcredit_in (h : RAt w bl col m l) (hO : Bil.Ok l) (hS : Bil.Sm l 1152921504606846976) (hT : RTab w) (p1 : -9223372036854775808 ≤ p) (p2 : p ≤ 9223372036854775807) (u2 : u ≤ 9223372036854775807) (i tt : Nat) (ht : t = (tt : Int)) (htl : tt < l.n) (hu : 1 ≤ u) (hi : Bil.idx l p = some i) :
  Calls Tryd.prog 42 #[.pointer (some ⟨bl, 0, none⟩), .int .i64 p, .int .i64 t, .int .i64 u] w (RCreditRes w bl col l p t u) := by
 subst ht
 have HA := Lib.hid (rBill_any bl col m l p w h hO)
 have hix := Bil.idx_some hi
 have hk : i < m.ks.length := by have := hix; rw [h.klen] at this; exact this.2.2.1
 have hx : Bil.creditErr l p tt u = if (Bil.accAt l i).bill.charges.getD tt 0 - (Bil.accAt l i).granted.getD tt 0 < u then 2 else 0 := by
  unfold Bil.creditErr; rw [hi]; simp only; rw [if_neg (by omega), Int.toNat_natCast]
 have hok := (hO.a i (by rw [h.klen]; exact hk)).1
 have hper := (hO.a 0 (by rw [h.klen]; omega)).2
 have hb1 := Bil.charges_nonneg hok.f tt
 have hb2 := hok.d tt
 have hsm := hS tt
 rw [h.acc hk] at hx hb1 hb2
 obtain ⟨g, off, hA, _, hform⟩ := h.krow.form (by rw [List.length_map]; omega)
 obtain ⟨gg, goff, hG, _, gform⟩ := h.grow.form (by rw [List.length_map]; omega)
 have e0 : w.cell? ⟨g, off, none⟩ = some (.int .i64 (Bil.accAt l 0).bill.period) := by
  rw [h.acc (show 0 < m.ks.length by omega)]
  have := hform 0 (by rw [List.length_map]; omega) 0 (.int .i64 (m.ks[0]'(by omega)).a.bill.period) (by rw [List.getElem_map]; rfl)
  simpa using this
 have eg : w.cell? ⟨gg, goff + i, none⟩ = some (.slice (some ⟨(m.ks[i]'hk).bg, 0, none⟩) l.n (m.ks[i]'hk).cg) := by
  have := gform i (by rw [List.length_map]; omega) 0 (.slice (some ⟨(m.ks[i]'hk).bg, 0, none⟩) l.n (m.ks[i]'hk).cg) (by rw [List.getElem_map]; rfl)
  simpa using this
 have c5 : w.cell? ⟨bl, 20, none⟩ = some (.slice (some ⟨g, off, none⟩) m.ks.length m.c) := by rw [← hA]; exact (h.row.cell 20).trans (RM.cells_tail h.h16 2)
 have c6 : w.cell? ⟨bl, 21, none⟩ = some (.slice (some ⟨gg, goff, none⟩) m.ks.length m.d) := by rw [← hG]; exact (h.row.cell 21).trans (RM.cells_tail h.h16 3)
 have c0 : w.cell? ⟨bl, 0, none⟩ = some (.int .i64 (l.n : Int)) := h.row.cell 0
 have hkat := h.kat _ (List.getElem_mem hk)
 have kc := hkat.c.cell tt htl
 have kg := hkat.g.cell tt htl
 have fg := hkat.g.free tt htl
 have lc := hkat.c.lt
 have lg := hkat.g.lt
 have gl : g < w.heap.size := h.krow.lt hA
 have ggl : gg < w.heap.size := h.grow.lt hG
 have bll := h.row.lt
 have HSG := Lib.hid (fun (W : World) (hW : RAt W bl col m l) (v : Int) => hW.setGrant hO hk htl v)
 have HQG := Lib.hid (show col (m.ks[i]'hk).bg ≠ 0 ∧ col (m.ks[i]'hk).bg ≠ 6 from by rw [hkat.qg]; omega)
 have hsx : (⟨(encCredit p tt u).toArray⟩ : ByteArray).size ≤ 1000000 := by have := encCredit_le p tt u; show (encCredit p tt u).toArray.size ≤ _; simp; omega
 have HSX := Lib.hid hsx
 have HSI := Lib.hid hi
 obtain ⟨P, M, H, br, cr, bt, ct, hrow⟩ : ∃ (P M H : Int) (br cr bt ct : Nat), RA.bill l.n (m.ks[i]'hk) = [.int .i64 P, .int .i64 M, .int .i64 H, .slice (some ⟨(m.ks[i]'hk).bc, 0, none⟩) l.n (m.ks[i]'hk).cc, .slice (some ⟨br, 0, none⟩) l.n cr, .slice (some ⟨bt, 0, none⟩) l.n ct] := ⟨_, _, _, _, _, _, _, rfl⟩
 obtain ⟨bc, hbc⟩ : ∃ x, (m.ks[i]'hk).bc = x := ⟨_, rfl⟩
 obtain ⟨bg, hbg⟩ : ∃ x, (m.ks[i]'hk).bg = x := ⟨_, rfl⟩
 obtain ⟨cc, hcc⟩ : ∃ x, (m.ks[i]'hk).cc = x := ⟨_, rfl⟩
 obtain ⟨cg, hcg⟩ : ∃ x, (m.ks[i]'hk).cg = x := ⟨_, rfl⟩
 obtain ⟨x, hxx⟩ : ∃ x, (m.ks[i]'hk).a.bill.charges.getD tt 0 = x := ⟨_, rfl⟩
 obtain ⟨y, hyy⟩ : ∃ x, (m.ks[i]'hk).a.granted.getD tt 0 = x := ⟨_, rfl⟩
 obtain ⟨P0, hP0⟩ : ∃ x, (Bil.accAt l 0).bill.period = x := ⟨_, rfl⟩
 rw [hP0] at e0 hper
 rw [hbc, hcc] at hrow
 rw [hbg, hcg] at eg
 rw [hbc] at kc lc
 rw [hbg] at kg fg lg HSG HQG
 rw [hxx] at kc hx hb1 hb2
 rw [hyy] at kg hx hb2
 have HROW := Lib.hid (fun hj : i < m.ks.length => (show RA.bill l.n (m.ks[i]'hj) = _ from hrow))
 have HACC := Lib.hid (show (Bil.accAt l i).granted.getD tt 0 = y from by rw [h.acc hk]; exact hyy)
 obtain ⟨z, hz⟩ : ∃ z, l.pending.getD tt 0 = z := ⟨_, rfl⟩
 rw [hz] at hsm
 have HZ := Lib.hid hz
 have HH := Lib.hid h
 have HTT := Lib.hid hT
 have hn16 := h.n2
 have hpr := h.per
 obtain ⟨d, hd⟩ : ∃ d, x - y = d := ⟨_, rfl⟩
 have m1 : IntKind.i64.wrap (x - y) = d := by rw [hd]; exact IntWalk.i64_in _ (by omega)
 have m0 : IntKind.i64.wrap (p - P0) = (i : Int) := by rw [show p - P0 = (i : Int) by have := hix.2.2.2; omega]; exact IntWalk.i64_in _ (by have := h.len; omega)
 rw [hd] at hx
 have n1 : ¬ ((tt : Int) < 0) := by omega
 have n2 : (tt : Int) < (l.n : Int) := by omega
 have n3 : ¬ ((l.n : Int) ≤ (tt : Int)) := by omega
 have n4 : ¬ (u < 1) := by omega
 have n5 : (i : Int) < (m.ks.length : Int) := by omega
 have n6 : (0 : Int) < (m.ks.length : Int) := by omega
 have n7 : ¬ ((i : Int) < 0) := by omega
 have HN : Hid (tt < l.n) := Lib.hid htl
 have HP := Lib.hid (And.intro p1 (And.intro p2 (And.intro hu u2)))
 have HX := Lib.hid hx
 have HB6f : Hid (∀ w1 w5 w6, Below w.heap.size w w1 → Below w1.heap.size w1 w5 → w5.grownBy w6 (some w1.heap.size) → Below w.heap.size w w6) := Lib.hid fun w1 w5 w6 a b c => below_store a b a.size c
 obtain ⟨N, hNN⟩ : ∃ x, l.n = x := ⟨_, rfl⟩
 rw [hNN] at n2 n3 c0 eg HROW
 have HNN := Lib.hid hNN
 obtain ⟨Lk, hLk⟩ : ∃ x, m.ks.length = x := ⟨_, rfl⟩
 rw [hLk] at c5 c6 n5 n6
 have HRB := Lib.hid (fun hj : i < m.ks.length => (show RA.bill l.n (m.ks[i]'hj) = RA.bill N (m.ks[i]'hj) by rw [hNN]).trans (HROW.out hj))
 by_cases hlt : d < u
 ·
  rw [if_pos hlt] at HX
  clear h hO hS hT hform gform hkat hA hG hi hx hix hbc hbg hcc hcg hxx hyy hz hd hb1 hb2 hsm p1 p2 hu u2 hok hsx htl hn16 hpr hper hP0 hrow hk hNN hLk HROW
  go_enter Tryd.func42, Tryd.ntmps42
  go_wp2_with (first
   | (go_at_call 50; refine HA.out.mono ?_; rintro e w1 (⟨hn, _, _⟩ | ⟨i', hi', hn, rfl, b1⟩); exact (by rw [HSI.out] at hn; exact absurd hn (by simp)); obtain rfl : i = i' := (by rw [HSI.out] at hn; exact Option.some.inj hn); have HB1 := Lib.hid b1; have hrow := HRB.out hi'; rw [hrow]; clear hrow hn)
   | (refine wpList_allocRow rfl _ rfl _ info6 ?_; intro w5 r5 b5 z5)
   | (refine wpList_storeRow rfl _ (.tmp 9) (.tmp 16) rfl (l' := [.int .i64 P, .int .i64 M, .int .i64 H, .slice (some ⟨bc, 0, none⟩) N cc, .slice (some ⟨br, 0, none⟩) N cr, .slice (some ⟨bt, 0, none⟩) N ct]) r5 rfl rfl size6 rfl rfl ?_; intro w6 r6 g6 z6; have HB6 : Hid (Below w.heap.size w w6) := Lib.hid (HB6f.out w1 w5 w6 HB1.out b5 g6); have c0' := (HB6.out.cell (p := ⟨bl, 0, none⟩) bll).trans c0; have c5' := (HB6.out.cell (p := ⟨bl, 20, none⟩) bll).trans c5; have c6' := (HB6.out.cell (p := ⟨bl, 21, none⟩) bll).trans c6; have e0' := (HB6.out.cell (p := ⟨g, off, none⟩) gl).trans e0; have eg' := (HB6.out.cell (p := ⟨gg, goff + i, none⟩) ggl).trans eg; have q3 : w6.cell? ⟨w1.heap.size, 3, none⟩ = some (.slice (some ⟨bc, 0, none⟩) N cc) := r6.cell 3; have kc' := (HB6.out.cell (p := ⟨bc, tt, none⟩) lc).trans kc; have kg' := (HB6.out.cell (p := ⟨bg, tt, none⟩) lg).trans kg; clear b5 b1 g6 z5 z6 c0 c5 c6 e0 eg kc kg))
  go_quiet (fail)
  go_wp2
  go_quiet (fail)
  go_wp2
  go_ret
  first
   | exact RCreditRes.err HH.out HX.out (by decide) (below_drewN HB6.out _)
   | exact RCreditRes.err HH.out HX.out (by decide) (below_drewN (below_drewN HB6.out _) _)
 ·
  rw [if_neg hlt] at HX
  obtain ⟨yu, hyu⟩ : ∃ d, y + u = d := ⟨_, rfl⟩
  obtain ⟨zu, hzu⟩ : ∃ d, z + u = d := ⟨_, rfl⟩
  have m2 : IntKind.i64.wrap (y + u) = yu := by rw [hyu]; exact IntWalk.i64_in _ (by omega)
  have m3 : IntKind.i64.wrap (z + u) = zu := by rw [hzu]; exact IntWalk.i64_in _ (by omega)
  have HYU := Lib.hid (And.intro hyu hzu)
  clear h hO hS hT hform gform hkat hA hG hi hx hix hbc hbg hcc hcg hxx hyy hz hd hb1 hb2 hsm p1 p2 hu u2 hok hsx htl hn16 hpr hper hP0 hrow hk hNN hLk HROW hyu hzu
  go_enter Tryd.func42, Tryd.ntmps42
  go_wp2_with (first
   | (go_at_call 50; refine HA.out.mono ?_; rintro e w1 (⟨hn, _, _⟩ | ⟨i', hi', hn, rfl, b1⟩); exact (by rw [HSI.out] at hn; exact absurd hn (by simp)); obtain rfl : i = i' := (by rw [HSI.out] at hn; exact Option.some.inj hn); have HB1 := Lib.hid b1; have hrow := HRB.out hi'; rw [hrow]; clear hrow hn)
   | (refine wpList_allocRow rfl _ rfl _ info6 ?_; intro w5 r5 b5 z5)
   | (refine wpList_storeRow rfl _ (.tmp 9) (.tmp 16) rfl (l' := [.int .i64 P, .int .i64 M, .int .i64 H, .slice (some ⟨bc, 0, none⟩) N cc, .slice (some ⟨br, 0, none⟩) N cr, .slice (some ⟨bt, 0, none⟩) N ct]) r5 rfl rfl size6 rfl rfl ?_; intro w6 r6 g6 z6; have HB6 : Hid (Below w.heap.size w w6) := Lib.hid (HB6f.out w1 w5 w6 HB1.out b5 g6); have c0' := (HB6.out.cell (p := ⟨bl, 0, none⟩) bll).trans c0; have c5' := (HB6.out.cell (p := ⟨bl, 20, none⟩) bll).trans c5; have c6' := (HB6.out.cell (p := ⟨bl, 21, none⟩) bll).trans c6; have e0' := (HB6.out.cell (p := ⟨g, off, none⟩) gl).trans e0; have eg' := (HB6.out.cell (p := ⟨gg, goff + i, none⟩) ggl).trans eg; have q3 : w6.cell? ⟨w1.heap.size, 3, none⟩ = some (.slice (some ⟨bc, 0, none⟩) N cc) := r6.cell 3; have kc' := (HB6.out.cell (p := ⟨bc, tt, none⟩) lc).trans kc; have kg' := (HB6.out.cell (p := ⟨bg, tt, none⟩) lg).trans kg; have fg' := (HB6.out.frozen (p := ⟨bg, tt, none⟩) lg).trans fg; clear fg b5 b1 g6 z5 z6 c0 c5 c6 e0 eg kc kg))
  go_quiet (fail)
  go_wp2
  go_quiet (fail)
  go_upto_region 9 with fail
  go_cut [] (fun wx => RAt wx bl col (m.grant i tt yu) { l with kept := l.kept.set i ⟨(Bil.accAt l i).bill, (Bil.accAt l i).granted.set tt yu⟩ } ∧ Keep (fun b => col b ≠ 0 ∧ col b ≠ 6) w wx)
  case first =>
   go_wp2_with fail
   go_meet
   have hB6 := HB6.out
   first
    | exact ⟨HSG.out _ ((HH.out.below hB6).below (below_drewN (Below.refl _ _) _)) _, (Keep.of_below (below_drewN hB6 _)).setCell (.inl HQG.out) _⟩
    | exact ⟨HSG.out _ (HH.out.below (below_drewN (below_drewN hB6 _) _)) _, (Keep.of_below (below_drewN (below_drewN hB6 _) _)).setCell (.inl HQG.out) _⟩
  case rest =>
   obtain ⟨hl2, hkp2⟩ := hcut
   obtain ⟨w2, hw2⟩ : ∃ x, wc = x := ⟨_, rfl⟩
   try rw [hw2] at hl2 hkp2 ⊢
   clear hw2 c0' c5' c6' e0' eg' kc' kg' fg' q3 r6 HA HB1 HB6
   have c2 := (hl2.row.cell 18).trans (RM.cells_tail hl2.h16 0)
   have kp := hl2.pend.cell tt HN.out
   have fp := hl2.pend.free tt HN.out
   rw [show ({ l with kept := l.kept.set i ⟨(Bil.accAt l i).bill, (Bil.accAt l i).granted.set tt yu⟩ } : Bil.Lg).pending.getD tt 0 = z from HZ.out] at kp
   replace c2 : w2.cell? ⟨bl, 18, none⟩ = some (.slice (some ⟨m.bp, 0, none⟩) N m.cp) := by rw [c2, ← HNN.out]; rfl
   replace kp : w2.cell? ⟨m.bp, tt, none⟩ = some (.int .i64 z) := kp
   replace fp : w2.frozen? ⟨m.bp, tt, none⟩ = false := fp
   have HL2 := Lib.hid hl2
   have HK2 := Lib.hid hkp2
   clear hl2 hkp2
   go_upto_region 10 with fail
   go_cut [] (fun wx => RAt wx bl col (m.grant i tt yu) { l with kept := l.kept.set i ⟨(Bil.accAt l i).bill, (Bil.accAt l i).granted.set tt yu⟩, pending := l.pending.set tt zu } ∧ Keep (fun b => col b ≠ 0 ∧ col b ≠ 6) w wx)
   case first =>
    go_region
    go_wp2_with fail
    go_meet
    have hz1 := HL2.out.setOwed HN.out zu
    have hz2 := HK2.out.setCell (a := ⟨m.bp, tt, none⟩) (.inl (by show col m.bp ≠ 0 ∧ col m.bp ≠ 6; have := HH.out.cbp; omega)) (.int .i64 zu)
    exact ⟨hz1.below (below_drewN (Below.refl _ _) 1), hz2.then_below (below_drewN (Below.refl _ _) 1)⟩
   case rest =>
    obtain ⟨hl3, hkp3⟩ := hcut
    obtain ⟨w3, hw3⟩ : ∃ x, wc = x := ⟨_, rfl⟩
    try rw [hw3] at hl3 hkp3 ⊢
    have HL3 := Lib.hid hl3
    have HK3 := Lib.hid hkp3
    have HE := Lib.hid (rEncodeCredit_any p tt u HP.out.1 HP.out.2.1 (by omega) (by have := HH.out.n2; have := HN.out; omega) (by have := HP.out.2.2.1; omega) HP.out.2.2.2 w3)
    clear hl3 hkp3 c2 kp fp hw3
    go_wp2_with (first
     | (go_at_call 77; refine HE.out.mono ?_; rintro e w4 ⟨rfl, b4⟩; have HB4 := Lib.hid b4; clear b4)
     | (go_at_call 39; refine (rbook_any bl col _ _ _ HSX.out w4 (HL3.out.below HB4.out) (HTT.out.keeps (HK3.out.then_below HB4.out) (by have := HH.out.tab.2.2; omega))).mono ?_; rintro e w5 ⟨rfl, hl5, hk5⟩; have HL5 := Lib.hid hl5; have HK5 := Lib.hid hk5; clear hl5 hk5))
    go_ret
    refine ⟨by rw [HX.out]; rfl, (HK3.out.then_below HB4.out).trans (HK5.out.mono fun b hb e => by subst e; show col b ≠ 0 ∧ col b ≠ 6; have := HH.out.cbl; omega), m.grant i tt yu, ?_⟩
    have e : Bil.creditSt l p tt u = { l with kept := l.kept.set i ⟨(Bil.accAt l i).bill, (Bil.accAt l i).granted.set tt yu⟩, pending := l.pending.set tt zu, head := bookHead l.head ⟨(encCredit p tt u).toArray⟩ } := by
     unfold Bil.creditSt
     rw [if_pos HX.out, HSI.out, Int.toNat_natCast, ← HYU.out.1, ← HYU.out.2, ← HACC.out, ← HZ.out]
     rfl
    rw [e]
    exact HL5.out
/-- the reference's Credit, at whatever arguments -/
theorem rcredit_any (h : RAt w bl col m l) (hO : Bil.Ok l) (hS : Bil.Sm l 1152921504606846976) (hT : RTab w) (p1 : -9223372036854775808 ≤ p) (p2 : p ≤ 9223372036854775807) (u2 : u ≤ 9223372036854775807) :
  Calls Tryd.prog 42 #[.pointer (some ⟨bl, 0, none⟩), .int .i64 p, .int .i64 t, .int .i64 u] w (RCreditRes w bl col l p t u) := by
 cases hi : Bil.idx l p with
 | none => exact rcredit_none bl col m l p t u w h hO hi
 | some i =>
  by_cases hbad : t < 0 ∨ (l.n : Int) ≤ t ∨ u < 1
  ·
   exact rcredit_arg bl col m l p t u w h hO i hi hbad
  ·
   exact rcredit_in bl col m l p t u w h hO hS hT p1 p2 u2 i t.toNat (by omega) (by omega) (by omega) hi
end
end
end Go.Proofs.YtkjomnakolhdcaaDoor
