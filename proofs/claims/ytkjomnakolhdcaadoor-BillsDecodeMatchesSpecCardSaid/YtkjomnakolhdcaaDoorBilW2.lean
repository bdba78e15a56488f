/- Layer 35's New. Condition: the tables of the digest are in memory. -/
import Derived.Test.YtkjomnakolhdcaaDoorHeld2
import Derived.Test.YtkjomnakolhdcaaDoorBilW1
namespace Go.Proofs.YtkjomnakolhdcaaDoor
set_option linter.unusedVariables false
set_option linter.unusedSimpArgs false
open Go.RowKit
abbrev oW20 : Oper := { dst := some 10, op := Op.move (Operand.tmp 0), type := 3, pos := "bills.go:39", after := #[], guard := none }
abbrev oW21 : Oper := { dst := some 12, op := Op.move (Operand.tmp 0), type := 3, pos := "bills.go:39", after := #[], guard := none }
abbrev oW22 : Oper := { dst := some 14, op := Op.move (Operand.tmp 0), type := 3, pos := "bills.go:39", after := #[], guard := none }
abbrev oW23 : Oper := { dst := some 11, op := Op.makeSlice 29 (Operand.tmp 10) (Operand.tmp 10), type := 29, pos := "bills.go:39", after := #[{ on := 0, ground := Ground.data }, { on := 0, ground := Ground.data }], guard := none }
abbrev oW24 : Oper := { dst := some 13, op := Op.makeSlice 29 (Operand.tmp 12) (Operand.tmp 12), type := 29, pos := "bills.go:39", after := #[{ on := 2, ground := Ground.data }, { on := 2, ground := Ground.data }], guard := none }
abbrev oW25 : Oper := { dst := some 15, op := Op.call { callee := Callee.value (Operand.func 32), args := #[Operand.tmp 14], argTypes := #[3] }, type := 58, pos := "bills.go:39", after := #[{ on := 4, ground := Ground.data }], guard := none }
abbrev oW26 : Oper := { dst := some 16, op := Op.convert 58 9 (Operand.tmp 15), type := 9, pos := "bills.go:39", after := #[{ on := 5, ground := Ground.data }], guard := none }
abbrev oW27 : Oper := { dst := some 17, op := Op.buildSlice 50 1 #[(0, Operand.tmp 16)], type := 50, pos := "bills.go:39", after := #[{ on := 6, ground := Ground.data }], guard := none }
abbrev oW28 : Oper := { dst := some 18, op := Op.call { callee := Callee.value (Operand.func 31), args := #[Operand.const (Value.int IntKind.i64 6), Operand.tmp 17], argTypes := #[3, 50] }, type := 66, pos := "bills.go:39", after := #[{ on := 7, ground := Ground.data }, { on := 5, ground := Ground.chain }], guard := none }
abbrev oW29 : Oper := { dst := some 19, op := Op.build 71 #[(2, Operand.tmp 11), (3, Operand.tmp 13), (4, Operand.tmp 18)], type := 71, pos := "bills.go:39", after := #[{ on := 1, ground := Ground.data }, { on := 3, ground := Ground.data }, { on := 8, ground := Ground.data }], guard := none }
abbrev oW210 : Oper := { dst := some 20, op := Op.box 71 (Operand.tmp 19), type := 25, pos := "bills.go:39", after := #[{ on := 9, ground := Ground.data }], guard := none }
abbrev oW211 : Oper := { dst := some 2, op := Op.assign (Operand.tmp 20), type := 25, pos := "bills.go:39", after := #[{ on := 10, ground := Ground.data }, { on := 8, ground := Ground.chain }, { on := 0, ground := Ground.phase }, { on := 1, ground := Ground.phase }, { on := 2, ground := Ground.phase }, { on := 3, ground := Ground.phase }, { on := 4, ground := Ground.phase }, { on := 5, ground := Ground.phase }, { on := 6, ground := Ground.phase }, { on := 7, ground := Ground.phase }, { on := 8, ground := Ground.phase }, { on := 9, ground := Ground.phase }, { on := 10, ground := Ground.phase }], guard := none }
abbrev oW212 : Oper := { dst := some 3, op := Op.assign (Operand.const (Value.int IntKind.i64 0)), type := 26, pos := "bills.go:39", after := #[{ on := 11, ground := Ground.chain }, { on := 0, ground := Ground.phase }, { on := 1, ground := Ground.phase }, { on := 2, ground := Ground.phase }, { on := 3, ground := Ground.phase }, { on := 4, ground := Ground.phase }, { on := 5, ground := Ground.phase }, { on := 6, ground := Ground.phase }, { on := 7, ground := Ground.phase }, { on := 8, ground := Ground.phase }, { on := 9, ground := Ground.phase }, { on := 10, ground := Ground.phase }, { on := 11, ground := Ground.phase }], guard := none }
theorem list16 {α : Type} : ∀ (cs : List α), cs.length = 16 → ∃ a0 a1 a2 a3 a4 a5 a6 a7 a8 a9 a10 a11 a12 a13 a14 a15, cs = [a0, a1, a2, a3, a4, a5, a6, a7, a8, a9, a10, a11, a12, a13, a14, a15]
  | [a0, a1, a2, a3, a4, a5, a6, a7, a8, a9, a10, a11, a12, a13, a14, a15], _ => ⟨a0, a1, a2, a3, a4, a5, a6, a7, a8, a9, a10, a11, a12, a13, a14, a15, rfl⟩
/-- the digest of a new ledger -/
def newHead (n : Int) : List UInt8 := Mk.of 6 [⟨(Wire.enc n).toArray⟩]
theorem built_lg (A1 A2 : Option Addr) (n c1 c2 : Nat) (hd : List UInt8) (h : hd.length = 16) : Tryd.prog.built 71 [(2, .slice A1 n c1), (3, .slice A2 n c2), (4, dv hd)] = some (.int .i64 0 :: .slice none 0 0 :: .slice A1 n c1 :: .slice A2 n c2 :: bvs hd).toArray := by
  have hc : (bvs hd).length = 16 := by rw [bvs_len, h]
  show Tryd.prog.built 71 [(2, .slice A1 n c1), (3, .slice A2 n c2), (4, .agg (bvs hd).toArray)] = _
  obtain ⟨a0, a1, a2, a3, a4, a5, a6, a7, a8, a9, a10, a11, a12, a13, a14, a15, e⟩ := list16 (bvs hd) hc
  rw [e]
  kernel_rfl
theorem y_build234 {ops : Array Oper} {S : World → Prop} {o : Oper} {a : Act} (hw : Region.wanted o (yielded ops a.tmps) = true) (t : TypeId) (i j k : Nat) (x y z : Operand) (ho : o.op = .build t #[(i, x), (j, y), (k, z)]) (u v s : Value) (hx : a.eval x = u) (hy : a.eval y = v) (hz : a.eval z = s) (cells : Array Value)
    (hf : Tryd.prog.built t [(i, u), (j, v), (k, s)] = some cells) : YieldsIf Tryd.prog ops S o (.agg cells) a := by
  subst hx hy hz
  refine .inl ⟨hw, fun W _ => ?_⟩
  have hr := run_build (P := Tryd.prog) W t #[(i, a.eval x), (j, a.eval y), (k, a.eval z)] cells hf
  unfold execOp
  simp only [ho, List.map_toArray, List.map_cons, List.map_nil, Sem.run_bind, Sem.run_pure, Result.andThen_ok, hr]
/-- a ledger of the call's own -/
def NewOk (w : World) (n : Nat) (e : Ending) (w' : World) : Prop := ∃ bl col m, e = .returned (.tuple #[.pointer (some ⟨bl, 0, none⟩), .int .i64 0]) ∧ LAt w' bl col m (Bil.newOf n (newHead n)) ∧ (∀ b, col b ≠ 0 → w.heap.size ≤ b) ∧ Below w.heap.size w w'
theorem input1_le (n : Int) : (Mk.input 6 [⟨(Wire.enc n).toArray⟩]).length ≤ 1000 := by
  have h1 := Wire.enc_length_le n
  have h2 := Wire.enc_length_le (Wire.enc n).length
  simp only [Mk.input, List.flatMap_cons, List.flatMap_nil, List.append_nil, List.length_append, List.length_singleton, Wire.encB]
  simp
  omega
theorem lat_new {w' : World} {B g11 g13 bl n : Nat} {hd : List UInt8} (hB1 : B ≤ g11) (hB2 : B ≤ g13) (hne : g11 ≠ g13) (h1 : 1 ≤ n) (h2 : n ≤ 16) (r1 : FRow w' g11 n (fun _ => 0)) (r2 : FRow w' g13 n (fun _ => 0)) (hd16 : hd.length = 16) (hbl : B ≤ bl) (hl1 : g11 < bl) (hl2 : g13 < bl)
    (hr : IsRow w' bl 71 (.int .i64 0 :: .slice none 0 0 :: .slice (some ⟨g11, 0, none⟩) n n :: .slice (some ⟨g13, 0, none⟩) n n :: bvs hd)) (ht1 : 2 < B) (ht2 : 0 < B) (ht3 : 1 < B) :
    ∃ col, LAt w' bl col ⟨none, 0, [], g11, n, g13, n⟩ (Bil.newOf n hd) ∧ ∀ b, col b ≠ 0 → B ≤ b := by
  refine ⟨fun b => if b = bl then 1 else if b = g11 then 2 else if b = g13 then 3 else 0, ⟨hr, hd16, h1, h2, by show (0 : Nat) ≤ 65536; omega, by simp, ?_, ?_, by simp [Bil.newOf], by simp [Bil.newOf], rfl, KRow.nil _ _, by simp, by simp, ?_, ?_, by simp, ?_, ?_⟩, ?_⟩
  · exact r1.congr fun t ht => Bil.rep_zero n t
  · exact r2.congr fun t ht => Bil.rep_zero n t
  · simp [show g11 ≠ bl by omega]
  · simp [show g13 ≠ bl by omega, hne.symm]
  · intro k hk
    split at hk
    · subst k; exact hr.lt
    · split at hk
      · subst k; exact r1.lt
      · split at hk
        · subst k; exact r2.lt
        · exact absurd rfl hk
  · refine ⟨?_, ?_, ?_⟩ <;> (rw [if_neg (by omega), if_neg (by omega), if_neg (by omega)])
  · intro b hb
    dsimp only at hb
    split at hb
    · omega
    · split at hb
      · omega
      · split at hb
        · omega
        · exact absurd rfl hb
set_option maxRecDepth 100000 in
set_option maxHeartbeats 3200000 in
theorem new_any (n : Nat) (h1 : 1 ≤ n) (h2 : n ≤ 16) (w : World) (hT : Tabs w) (hR : RG w) : Calls Tryd.prog 11 #[.int .i64 n] w (NewOk w n) := by
  obtain ⟨M, hM, hmk⟩ := mkInts n (by omega)
  have HM := Lib.hid hM
  have hin := input1_le (n : Int)
  obtain ⟨hd, hhd⟩ : ∃ x, newHead (n : Int) = x := ⟨_, rfl⟩
  have hd16 : hd.length = 16 := by rw [← hhd]; exact Mk.short_len _
  have HD := Lib.hid hd16
  have HHD := Lib.hid hhd
  have hOF : ∀ (g B : Nat) (W : World), Below w.heap.size w W → Rd W B 1 (some ⟨g, 0, none⟩) 1 (svs [⟨(Wire.enc (n : Int)).toArray⟩]) → B ≤ W.heap.size → Calls Tryd.prog 31 #[.int .i64 6, .slice (some ⟨g, 0, none⟩) 1 1] W fun e w' => e = .returned (dv hd) ∧ Below W.heap.size W w' := fun g B W hW hr hg => by
    have := of_any 6 (some ⟨g, 0, none⟩) 1 1 [⟨(Wire.enc (n : Int)).toArray⟩] rfl B W hr hg (by omega) (hT.below hW)
    rwa [show Mk.of 6 [⟨(Wire.enc (n : Int)).toArray⟩] = hd from hhd] at this
  have HOF := Lib.hid hOF
  have HTT := Lib.hid (And.intro hT.k.lt (And.intro hT.s.lt hR.r.lt))
  have HN := Lib.hid (And.intro h1 h2)
  have i1 : ¬ ((n : Int) < 1) := by omega
  have i2 : ¬ (16 < (n : Int)) := by omega
  have HI : Hid (-9223372036854775808 ≤ (n : Int) ∧ (n : Int) ≤ 9223372036854775807) := Lib.hid (by omega)
  clear hM hin hhd hd16 hOF hT hR h1 h2
  go_enter Tryd.func11, Tryd.ntmps11
  go_wp2_with fail
  have hv0 : Below w.heap.size w w.drew := (Below.refl _ _).drew
  refine wp_region_held_drew (S := fun W => Below w.heap.size w W) (by kernel_rfl) (hv0) (fun hHeld => ?_)
  obtain ⟨wd, hwd⟩ : ∃ x, w.drew = x := ⟨_, rfl⟩
  rw [hwd] at hv0 hHeld ⊢
  clear hwd
  refine tkH 0 oW20 ?v0_1 (.inl ⟨by rfl, ?h0_1⟩) ?r0_1
  case h0_1 =>
    intro W hSW
    unfold oW20
    try dsimp only at hSW
    go_simp
    try with_reducible rfl
  try simp only [oW20, PT]
  refine tkH 2 oW21 ?v2_2 (.inl ⟨by rfl, ?h2_2⟩) ?r2_2
  case h2_2 =>
    intro W hSW
    unfold oW21
    try dsimp only at hSW
    go_simp
    try with_reducible rfl
  try simp only [oW21, PT]
  refine tkH 4 oW22 ?v4_3 (.inl ⟨by rfl, ?h4_3⟩) ?r4_3
  case h4_3 =>
    intro W hSW
    unfold oW22
    try dsimp only at hSW
    go_simp
    try with_reducible rfl
  try simp only [oW22, PT]
  refine rdyH [1, 3, 5] ?_
  refine AllReadyH.cons (o := oW23) rfl (fun K hK => ?_) ?_
  · skip
    unfold oW23
    go_simp
    obtain ⟨g11, hg11⟩ : ∃ x, wd.heap.size = x := ⟨_, rfl⟩
    obtain ⟨w40, hw40⟩ : ∃ x, wd.alloc (.cells M 3) = x := ⟨_, rfl⟩
    rw [hw40, hg11]
    obtain ⟨r11, z40, b40⟩ := new_ints hw40 HM.out
    rw [hg11] at r11
    have hv40 : Below w.heap.size w w40 := hv0.trans (b40.mono hv0.size)
    have l11 : Hid (w.heap.size ≤ g11) := Lib.hid (by rw [← hg11]; exact hv0.size)
    try have HNE : Hid (g11 ≠ g13) := Lib.hid (Nat.ne_of_gt (show g13 < g11 from hg11 ▸ r13.lt))
    try have r13 := r13.below b40
    try have rd15 := (rd15.below b40).more b40.size
    try have rd17 := (rd17.below b40).more b40.size
    clear hw40 b40 z40 hg11
    refine hK.out _ _ (hv40) (fun hHeld => ?_)
    clear hK K
    try simp only [PT]
    refine rdyH [3, 5] ?_
    refine AllReadyH.cons (o := oW24) rfl (fun K hK => ?_) ?_
    · skip
      unfold oW24
      go_simp
      obtain ⟨g13, hg13⟩ : ∃ x, w40.heap.size = x := ⟨_, rfl⟩
      obtain ⟨w41, hw41⟩ : ∃ x, w40.alloc (.cells M 3) = x := ⟨_, rfl⟩
      rw [hw41, hg13]
      obtain ⟨r13, z41, b41⟩ := new_ints hw41 HM.out
      rw [hg13] at r13
      have hv41 : Below w.heap.size w w41 := hv40.trans (b41.mono hv40.size)
      have l13 : Hid (w.heap.size ≤ g13) := Lib.hid (by rw [← hg13]; exact hv40.size)
      try have HNE : Hid (g11 ≠ g13) := Lib.hid (Nat.ne_of_lt (show g11 < g13 from hg13 ▸ r11.lt))
      try have r11 := r11.below b41
      try have rd15 := (rd15.below b41).more b41.size
      try have rd17 := (rd17.below b41).more b41.size
      clear hw41 b41 z41 hg13
      refine hK.out _ _ (hv41) (fun hHeld => ?_)
      clear hK K
      try simp only [PT]
      refine rdyH [5] ?_
      refine AllReadyH.cons (o := oW25) rfl (fun K hK => ?_) AllReadyH.nil
      unfold oW25
      go_simp
      refine (wireInt_any (n : Int) HI.out.1 HI.out.2 _).mono ?_
      rintro e w42 ⟨A15, c15, rfl, own15, b42⟩
      have hv42 : Below w.heap.size w w42 := hv41.trans (b42.mono hv41.size)
      try have r11 := r11.below b42
      try have r13 := r13.below b42
      have rd15 := Rd.of_own own15
      clear own15 b42
      refine hK.out _ _ (hv42) (fun hHeld => ?_)
      clear hK K
      try simp only [PT]
      refine rdyH [6] ?_
      refine AllReadyH.cons (o := oW26) rfl (fun K hK => ?_) AllReadyH.nil
      unfold oW26
      rw [if_pos (by rfl)]
      have hcc := run_toS w42 58 9 5 Tryd.underlying58 Tryd.underlying5 Tryd.underlying9 A15 _ c15 _ _ rd15
      go_simp
      clear hcc
      refine hK.out _ _ (hv42) (fun hHeld => ?_)
      clear hK K
      try simp only [PT]
      refine rdyH [7] ?_
      refine AllReadyH.cons (o := oW27) rfl (fun K hK => ?_) AllReadyH.nil
      unfold oW27
      go_simp
      clear rd15
      obtain ⟨g17, hg17⟩ : ∃ x, w42.heap.size = x := ⟨_, rfl⟩
      have rd17 := Rd.new w42 (svs [⟨(Wire.enc (n : Int)).toArray⟩]) 9 1 (size := 1) rfl
      obtain ⟨w44, hw44⟩ : ∃ x, w42.alloc (.cells #[.string ⟨(Wire.enc (n : Int)).toArray⟩] 9) = x := ⟨_, rfl⟩
      rw [show (svs [⟨(Wire.enc (n : Int)).toArray⟩]).toArray = #[.string ⟨(Wire.enc (n : Int)).toArray⟩] from rfl] at rd17
      rw [hw44, hg17] at rd17
      rw [hw44, hg17]
      have b44 : Below w42.heap.size w42 w44 := by rw [← hw44]; exact (Below.refl _ _).alloc (Nat.le_refl _) _
      have hv44 : Below w.heap.size w w44 := hv42.trans (b44.mono hv42.size)
      have rd17 : Rd w44 w44.heap.size 1 _ _ _ := rd17.more (by rw [← hw44, alloc_size1, hg17]; exact Nat.le_refl _)
      try have r11 := r11.below b44
      try have r13 := r13.below b44
      clear hw44 b44 hg17
      refine hK.out _ _ (hv44) (fun hHeld => ?_)
      clear hK K
      try simp only [PT]
      refine rdyH [8] ?_
      refine AllReadyH.cons (o := oW28) rfl (fun K hK => ?_) AllReadyH.nil
      unfold oW28
      go_simp
      refine (HOF.out g17 _ _ hv44 rd17 (Nat.le_refl _)).mono ?_
      rintro e w45 ⟨rfl, b45⟩
      have hv45 : Below w.heap.size w w45 := hv44.trans (b45.mono hv44.size)
      clear rd17
      try have r11 := r11.below b45
      try have r13 := r13.below b45
      clear b45
      refine hK.out _ _ (hv45) (fun hHeld => ?_)
      clear hK K
      try simp only [PT]
      refine tkH 9 oW29 _ (y_build234 rfl 71 2 3 4 (.tmp 11) (.tmp 13) (.tmp 18) rfl (.slice (some ⟨g11, 0, none⟩) n n) (.slice (some ⟨g13, 0, none⟩) n n) (dv hd) rfl rfl rfl _ (built_lg _ _ n n n hd HD.out)) ?_
      try simp only [oW29, PT]
      refine rdyH [10] ?_
      refine AllReadyH.cons (o := oW210) rfl (fun K hK => ?_) AllReadyH.nil
      unfold oW210
      go_simp
      obtain ⟨bl, hbl⟩ : ∃ x, w45.heap.size = x := ⟨_, rfl⟩
      have rbl := IsRow.new w45 71 (.int .i64 0 :: .slice none 0 0 :: .slice (some ⟨g11, 0, none⟩) n n :: .slice (some ⟨g13, 0, none⟩) n n :: bvs hd)
      obtain ⟨w46, hw46⟩ : ∃ x, w45.alloc (.cells (.int .i64 0 :: .slice none 0 0 :: .slice (some ⟨g11, 0, none⟩) n n :: .slice (some ⟨g13, 0, none⟩) n n :: bvs hd).toArray 71) = x := ⟨_, rfl⟩
      rw [hw46, hbl] at rbl
      try simp only [List.cons_append, List.nil_append, List.append_toArray, Array.toList_append]
      rw [hw46, hbl]
      have b46 : Below w45.heap.size w45 w46 := by rw [← hw46]; exact (Below.refl _ _).alloc (Nat.le_refl _) _
      have hv46 : Below w.heap.size w w46 := hv45.trans (b46.mono hv45.size)
      have hl11 : g11 < bl := hbl ▸ r11.lt
      have hl13 : g13 < bl := hbl ▸ r13.lt
      have hlb : w.heap.size ≤ bl := hbl ▸ hv45.size
      try have r11 := r11.below b46
      try have r13 := r13.below b46
      clear hw46 b46 hbl
      refine hK.out _ _ (hv46) (fun hHeld => ?_)
      clear hK K
      try simp only [PT]
      refine tkH 11 oW211 ?v11_5 (.inl ⟨by rfl, ?h11_5⟩) ?r11_5
      case h11_5 =>
        intro W hSW
        unfold oW211
        try dsimp only at hSW
        go_simp
        try with_reducible rfl
      try simp only [oW211, PT]
      refine tkH 12 oW212 ?v12_6 (.inl ⟨by rfl, ?h12_6⟩) ?r12_6
      case h12_6 =>
        intro W hSW
        unfold oW212
        try dsimp only at hSW
        go_simp
        try with_reducible rfl
      try simp only [oW212, PT]
      refine wpAnyH_done (by kernel_rfl) ?_ _
      obtain ⟨col, hat, hcol⟩ := lat_new l11.out l13.out HNE.out HN.out.1 HN.out.2 r11 r13 HD.out hlb hl11 hl13 rbl HTT.out.1 HTT.out.2.1 HTT.out.2.2
      have HAT := Lib.hid hat
      have HCO := Lib.hid hcol
      have HV := Lib.hid hv46
      clear hat hcol rbl r11 r13 hl11 hl13 hlb
      go_wp2_with fail
      exact bodyPost_ret (results_tmp2 rfl _ _ _) rfl ⟨bl, col, _, rfl, by rw [show newHead (n : Int) = hd from HHD.out]; exact HAT.out, HCO.out, HV.out⟩
    · skip
      refine AllReadyH.cons (o := oW25) rfl (fun K hK => ?_) AllReadyH.nil
      unfold oW25
      go_simp
      refine (wireInt_any (n : Int) HI.out.1 HI.out.2 _).mono ?_
      rintro e w41 ⟨A15, c15, rfl, own15, b41⟩
      have hv41 : Below w.heap.size w w41 := hv40.trans (b41.mono hv40.size)
      try have r11 := r11.below b41
      try have r13 := r13.below b41
      have rd15 := Rd.of_own own15
      clear own15 b41
      refine hK.out _ _ (hv41) (fun hHeld => ?_)
      clear hK K
      try simp only [PT]
      refine rdyH [3, 6] ?_
      refine AllReadyH.cons (o := oW24) rfl (fun K hK => ?_) ?_
      · skip
        unfold oW24
        go_simp
        obtain ⟨g13, hg13⟩ : ∃ x, w41.heap.size = x := ⟨_, rfl⟩
        obtain ⟨w42, hw42⟩ : ∃ x, w41.alloc (.cells M 3) = x := ⟨_, rfl⟩
        rw [hw42, hg13]
        obtain ⟨r13, z42, b42⟩ := new_ints hw42 HM.out
        rw [hg13] at r13
        have hv42 : Below w.heap.size w w42 := hv41.trans (b42.mono hv41.size)
        have l13 : Hid (w.heap.size ≤ g13) := Lib.hid (by rw [← hg13]; exact hv41.size)
        try have HNE : Hid (g11 ≠ g13) := Lib.hid (Nat.ne_of_lt (show g11 < g13 from hg13 ▸ r11.lt))
        try have r11 := r11.below b42
        try have rd15 := (rd15.below b42).more b42.size
        try have rd17 := (rd17.below b42).more b42.size
        clear hw42 b42 z42 hg13
        refine hK.out _ _ (hv42) (fun hHeld => ?_)
        clear hK K
        try simp only [PT]
        refine rdyH [6] ?_
        refine AllReadyH.cons (o := oW26) rfl (fun K hK => ?_) AllReadyH.nil
        unfold oW26
        rw [if_pos (by rfl)]
        have hcc := run_toS w42 58 9 5 Tryd.underlying58 Tryd.underlying5 Tryd.underlying9 A15 _ c15 _ _ rd15
        go_simp
        clear hcc
        refine hK.out _ _ (hv42) (fun hHeld => ?_)
        clear hK K
        try simp only [PT]
        refine rdyH [7] ?_
        refine AllReadyH.cons (o := oW27) rfl (fun K hK => ?_) AllReadyH.nil
        unfold oW27
        go_simp
        clear rd15
        obtain ⟨g17, hg17⟩ : ∃ x, w42.heap.size = x := ⟨_, rfl⟩
        have rd17 := Rd.new w42 (svs [⟨(Wire.enc (n : Int)).toArray⟩]) 9 1 (size := 1) rfl
        obtain ⟨w44, hw44⟩ : ∃ x, w42.alloc (.cells #[.string ⟨(Wire.enc (n : Int)).toArray⟩] 9) = x := ⟨_, rfl⟩
        rw [show (svs [⟨(Wire.enc (n : Int)).toArray⟩]).toArray = #[.string ⟨(Wire.enc (n : Int)).toArray⟩] from rfl] at rd17
        rw [hw44, hg17] at rd17
        rw [hw44, hg17]
        have b44 : Below w42.heap.size w42 w44 := by rw [← hw44]; exact (Below.refl _ _).alloc (Nat.le_refl _) _
        have hv44 : Below w.heap.size w w44 := hv42.trans (b44.mono hv42.size)
        have rd17 : Rd w44 w44.heap.size 1 _ _ _ := rd17.more (by rw [← hw44, alloc_size1, hg17]; exact Nat.le_refl _)
        try have r11 := r11.below b44
        try have r13 := r13.below b44
        clear hw44 b44 hg17
        refine hK.out _ _ (hv44) (fun hHeld => ?_)
        clear hK K
        try simp only [PT]
        refine rdyH [8] ?_
        refine AllReadyH.cons (o := oW28) rfl (fun K hK => ?_) AllReadyH.nil
        unfold oW28
        go_simp
        refine (HOF.out g17 _ _ hv44 rd17 (Nat.le_refl _)).mono ?_
        rintro e w45 ⟨rfl, b45⟩
        have hv45 : Below w.heap.size w w45 := hv44.trans (b45.mono hv44.size)
        clear rd17
        try have r11 := r11.below b45
        try have r13 := r13.below b45
        clear b45
        refine hK.out _ _ (hv45) (fun hHeld => ?_)
        clear hK K
        try simp only [PT]
        refine tkH 9 oW29 _ (y_build234 rfl 71 2 3 4 (.tmp 11) (.tmp 13) (.tmp 18) rfl (.slice (some ⟨g11, 0, none⟩) n n) (.slice (some ⟨g13, 0, none⟩) n n) (dv hd) rfl rfl rfl _ (built_lg _ _ n n n hd HD.out)) ?_
        try simp only [oW29, PT]
        refine rdyH [10] ?_
        refine AllReadyH.cons (o := oW210) rfl (fun K hK => ?_) AllReadyH.nil
        unfold oW210
        go_simp
        obtain ⟨bl, hbl⟩ : ∃ x, w45.heap.size = x := ⟨_, rfl⟩
        have rbl := IsRow.new w45 71 (.int .i64 0 :: .slice none 0 0 :: .slice (some ⟨g11, 0, none⟩) n n :: .slice (some ⟨g13, 0, none⟩) n n :: bvs hd)
        obtain ⟨w46, hw46⟩ : ∃ x, w45.alloc (.cells (.int .i64 0 :: .slice none 0 0 :: .slice (some ⟨g11, 0, none⟩) n n :: .slice (some ⟨g13, 0, none⟩) n n :: bvs hd).toArray 71) = x := ⟨_, rfl⟩
        rw [hw46, hbl] at rbl
        try simp only [List.cons_append, List.nil_append, List.append_toArray, Array.toList_append]
        rw [hw46, hbl]
        have b46 : Below w45.heap.size w45 w46 := by rw [← hw46]; exact (Below.refl _ _).alloc (Nat.le_refl _) _
        have hv46 : Below w.heap.size w w46 := hv45.trans (b46.mono hv45.size)
        have hl11 : g11 < bl := hbl ▸ r11.lt
        have hl13 : g13 < bl := hbl ▸ r13.lt
        have hlb : w.heap.size ≤ bl := hbl ▸ hv45.size
        try have r11 := r11.below b46
        try have r13 := r13.below b46
        clear hw46 b46 hbl
        refine hK.out _ _ (hv46) (fun hHeld => ?_)
        clear hK K
        try simp only [PT]
        refine tkH 11 oW211 ?v11_8 (.inl ⟨by rfl, ?h11_8⟩) ?r11_8
        case h11_8 =>
          intro W hSW
          unfold oW211
          try dsimp only at hSW
          go_simp
          try with_reducible rfl
        try simp only [oW211, PT]
        refine tkH 12 oW212 ?v12_9 (.inl ⟨by rfl, ?h12_9⟩) ?r12_9
        case h12_9 =>
          intro W hSW
          unfold oW212
          try dsimp only at hSW
          go_simp
          try with_reducible rfl
        try simp only [oW212, PT]
        refine wpAnyH_done (by kernel_rfl) ?_ _
        obtain ⟨col, hat, hcol⟩ := lat_new l11.out l13.out HNE.out HN.out.1 HN.out.2 r11 r13 HD.out hlb hl11 hl13 rbl HTT.out.1 HTT.out.2.1 HTT.out.2.2
        have HAT := Lib.hid hat
        have HCO := Lib.hid hcol
        have HV := Lib.hid hv46
        clear hat hcol rbl r11 r13 hl11 hl13 hlb
        go_wp2_with fail
        exact bodyPost_ret (results_tmp2 rfl _ _ _) rfl ⟨bl, col, _, rfl, by rw [show newHead (n : Int) = hd from HHD.out]; exact HAT.out, HCO.out, HV.out⟩
      · skip
        refine AllReadyH.cons (o := oW26) rfl (fun K hK => ?_) AllReadyH.nil
        unfold oW26
        rw [if_pos (by rfl)]
        have hcc := run_toS w41 58 9 5 Tryd.underlying58 Tryd.underlying5 Tryd.underlying9 A15 _ c15 _ _ rd15
        go_simp
        clear hcc
        refine hK.out _ _ (hv41) (fun hHeld => ?_)
        clear hK K
        try simp only [PT]
        refine rdyH [3, 7] ?_
        refine AllReadyH.cons (o := oW24) rfl (fun K hK => ?_) ?_
        · skip
          unfold oW24
          go_simp
          obtain ⟨g13, hg13⟩ : ∃ x, w41.heap.size = x := ⟨_, rfl⟩
          obtain ⟨w43, hw43⟩ : ∃ x, w41.alloc (.cells M 3) = x := ⟨_, rfl⟩
          rw [hw43, hg13]
          obtain ⟨r13, z43, b43⟩ := new_ints hw43 HM.out
          rw [hg13] at r13
          have hv43 : Below w.heap.size w w43 := hv41.trans (b43.mono hv41.size)
          have l13 : Hid (w.heap.size ≤ g13) := Lib.hid (by rw [← hg13]; exact hv41.size)
          try have HNE : Hid (g11 ≠ g13) := Lib.hid (Nat.ne_of_lt (show g11 < g13 from hg13 ▸ r11.lt))
          try have r11 := r11.below b43
          try have rd15 := (rd15.below b43).more b43.size
          try have rd17 := (rd17.below b43).more b43.size
          clear hw43 b43 z43 hg13
          refine hK.out _ _ (hv43) (fun hHeld => ?_)
          clear hK K
          try simp only [PT]
          refine rdyH [7] ?_
          refine AllReadyH.cons (o := oW27) rfl (fun K hK => ?_) AllReadyH.nil
          unfold oW27
          go_simp
          clear rd15
          obtain ⟨g17, hg17⟩ : ∃ x, w43.heap.size = x := ⟨_, rfl⟩
          have rd17 := Rd.new w43 (svs [⟨(Wire.enc (n : Int)).toArray⟩]) 9 1 (size := 1) rfl
          obtain ⟨w44, hw44⟩ : ∃ x, w43.alloc (.cells #[.string ⟨(Wire.enc (n : Int)).toArray⟩] 9) = x := ⟨_, rfl⟩
          rw [show (svs [⟨(Wire.enc (n : Int)).toArray⟩]).toArray = #[.string ⟨(Wire.enc (n : Int)).toArray⟩] from rfl] at rd17
          rw [hw44, hg17] at rd17
          rw [hw44, hg17]
          have b44 : Below w43.heap.size w43 w44 := by rw [← hw44]; exact (Below.refl _ _).alloc (Nat.le_refl _) _
          have hv44 : Below w.heap.size w w44 := hv43.trans (b44.mono hv43.size)
          have rd17 : Rd w44 w44.heap.size 1 _ _ _ := rd17.more (by rw [← hw44, alloc_size1, hg17]; exact Nat.le_refl _)
          try have r11 := r11.below b44
          try have r13 := r13.below b44
          clear hw44 b44 hg17
          refine hK.out _ _ (hv44) (fun hHeld => ?_)
          clear hK K
          try simp only [PT]
          refine rdyH [8] ?_
          refine AllReadyH.cons (o := oW28) rfl (fun K hK => ?_) AllReadyH.nil
          unfold oW28
          go_simp
          refine (HOF.out g17 _ _ hv44 rd17 (Nat.le_refl _)).mono ?_
          rintro e w45 ⟨rfl, b45⟩
          have hv45 : Below w.heap.size w w45 := hv44.trans (b45.mono hv44.size)
          clear rd17
          try have r11 := r11.below b45
          try have r13 := r13.below b45
          clear b45
          refine hK.out _ _ (hv45) (fun hHeld => ?_)
          clear hK K
          try simp only [PT]
          refine tkH 9 oW29 _ (y_build234 rfl 71 2 3 4 (.tmp 11) (.tmp 13) (.tmp 18) rfl (.slice (some ⟨g11, 0, none⟩) n n) (.slice (some ⟨g13, 0, none⟩) n n) (dv hd) rfl rfl rfl _ (built_lg _ _ n n n hd HD.out)) ?_
          try simp only [oW29, PT]
          refine rdyH [10] ?_
          refine AllReadyH.cons (o := oW210) rfl (fun K hK => ?_) AllReadyH.nil
          unfold oW210
          go_simp
          obtain ⟨bl, hbl⟩ : ∃ x, w45.heap.size = x := ⟨_, rfl⟩
          have rbl := IsRow.new w45 71 (.int .i64 0 :: .slice none 0 0 :: .slice (some ⟨g11, 0, none⟩) n n :: .slice (some ⟨g13, 0, none⟩) n n :: bvs hd)
          obtain ⟨w46, hw46⟩ : ∃ x, w45.alloc (.cells (.int .i64 0 :: .slice none 0 0 :: .slice (some ⟨g11, 0, none⟩) n n :: .slice (some ⟨g13, 0, none⟩) n n :: bvs hd).toArray 71) = x := ⟨_, rfl⟩
          rw [hw46, hbl] at rbl
          try simp only [List.cons_append, List.nil_append, List.append_toArray, Array.toList_append]
          rw [hw46, hbl]
          have b46 : Below w45.heap.size w45 w46 := by rw [← hw46]; exact (Below.refl _ _).alloc (Nat.le_refl _) _
          have hv46 : Below w.heap.size w w46 := hv45.trans (b46.mono hv45.size)
          have hl11 : g11 < bl := hbl ▸ r11.lt
          have hl13 : g13 < bl := hbl ▸ r13.lt
          have hlb : w.heap.size ≤ bl := hbl ▸ hv45.size
          try have r11 := r11.below b46
          try have r13 := r13.below b46
          clear hw46 b46 hbl
          refine hK.out _ _ (hv46) (fun hHeld => ?_)
          clear hK K
          try simp only [PT]
          refine tkH 11 oW211 ?v11_11 (.inl ⟨by rfl, ?h11_11⟩) ?r11_11
          case h11_11 =>
            intro W hSW
            unfold oW211
            try dsimp only at hSW
            go_simp
            try with_reducible rfl
          try simp only [oW211, PT]
          refine tkH 12 oW212 ?v12_12 (.inl ⟨by rfl, ?h12_12⟩) ?r12_12
          case h12_12 =>
            intro W hSW
            unfold oW212
            try dsimp only at hSW
            go_simp
            try with_reducible rfl
          try simp only [oW212, PT]
          refine wpAnyH_done (by kernel_rfl) ?_ _
          obtain ⟨col, hat, hcol⟩ := lat_new l11.out l13.out HNE.out HN.out.1 HN.out.2 r11 r13 HD.out hlb hl11 hl13 rbl HTT.out.1 HTT.out.2.1 HTT.out.2.2
          have HAT := Lib.hid hat
          have HCO := Lib.hid hcol
          have HV := Lib.hid hv46
          clear hat hcol rbl r11 r13 hl11 hl13 hlb
          go_wp2_with fail
          exact bodyPost_ret (results_tmp2 rfl _ _ _) rfl ⟨bl, col, _, rfl, by rw [show newHead (n : Int) = hd from HHD.out]; exact HAT.out, HCO.out, HV.out⟩
        · skip
          refine AllReadyH.cons (o := oW27) rfl (fun K hK => ?_) AllReadyH.nil
          unfold oW27
          go_simp
          clear rd15
          obtain ⟨g17, hg17⟩ : ∃ x, w41.heap.size = x := ⟨_, rfl⟩
          have rd17 := Rd.new w41 (svs [⟨(Wire.enc (n : Int)).toArray⟩]) 9 1 (size := 1) rfl
          obtain ⟨w43, hw43⟩ : ∃ x, w41.alloc (.cells #[.string ⟨(Wire.enc (n : Int)).toArray⟩] 9) = x := ⟨_, rfl⟩
          rw [show (svs [⟨(Wire.enc (n : Int)).toArray⟩]).toArray = #[.string ⟨(Wire.enc (n : Int)).toArray⟩] from rfl] at rd17
          rw [hw43, hg17] at rd17
          rw [hw43, hg17]
          have b43 : Below w41.heap.size w41 w43 := by rw [← hw43]; exact (Below.refl _ _).alloc (Nat.le_refl _) _
          have hv43 : Below w.heap.size w w43 := hv41.trans (b43.mono hv41.size)
          have rd17 : Rd w43 w43.heap.size 1 _ _ _ := rd17.more (by rw [← hw43, alloc_size1, hg17]; exact Nat.le_refl _)
          try have r11 := r11.below b43
          try have r13 := r13.below b43
          clear hw43 b43 hg17
          refine hK.out _ _ (hv43) (fun hHeld => ?_)
          clear hK K
          try simp only [PT]
          refine rdyH [3, 8] ?_
          refine AllReadyH.cons (o := oW24) rfl (fun K hK => ?_) ?_
          · skip
            unfold oW24
            go_simp
            obtain ⟨g13, hg13⟩ : ∃ x, w43.heap.size = x := ⟨_, rfl⟩
            obtain ⟨w44, hw44⟩ : ∃ x, w43.alloc (.cells M 3) = x := ⟨_, rfl⟩
            rw [hw44, hg13]
            obtain ⟨r13, z44, b44⟩ := new_ints hw44 HM.out
            rw [hg13] at r13
            have hv44 : Below w.heap.size w w44 := hv43.trans (b44.mono hv43.size)
            have l13 : Hid (w.heap.size ≤ g13) := Lib.hid (by rw [← hg13]; exact hv43.size)
            try have HNE : Hid (g11 ≠ g13) := Lib.hid (Nat.ne_of_lt (show g11 < g13 from hg13 ▸ r11.lt))
            try have r11 := r11.below b44
            try have rd15 := (rd15.below b44).more b44.size
            try have rd17 := (rd17.below b44).more b44.size
            clear hw44 b44 z44 hg13
            refine hK.out _ _ (hv44) (fun hHeld => ?_)
            clear hK K
            try simp only [PT]
            refine rdyH [8] ?_
            refine AllReadyH.cons (o := oW28) rfl (fun K hK => ?_) AllReadyH.nil
            unfold oW28
            go_simp
            refine (HOF.out g17 _ _ hv44 rd17 (Nat.le_refl _)).mono ?_
            rintro e w45 ⟨rfl, b45⟩
            have hv45 : Below w.heap.size w w45 := hv44.trans (b45.mono hv44.size)
            clear rd17
            try have r11 := r11.below b45
            try have r13 := r13.below b45
            clear b45
            refine hK.out _ _ (hv45) (fun hHeld => ?_)
            clear hK K
            try simp only [PT]
            refine tkH 9 oW29 _ (y_build234 rfl 71 2 3 4 (.tmp 11) (.tmp 13) (.tmp 18) rfl (.slice (some ⟨g11, 0, none⟩) n n) (.slice (some ⟨g13, 0, none⟩) n n) (dv hd) rfl rfl rfl _ (built_lg _ _ n n n hd HD.out)) ?_
            try simp only [oW29, PT]
            refine rdyH [10] ?_
            refine AllReadyH.cons (o := oW210) rfl (fun K hK => ?_) AllReadyH.nil
            unfold oW210
            go_simp
            obtain ⟨bl, hbl⟩ : ∃ x, w45.heap.size = x := ⟨_, rfl⟩
            have rbl := IsRow.new w45 71 (.int .i64 0 :: .slice none 0 0 :: .slice (some ⟨g11, 0, none⟩) n n :: .slice (some ⟨g13, 0, none⟩) n n :: bvs hd)
            obtain ⟨w46, hw46⟩ : ∃ x, w45.alloc (.cells (.int .i64 0 :: .slice none 0 0 :: .slice (some ⟨g11, 0, none⟩) n n :: .slice (some ⟨g13, 0, none⟩) n n :: bvs hd).toArray 71) = x := ⟨_, rfl⟩
            rw [hw46, hbl] at rbl
            try simp only [List.cons_append, List.nil_append, List.append_toArray, Array.toList_append]
            rw [hw46, hbl]
            have b46 : Below w45.heap.size w45 w46 := by rw [← hw46]; exact (Below.refl _ _).alloc (Nat.le_refl _) _
            have hv46 : Below w.heap.size w w46 := hv45.trans (b46.mono hv45.size)
            have hl11 : g11 < bl := hbl ▸ r11.lt
            have hl13 : g13 < bl := hbl ▸ r13.lt
            have hlb : w.heap.size ≤ bl := hbl ▸ hv45.size
            try have r11 := r11.below b46
            try have r13 := r13.below b46
            clear hw46 b46 hbl
            refine hK.out _ _ (hv46) (fun hHeld => ?_)
            clear hK K
            try simp only [PT]
            refine tkH 11 oW211 ?v11_14 (.inl ⟨by rfl, ?h11_14⟩) ?r11_14
            case h11_14 =>
              intro W hSW
              unfold oW211
              try dsimp only at hSW
              go_simp
              try with_reducible rfl
            try simp only [oW211, PT]
            refine tkH 12 oW212 ?v12_15 (.inl ⟨by rfl, ?h12_15⟩) ?r12_15
            case h12_15 =>
              intro W hSW
              unfold oW212
              try dsimp only at hSW
              go_simp
              try with_reducible rfl
            try simp only [oW212, PT]
            refine wpAnyH_done (by kernel_rfl) ?_ _
            obtain ⟨col, hat, hcol⟩ := lat_new l11.out l13.out HNE.out HN.out.1 HN.out.2 r11 r13 HD.out hlb hl11 hl13 rbl HTT.out.1 HTT.out.2.1 HTT.out.2.2
            have HAT := Lib.hid hat
            have HCO := Lib.hid hcol
            have HV := Lib.hid hv46
            clear hat hcol rbl r11 r13 hl11 hl13 hlb
            go_wp2_with fail
            exact bodyPost_ret (results_tmp2 rfl _ _ _) rfl ⟨bl, col, _, rfl, by rw [show newHead (n : Int) = hd from HHD.out]; exact HAT.out, HCO.out, HV.out⟩
          · skip
            refine AllReadyH.cons (o := oW28) rfl (fun K hK => ?_) AllReadyH.nil
            unfold oW28
            go_simp
            refine (HOF.out g17 _ _ hv43 rd17 (Nat.le_refl _)).mono ?_
            rintro e w44 ⟨rfl, b44⟩
            have hv44 : Below w.heap.size w w44 := hv43.trans (b44.mono hv43.size)
            clear rd17
            try have r11 := r11.below b44
            try have r13 := r13.below b44
            clear b44
            refine hK.out _ _ (hv44) (fun hHeld => ?_)
            clear hK K
            try simp only [PT]
            refine rdyH [3] ?_
            refine AllReadyH.cons (o := oW24) rfl (fun K hK => ?_) AllReadyH.nil
            unfold oW24
            go_simp
            obtain ⟨g13, hg13⟩ : ∃ x, w44.heap.size = x := ⟨_, rfl⟩
            obtain ⟨w45, hw45⟩ : ∃ x, w44.alloc (.cells M 3) = x := ⟨_, rfl⟩
            rw [hw45, hg13]
            obtain ⟨r13, z45, b45⟩ := new_ints hw45 HM.out
            rw [hg13] at r13
            have hv45 : Below w.heap.size w w45 := hv44.trans (b45.mono hv44.size)
            have l13 : Hid (w.heap.size ≤ g13) := Lib.hid (by rw [← hg13]; exact hv44.size)
            try have HNE : Hid (g11 ≠ g13) := Lib.hid (Nat.ne_of_lt (show g11 < g13 from hg13 ▸ r11.lt))
            try have r11 := r11.below b45
            try have rd15 := (rd15.below b45).more b45.size
            try have rd17 := (rd17.below b45).more b45.size
            clear hw45 b45 z45 hg13
            refine hK.out _ _ (hv45) (fun hHeld => ?_)
            clear hK K
            try simp only [PT]
            refine tkH 9 oW29 _ (y_build234 rfl 71 2 3 4 (.tmp 11) (.tmp 13) (.tmp 18) rfl (.slice (some ⟨g11, 0, none⟩) n n) (.slice (some ⟨g13, 0, none⟩) n n) (dv hd) rfl rfl rfl _ (built_lg _ _ n n n hd HD.out)) ?_
            try simp only [oW29, PT]
            refine rdyH [10] ?_
            refine AllReadyH.cons (o := oW210) rfl (fun K hK => ?_) AllReadyH.nil
            unfold oW210
            go_simp
            obtain ⟨bl, hbl⟩ : ∃ x, w45.heap.size = x := ⟨_, rfl⟩
            have rbl := IsRow.new w45 71 (.int .i64 0 :: .slice none 0 0 :: .slice (some ⟨g11, 0, none⟩) n n :: .slice (some ⟨g13, 0, none⟩) n n :: bvs hd)
            obtain ⟨w46, hw46⟩ : ∃ x, w45.alloc (.cells (.int .i64 0 :: .slice none 0 0 :: .slice (some ⟨g11, 0, none⟩) n n :: .slice (some ⟨g13, 0, none⟩) n n :: bvs hd).toArray 71) = x := ⟨_, rfl⟩
            rw [hw46, hbl] at rbl
            try simp only [List.cons_append, List.nil_append, List.append_toArray, Array.toList_append]
            rw [hw46, hbl]
            have b46 : Below w45.heap.size w45 w46 := by rw [← hw46]; exact (Below.refl _ _).alloc (Nat.le_refl _) _
            have hv46 : Below w.heap.size w w46 := hv45.trans (b46.mono hv45.size)
            have hl11 : g11 < bl := hbl ▸ r11.lt
            have hl13 : g13 < bl := hbl ▸ r13.lt
            have hlb : w.heap.size ≤ bl := hbl ▸ hv45.size
            try have r11 := r11.below b46
            try have r13 := r13.below b46
            clear hw46 b46 hbl
            refine hK.out _ _ (hv46) (fun hHeld => ?_)
            clear hK K
            try simp only [PT]
            refine tkH 11 oW211 ?v11_17 (.inl ⟨by rfl, ?h11_17⟩) ?r11_17
            case h11_17 =>
              intro W hSW
              unfold oW211
              try dsimp only at hSW
              go_simp
              try with_reducible rfl
            try simp only [oW211, PT]
            refine tkH 12 oW212 ?v12_18 (.inl ⟨by rfl, ?h12_18⟩) ?r12_18
            case h12_18 =>
              intro W hSW
              unfold oW212
              try dsimp only at hSW
              go_simp
              try with_reducible rfl
            try simp only [oW212, PT]
            refine wpAnyH_done (by kernel_rfl) ?_ _
            obtain ⟨col, hat, hcol⟩ := lat_new l11.out l13.out HNE.out HN.out.1 HN.out.2 r11 r13 HD.out hlb hl11 hl13 rbl HTT.out.1 HTT.out.2.1 HTT.out.2.2
            have HAT := Lib.hid hat
            have HCO := Lib.hid hcol
            have HV := Lib.hid hv46
            clear hat hcol rbl r11 r13 hl11 hl13 hlb
            go_wp2_with fail
            exact bodyPost_ret (results_tmp2 rfl _ _ _) rfl ⟨bl, col, _, rfl, by rw [show newHead (n : Int) = hd from HHD.out]; exact HAT.out, HCO.out, HV.out⟩
  · skip
    refine AllReadyH.cons (o := oW24) rfl (fun K hK => ?_) ?_
    · skip
      unfold oW24
      go_simp
      obtain ⟨g13, hg13⟩ : ∃ x, wd.heap.size = x := ⟨_, rfl⟩
      obtain ⟨w40, hw40⟩ : ∃ x, wd.alloc (.cells M 3) = x := ⟨_, rfl⟩
      rw [hw40, hg13]
      obtain ⟨r13, z40, b40⟩ := new_ints hw40 HM.out
      rw [hg13] at r13
      have hv40 : Below w.heap.size w w40 := hv0.trans (b40.mono hv0.size)
      have l13 : Hid (w.heap.size ≤ g13) := Lib.hid (by rw [← hg13]; exact hv0.size)
      try have HNE : Hid (g11 ≠ g13) := Lib.hid (Nat.ne_of_lt (show g11 < g13 from hg13 ▸ r11.lt))
      try have r11 := r11.below b40
      try have rd15 := (rd15.below b40).more b40.size
      try have rd17 := (rd17.below b40).more b40.size
      clear hw40 b40 z40 hg13
      refine hK.out _ _ (hv40) (fun hHeld => ?_)
      clear hK K
      try simp only [PT]
      refine rdyH [1, 5] ?_
      refine AllReadyH.cons (o := oW23) rfl (fun K hK => ?_) ?_
      · skip
        unfold oW23
        go_simp
        obtain ⟨g11, hg11⟩ : ∃ x, w40.heap.size = x := ⟨_, rfl⟩
        obtain ⟨w41, hw41⟩ : ∃ x, w40.alloc (.cells M 3) = x := ⟨_, rfl⟩
        rw [hw41, hg11]
        obtain ⟨r11, z41, b41⟩ := new_ints hw41 HM.out
        rw [hg11] at r11
        have hv41 : Below w.heap.size w w41 := hv40.trans (b41.mono hv40.size)
        have l11 : Hid (w.heap.size ≤ g11) := Lib.hid (by rw [← hg11]; exact hv40.size)
        try have HNE : Hid (g11 ≠ g13) := Lib.hid (Nat.ne_of_gt (show g13 < g11 from hg11 ▸ r13.lt))
        try have r13 := r13.below b41
        try have rd15 := (rd15.below b41).more b41.size
        try have rd17 := (rd17.below b41).more b41.size
        clear hw41 b41 z41 hg11
        refine hK.out _ _ (hv41) (fun hHeld => ?_)
        clear hK K
        try simp only [PT]
        refine rdyH [5] ?_
        refine AllReadyH.cons (o := oW25) rfl (fun K hK => ?_) AllReadyH.nil
        unfold oW25
        go_simp
        refine (wireInt_any (n : Int) HI.out.1 HI.out.2 _).mono ?_
        rintro e w42 ⟨A15, c15, rfl, own15, b42⟩
        have hv42 : Below w.heap.size w w42 := hv41.trans (b42.mono hv41.size)
        try have r11 := r11.below b42
        try have r13 := r13.below b42
        have rd15 := Rd.of_own own15
        clear own15 b42
        refine hK.out _ _ (hv42) (fun hHeld => ?_)
        clear hK K
        try simp only [PT]
        refine rdyH [6] ?_
        refine AllReadyH.cons (o := oW26) rfl (fun K hK => ?_) AllReadyH.nil
        unfold oW26
        rw [if_pos (by rfl)]
        have hcc := run_toS w42 58 9 5 Tryd.underlying58 Tryd.underlying5 Tryd.underlying9 A15 _ c15 _ _ rd15
        go_simp
        clear hcc
        refine hK.out _ _ (hv42) (fun hHeld => ?_)
        clear hK K
        try simp only [PT]
        refine rdyH [7] ?_
        refine AllReadyH.cons (o := oW27) rfl (fun K hK => ?_) AllReadyH.nil
        unfold oW27
        go_simp
        clear rd15
        obtain ⟨g17, hg17⟩ : ∃ x, w42.heap.size = x := ⟨_, rfl⟩
        have rd17 := Rd.new w42 (svs [⟨(Wire.enc (n : Int)).toArray⟩]) 9 1 (size := 1) rfl
        obtain ⟨w44, hw44⟩ : ∃ x, w42.alloc (.cells #[.string ⟨(Wire.enc (n : Int)).toArray⟩] 9) = x := ⟨_, rfl⟩
        rw [show (svs [⟨(Wire.enc (n : Int)).toArray⟩]).toArray = #[.string ⟨(Wire.enc (n : Int)).toArray⟩] from rfl] at rd17
        rw [hw44, hg17] at rd17
        rw [hw44, hg17]
        have b44 : Below w42.heap.size w42 w44 := by rw [← hw44]; exact (Below.refl _ _).alloc (Nat.le_refl _) _
        have hv44 : Below w.heap.size w w44 := hv42.trans (b44.mono hv42.size)
        have rd17 : Rd w44 w44.heap.size 1 _ _ _ := rd17.more (by rw [← hw44, alloc_size1, hg17]; exact Nat.le_refl _)
        try have r11 := r11.below b44
        try have r13 := r13.below b44
        clear hw44 b44 hg17
        refine hK.out _ _ (hv44) (fun hHeld => ?_)
        clear hK K
        try simp only [PT]
        refine rdyH [8] ?_
        refine AllReadyH.cons (o := oW28) rfl (fun K hK => ?_) AllReadyH.nil
        unfold oW28
        go_simp
        refine (HOF.out g17 _ _ hv44 rd17 (Nat.le_refl _)).mono ?_
        rintro e w45 ⟨rfl, b45⟩
        have hv45 : Below w.heap.size w w45 := hv44.trans (b45.mono hv44.size)
        clear rd17
        try have r11 := r11.below b45
        try have r13 := r13.below b45
        clear b45
        refine hK.out _ _ (hv45) (fun hHeld => ?_)
        clear hK K
        try simp only [PT]
        refine tkH 9 oW29 _ (y_build234 rfl 71 2 3 4 (.tmp 11) (.tmp 13) (.tmp 18) rfl (.slice (some ⟨g11, 0, none⟩) n n) (.slice (some ⟨g13, 0, none⟩) n n) (dv hd) rfl rfl rfl _ (built_lg _ _ n n n hd HD.out)) ?_
        try simp only [oW29, PT]
        refine rdyH [10] ?_
        refine AllReadyH.cons (o := oW210) rfl (fun K hK => ?_) AllReadyH.nil
        unfold oW210
        go_simp
        obtain ⟨bl, hbl⟩ : ∃ x, w45.heap.size = x := ⟨_, rfl⟩
        have rbl := IsRow.new w45 71 (.int .i64 0 :: .slice none 0 0 :: .slice (some ⟨g11, 0, none⟩) n n :: .slice (some ⟨g13, 0, none⟩) n n :: bvs hd)
        obtain ⟨w46, hw46⟩ : ∃ x, w45.alloc (.cells (.int .i64 0 :: .slice none 0 0 :: .slice (some ⟨g11, 0, none⟩) n n :: .slice (some ⟨g13, 0, none⟩) n n :: bvs hd).toArray 71) = x := ⟨_, rfl⟩
        rw [hw46, hbl] at rbl
        try simp only [List.cons_append, List.nil_append, List.append_toArray, Array.toList_append]
        rw [hw46, hbl]
        have b46 : Below w45.heap.size w45 w46 := by rw [← hw46]; exact (Below.refl _ _).alloc (Nat.le_refl _) _
        have hv46 : Below w.heap.size w w46 := hv45.trans (b46.mono hv45.size)
        have hl11 : g11 < bl := hbl ▸ r11.lt
        have hl13 : g13 < bl := hbl ▸ r13.lt
        have hlb : w.heap.size ≤ bl := hbl ▸ hv45.size
        try have r11 := r11.below b46
        try have r13 := r13.below b46
        clear hw46 b46 hbl
        refine hK.out _ _ (hv46) (fun hHeld => ?_)
        clear hK K
        try simp only [PT]
        refine tkH 11 oW211 ?v11_20 (.inl ⟨by rfl, ?h11_20⟩) ?r11_20
        case h11_20 =>
          intro W hSW
          unfold oW211
          try dsimp only at hSW
          go_simp
          try with_reducible rfl
        try simp only [oW211, PT]
        refine tkH 12 oW212 ?v12_21 (.inl ⟨by rfl, ?h12_21⟩) ?r12_21
        case h12_21 =>
          intro W hSW
          unfold oW212
          try dsimp only at hSW
          go_simp
          try with_reducible rfl
        try simp only [oW212, PT]
        refine wpAnyH_done (by kernel_rfl) ?_ _
        obtain ⟨col, hat, hcol⟩ := lat_new l11.out l13.out HNE.out HN.out.1 HN.out.2 r11 r13 HD.out hlb hl11 hl13 rbl HTT.out.1 HTT.out.2.1 HTT.out.2.2
        have HAT := Lib.hid hat
        have HCO := Lib.hid hcol
        have HV := Lib.hid hv46
        clear hat hcol rbl r11 r13 hl11 hl13 hlb
        go_wp2_with fail
        exact bodyPost_ret (results_tmp2 rfl _ _ _) rfl ⟨bl, col, _, rfl, by rw [show newHead (n : Int) = hd from HHD.out]; exact HAT.out, HCO.out, HV.out⟩
      · skip
        refine AllReadyH.cons (o := oW25) rfl (fun K hK => ?_) AllReadyH.nil
        unfold oW25
        go_simp
        refine (wireInt_any (n : Int) HI.out.1 HI.out.2 _).mono ?_
        rintro e w41 ⟨A15, c15, rfl, own15, b41⟩
        have hv41 : Below w.heap.size w w41 := hv40.trans (b41.mono hv40.size)
        try have r11 := r11.below b41
        try have r13 := r13.below b41
        have rd15 := Rd.of_own own15
        clear own15 b41
        refine hK.out _ _ (hv41) (fun hHeld => ?_)
        clear hK K
        try simp only [PT]
        refine rdyH [1, 6] ?_
        refine AllReadyH.cons (o := oW23) rfl (fun K hK => ?_) ?_
        · skip
          unfold oW23
          go_simp
          obtain ⟨g11, hg11⟩ : ∃ x, w41.heap.size = x := ⟨_, rfl⟩
          obtain ⟨w42, hw42⟩ : ∃ x, w41.alloc (.cells M 3) = x := ⟨_, rfl⟩
          rw [hw42, hg11]
          obtain ⟨r11, z42, b42⟩ := new_ints hw42 HM.out
          rw [hg11] at r11
          have hv42 : Below w.heap.size w w42 := hv41.trans (b42.mono hv41.size)
          have l11 : Hid (w.heap.size ≤ g11) := Lib.hid (by rw [← hg11]; exact hv41.size)
          try have HNE : Hid (g11 ≠ g13) := Lib.hid (Nat.ne_of_gt (show g13 < g11 from hg11 ▸ r13.lt))
          try have r13 := r13.below b42
          try have rd15 := (rd15.below b42).more b42.size
          try have rd17 := (rd17.below b42).more b42.size
          clear hw42 b42 z42 hg11
          refine hK.out _ _ (hv42) (fun hHeld => ?_)
          clear hK K
          try simp only [PT]
          refine rdyH [6] ?_
          refine AllReadyH.cons (o := oW26) rfl (fun K hK => ?_) AllReadyH.nil
          unfold oW26
          rw [if_pos (by rfl)]
          have hcc := run_toS w42 58 9 5 Tryd.underlying58 Tryd.underlying5 Tryd.underlying9 A15 _ c15 _ _ rd15
          go_simp
          clear hcc
          refine hK.out _ _ (hv42) (fun hHeld => ?_)
          clear hK K
          try simp only [PT]
          refine rdyH [7] ?_
          refine AllReadyH.cons (o := oW27) rfl (fun K hK => ?_) AllReadyH.nil
          unfold oW27
          go_simp
          clear rd15
          obtain ⟨g17, hg17⟩ : ∃ x, w42.heap.size = x := ⟨_, rfl⟩
          have rd17 := Rd.new w42 (svs [⟨(Wire.enc (n : Int)).toArray⟩]) 9 1 (size := 1) rfl
          obtain ⟨w44, hw44⟩ : ∃ x, w42.alloc (.cells #[.string ⟨(Wire.enc (n : Int)).toArray⟩] 9) = x := ⟨_, rfl⟩
          rw [show (svs [⟨(Wire.enc (n : Int)).toArray⟩]).toArray = #[.string ⟨(Wire.enc (n : Int)).toArray⟩] from rfl] at rd17
          rw [hw44, hg17] at rd17
          rw [hw44, hg17]
          have b44 : Below w42.heap.size w42 w44 := by rw [← hw44]; exact (Below.refl _ _).alloc (Nat.le_refl _) _
          have hv44 : Below w.heap.size w w44 := hv42.trans (b44.mono hv42.size)
          have rd17 : Rd w44 w44.heap.size 1 _ _ _ := rd17.more (by rw [← hw44, alloc_size1, hg17]; exact Nat.le_refl _)
          try have r11 := r11.below b44
          try have r13 := r13.below b44
          clear hw44 b44 hg17
          refine hK.out _ _ (hv44) (fun hHeld => ?_)
          clear hK K
          try simp only [PT]
          refine rdyH [8] ?_
          refine AllReadyH.cons (o := oW28) rfl (fun K hK => ?_) AllReadyH.nil
          unfold oW28
          go_simp
          refine (HOF.out g17 _ _ hv44 rd17 (Nat.le_refl _)).mono ?_
          rintro e w45 ⟨rfl, b45⟩
          have hv45 : Below w.heap.size w w45 := hv44.trans (b45.mono hv44.size)
          clear rd17
          try have r11 := r11.below b45
          try have r13 := r13.below b45
          clear b45
          refine hK.out _ _ (hv45) (fun hHeld => ?_)
          clear hK K
          try simp only [PT]
          refine tkH 9 oW29 _ (y_build234 rfl 71 2 3 4 (.tmp 11) (.tmp 13) (.tmp 18) rfl (.slice (some ⟨g11, 0, none⟩) n n) (.slice (some ⟨g13, 0, none⟩) n n) (dv hd) rfl rfl rfl _ (built_lg _ _ n n n hd HD.out)) ?_
          try simp only [oW29, PT]
          refine rdyH [10] ?_
          refine AllReadyH.cons (o := oW210) rfl (fun K hK => ?_) AllReadyH.nil
          unfold oW210
          go_simp
          obtain ⟨bl, hbl⟩ : ∃ x, w45.heap.size = x := ⟨_, rfl⟩
          have rbl := IsRow.new w45 71 (.int .i64 0 :: .slice none 0 0 :: .slice (some ⟨g11, 0, none⟩) n n :: .slice (some ⟨g13, 0, none⟩) n n :: bvs hd)
          obtain ⟨w46, hw46⟩ : ∃ x, w45.alloc (.cells (.int .i64 0 :: .slice none 0 0 :: .slice (some ⟨g11, 0, none⟩) n n :: .slice (some ⟨g13, 0, none⟩) n n :: bvs hd).toArray 71) = x := ⟨_, rfl⟩
          rw [hw46, hbl] at rbl
          try simp only [List.cons_append, List.nil_append, List.append_toArray, Array.toList_append]
          rw [hw46, hbl]
          have b46 : Below w45.heap.size w45 w46 := by rw [← hw46]; exact (Below.refl _ _).alloc (Nat.le_refl _) _
          have hv46 : Below w.heap.size w w46 := hv45.trans (b46.mono hv45.size)
          have hl11 : g11 < bl := hbl ▸ r11.lt
          have hl13 : g13 < bl := hbl ▸ r13.lt
          have hlb : w.heap.size ≤ bl := hbl ▸ hv45.size
          try have r11 := r11.below b46
          try have r13 := r13.below b46
          clear hw46 b46 hbl
          refine hK.out _ _ (hv46) (fun hHeld => ?_)
          clear hK K
          try simp only [PT]
          refine tkH 11 oW211 ?v11_23 (.inl ⟨by rfl, ?h11_23⟩) ?r11_23
          case h11_23 =>
            intro W hSW
            unfold oW211
            try dsimp only at hSW
            go_simp
            try with_reducible rfl
          try simp only [oW211, PT]
          refine tkH 12 oW212 ?v12_24 (.inl ⟨by rfl, ?h12_24⟩) ?r12_24
          case h12_24 =>
            intro W hSW
            unfold oW212
            try dsimp only at hSW
            go_simp
            try with_reducible rfl
          try simp only [oW212, PT]
          refine wpAnyH_done (by kernel_rfl) ?_ _
          obtain ⟨col, hat, hcol⟩ := lat_new l11.out l13.out HNE.out HN.out.1 HN.out.2 r11 r13 HD.out hlb hl11 hl13 rbl HTT.out.1 HTT.out.2.1 HTT.out.2.2
          have HAT := Lib.hid hat
          have HCO := Lib.hid hcol
          have HV := Lib.hid hv46
          clear hat hcol rbl r11 r13 hl11 hl13 hlb
          go_wp2_with fail
          exact bodyPost_ret (results_tmp2 rfl _ _ _) rfl ⟨bl, col, _, rfl, by rw [show newHead (n : Int) = hd from HHD.out]; exact HAT.out, HCO.out, HV.out⟩
        · skip
          refine AllReadyH.cons (o := oW26) rfl (fun K hK => ?_) AllReadyH.nil
          unfold oW26
          rw [if_pos (by rfl)]
          have hcc := run_toS w41 58 9 5 Tryd.underlying58 Tryd.underlying5 Tryd.underlying9 A15 _ c15 _ _ rd15
          go_simp
          clear hcc
          refine hK.out _ _ (hv41) (fun hHeld => ?_)
          clear hK K
          try simp only [PT]
          refine rdyH [1, 7] ?_
          refine AllReadyH.cons (o := oW23) rfl (fun K hK => ?_) ?_
          · skip
            unfold oW23
            go_simp
            obtain ⟨g11, hg11⟩ : ∃ x, w41.heap.size = x := ⟨_, rfl⟩
            obtain ⟨w43, hw43⟩ : ∃ x, w41.alloc (.cells M 3) = x := ⟨_, rfl⟩
            rw [hw43, hg11]
            obtain ⟨r11, z43, b43⟩ := new_ints hw43 HM.out
            rw [hg11] at r11
            have hv43 : Below w.heap.size w w43 := hv41.trans (b43.mono hv41.size)
            have l11 : Hid (w.heap.size ≤ g11) := Lib.hid (by rw [← hg11]; exact hv41.size)
            try have HNE : Hid (g11 ≠ g13) := Lib.hid (Nat.ne_of_gt (show g13 < g11 from hg11 ▸ r13.lt))
            try have r13 := r13.below b43
            try have rd15 := (rd15.below b43).more b43.size
            try have rd17 := (rd17.below b43).more b43.size
            clear hw43 b43 z43 hg11
            refine hK.out _ _ (hv43) (fun hHeld => ?_)
            clear hK K
            try simp only [PT]
            refine rdyH [7] ?_
            refine AllReadyH.cons (o := oW27) rfl (fun K hK => ?_) AllReadyH.nil
            unfold oW27
            go_simp
            clear rd15
            obtain ⟨g17, hg17⟩ : ∃ x, w43.heap.size = x := ⟨_, rfl⟩
            have rd17 := Rd.new w43 (svs [⟨(Wire.enc (n : Int)).toArray⟩]) 9 1 (size := 1) rfl
            obtain ⟨w44, hw44⟩ : ∃ x, w43.alloc (.cells #[.string ⟨(Wire.enc (n : Int)).toArray⟩] 9) = x := ⟨_, rfl⟩
            rw [show (svs [⟨(Wire.enc (n : Int)).toArray⟩]).toArray = #[.string ⟨(Wire.enc (n : Int)).toArray⟩] from rfl] at rd17
            rw [hw44, hg17] at rd17
            rw [hw44, hg17]
            have b44 : Below w43.heap.size w43 w44 := by rw [← hw44]; exact (Below.refl _ _).alloc (Nat.le_refl _) _
            have hv44 : Below w.heap.size w w44 := hv43.trans (b44.mono hv43.size)
            have rd17 : Rd w44 w44.heap.size 1 _ _ _ := rd17.more (by rw [← hw44, alloc_size1, hg17]; exact Nat.le_refl _)
            try have r11 := r11.below b44
            try have r13 := r13.below b44
            clear hw44 b44 hg17
            refine hK.out _ _ (hv44) (fun hHeld => ?_)
            clear hK K
            try simp only [PT]
            refine rdyH [8] ?_
            refine AllReadyH.cons (o := oW28) rfl (fun K hK => ?_) AllReadyH.nil
            unfold oW28
            go_simp
            refine (HOF.out g17 _ _ hv44 rd17 (Nat.le_refl _)).mono ?_
            rintro e w45 ⟨rfl, b45⟩
            have hv45 : Below w.heap.size w w45 := hv44.trans (b45.mono hv44.size)
            clear rd17
            try have r11 := r11.below b45
            try have r13 := r13.below b45
            clear b45
            refine hK.out _ _ (hv45) (fun hHeld => ?_)
            clear hK K
            try simp only [PT]
            refine tkH 9 oW29 _ (y_build234 rfl 71 2 3 4 (.tmp 11) (.tmp 13) (.tmp 18) rfl (.slice (some ⟨g11, 0, none⟩) n n) (.slice (some ⟨g13, 0, none⟩) n n) (dv hd) rfl rfl rfl _ (built_lg _ _ n n n hd HD.out)) ?_
            try simp only [oW29, PT]
            refine rdyH [10] ?_
            refine AllReadyH.cons (o := oW210) rfl (fun K hK => ?_) AllReadyH.nil
            unfold oW210
            go_simp
            obtain ⟨bl, hbl⟩ : ∃ x, w45.heap.size = x := ⟨_, rfl⟩
            have rbl := IsRow.new w45 71 (.int .i64 0 :: .slice none 0 0 :: .slice (some ⟨g11, 0, none⟩) n n :: .slice (some ⟨g13, 0, none⟩) n n :: bvs hd)
            obtain ⟨w46, hw46⟩ : ∃ x, w45.alloc (.cells (.int .i64 0 :: .slice none 0 0 :: .slice (some ⟨g11, 0, none⟩) n n :: .slice (some ⟨g13, 0, none⟩) n n :: bvs hd).toArray 71) = x := ⟨_, rfl⟩
            rw [hw46, hbl] at rbl
            try simp only [List.cons_append, List.nil_append, List.append_toArray, Array.toList_append]
            rw [hw46, hbl]
            have b46 : Below w45.heap.size w45 w46 := by rw [← hw46]; exact (Below.refl _ _).alloc (Nat.le_refl _) _
            have hv46 : Below w.heap.size w w46 := hv45.trans (b46.mono hv45.size)
            have hl11 : g11 < bl := hbl ▸ r11.lt
            have hl13 : g13 < bl := hbl ▸ r13.lt
            have hlb : w.heap.size ≤ bl := hbl ▸ hv45.size
            try have r11 := r11.below b46
            try have r13 := r13.below b46
            clear hw46 b46 hbl
            refine hK.out _ _ (hv46) (fun hHeld => ?_)
            clear hK K
            try simp only [PT]
            refine tkH 11 oW211 ?v11_26 (.inl ⟨by rfl, ?h11_26⟩) ?r11_26
            case h11_26 =>
              intro W hSW
              unfold oW211
              try dsimp only at hSW
              go_simp
              try with_reducible rfl
            try simp only [oW211, PT]
            refine tkH 12 oW212 ?v12_27 (.inl ⟨by rfl, ?h12_27⟩) ?r12_27
            case h12_27 =>
              intro W hSW
              unfold oW212
              try dsimp only at hSW
              go_simp
              try with_reducible rfl
            try simp only [oW212, PT]
            refine wpAnyH_done (by kernel_rfl) ?_ _
            obtain ⟨col, hat, hcol⟩ := lat_new l11.out l13.out HNE.out HN.out.1 HN.out.2 r11 r13 HD.out hlb hl11 hl13 rbl HTT.out.1 HTT.out.2.1 HTT.out.2.2
            have HAT := Lib.hid hat
            have HCO := Lib.hid hcol
            have HV := Lib.hid hv46
            clear hat hcol rbl r11 r13 hl11 hl13 hlb
            go_wp2_with fail
            exact bodyPost_ret (results_tmp2 rfl _ _ _) rfl ⟨bl, col, _, rfl, by rw [show newHead (n : Int) = hd from HHD.out]; exact HAT.out, HCO.out, HV.out⟩
          · skip
            refine AllReadyH.cons (o := oW27) rfl (fun K hK => ?_) AllReadyH.nil
            unfold oW27
            go_simp
            clear rd15
            obtain ⟨g17, hg17⟩ : ∃ x, w41.heap.size = x := ⟨_, rfl⟩
            have rd17 := Rd.new w41 (svs [⟨(Wire.enc (n : Int)).toArray⟩]) 9 1 (size := 1) rfl
            obtain ⟨w43, hw43⟩ : ∃ x, w41.alloc (.cells #[.string ⟨(Wire.enc (n : Int)).toArray⟩] 9) = x := ⟨_, rfl⟩
            rw [show (svs [⟨(Wire.enc (n : Int)).toArray⟩]).toArray = #[.string ⟨(Wire.enc (n : Int)).toArray⟩] from rfl] at rd17
            rw [hw43, hg17] at rd17
            rw [hw43, hg17]
            have b43 : Below w41.heap.size w41 w43 := by rw [← hw43]; exact (Below.refl _ _).alloc (Nat.le_refl _) _
            have hv43 : Below w.heap.size w w43 := hv41.trans (b43.mono hv41.size)
            have rd17 : Rd w43 w43.heap.size 1 _ _ _ := rd17.more (by rw [← hw43, alloc_size1, hg17]; exact Nat.le_refl _)
            try have r11 := r11.below b43
            try have r13 := r13.below b43
            clear hw43 b43 hg17
            refine hK.out _ _ (hv43) (fun hHeld => ?_)
            clear hK K
            try simp only [PT]
            refine rdyH [1, 8] ?_
            refine AllReadyH.cons (o := oW23) rfl (fun K hK => ?_) ?_
            · skip
              unfold oW23
              go_simp
              obtain ⟨g11, hg11⟩ : ∃ x, w43.heap.size = x := ⟨_, rfl⟩
              obtain ⟨w44, hw44⟩ : ∃ x, w43.alloc (.cells M 3) = x := ⟨_, rfl⟩
              rw [hw44, hg11]
              obtain ⟨r11, z44, b44⟩ := new_ints hw44 HM.out
              rw [hg11] at r11
              have hv44 : Below w.heap.size w w44 := hv43.trans (b44.mono hv43.size)
              have l11 : Hid (w.heap.size ≤ g11) := Lib.hid (by rw [← hg11]; exact hv43.size)
              try have HNE : Hid (g11 ≠ g13) := Lib.hid (Nat.ne_of_gt (show g13 < g11 from hg11 ▸ r13.lt))
              try have r13 := r13.below b44
              try have rd15 := (rd15.below b44).more b44.size
              try have rd17 := (rd17.below b44).more b44.size
              clear hw44 b44 z44 hg11
              refine hK.out _ _ (hv44) (fun hHeld => ?_)
              clear hK K
              try simp only [PT]
              refine rdyH [8] ?_
              refine AllReadyH.cons (o := oW28) rfl (fun K hK => ?_) AllReadyH.nil
              unfold oW28
              go_simp
              refine (HOF.out g17 _ _ hv44 rd17 (Nat.le_refl _)).mono ?_
              rintro e w45 ⟨rfl, b45⟩
              have hv45 : Below w.heap.size w w45 := hv44.trans (b45.mono hv44.size)
              clear rd17
              try have r11 := r11.below b45
              try have r13 := r13.below b45
              clear b45
              refine hK.out _ _ (hv45) (fun hHeld => ?_)
              clear hK K
              try simp only [PT]
              refine tkH 9 oW29 _ (y_build234 rfl 71 2 3 4 (.tmp 11) (.tmp 13) (.tmp 18) rfl (.slice (some ⟨g11, 0, none⟩) n n) (.slice (some ⟨g13, 0, none⟩) n n) (dv hd) rfl rfl rfl _ (built_lg _ _ n n n hd HD.out)) ?_
              try simp only [oW29, PT]
              refine rdyH [10] ?_
              refine AllReadyH.cons (o := oW210) rfl (fun K hK => ?_) AllReadyH.nil
              unfold oW210
              go_simp
              obtain ⟨bl, hbl⟩ : ∃ x, w45.heap.size = x := ⟨_, rfl⟩
              have rbl := IsRow.new w45 71 (.int .i64 0 :: .slice none 0 0 :: .slice (some ⟨g11, 0, none⟩) n n :: .slice (some ⟨g13, 0, none⟩) n n :: bvs hd)
              obtain ⟨w46, hw46⟩ : ∃ x, w45.alloc (.cells (.int .i64 0 :: .slice none 0 0 :: .slice (some ⟨g11, 0, none⟩) n n :: .slice (some ⟨g13, 0, none⟩) n n :: bvs hd).toArray 71) = x := ⟨_, rfl⟩
              rw [hw46, hbl] at rbl
              try simp only [List.cons_append, List.nil_append, List.append_toArray, Array.toList_append]
              rw [hw46, hbl]
              have b46 : Below w45.heap.size w45 w46 := by rw [← hw46]; exact (Below.refl _ _).alloc (Nat.le_refl _) _
              have hv46 : Below w.heap.size w w46 := hv45.trans (b46.mono hv45.size)
              have hl11 : g11 < bl := hbl ▸ r11.lt
              have hl13 : g13 < bl := hbl ▸ r13.lt
              have hlb : w.heap.size ≤ bl := hbl ▸ hv45.size
              try have r11 := r11.below b46
              try have r13 := r13.below b46
              clear hw46 b46 hbl
              refine hK.out _ _ (hv46) (fun hHeld => ?_)
              clear hK K
              try simp only [PT]
              refine tkH 11 oW211 ?v11_29 (.inl ⟨by rfl, ?h11_29⟩) ?r11_29
              case h11_29 =>
                intro W hSW
                unfold oW211
                try dsimp only at hSW
                go_simp
                try with_reducible rfl
              try simp only [oW211, PT]
              refine tkH 12 oW212 ?v12_30 (.inl ⟨by rfl, ?h12_30⟩) ?r12_30
              case h12_30 =>
                intro W hSW
                unfold oW212
                try dsimp only at hSW
                go_simp
                try with_reducible rfl
              try simp only [oW212, PT]
              refine wpAnyH_done (by kernel_rfl) ?_ _
              obtain ⟨col, hat, hcol⟩ := lat_new l11.out l13.out HNE.out HN.out.1 HN.out.2 r11 r13 HD.out hlb hl11 hl13 rbl HTT.out.1 HTT.out.2.1 HTT.out.2.2
              have HAT := Lib.hid hat
              have HCO := Lib.hid hcol
              have HV := Lib.hid hv46
              clear hat hcol rbl r11 r13 hl11 hl13 hlb
              go_wp2_with fail
              exact bodyPost_ret (results_tmp2 rfl _ _ _) rfl ⟨bl, col, _, rfl, by rw [show newHead (n : Int) = hd from HHD.out]; exact HAT.out, HCO.out, HV.out⟩
            · skip
              refine AllReadyH.cons (o := oW28) rfl (fun K hK => ?_) AllReadyH.nil
              unfold oW28
              go_simp
              refine (HOF.out g17 _ _ hv43 rd17 (Nat.le_refl _)).mono ?_
              rintro e w44 ⟨rfl, b44⟩
              have hv44 : Below w.heap.size w w44 := hv43.trans (b44.mono hv43.size)
              clear rd17
              try have r11 := r11.below b44
              try have r13 := r13.below b44
              clear b44
              refine hK.out _ _ (hv44) (fun hHeld => ?_)
              clear hK K
              try simp only [PT]
              refine rdyH [1] ?_
              refine AllReadyH.cons (o := oW23) rfl (fun K hK => ?_) AllReadyH.nil
              unfold oW23
              go_simp
              obtain ⟨g11, hg11⟩ : ∃ x, w44.heap.size = x := ⟨_, rfl⟩
              obtain ⟨w45, hw45⟩ : ∃ x, w44.alloc (.cells M 3) = x := ⟨_, rfl⟩
              rw [hw45, hg11]
              obtain ⟨r11, z45, b45⟩ := new_ints hw45 HM.out
              rw [hg11] at r11
              have hv45 : Below w.heap.size w w45 := hv44.trans (b45.mono hv44.size)
              have l11 : Hid (w.heap.size ≤ g11) := Lib.hid (by rw [← hg11]; exact hv44.size)
              try have HNE : Hid (g11 ≠ g13) := Lib.hid (Nat.ne_of_gt (show g13 < g11 from hg11 ▸ r13.lt))
              try have r13 := r13.below b45
              try have rd15 := (rd15.below b45).more b45.size
              try have rd17 := (rd17.below b45).more b45.size
              clear hw45 b45 z45 hg11
              refine hK.out _ _ (hv45) (fun hHeld => ?_)
              clear hK K
              try simp only [PT]
              refine tkH 9 oW29 _ (y_build234 rfl 71 2 3 4 (.tmp 11) (.tmp 13) (.tmp 18) rfl (.slice (some ⟨g11, 0, none⟩) n n) (.slice (some ⟨g13, 0, none⟩) n n) (dv hd) rfl rfl rfl _ (built_lg _ _ n n n hd HD.out)) ?_
              try simp only [oW29, PT]
              refine rdyH [10] ?_
              refine AllReadyH.cons (o := oW210) rfl (fun K hK => ?_) AllReadyH.nil
              unfold oW210
              go_simp
              obtain ⟨bl, hbl⟩ : ∃ x, w45.heap.size = x := ⟨_, rfl⟩
              have rbl := IsRow.new w45 71 (.int .i64 0 :: .slice none 0 0 :: .slice (some ⟨g11, 0, none⟩) n n :: .slice (some ⟨g13, 0, none⟩) n n :: bvs hd)
              obtain ⟨w46, hw46⟩ : ∃ x, w45.alloc (.cells (.int .i64 0 :: .slice none 0 0 :: .slice (some ⟨g11, 0, none⟩) n n :: .slice (some ⟨g13, 0, none⟩) n n :: bvs hd).toArray 71) = x := ⟨_, rfl⟩
              rw [hw46, hbl] at rbl
              try simp only [List.cons_append, List.nil_append, List.append_toArray, Array.toList_append]
              rw [hw46, hbl]
              have b46 : Below w45.heap.size w45 w46 := by rw [← hw46]; exact (Below.refl _ _).alloc (Nat.le_refl _) _
              have hv46 : Below w.heap.size w w46 := hv45.trans (b46.mono hv45.size)
              have hl11 : g11 < bl := hbl ▸ r11.lt
              have hl13 : g13 < bl := hbl ▸ r13.lt
              have hlb : w.heap.size ≤ bl := hbl ▸ hv45.size
              try have r11 := r11.below b46
              try have r13 := r13.below b46
              clear hw46 b46 hbl
              refine hK.out _ _ (hv46) (fun hHeld => ?_)
              clear hK K
              try simp only [PT]
              refine tkH 11 oW211 ?v11_32 (.inl ⟨by rfl, ?h11_32⟩) ?r11_32
              case h11_32 =>
                intro W hSW
                unfold oW211
                try dsimp only at hSW
                go_simp
                try with_reducible rfl
              try simp only [oW211, PT]
              refine tkH 12 oW212 ?v12_33 (.inl ⟨by rfl, ?h12_33⟩) ?r12_33
              case h12_33 =>
                intro W hSW
                unfold oW212
                try dsimp only at hSW
                go_simp
                try with_reducible rfl
              try simp only [oW212, PT]
              refine wpAnyH_done (by kernel_rfl) ?_ _
              obtain ⟨col, hat, hcol⟩ := lat_new l11.out l13.out HNE.out HN.out.1 HN.out.2 r11 r13 HD.out hlb hl11 hl13 rbl HTT.out.1 HTT.out.2.1 HTT.out.2.2
              have HAT := Lib.hid hat
              have HCO := Lib.hid hcol
              have HV := Lib.hid hv46
              clear hat hcol rbl r11 r13 hl11 hl13 hlb
              go_wp2_with fail
              exact bodyPost_ret (results_tmp2 rfl _ _ _) rfl ⟨bl, col, _, rfl, by rw [show newHead (n : Int) = hd from HHD.out]; exact HAT.out, HCO.out, HV.out⟩
    · skip
      refine AllReadyH.cons (o := oW25) rfl (fun K hK => ?_) AllReadyH.nil
      unfold oW25
      go_simp
      refine (wireInt_any (n : Int) HI.out.1 HI.out.2 _).mono ?_
      rintro e w40 ⟨A15, c15, rfl, own15, b40⟩
      have hv40 : Below w.heap.size w w40 := hv0.trans (b40.mono hv0.size)
      try have r11 := r11.below b40
      try have r13 := r13.below b40
      have rd15 := Rd.of_own own15
      clear own15 b40
      refine hK.out _ _ (hv40) (fun hHeld => ?_)
      clear hK K
      try simp only [PT]
      refine rdyH [1, 3, 6] ?_
      refine AllReadyH.cons (o := oW23) rfl (fun K hK => ?_) ?_
      · skip
        unfold oW23
        go_simp
        obtain ⟨g11, hg11⟩ : ∃ x, w40.heap.size = x := ⟨_, rfl⟩
        obtain ⟨w41, hw41⟩ : ∃ x, w40.alloc (.cells M 3) = x := ⟨_, rfl⟩
        rw [hw41, hg11]
        obtain ⟨r11, z41, b41⟩ := new_ints hw41 HM.out
        rw [hg11] at r11
        have hv41 : Below w.heap.size w w41 := hv40.trans (b41.mono hv40.size)
        have l11 : Hid (w.heap.size ≤ g11) := Lib.hid (by rw [← hg11]; exact hv40.size)
        try have HNE : Hid (g11 ≠ g13) := Lib.hid (Nat.ne_of_gt (show g13 < g11 from hg11 ▸ r13.lt))
        try have r13 := r13.below b41
        try have rd15 := (rd15.below b41).more b41.size
        try have rd17 := (rd17.below b41).more b41.size
        clear hw41 b41 z41 hg11
        refine hK.out _ _ (hv41) (fun hHeld => ?_)
        clear hK K
        try simp only [PT]
        refine rdyH [3, 6] ?_
        refine AllReadyH.cons (o := oW24) rfl (fun K hK => ?_) ?_
        · skip
          unfold oW24
          go_simp
          obtain ⟨g13, hg13⟩ : ∃ x, w41.heap.size = x := ⟨_, rfl⟩
          obtain ⟨w42, hw42⟩ : ∃ x, w41.alloc (.cells M 3) = x := ⟨_, rfl⟩
          rw [hw42, hg13]
          obtain ⟨r13, z42, b42⟩ := new_ints hw42 HM.out
          rw [hg13] at r13
          have hv42 : Below w.heap.size w w42 := hv41.trans (b42.mono hv41.size)
          have l13 : Hid (w.heap.size ≤ g13) := Lib.hid (by rw [← hg13]; exact hv41.size)
          try have HNE : Hid (g11 ≠ g13) := Lib.hid (Nat.ne_of_lt (show g11 < g13 from hg13 ▸ r11.lt))
          try have r11 := r11.below b42
          try have rd15 := (rd15.below b42).more b42.size
          try have rd17 := (rd17.below b42).more b42.size
          clear hw42 b42 z42 hg13
          refine hK.out _ _ (hv42) (fun hHeld => ?_)
          clear hK K
          try simp only [PT]
          refine rdyH [6] ?_
          refine AllReadyH.cons (o := oW26) rfl (fun K hK => ?_) AllReadyH.nil
          unfold oW26
          rw [if_pos (by rfl)]
          have hcc := run_toS w42 58 9 5 Tryd.underlying58 Tryd.underlying5 Tryd.underlying9 A15 _ c15 _ _ rd15
          go_simp
          clear hcc
          refine hK.out _ _ (hv42) (fun hHeld => ?_)
          clear hK K
          try simp only [PT]
          refine rdyH [7] ?_
          refine AllReadyH.cons (o := oW27) rfl (fun K hK => ?_) AllReadyH.nil
          unfold oW27
          go_simp
          clear rd15
          obtain ⟨g17, hg17⟩ : ∃ x, w42.heap.size = x := ⟨_, rfl⟩
          have rd17 := Rd.new w42 (svs [⟨(Wire.enc (n : Int)).toArray⟩]) 9 1 (size := 1) rfl
          obtain ⟨w44, hw44⟩ : ∃ x, w42.alloc (.cells #[.string ⟨(Wire.enc (n : Int)).toArray⟩] 9) = x := ⟨_, rfl⟩
          rw [show (svs [⟨(Wire.enc (n : Int)).toArray⟩]).toArray = #[.string ⟨(Wire.enc (n : Int)).toArray⟩] from rfl] at rd17
          rw [hw44, hg17] at rd17
          rw [hw44, hg17]
          have b44 : Below w42.heap.size w42 w44 := by rw [← hw44]; exact (Below.refl _ _).alloc (Nat.le_refl _) _
          have hv44 : Below w.heap.size w w44 := hv42.trans (b44.mono hv42.size)
          have rd17 : Rd w44 w44.heap.size 1 _ _ _ := rd17.more (by rw [← hw44, alloc_size1, hg17]; exact Nat.le_refl _)
          try have r11 := r11.below b44
          try have r13 := r13.below b44
          clear hw44 b44 hg17
          refine hK.out _ _ (hv44) (fun hHeld => ?_)
          clear hK K
          try simp only [PT]
          refine rdyH [8] ?_
          refine AllReadyH.cons (o := oW28) rfl (fun K hK => ?_) AllReadyH.nil
          unfold oW28
          go_simp
          refine (HOF.out g17 _ _ hv44 rd17 (Nat.le_refl _)).mono ?_
          rintro e w45 ⟨rfl, b45⟩
          have hv45 : Below w.heap.size w w45 := hv44.trans (b45.mono hv44.size)
          clear rd17
          try have r11 := r11.below b45
          try have r13 := r13.below b45
          clear b45
          refine hK.out _ _ (hv45) (fun hHeld => ?_)
          clear hK K
          try simp only [PT]
          refine tkH 9 oW29 _ (y_build234 rfl 71 2 3 4 (.tmp 11) (.tmp 13) (.tmp 18) rfl (.slice (some ⟨g11, 0, none⟩) n n) (.slice (some ⟨g13, 0, none⟩) n n) (dv hd) rfl rfl rfl _ (built_lg _ _ n n n hd HD.out)) ?_
          try simp only [oW29, PT]
          refine rdyH [10] ?_
          refine AllReadyH.cons (o := oW210) rfl (fun K hK => ?_) AllReadyH.nil
          unfold oW210
          go_simp
          obtain ⟨bl, hbl⟩ : ∃ x, w45.heap.size = x := ⟨_, rfl⟩
          have rbl := IsRow.new w45 71 (.int .i64 0 :: .slice none 0 0 :: .slice (some ⟨g11, 0, none⟩) n n :: .slice (some ⟨g13, 0, none⟩) n n :: bvs hd)
          obtain ⟨w46, hw46⟩ : ∃ x, w45.alloc (.cells (.int .i64 0 :: .slice none 0 0 :: .slice (some ⟨g11, 0, none⟩) n n :: .slice (some ⟨g13, 0, none⟩) n n :: bvs hd).toArray 71) = x := ⟨_, rfl⟩
          rw [hw46, hbl] at rbl
          try simp only [List.cons_append, List.nil_append, List.append_toArray, Array.toList_append]
          rw [hw46, hbl]
          have b46 : Below w45.heap.size w45 w46 := by rw [← hw46]; exact (Below.refl _ _).alloc (Nat.le_refl _) _
          have hv46 : Below w.heap.size w w46 := hv45.trans (b46.mono hv45.size)
          have hl11 : g11 < bl := hbl ▸ r11.lt
          have hl13 : g13 < bl := hbl ▸ r13.lt
          have hlb : w.heap.size ≤ bl := hbl ▸ hv45.size
          try have r11 := r11.below b46
          try have r13 := r13.below b46
          clear hw46 b46 hbl
          refine hK.out _ _ (hv46) (fun hHeld => ?_)
          clear hK K
          try simp only [PT]
          refine tkH 11 oW211 ?v11_35 (.inl ⟨by rfl, ?h11_35⟩) ?r11_35
          case h11_35 =>
            intro W hSW
            unfold oW211
            try dsimp only at hSW
            go_simp
            try with_reducible rfl
          try simp only [oW211, PT]
          refine tkH 12 oW212 ?v12_36 (.inl ⟨by rfl, ?h12_36⟩) ?r12_36
          case h12_36 =>
            intro W hSW
            unfold oW212
            try dsimp only at hSW
            go_simp
            try with_reducible rfl
          try simp only [oW212, PT]
          refine wpAnyH_done (by kernel_rfl) ?_ _
          obtain ⟨col, hat, hcol⟩ := lat_new l11.out l13.out HNE.out HN.out.1 HN.out.2 r11 r13 HD.out hlb hl11 hl13 rbl HTT.out.1 HTT.out.2.1 HTT.out.2.2
          have HAT := Lib.hid hat
          have HCO := Lib.hid hcol
          have HV := Lib.hid hv46
          clear hat hcol rbl r11 r13 hl11 hl13 hlb
          go_wp2_with fail
          exact bodyPost_ret (results_tmp2 rfl _ _ _) rfl ⟨bl, col, _, rfl, by rw [show newHead (n : Int) = hd from HHD.out]; exact HAT.out, HCO.out, HV.out⟩
        · skip
          refine AllReadyH.cons (o := oW26) rfl (fun K hK => ?_) AllReadyH.nil
          unfold oW26
          rw [if_pos (by rfl)]
          have hcc := run_toS w41 58 9 5 Tryd.underlying58 Tryd.underlying5 Tryd.underlying9 A15 _ c15 _ _ rd15
          go_simp
          clear hcc
          refine hK.out _ _ (hv41) (fun hHeld => ?_)
          clear hK K
          try simp only [PT]
          refine rdyH [3, 7] ?_
          refine AllReadyH.cons (o := oW24) rfl (fun K hK => ?_) ?_
          · skip
            unfold oW24
            go_simp
            obtain ⟨g13, hg13⟩ : ∃ x, w41.heap.size = x := ⟨_, rfl⟩
            obtain ⟨w43, hw43⟩ : ∃ x, w41.alloc (.cells M 3) = x := ⟨_, rfl⟩
            rw [hw43, hg13]
            obtain ⟨r13, z43, b43⟩ := new_ints hw43 HM.out
            rw [hg13] at r13
            have hv43 : Below w.heap.size w w43 := hv41.trans (b43.mono hv41.size)
            have l13 : Hid (w.heap.size ≤ g13) := Lib.hid (by rw [← hg13]; exact hv41.size)
            try have HNE : Hid (g11 ≠ g13) := Lib.hid (Nat.ne_of_lt (show g11 < g13 from hg13 ▸ r11.lt))
            try have r11 := r11.below b43
            try have rd15 := (rd15.below b43).more b43.size
            try have rd17 := (rd17.below b43).more b43.size
            clear hw43 b43 z43 hg13
            refine hK.out _ _ (hv43) (fun hHeld => ?_)
            clear hK K
            try simp only [PT]
            refine rdyH [7] ?_
            refine AllReadyH.cons (o := oW27) rfl (fun K hK => ?_) AllReadyH.nil
            unfold oW27
            go_simp
            clear rd15
            obtain ⟨g17, hg17⟩ : ∃ x, w43.heap.size = x := ⟨_, rfl⟩
            have rd17 := Rd.new w43 (svs [⟨(Wire.enc (n : Int)).toArray⟩]) 9 1 (size := 1) rfl
            obtain ⟨w44, hw44⟩ : ∃ x, w43.alloc (.cells #[.string ⟨(Wire.enc (n : Int)).toArray⟩] 9) = x := ⟨_, rfl⟩
            rw [show (svs [⟨(Wire.enc (n : Int)).toArray⟩]).toArray = #[.string ⟨(Wire.enc (n : Int)).toArray⟩] from rfl] at rd17
            rw [hw44, hg17] at rd17
            rw [hw44, hg17]
            have b44 : Below w43.heap.size w43 w44 := by rw [← hw44]; exact (Below.refl _ _).alloc (Nat.le_refl _) _
            have hv44 : Below w.heap.size w w44 := hv43.trans (b44.mono hv43.size)
            have rd17 : Rd w44 w44.heap.size 1 _ _ _ := rd17.more (by rw [← hw44, alloc_size1, hg17]; exact Nat.le_refl _)
            try have r11 := r11.below b44
            try have r13 := r13.below b44
            clear hw44 b44 hg17
            refine hK.out _ _ (hv44) (fun hHeld => ?_)
            clear hK K
            try simp only [PT]
            refine rdyH [8] ?_
            refine AllReadyH.cons (o := oW28) rfl (fun K hK => ?_) AllReadyH.nil
            unfold oW28
            go_simp
            refine (HOF.out g17 _ _ hv44 rd17 (Nat.le_refl _)).mono ?_
            rintro e w45 ⟨rfl, b45⟩
            have hv45 : Below w.heap.size w w45 := hv44.trans (b45.mono hv44.size)
            clear rd17
            try have r11 := r11.below b45
            try have r13 := r13.below b45
            clear b45
            refine hK.out _ _ (hv45) (fun hHeld => ?_)
            clear hK K
            try simp only [PT]
            refine tkH 9 oW29 _ (y_build234 rfl 71 2 3 4 (.tmp 11) (.tmp 13) (.tmp 18) rfl (.slice (some ⟨g11, 0, none⟩) n n) (.slice (some ⟨g13, 0, none⟩) n n) (dv hd) rfl rfl rfl _ (built_lg _ _ n n n hd HD.out)) ?_
            try simp only [oW29, PT]
            refine rdyH [10] ?_
            refine AllReadyH.cons (o := oW210) rfl (fun K hK => ?_) AllReadyH.nil
            unfold oW210
            go_simp
            obtain ⟨bl, hbl⟩ : ∃ x, w45.heap.size = x := ⟨_, rfl⟩
            have rbl := IsRow.new w45 71 (.int .i64 0 :: .slice none 0 0 :: .slice (some ⟨g11, 0, none⟩) n n :: .slice (some ⟨g13, 0, none⟩) n n :: bvs hd)
            obtain ⟨w46, hw46⟩ : ∃ x, w45.alloc (.cells (.int .i64 0 :: .slice none 0 0 :: .slice (some ⟨g11, 0, none⟩) n n :: .slice (some ⟨g13, 0, none⟩) n n :: bvs hd).toArray 71) = x := ⟨_, rfl⟩
            rw [hw46, hbl] at rbl
            try simp only [List.cons_append, List.nil_append, List.append_toArray, Array.toList_append]
            rw [hw46, hbl]
            have b46 : Below w45.heap.size w45 w46 := by rw [← hw46]; exact (Below.refl _ _).alloc (Nat.le_refl _) _
            have hv46 : Below w.heap.size w w46 := hv45.trans (b46.mono hv45.size)
            have hl11 : g11 < bl := hbl ▸ r11.lt
            have hl13 : g13 < bl := hbl ▸ r13.lt
            have hlb : w.heap.size ≤ bl := hbl ▸ hv45.size
            try have r11 := r11.below b46
            try have r13 := r13.below b46
            clear hw46 b46 hbl
            refine hK.out _ _ (hv46) (fun hHeld => ?_)
            clear hK K
            try simp only [PT]
            refine tkH 11 oW211 ?v11_38 (.inl ⟨by rfl, ?h11_38⟩) ?r11_38
            case h11_38 =>
              intro W hSW
              unfold oW211
              try dsimp only at hSW
              go_simp
              try with_reducible rfl
            try simp only [oW211, PT]
            refine tkH 12 oW212 ?v12_39 (.inl ⟨by rfl, ?h12_39⟩) ?r12_39
            case h12_39 =>
              intro W hSW
              unfold oW212
              try dsimp only at hSW
              go_simp
              try with_reducible rfl
            try simp only [oW212, PT]
            refine wpAnyH_done (by kernel_rfl) ?_ _
            obtain ⟨col, hat, hcol⟩ := lat_new l11.out l13.out HNE.out HN.out.1 HN.out.2 r11 r13 HD.out hlb hl11 hl13 rbl HTT.out.1 HTT.out.2.1 HTT.out.2.2
            have HAT := Lib.hid hat
            have HCO := Lib.hid hcol
            have HV := Lib.hid hv46
            clear hat hcol rbl r11 r13 hl11 hl13 hlb
            go_wp2_with fail
            exact bodyPost_ret (results_tmp2 rfl _ _ _) rfl ⟨bl, col, _, rfl, by rw [show newHead (n : Int) = hd from HHD.out]; exact HAT.out, HCO.out, HV.out⟩
          · skip
            refine AllReadyH.cons (o := oW27) rfl (fun K hK => ?_) AllReadyH.nil
            unfold oW27
            go_simp
            clear rd15
            obtain ⟨g17, hg17⟩ : ∃ x, w41.heap.size = x := ⟨_, rfl⟩
            have rd17 := Rd.new w41 (svs [⟨(Wire.enc (n : Int)).toArray⟩]) 9 1 (size := 1) rfl
            obtain ⟨w43, hw43⟩ : ∃ x, w41.alloc (.cells #[.string ⟨(Wire.enc (n : Int)).toArray⟩] 9) = x := ⟨_, rfl⟩
            rw [show (svs [⟨(Wire.enc (n : Int)).toArray⟩]).toArray = #[.string ⟨(Wire.enc (n : Int)).toArray⟩] from rfl] at rd17
            rw [hw43, hg17] at rd17
            rw [hw43, hg17]
            have b43 : Below w41.heap.size w41 w43 := by rw [← hw43]; exact (Below.refl _ _).alloc (Nat.le_refl _) _
            have hv43 : Below w.heap.size w w43 := hv41.trans (b43.mono hv41.size)
            have rd17 : Rd w43 w43.heap.size 1 _ _ _ := rd17.more (by rw [← hw43, alloc_size1, hg17]; exact Nat.le_refl _)
            try have r11 := r11.below b43
            try have r13 := r13.below b43
            clear hw43 b43 hg17
            refine hK.out _ _ (hv43) (fun hHeld => ?_)
            clear hK K
            try simp only [PT]
            refine rdyH [3, 8] ?_
            refine AllReadyH.cons (o := oW24) rfl (fun K hK => ?_) ?_
            · skip
              unfold oW24
              go_simp
              obtain ⟨g13, hg13⟩ : ∃ x, w43.heap.size = x := ⟨_, rfl⟩
              obtain ⟨w44, hw44⟩ : ∃ x, w43.alloc (.cells M 3) = x := ⟨_, rfl⟩
              rw [hw44, hg13]
              obtain ⟨r13, z44, b44⟩ := new_ints hw44 HM.out
              rw [hg13] at r13
              have hv44 : Below w.heap.size w w44 := hv43.trans (b44.mono hv43.size)
              have l13 : Hid (w.heap.size ≤ g13) := Lib.hid (by rw [← hg13]; exact hv43.size)
              try have HNE : Hid (g11 ≠ g13) := Lib.hid (Nat.ne_of_lt (show g11 < g13 from hg13 ▸ r11.lt))
              try have r11 := r11.below b44
              try have rd15 := (rd15.below b44).more b44.size
              try have rd17 := (rd17.below b44).more b44.size
              clear hw44 b44 z44 hg13
              refine hK.out _ _ (hv44) (fun hHeld => ?_)
              clear hK K
              try simp only [PT]
              refine rdyH [8] ?_
              refine AllReadyH.cons (o := oW28) rfl (fun K hK => ?_) AllReadyH.nil
              unfold oW28
              go_simp
              refine (HOF.out g17 _ _ hv44 rd17 (Nat.le_refl _)).mono ?_
              rintro e w45 ⟨rfl, b45⟩
              have hv45 : Below w.heap.size w w45 := hv44.trans (b45.mono hv44.size)
              clear rd17
              try have r11 := r11.below b45
              try have r13 := r13.below b45
              clear b45
              refine hK.out _ _ (hv45) (fun hHeld => ?_)
              clear hK K
              try simp only [PT]
              refine tkH 9 oW29 _ (y_build234 rfl 71 2 3 4 (.tmp 11) (.tmp 13) (.tmp 18) rfl (.slice (some ⟨g11, 0, none⟩) n n) (.slice (some ⟨g13, 0, none⟩) n n) (dv hd) rfl rfl rfl _ (built_lg _ _ n n n hd HD.out)) ?_
              try simp only [oW29, PT]
              refine rdyH [10] ?_
              refine AllReadyH.cons (o := oW210) rfl (fun K hK => ?_) AllReadyH.nil
              unfold oW210
              go_simp
              obtain ⟨bl, hbl⟩ : ∃ x, w45.heap.size = x := ⟨_, rfl⟩
              have rbl := IsRow.new w45 71 (.int .i64 0 :: .slice none 0 0 :: .slice (some ⟨g11, 0, none⟩) n n :: .slice (some ⟨g13, 0, none⟩) n n :: bvs hd)
              obtain ⟨w46, hw46⟩ : ∃ x, w45.alloc (.cells (.int .i64 0 :: .slice none 0 0 :: .slice (some ⟨g11, 0, none⟩) n n :: .slice (some ⟨g13, 0, none⟩) n n :: bvs hd).toArray 71) = x := ⟨_, rfl⟩
              rw [hw46, hbl] at rbl
              try simp only [List.cons_append, List.nil_append, List.append_toArray, Array.toList_append]
              rw [hw46, hbl]
              have b46 : Below w45.heap.size w45 w46 := by rw [← hw46]; exact (Below.refl _ _).alloc (Nat.le_refl _) _
              have hv46 : Below w.heap.size w w46 := hv45.trans (b46.mono hv45.size)
              have hl11 : g11 < bl := hbl ▸ r11.lt
              have hl13 : g13 < bl := hbl ▸ r13.lt
              have hlb : w.heap.size ≤ bl := hbl ▸ hv45.size
              try have r11 := r11.below b46
              try have r13 := r13.below b46
              clear hw46 b46 hbl
              refine hK.out _ _ (hv46) (fun hHeld => ?_)
              clear hK K
              try simp only [PT]
              refine tkH 11 oW211 ?v11_41 (.inl ⟨by rfl, ?h11_41⟩) ?r11_41
              case h11_41 =>
                intro W hSW
                unfold oW211
                try dsimp only at hSW
                go_simp
                try with_reducible rfl
              try simp only [oW211, PT]
              refine tkH 12 oW212 ?v12_42 (.inl ⟨by rfl, ?h12_42⟩) ?r12_42
              case h12_42 =>
                intro W hSW
                unfold oW212
                try dsimp only at hSW
                go_simp
                try with_reducible rfl
              try simp only [oW212, PT]
              refine wpAnyH_done (by kernel_rfl) ?_ _
              obtain ⟨col, hat, hcol⟩ := lat_new l11.out l13.out HNE.out HN.out.1 HN.out.2 r11 r13 HD.out hlb hl11 hl13 rbl HTT.out.1 HTT.out.2.1 HTT.out.2.2
              have HAT := Lib.hid hat
              have HCO := Lib.hid hcol
              have HV := Lib.hid hv46
              clear hat hcol rbl r11 r13 hl11 hl13 hlb
              go_wp2_with fail
              exact bodyPost_ret (results_tmp2 rfl _ _ _) rfl ⟨bl, col, _, rfl, by rw [show newHead (n : Int) = hd from HHD.out]; exact HAT.out, HCO.out, HV.out⟩
            · skip
              refine AllReadyH.cons (o := oW28) rfl (fun K hK => ?_) AllReadyH.nil
              unfold oW28
              go_simp
              refine (HOF.out g17 _ _ hv43 rd17 (Nat.le_refl _)).mono ?_
              rintro e w44 ⟨rfl, b44⟩
              have hv44 : Below w.heap.size w w44 := hv43.trans (b44.mono hv43.size)
              clear rd17
              try have r11 := r11.below b44
              try have r13 := r13.below b44
              clear b44
              refine hK.out _ _ (hv44) (fun hHeld => ?_)
              clear hK K
              try simp only [PT]
              refine rdyH [3] ?_
              refine AllReadyH.cons (o := oW24) rfl (fun K hK => ?_) AllReadyH.nil
              unfold oW24
              go_simp
              obtain ⟨g13, hg13⟩ : ∃ x, w44.heap.size = x := ⟨_, rfl⟩
              obtain ⟨w45, hw45⟩ : ∃ x, w44.alloc (.cells M 3) = x := ⟨_, rfl⟩
              rw [hw45, hg13]
              obtain ⟨r13, z45, b45⟩ := new_ints hw45 HM.out
              rw [hg13] at r13
              have hv45 : Below w.heap.size w w45 := hv44.trans (b45.mono hv44.size)
              have l13 : Hid (w.heap.size ≤ g13) := Lib.hid (by rw [← hg13]; exact hv44.size)
              try have HNE : Hid (g11 ≠ g13) := Lib.hid (Nat.ne_of_lt (show g11 < g13 from hg13 ▸ r11.lt))
              try have r11 := r11.below b45
              try have rd15 := (rd15.below b45).more b45.size
              try have rd17 := (rd17.below b45).more b45.size
              clear hw45 b45 z45 hg13
              refine hK.out _ _ (hv45) (fun hHeld => ?_)
              clear hK K
              try simp only [PT]
              refine tkH 9 oW29 _ (y_build234 rfl 71 2 3 4 (.tmp 11) (.tmp 13) (.tmp 18) rfl (.slice (some ⟨g11, 0, none⟩) n n) (.slice (some ⟨g13, 0, none⟩) n n) (dv hd) rfl rfl rfl _ (built_lg _ _ n n n hd HD.out)) ?_
              try simp only [oW29, PT]
              refine rdyH [10] ?_
              refine AllReadyH.cons (o := oW210) rfl (fun K hK => ?_) AllReadyH.nil
              unfold oW210
              go_simp
              obtain ⟨bl, hbl⟩ : ∃ x, w45.heap.size = x := ⟨_, rfl⟩
              have rbl := IsRow.new w45 71 (.int .i64 0 :: .slice none 0 0 :: .slice (some ⟨g11, 0, none⟩) n n :: .slice (some ⟨g13, 0, none⟩) n n :: bvs hd)
              obtain ⟨w46, hw46⟩ : ∃ x, w45.alloc (.cells (.int .i64 0 :: .slice none 0 0 :: .slice (some ⟨g11, 0, none⟩) n n :: .slice (some ⟨g13, 0, none⟩) n n :: bvs hd).toArray 71) = x := ⟨_, rfl⟩
              rw [hw46, hbl] at rbl
              try simp only [List.cons_append, List.nil_append, List.append_toArray, Array.toList_append]
              rw [hw46, hbl]
              have b46 : Below w45.heap.size w45 w46 := by rw [← hw46]; exact (Below.refl _ _).alloc (Nat.le_refl _) _
              have hv46 : Below w.heap.size w w46 := hv45.trans (b46.mono hv45.size)
              have hl11 : g11 < bl := hbl ▸ r11.lt
              have hl13 : g13 < bl := hbl ▸ r13.lt
              have hlb : w.heap.size ≤ bl := hbl ▸ hv45.size
              try have r11 := r11.below b46
              try have r13 := r13.below b46
              clear hw46 b46 hbl
              refine hK.out _ _ (hv46) (fun hHeld => ?_)
              clear hK K
              try simp only [PT]
              refine tkH 11 oW211 ?v11_44 (.inl ⟨by rfl, ?h11_44⟩) ?r11_44
              case h11_44 =>
                intro W hSW
                unfold oW211
                try dsimp only at hSW
                go_simp
                try with_reducible rfl
              try simp only [oW211, PT]
              refine tkH 12 oW212 ?v12_45 (.inl ⟨by rfl, ?h12_45⟩) ?r12_45
              case h12_45 =>
                intro W hSW
                unfold oW212
                try dsimp only at hSW
                go_simp
                try with_reducible rfl
              try simp only [oW212, PT]
              refine wpAnyH_done (by kernel_rfl) ?_ _
              obtain ⟨col, hat, hcol⟩ := lat_new l11.out l13.out HNE.out HN.out.1 HN.out.2 r11 r13 HD.out hlb hl11 hl13 rbl HTT.out.1 HTT.out.2.1 HTT.out.2.2
              have HAT := Lib.hid hat
              have HCO := Lib.hid hcol
              have HV := Lib.hid hv46
              clear hat hcol rbl r11 r13 hl11 hl13 hlb
              go_wp2_with fail
              exact bodyPost_ret (results_tmp2 rfl _ _ _) rfl ⟨bl, col, _, rfl, by rw [show newHead (n : Int) = hd from HHD.out]; exact HAT.out, HCO.out, HV.out⟩
      · skip
        refine AllReadyH.cons (o := oW24) rfl (fun K hK => ?_) ?_
        · skip
          unfold oW24
          go_simp
          obtain ⟨g13, hg13⟩ : ∃ x, w40.heap.size = x := ⟨_, rfl⟩
          obtain ⟨w41, hw41⟩ : ∃ x, w40.alloc (.cells M 3) = x := ⟨_, rfl⟩
          rw [hw41, hg13]
          obtain ⟨r13, z41, b41⟩ := new_ints hw41 HM.out
          rw [hg13] at r13
          have hv41 : Below w.heap.size w w41 := hv40.trans (b41.mono hv40.size)
          have l13 : Hid (w.heap.size ≤ g13) := Lib.hid (by rw [← hg13]; exact hv40.size)
          try have HNE : Hid (g11 ≠ g13) := Lib.hid (Nat.ne_of_lt (show g11 < g13 from hg13 ▸ r11.lt))
          try have r11 := r11.below b41
          try have rd15 := (rd15.below b41).more b41.size
          try have rd17 := (rd17.below b41).more b41.size
          clear hw41 b41 z41 hg13
          refine hK.out _ _ (hv41) (fun hHeld => ?_)
          clear hK K
          try simp only [PT]
          refine rdyH [1, 6] ?_
          refine AllReadyH.cons (o := oW23) rfl (fun K hK => ?_) ?_
          · skip
            unfold oW23
            go_simp
            obtain ⟨g11, hg11⟩ : ∃ x, w41.heap.size = x := ⟨_, rfl⟩
            obtain ⟨w42, hw42⟩ : ∃ x, w41.alloc (.cells M 3) = x := ⟨_, rfl⟩
            rw [hw42, hg11]
            obtain ⟨r11, z42, b42⟩ := new_ints hw42 HM.out
            rw [hg11] at r11
            have hv42 : Below w.heap.size w w42 := hv41.trans (b42.mono hv41.size)
            have l11 : Hid (w.heap.size ≤ g11) := Lib.hid (by rw [← hg11]; exact hv41.size)
            try have HNE : Hid (g11 ≠ g13) := Lib.hid (Nat.ne_of_gt (show g13 < g11 from hg11 ▸ r13.lt))
            try have r13 := r13.below b42
            try have rd15 := (rd15.below b42).more b42.size
            try have rd17 := (rd17.below b42).more b42.size
            clear hw42 b42 z42 hg11
            refine hK.out _ _ (hv42) (fun hHeld => ?_)
            clear hK K
            try simp only [PT]
            refine rdyH [6] ?_
            refine AllReadyH.cons (o := oW26) rfl (fun K hK => ?_) AllReadyH.nil
            unfold oW26
            rw [if_pos (by rfl)]
            have hcc := run_toS w42 58 9 5 Tryd.underlying58 Tryd.underlying5 Tryd.underlying9 A15 _ c15 _ _ rd15
            go_simp
            clear hcc
            refine hK.out _ _ (hv42) (fun hHeld => ?_)
            clear hK K
            try simp only [PT]
            refine rdyH [7] ?_
            refine AllReadyH.cons (o := oW27) rfl (fun K hK => ?_) AllReadyH.nil
            unfold oW27
            go_simp
            clear rd15
            obtain ⟨g17, hg17⟩ : ∃ x, w42.heap.size = x := ⟨_, rfl⟩
            have rd17 := Rd.new w42 (svs [⟨(Wire.enc (n : Int)).toArray⟩]) 9 1 (size := 1) rfl
            obtain ⟨w44, hw44⟩ : ∃ x, w42.alloc (.cells #[.string ⟨(Wire.enc (n : Int)).toArray⟩] 9) = x := ⟨_, rfl⟩
            rw [show (svs [⟨(Wire.enc (n : Int)).toArray⟩]).toArray = #[.string ⟨(Wire.enc (n : Int)).toArray⟩] from rfl] at rd17
            rw [hw44, hg17] at rd17
            rw [hw44, hg17]
            have b44 : Below w42.heap.size w42 w44 := by rw [← hw44]; exact (Below.refl _ _).alloc (Nat.le_refl _) _
            have hv44 : Below w.heap.size w w44 := hv42.trans (b44.mono hv42.size)
            have rd17 : Rd w44 w44.heap.size 1 _ _ _ := rd17.more (by rw [← hw44, alloc_size1, hg17]; exact Nat.le_refl _)
            try have r11 := r11.below b44
            try have r13 := r13.below b44
            clear hw44 b44 hg17
            refine hK.out _ _ (hv44) (fun hHeld => ?_)
            clear hK K
            try simp only [PT]
            refine rdyH [8] ?_
            refine AllReadyH.cons (o := oW28) rfl (fun K hK => ?_) AllReadyH.nil
            unfold oW28
            go_simp
            refine (HOF.out g17 _ _ hv44 rd17 (Nat.le_refl _)).mono ?_
            rintro e w45 ⟨rfl, b45⟩
            have hv45 : Below w.heap.size w w45 := hv44.trans (b45.mono hv44.size)
            clear rd17
            try have r11 := r11.below b45
            try have r13 := r13.below b45
            clear b45
            refine hK.out _ _ (hv45) (fun hHeld => ?_)
            clear hK K
            try simp only [PT]
            refine tkH 9 oW29 _ (y_build234 rfl 71 2 3 4 (.tmp 11) (.tmp 13) (.tmp 18) rfl (.slice (some ⟨g11, 0, none⟩) n n) (.slice (some ⟨g13, 0, none⟩) n n) (dv hd) rfl rfl rfl _ (built_lg _ _ n n n hd HD.out)) ?_
            try simp only [oW29, PT]
            refine rdyH [10] ?_
            refine AllReadyH.cons (o := oW210) rfl (fun K hK => ?_) AllReadyH.nil
            unfold oW210
            go_simp
            obtain ⟨bl, hbl⟩ : ∃ x, w45.heap.size = x := ⟨_, rfl⟩
            have rbl := IsRow.new w45 71 (.int .i64 0 :: .slice none 0 0 :: .slice (some ⟨g11, 0, none⟩) n n :: .slice (some ⟨g13, 0, none⟩) n n :: bvs hd)
            obtain ⟨w46, hw46⟩ : ∃ x, w45.alloc (.cells (.int .i64 0 :: .slice none 0 0 :: .slice (some ⟨g11, 0, none⟩) n n :: .slice (some ⟨g13, 0, none⟩) n n :: bvs hd).toArray 71) = x := ⟨_, rfl⟩
            rw [hw46, hbl] at rbl
            try simp only [List.cons_append, List.nil_append, List.append_toArray, Array.toList_append]
            rw [hw46, hbl]
            have b46 : Below w45.heap.size w45 w46 := by rw [← hw46]; exact (Below.refl _ _).alloc (Nat.le_refl _) _
            have hv46 : Below w.heap.size w w46 := hv45.trans (b46.mono hv45.size)
            have hl11 : g11 < bl := hbl ▸ r11.lt
            have hl13 : g13 < bl := hbl ▸ r13.lt
            have hlb : w.heap.size ≤ bl := hbl ▸ hv45.size
            try have r11 := r11.below b46
            try have r13 := r13.below b46
            clear hw46 b46 hbl
            refine hK.out _ _ (hv46) (fun hHeld => ?_)
            clear hK K
            try simp only [PT]
            refine tkH 11 oW211 ?v11_47 (.inl ⟨by rfl, ?h11_47⟩) ?r11_47
            case h11_47 =>
              intro W hSW
              unfold oW211
              try dsimp only at hSW
              go_simp
              try with_reducible rfl
            try simp only [oW211, PT]
            refine tkH 12 oW212 ?v12_48 (.inl ⟨by rfl, ?h12_48⟩) ?r12_48
            case h12_48 =>
              intro W hSW
              unfold oW212
              try dsimp only at hSW
              go_simp
              try with_reducible rfl
            try simp only [oW212, PT]
            refine wpAnyH_done (by kernel_rfl) ?_ _
            obtain ⟨col, hat, hcol⟩ := lat_new l11.out l13.out HNE.out HN.out.1 HN.out.2 r11 r13 HD.out hlb hl11 hl13 rbl HTT.out.1 HTT.out.2.1 HTT.out.2.2
            have HAT := Lib.hid hat
            have HCO := Lib.hid hcol
            have HV := Lib.hid hv46
            clear hat hcol rbl r11 r13 hl11 hl13 hlb
            go_wp2_with fail
            exact bodyPost_ret (results_tmp2 rfl _ _ _) rfl ⟨bl, col, _, rfl, by rw [show newHead (n : Int) = hd from HHD.out]; exact HAT.out, HCO.out, HV.out⟩
          · skip
            refine AllReadyH.cons (o := oW26) rfl (fun K hK => ?_) AllReadyH.nil
            unfold oW26
            rw [if_pos (by rfl)]
            have hcc := run_toS w41 58 9 5 Tryd.underlying58 Tryd.underlying5 Tryd.underlying9 A15 _ c15 _ _ rd15
            go_simp
            clear hcc
            refine hK.out _ _ (hv41) (fun hHeld => ?_)
            clear hK K
            try simp only [PT]
            refine rdyH [1, 7] ?_
            refine AllReadyH.cons (o := oW23) rfl (fun K hK => ?_) ?_
            · skip
              unfold oW23
              go_simp
              obtain ⟨g11, hg11⟩ : ∃ x, w41.heap.size = x := ⟨_, rfl⟩
              obtain ⟨w43, hw43⟩ : ∃ x, w41.alloc (.cells M 3) = x := ⟨_, rfl⟩
              rw [hw43, hg11]
              obtain ⟨r11, z43, b43⟩ := new_ints hw43 HM.out
              rw [hg11] at r11
              have hv43 : Below w.heap.size w w43 := hv41.trans (b43.mono hv41.size)
              have l11 : Hid (w.heap.size ≤ g11) := Lib.hid (by rw [← hg11]; exact hv41.size)
              try have HNE : Hid (g11 ≠ g13) := Lib.hid (Nat.ne_of_gt (show g13 < g11 from hg11 ▸ r13.lt))
              try have r13 := r13.below b43
              try have rd15 := (rd15.below b43).more b43.size
              try have rd17 := (rd17.below b43).more b43.size
              clear hw43 b43 z43 hg11
              refine hK.out _ _ (hv43) (fun hHeld => ?_)
              clear hK K
              try simp only [PT]
              refine rdyH [7] ?_
              refine AllReadyH.cons (o := oW27) rfl (fun K hK => ?_) AllReadyH.nil
              unfold oW27
              go_simp
              clear rd15
              obtain ⟨g17, hg17⟩ : ∃ x, w43.heap.size = x := ⟨_, rfl⟩
              have rd17 := Rd.new w43 (svs [⟨(Wire.enc (n : Int)).toArray⟩]) 9 1 (size := 1) rfl
              obtain ⟨w44, hw44⟩ : ∃ x, w43.alloc (.cells #[.string ⟨(Wire.enc (n : Int)).toArray⟩] 9) = x := ⟨_, rfl⟩
              rw [show (svs [⟨(Wire.enc (n : Int)).toArray⟩]).toArray = #[.string ⟨(Wire.enc (n : Int)).toArray⟩] from rfl] at rd17
              rw [hw44, hg17] at rd17
              rw [hw44, hg17]
              have b44 : Below w43.heap.size w43 w44 := by rw [← hw44]; exact (Below.refl _ _).alloc (Nat.le_refl _) _
              have hv44 : Below w.heap.size w w44 := hv43.trans (b44.mono hv43.size)
              have rd17 : Rd w44 w44.heap.size 1 _ _ _ := rd17.more (by rw [← hw44, alloc_size1, hg17]; exact Nat.le_refl _)
              try have r11 := r11.below b44
              try have r13 := r13.below b44
              clear hw44 b44 hg17
              refine hK.out _ _ (hv44) (fun hHeld => ?_)
              clear hK K
              try simp only [PT]
              refine rdyH [8] ?_
              refine AllReadyH.cons (o := oW28) rfl (fun K hK => ?_) AllReadyH.nil
              unfold oW28
              go_simp
              refine (HOF.out g17 _ _ hv44 rd17 (Nat.le_refl _)).mono ?_
              rintro e w45 ⟨rfl, b45⟩
              have hv45 : Below w.heap.size w w45 := hv44.trans (b45.mono hv44.size)
              clear rd17
              try have r11 := r11.below b45
              try have r13 := r13.below b45
              clear b45
              refine hK.out _ _ (hv45) (fun hHeld => ?_)
              clear hK K
              try simp only [PT]
              refine tkH 9 oW29 _ (y_build234 rfl 71 2 3 4 (.tmp 11) (.tmp 13) (.tmp 18) rfl (.slice (some ⟨g11, 0, none⟩) n n) (.slice (some ⟨g13, 0, none⟩) n n) (dv hd) rfl rfl rfl _ (built_lg _ _ n n n hd HD.out)) ?_
              try simp only [oW29, PT]
              refine rdyH [10] ?_
              refine AllReadyH.cons (o := oW210) rfl (fun K hK => ?_) AllReadyH.nil
              unfold oW210
              go_simp
              obtain ⟨bl, hbl⟩ : ∃ x, w45.heap.size = x := ⟨_, rfl⟩
              have rbl := IsRow.new w45 71 (.int .i64 0 :: .slice none 0 0 :: .slice (some ⟨g11, 0, none⟩) n n :: .slice (some ⟨g13, 0, none⟩) n n :: bvs hd)
              obtain ⟨w46, hw46⟩ : ∃ x, w45.alloc (.cells (.int .i64 0 :: .slice none 0 0 :: .slice (some ⟨g11, 0, none⟩) n n :: .slice (some ⟨g13, 0, none⟩) n n :: bvs hd).toArray 71) = x := ⟨_, rfl⟩
              rw [hw46, hbl] at rbl
              try simp only [List.cons_append, List.nil_append, List.append_toArray, Array.toList_append]
              rw [hw46, hbl]
              have b46 : Below w45.heap.size w45 w46 := by rw [← hw46]; exact (Below.refl _ _).alloc (Nat.le_refl _) _
              have hv46 : Below w.heap.size w w46 := hv45.trans (b46.mono hv45.size)
              have hl11 : g11 < bl := hbl ▸ r11.lt
              have hl13 : g13 < bl := hbl ▸ r13.lt
              have hlb : w.heap.size ≤ bl := hbl ▸ hv45.size
              try have r11 := r11.below b46
              try have r13 := r13.below b46
              clear hw46 b46 hbl
              refine hK.out _ _ (hv46) (fun hHeld => ?_)
              clear hK K
              try simp only [PT]
              refine tkH 11 oW211 ?v11_50 (.inl ⟨by rfl, ?h11_50⟩) ?r11_50
              case h11_50 =>
                intro W hSW
                unfold oW211
                try dsimp only at hSW
                go_simp
                try with_reducible rfl
              try simp only [oW211, PT]
              refine tkH 12 oW212 ?v12_51 (.inl ⟨by rfl, ?h12_51⟩) ?r12_51
              case h12_51 =>
                intro W hSW
                unfold oW212
                try dsimp only at hSW
                go_simp
                try with_reducible rfl
              try simp only [oW212, PT]
              refine wpAnyH_done (by kernel_rfl) ?_ _
              obtain ⟨col, hat, hcol⟩ := lat_new l11.out l13.out HNE.out HN.out.1 HN.out.2 r11 r13 HD.out hlb hl11 hl13 rbl HTT.out.1 HTT.out.2.1 HTT.out.2.2
              have HAT := Lib.hid hat
              have HCO := Lib.hid hcol
              have HV := Lib.hid hv46
              clear hat hcol rbl r11 r13 hl11 hl13 hlb
              go_wp2_with fail
              exact bodyPost_ret (results_tmp2 rfl _ _ _) rfl ⟨bl, col, _, rfl, by rw [show newHead (n : Int) = hd from HHD.out]; exact HAT.out, HCO.out, HV.out⟩
            · skip
              refine AllReadyH.cons (o := oW27) rfl (fun K hK => ?_) AllReadyH.nil
              unfold oW27
              go_simp
              clear rd15
              obtain ⟨g17, hg17⟩ : ∃ x, w41.heap.size = x := ⟨_, rfl⟩
              have rd17 := Rd.new w41 (svs [⟨(Wire.enc (n : Int)).toArray⟩]) 9 1 (size := 1) rfl
              obtain ⟨w43, hw43⟩ : ∃ x, w41.alloc (.cells #[.string ⟨(Wire.enc (n : Int)).toArray⟩] 9) = x := ⟨_, rfl⟩
              rw [show (svs [⟨(Wire.enc (n : Int)).toArray⟩]).toArray = #[.string ⟨(Wire.enc (n : Int)).toArray⟩] from rfl] at rd17
              rw [hw43, hg17] at rd17
              rw [hw43, hg17]
              have b43 : Below w41.heap.size w41 w43 := by rw [← hw43]; exact (Below.refl _ _).alloc (Nat.le_refl _) _
              have hv43 : Below w.heap.size w w43 := hv41.trans (b43.mono hv41.size)
              have rd17 : Rd w43 w43.heap.size 1 _ _ _ := rd17.more (by rw [← hw43, alloc_size1, hg17]; exact Nat.le_refl _)
              try have r11 := r11.below b43
              try have r13 := r13.below b43
              clear hw43 b43 hg17
              refine hK.out _ _ (hv43) (fun hHeld => ?_)
              clear hK K
              try simp only [PT]
              refine rdyH [1, 8] ?_
              refine AllReadyH.cons (o := oW23) rfl (fun K hK => ?_) ?_
              · skip
                unfold oW23
                go_simp
                obtain ⟨g11, hg11⟩ : ∃ x, w43.heap.size = x := ⟨_, rfl⟩
                obtain ⟨w44, hw44⟩ : ∃ x, w43.alloc (.cells M 3) = x := ⟨_, rfl⟩
                rw [hw44, hg11]
                obtain ⟨r11, z44, b44⟩ := new_ints hw44 HM.out
                rw [hg11] at r11
                have hv44 : Below w.heap.size w w44 := hv43.trans (b44.mono hv43.size)
                have l11 : Hid (w.heap.size ≤ g11) := Lib.hid (by rw [← hg11]; exact hv43.size)
                try have HNE : Hid (g11 ≠ g13) := Lib.hid (Nat.ne_of_gt (show g13 < g11 from hg11 ▸ r13.lt))
                try have r13 := r13.below b44
                try have rd15 := (rd15.below b44).more b44.size
                try have rd17 := (rd17.below b44).more b44.size
                clear hw44 b44 z44 hg11
                refine hK.out _ _ (hv44) (fun hHeld => ?_)
                clear hK K
                try simp only [PT]
                refine rdyH [8] ?_
                refine AllReadyH.cons (o := oW28) rfl (fun K hK => ?_) AllReadyH.nil
                unfold oW28
                go_simp
                refine (HOF.out g17 _ _ hv44 rd17 (Nat.le_refl _)).mono ?_
                rintro e w45 ⟨rfl, b45⟩
                have hv45 : Below w.heap.size w w45 := hv44.trans (b45.mono hv44.size)
                clear rd17
                try have r11 := r11.below b45
                try have r13 := r13.below b45
                clear b45
                refine hK.out _ _ (hv45) (fun hHeld => ?_)
                clear hK K
                try simp only [PT]
                refine tkH 9 oW29 _ (y_build234 rfl 71 2 3 4 (.tmp 11) (.tmp 13) (.tmp 18) rfl (.slice (some ⟨g11, 0, none⟩) n n) (.slice (some ⟨g13, 0, none⟩) n n) (dv hd) rfl rfl rfl _ (built_lg _ _ n n n hd HD.out)) ?_
                try simp only [oW29, PT]
                refine rdyH [10] ?_
                refine AllReadyH.cons (o := oW210) rfl (fun K hK => ?_) AllReadyH.nil
                unfold oW210
                go_simp
                obtain ⟨bl, hbl⟩ : ∃ x, w45.heap.size = x := ⟨_, rfl⟩
                have rbl := IsRow.new w45 71 (.int .i64 0 :: .slice none 0 0 :: .slice (some ⟨g11, 0, none⟩) n n :: .slice (some ⟨g13, 0, none⟩) n n :: bvs hd)
                obtain ⟨w46, hw46⟩ : ∃ x, w45.alloc (.cells (.int .i64 0 :: .slice none 0 0 :: .slice (some ⟨g11, 0, none⟩) n n :: .slice (some ⟨g13, 0, none⟩) n n :: bvs hd).toArray 71) = x := ⟨_, rfl⟩
                rw [hw46, hbl] at rbl
                try simp only [List.cons_append, List.nil_append, List.append_toArray, Array.toList_append]
                rw [hw46, hbl]
                have b46 : Below w45.heap.size w45 w46 := by rw [← hw46]; exact (Below.refl _ _).alloc (Nat.le_refl _) _
                have hv46 : Below w.heap.size w w46 := hv45.trans (b46.mono hv45.size)
                have hl11 : g11 < bl := hbl ▸ r11.lt
                have hl13 : g13 < bl := hbl ▸ r13.lt
                have hlb : w.heap.size ≤ bl := hbl ▸ hv45.size
                try have r11 := r11.below b46
                try have r13 := r13.below b46
                clear hw46 b46 hbl
                refine hK.out _ _ (hv46) (fun hHeld => ?_)
                clear hK K
                try simp only [PT]
                refine tkH 11 oW211 ?v11_53 (.inl ⟨by rfl, ?h11_53⟩) ?r11_53
                case h11_53 =>
                  intro W hSW
                  unfold oW211
                  try dsimp only at hSW
                  go_simp
                  try with_reducible rfl
                try simp only [oW211, PT]
                refine tkH 12 oW212 ?v12_54 (.inl ⟨by rfl, ?h12_54⟩) ?r12_54
                case h12_54 =>
                  intro W hSW
                  unfold oW212
                  try dsimp only at hSW
                  go_simp
                  try with_reducible rfl
                try simp only [oW212, PT]
                refine wpAnyH_done (by kernel_rfl) ?_ _
                obtain ⟨col, hat, hcol⟩ := lat_new l11.out l13.out HNE.out HN.out.1 HN.out.2 r11 r13 HD.out hlb hl11 hl13 rbl HTT.out.1 HTT.out.2.1 HTT.out.2.2
                have HAT := Lib.hid hat
                have HCO := Lib.hid hcol
                have HV := Lib.hid hv46
                clear hat hcol rbl r11 r13 hl11 hl13 hlb
                go_wp2_with fail
                exact bodyPost_ret (results_tmp2 rfl _ _ _) rfl ⟨bl, col, _, rfl, by rw [show newHead (n : Int) = hd from HHD.out]; exact HAT.out, HCO.out, HV.out⟩
              · skip
                refine AllReadyH.cons (o := oW28) rfl (fun K hK => ?_) AllReadyH.nil
                unfold oW28
                go_simp
                refine (HOF.out g17 _ _ hv43 rd17 (Nat.le_refl _)).mono ?_
                rintro e w44 ⟨rfl, b44⟩
                have hv44 : Below w.heap.size w w44 := hv43.trans (b44.mono hv43.size)
                clear rd17
                try have r11 := r11.below b44
                try have r13 := r13.below b44
                clear b44
                refine hK.out _ _ (hv44) (fun hHeld => ?_)
                clear hK K
                try simp only [PT]
                refine rdyH [1] ?_
                refine AllReadyH.cons (o := oW23) rfl (fun K hK => ?_) AllReadyH.nil
                unfold oW23
                go_simp
                obtain ⟨g11, hg11⟩ : ∃ x, w44.heap.size = x := ⟨_, rfl⟩
                obtain ⟨w45, hw45⟩ : ∃ x, w44.alloc (.cells M 3) = x := ⟨_, rfl⟩
                rw [hw45, hg11]
                obtain ⟨r11, z45, b45⟩ := new_ints hw45 HM.out
                rw [hg11] at r11
                have hv45 : Below w.heap.size w w45 := hv44.trans (b45.mono hv44.size)
                have l11 : Hid (w.heap.size ≤ g11) := Lib.hid (by rw [← hg11]; exact hv44.size)
                try have HNE : Hid (g11 ≠ g13) := Lib.hid (Nat.ne_of_gt (show g13 < g11 from hg11 ▸ r13.lt))
                try have r13 := r13.below b45
                try have rd15 := (rd15.below b45).more b45.size
                try have rd17 := (rd17.below b45).more b45.size
                clear hw45 b45 z45 hg11
                refine hK.out _ _ (hv45) (fun hHeld => ?_)
                clear hK K
                try simp only [PT]
                refine tkH 9 oW29 _ (y_build234 rfl 71 2 3 4 (.tmp 11) (.tmp 13) (.tmp 18) rfl (.slice (some ⟨g11, 0, none⟩) n n) (.slice (some ⟨g13, 0, none⟩) n n) (dv hd) rfl rfl rfl _ (built_lg _ _ n n n hd HD.out)) ?_
                try simp only [oW29, PT]
                refine rdyH [10] ?_
                refine AllReadyH.cons (o := oW210) rfl (fun K hK => ?_) AllReadyH.nil
                unfold oW210
                go_simp
                obtain ⟨bl, hbl⟩ : ∃ x, w45.heap.size = x := ⟨_, rfl⟩
                have rbl := IsRow.new w45 71 (.int .i64 0 :: .slice none 0 0 :: .slice (some ⟨g11, 0, none⟩) n n :: .slice (some ⟨g13, 0, none⟩) n n :: bvs hd)
                obtain ⟨w46, hw46⟩ : ∃ x, w45.alloc (.cells (.int .i64 0 :: .slice none 0 0 :: .slice (some ⟨g11, 0, none⟩) n n :: .slice (some ⟨g13, 0, none⟩) n n :: bvs hd).toArray 71) = x := ⟨_, rfl⟩
                rw [hw46, hbl] at rbl
                try simp only [List.cons_append, List.nil_append, List.append_toArray, Array.toList_append]
                rw [hw46, hbl]
                have b46 : Below w45.heap.size w45 w46 := by rw [← hw46]; exact (Below.refl _ _).alloc (Nat.le_refl _) _
                have hv46 : Below w.heap.size w w46 := hv45.trans (b46.mono hv45.size)
                have hl11 : g11 < bl := hbl ▸ r11.lt
                have hl13 : g13 < bl := hbl ▸ r13.lt
                have hlb : w.heap.size ≤ bl := hbl ▸ hv45.size
                try have r11 := r11.below b46
                try have r13 := r13.below b46
                clear hw46 b46 hbl
                refine hK.out _ _ (hv46) (fun hHeld => ?_)
                clear hK K
                try simp only [PT]
                refine tkH 11 oW211 ?v11_56 (.inl ⟨by rfl, ?h11_56⟩) ?r11_56
                case h11_56 =>
                  intro W hSW
                  unfold oW211
                  try dsimp only at hSW
                  go_simp
                  try with_reducible rfl
                try simp only [oW211, PT]
                refine tkH 12 oW212 ?v12_57 (.inl ⟨by rfl, ?h12_57⟩) ?r12_57
                case h12_57 =>
                  intro W hSW
                  unfold oW212
                  try dsimp only at hSW
                  go_simp
                  try with_reducible rfl
                try simp only [oW212, PT]
                refine wpAnyH_done (by kernel_rfl) ?_ _
                obtain ⟨col, hat, hcol⟩ := lat_new l11.out l13.out HNE.out HN.out.1 HN.out.2 r11 r13 HD.out hlb hl11 hl13 rbl HTT.out.1 HTT.out.2.1 HTT.out.2.2
                have HAT := Lib.hid hat
                have HCO := Lib.hid hcol
                have HV := Lib.hid hv46
                clear hat hcol rbl r11 r13 hl11 hl13 hlb
                go_wp2_with fail
                exact bodyPost_ret (results_tmp2 rfl _ _ _) rfl ⟨bl, col, _, rfl, by rw [show newHead (n : Int) = hd from HHD.out]; exact HAT.out, HCO.out, HV.out⟩
        · skip
          refine AllReadyH.cons (o := oW26) rfl (fun K hK => ?_) AllReadyH.nil
          unfold oW26
          rw [if_pos (by rfl)]
          have hcc := run_toS w40 58 9 5 Tryd.underlying58 Tryd.underlying5 Tryd.underlying9 A15 _ c15 _ _ rd15
          go_simp
          clear hcc
          refine hK.out _ _ (hv40) (fun hHeld => ?_)
          clear hK K
          try simp only [PT]
          refine rdyH [1, 3, 7] ?_
          refine AllReadyH.cons (o := oW23) rfl (fun K hK => ?_) ?_
          · skip
            unfold oW23
            go_simp
            obtain ⟨g11, hg11⟩ : ∃ x, w40.heap.size = x := ⟨_, rfl⟩
            obtain ⟨w42, hw42⟩ : ∃ x, w40.alloc (.cells M 3) = x := ⟨_, rfl⟩
            rw [hw42, hg11]
            obtain ⟨r11, z42, b42⟩ := new_ints hw42 HM.out
            rw [hg11] at r11
            have hv42 : Below w.heap.size w w42 := hv40.trans (b42.mono hv40.size)
            have l11 : Hid (w.heap.size ≤ g11) := Lib.hid (by rw [← hg11]; exact hv40.size)
            try have HNE : Hid (g11 ≠ g13) := Lib.hid (Nat.ne_of_gt (show g13 < g11 from hg11 ▸ r13.lt))
            try have r13 := r13.below b42
            try have rd15 := (rd15.below b42).more b42.size
            try have rd17 := (rd17.below b42).more b42.size
            clear hw42 b42 z42 hg11
            refine hK.out _ _ (hv42) (fun hHeld => ?_)
            clear hK K
            try simp only [PT]
            refine rdyH [3, 7] ?_
            refine AllReadyH.cons (o := oW24) rfl (fun K hK => ?_) ?_
            · skip
              unfold oW24
              go_simp
              obtain ⟨g13, hg13⟩ : ∃ x, w42.heap.size = x := ⟨_, rfl⟩
              obtain ⟨w43, hw43⟩ : ∃ x, w42.alloc (.cells M 3) = x := ⟨_, rfl⟩
              rw [hw43, hg13]
              obtain ⟨r13, z43, b43⟩ := new_ints hw43 HM.out
              rw [hg13] at r13
              have hv43 : Below w.heap.size w w43 := hv42.trans (b43.mono hv42.size)
              have l13 : Hid (w.heap.size ≤ g13) := Lib.hid (by rw [← hg13]; exact hv42.size)
              try have HNE : Hid (g11 ≠ g13) := Lib.hid (Nat.ne_of_lt (show g11 < g13 from hg13 ▸ r11.lt))
              try have r11 := r11.below b43
              try have rd15 := (rd15.below b43).more b43.size
              try have rd17 := (rd17.below b43).more b43.size
              clear hw43 b43 z43 hg13
              refine hK.out _ _ (hv43) (fun hHeld => ?_)
              clear hK K
              try simp only [PT]
              refine rdyH [7] ?_
              refine AllReadyH.cons (o := oW27) rfl (fun K hK => ?_) AllReadyH.nil
              unfold oW27
              go_simp
              clear rd15
              obtain ⟨g17, hg17⟩ : ∃ x, w43.heap.size = x := ⟨_, rfl⟩
              have rd17 := Rd.new w43 (svs [⟨(Wire.enc (n : Int)).toArray⟩]) 9 1 (size := 1) rfl
              obtain ⟨w44, hw44⟩ : ∃ x, w43.alloc (.cells #[.string ⟨(Wire.enc (n : Int)).toArray⟩] 9) = x := ⟨_, rfl⟩
              rw [show (svs [⟨(Wire.enc (n : Int)).toArray⟩]).toArray = #[.string ⟨(Wire.enc (n : Int)).toArray⟩] from rfl] at rd17
              rw [hw44, hg17] at rd17
              rw [hw44, hg17]
              have b44 : Below w43.heap.size w43 w44 := by rw [← hw44]; exact (Below.refl _ _).alloc (Nat.le_refl _) _
              have hv44 : Below w.heap.size w w44 := hv43.trans (b44.mono hv43.size)
              have rd17 : Rd w44 w44.heap.size 1 _ _ _ := rd17.more (by rw [← hw44, alloc_size1, hg17]; exact Nat.le_refl _)
              try have r11 := r11.below b44
              try have r13 := r13.below b44
              clear hw44 b44 hg17
              refine hK.out _ _ (hv44) (fun hHeld => ?_)
              clear hK K
              try simp only [PT]
              refine rdyH [8] ?_
              refine AllReadyH.cons (o := oW28) rfl (fun K hK => ?_) AllReadyH.nil
              unfold oW28
              go_simp
              refine (HOF.out g17 _ _ hv44 rd17 (Nat.le_refl _)).mono ?_
              rintro e w45 ⟨rfl, b45⟩
              have hv45 : Below w.heap.size w w45 := hv44.trans (b45.mono hv44.size)
              clear rd17
              try have r11 := r11.below b45
              try have r13 := r13.below b45
              clear b45
              refine hK.out _ _ (hv45) (fun hHeld => ?_)
              clear hK K
              try simp only [PT]
              refine tkH 9 oW29 _ (y_build234 rfl 71 2 3 4 (.tmp 11) (.tmp 13) (.tmp 18) rfl (.slice (some ⟨g11, 0, none⟩) n n) (.slice (some ⟨g13, 0, none⟩) n n) (dv hd) rfl rfl rfl _ (built_lg _ _ n n n hd HD.out)) ?_
              try simp only [oW29, PT]
              refine rdyH [10] ?_
              refine AllReadyH.cons (o := oW210) rfl (fun K hK => ?_) AllReadyH.nil
              unfold oW210
              go_simp
              obtain ⟨bl, hbl⟩ : ∃ x, w45.heap.size = x := ⟨_, rfl⟩
              have rbl := IsRow.new w45 71 (.int .i64 0 :: .slice none 0 0 :: .slice (some ⟨g11, 0, none⟩) n n :: .slice (some ⟨g13, 0, none⟩) n n :: bvs hd)
              obtain ⟨w46, hw46⟩ : ∃ x, w45.alloc (.cells (.int .i64 0 :: .slice none 0 0 :: .slice (some ⟨g11, 0, none⟩) n n :: .slice (some ⟨g13, 0, none⟩) n n :: bvs hd).toArray 71) = x := ⟨_, rfl⟩
              rw [hw46, hbl] at rbl
              try simp only [List.cons_append, List.nil_append, List.append_toArray, Array.toList_append]
              rw [hw46, hbl]
              have b46 : Below w45.heap.size w45 w46 := by rw [← hw46]; exact (Below.refl _ _).alloc (Nat.le_refl _) _
              have hv46 : Below w.heap.size w w46 := hv45.trans (b46.mono hv45.size)
              have hl11 : g11 < bl := hbl ▸ r11.lt
              have hl13 : g13 < bl := hbl ▸ r13.lt
              have hlb : w.heap.size ≤ bl := hbl ▸ hv45.size
              try have r11 := r11.below b46
              try have r13 := r13.below b46
              clear hw46 b46 hbl
              refine hK.out _ _ (hv46) (fun hHeld => ?_)
              clear hK K
              try simp only [PT]
              refine tkH 11 oW211 ?v11_59 (.inl ⟨by rfl, ?h11_59⟩) ?r11_59
              case h11_59 =>
                intro W hSW
                unfold oW211
                try dsimp only at hSW
                go_simp
                try with_reducible rfl
              try simp only [oW211, PT]
              refine tkH 12 oW212 ?v12_60 (.inl ⟨by rfl, ?h12_60⟩) ?r12_60
              case h12_60 =>
                intro W hSW
                unfold oW212
                try dsimp only at hSW
                go_simp
                try with_reducible rfl
              try simp only [oW212, PT]
              refine wpAnyH_done (by kernel_rfl) ?_ _
              obtain ⟨col, hat, hcol⟩ := lat_new l11.out l13.out HNE.out HN.out.1 HN.out.2 r11 r13 HD.out hlb hl11 hl13 rbl HTT.out.1 HTT.out.2.1 HTT.out.2.2
              have HAT := Lib.hid hat
              have HCO := Lib.hid hcol
              have HV := Lib.hid hv46
              clear hat hcol rbl r11 r13 hl11 hl13 hlb
              go_wp2_with fail
              exact bodyPost_ret (results_tmp2 rfl _ _ _) rfl ⟨bl, col, _, rfl, by rw [show newHead (n : Int) = hd from HHD.out]; exact HAT.out, HCO.out, HV.out⟩
            · skip
              refine AllReadyH.cons (o := oW27) rfl (fun K hK => ?_) AllReadyH.nil
              unfold oW27
              go_simp
              clear rd15
              obtain ⟨g17, hg17⟩ : ∃ x, w42.heap.size = x := ⟨_, rfl⟩
              have rd17 := Rd.new w42 (svs [⟨(Wire.enc (n : Int)).toArray⟩]) 9 1 (size := 1) rfl
              obtain ⟨w43, hw43⟩ : ∃ x, w42.alloc (.cells #[.string ⟨(Wire.enc (n : Int)).toArray⟩] 9) = x := ⟨_, rfl⟩
              rw [show (svs [⟨(Wire.enc (n : Int)).toArray⟩]).toArray = #[.string ⟨(Wire.enc (n : Int)).toArray⟩] from rfl] at rd17
              rw [hw43, hg17] at rd17
              rw [hw43, hg17]
              have b43 : Below w42.heap.size w42 w43 := by rw [← hw43]; exact (Below.refl _ _).alloc (Nat.le_refl _) _
              have hv43 : Below w.heap.size w w43 := hv42.trans (b43.mono hv42.size)
              have rd17 : Rd w43 w43.heap.size 1 _ _ _ := rd17.more (by rw [← hw43, alloc_size1, hg17]; exact Nat.le_refl _)
              try have r11 := r11.below b43
              try have r13 := r13.below b43
              clear hw43 b43 hg17
              refine hK.out _ _ (hv43) (fun hHeld => ?_)
              clear hK K
              try simp only [PT]
              refine rdyH [3, 8] ?_
              refine AllReadyH.cons (o := oW24) rfl (fun K hK => ?_) ?_
              · skip
                unfold oW24
                go_simp
                obtain ⟨g13, hg13⟩ : ∃ x, w43.heap.size = x := ⟨_, rfl⟩
                obtain ⟨w44, hw44⟩ : ∃ x, w43.alloc (.cells M 3) = x := ⟨_, rfl⟩
                rw [hw44, hg13]
                obtain ⟨r13, z44, b44⟩ := new_ints hw44 HM.out
                rw [hg13] at r13
                have hv44 : Below w.heap.size w w44 := hv43.trans (b44.mono hv43.size)
                have l13 : Hid (w.heap.size ≤ g13) := Lib.hid (by rw [← hg13]; exact hv43.size)
                try have HNE : Hid (g11 ≠ g13) := Lib.hid (Nat.ne_of_lt (show g11 < g13 from hg13 ▸ r11.lt))
                try have r11 := r11.below b44
                try have rd15 := (rd15.below b44).more b44.size
                try have rd17 := (rd17.below b44).more b44.size
                clear hw44 b44 z44 hg13
                refine hK.out _ _ (hv44) (fun hHeld => ?_)
                clear hK K
                try simp only [PT]
                refine rdyH [8] ?_
                refine AllReadyH.cons (o := oW28) rfl (fun K hK => ?_) AllReadyH.nil
                unfold oW28
                go_simp
                refine (HOF.out g17 _ _ hv44 rd17 (Nat.le_refl _)).mono ?_
                rintro e w45 ⟨rfl, b45⟩
                have hv45 : Below w.heap.size w w45 := hv44.trans (b45.mono hv44.size)
                clear rd17
                try have r11 := r11.below b45
                try have r13 := r13.below b45
                clear b45
                refine hK.out _ _ (hv45) (fun hHeld => ?_)
                clear hK K
                try simp only [PT]
                refine tkH 9 oW29 _ (y_build234 rfl 71 2 3 4 (.tmp 11) (.tmp 13) (.tmp 18) rfl (.slice (some ⟨g11, 0, none⟩) n n) (.slice (some ⟨g13, 0, none⟩) n n) (dv hd) rfl rfl rfl _ (built_lg _ _ n n n hd HD.out)) ?_
                try simp only [oW29, PT]
                refine rdyH [10] ?_
                refine AllReadyH.cons (o := oW210) rfl (fun K hK => ?_) AllReadyH.nil
                unfold oW210
                go_simp
                obtain ⟨bl, hbl⟩ : ∃ x, w45.heap.size = x := ⟨_, rfl⟩
                have rbl := IsRow.new w45 71 (.int .i64 0 :: .slice none 0 0 :: .slice (some ⟨g11, 0, none⟩) n n :: .slice (some ⟨g13, 0, none⟩) n n :: bvs hd)
                obtain ⟨w46, hw46⟩ : ∃ x, w45.alloc (.cells (.int .i64 0 :: .slice none 0 0 :: .slice (some ⟨g11, 0, none⟩) n n :: .slice (some ⟨g13, 0, none⟩) n n :: bvs hd).toArray 71) = x := ⟨_, rfl⟩
                rw [hw46, hbl] at rbl
                try simp only [List.cons_append, List.nil_append, List.append_toArray, Array.toList_append]
                rw [hw46, hbl]
                have b46 : Below w45.heap.size w45 w46 := by rw [← hw46]; exact (Below.refl _ _).alloc (Nat.le_refl _) _
                have hv46 : Below w.heap.size w w46 := hv45.trans (b46.mono hv45.size)
                have hl11 : g11 < bl := hbl ▸ r11.lt
                have hl13 : g13 < bl := hbl ▸ r13.lt
                have hlb : w.heap.size ≤ bl := hbl ▸ hv45.size
                try have r11 := r11.below b46
                try have r13 := r13.below b46
                clear hw46 b46 hbl
                refine hK.out _ _ (hv46) (fun hHeld => ?_)
                clear hK K
                try simp only [PT]
                refine tkH 11 oW211 ?v11_62 (.inl ⟨by rfl, ?h11_62⟩) ?r11_62
                case h11_62 =>
                  intro W hSW
                  unfold oW211
                  try dsimp only at hSW
                  go_simp
                  try with_reducible rfl
                try simp only [oW211, PT]
                refine tkH 12 oW212 ?v12_63 (.inl ⟨by rfl, ?h12_63⟩) ?r12_63
                case h12_63 =>
                  intro W hSW
                  unfold oW212
                  try dsimp only at hSW
                  go_simp
                  try with_reducible rfl
                try simp only [oW212, PT]
                refine wpAnyH_done (by kernel_rfl) ?_ _
                obtain ⟨col, hat, hcol⟩ := lat_new l11.out l13.out HNE.out HN.out.1 HN.out.2 r11 r13 HD.out hlb hl11 hl13 rbl HTT.out.1 HTT.out.2.1 HTT.out.2.2
                have HAT := Lib.hid hat
                have HCO := Lib.hid hcol
                have HV := Lib.hid hv46
                clear hat hcol rbl r11 r13 hl11 hl13 hlb
                go_wp2_with fail
                exact bodyPost_ret (results_tmp2 rfl _ _ _) rfl ⟨bl, col, _, rfl, by rw [show newHead (n : Int) = hd from HHD.out]; exact HAT.out, HCO.out, HV.out⟩
              · skip
                refine AllReadyH.cons (o := oW28) rfl (fun K hK => ?_) AllReadyH.nil
                unfold oW28
                go_simp
                refine (HOF.out g17 _ _ hv43 rd17 (Nat.le_refl _)).mono ?_
                rintro e w44 ⟨rfl, b44⟩
                have hv44 : Below w.heap.size w w44 := hv43.trans (b44.mono hv43.size)
                clear rd17
                try have r11 := r11.below b44
                try have r13 := r13.below b44
                clear b44
                refine hK.out _ _ (hv44) (fun hHeld => ?_)
                clear hK K
                try simp only [PT]
                refine rdyH [3] ?_
                refine AllReadyH.cons (o := oW24) rfl (fun K hK => ?_) AllReadyH.nil
                unfold oW24
                go_simp
                obtain ⟨g13, hg13⟩ : ∃ x, w44.heap.size = x := ⟨_, rfl⟩
                obtain ⟨w45, hw45⟩ : ∃ x, w44.alloc (.cells M 3) = x := ⟨_, rfl⟩
                rw [hw45, hg13]
                obtain ⟨r13, z45, b45⟩ := new_ints hw45 HM.out
                rw [hg13] at r13
                have hv45 : Below w.heap.size w w45 := hv44.trans (b45.mono hv44.size)
                have l13 : Hid (w.heap.size ≤ g13) := Lib.hid (by rw [← hg13]; exact hv44.size)
                try have HNE : Hid (g11 ≠ g13) := Lib.hid (Nat.ne_of_lt (show g11 < g13 from hg13 ▸ r11.lt))
                try have r11 := r11.below b45
                try have rd15 := (rd15.below b45).more b45.size
                try have rd17 := (rd17.below b45).more b45.size
                clear hw45 b45 z45 hg13
                refine hK.out _ _ (hv45) (fun hHeld => ?_)
                clear hK K
                try simp only [PT]
                refine tkH 9 oW29 _ (y_build234 rfl 71 2 3 4 (.tmp 11) (.tmp 13) (.tmp 18) rfl (.slice (some ⟨g11, 0, none⟩) n n) (.slice (some ⟨g13, 0, none⟩) n n) (dv hd) rfl rfl rfl _ (built_lg _ _ n n n hd HD.out)) ?_
                try simp only [oW29, PT]
                refine rdyH [10] ?_
                refine AllReadyH.cons (o := oW210) rfl (fun K hK => ?_) AllReadyH.nil
                unfold oW210
                go_simp
                obtain ⟨bl, hbl⟩ : ∃ x, w45.heap.size = x := ⟨_, rfl⟩
                have rbl := IsRow.new w45 71 (.int .i64 0 :: .slice none 0 0 :: .slice (some ⟨g11, 0, none⟩) n n :: .slice (some ⟨g13, 0, none⟩) n n :: bvs hd)
                obtain ⟨w46, hw46⟩ : ∃ x, w45.alloc (.cells (.int .i64 0 :: .slice none 0 0 :: .slice (some ⟨g11, 0, none⟩) n n :: .slice (some ⟨g13, 0, none⟩) n n :: bvs hd).toArray 71) = x := ⟨_, rfl⟩
                rw [hw46, hbl] at rbl
                try simp only [List.cons_append, List.nil_append, List.append_toArray, Array.toList_append]
                rw [hw46, hbl]
                have b46 : Below w45.heap.size w45 w46 := by rw [← hw46]; exact (Below.refl _ _).alloc (Nat.le_refl _) _
                have hv46 : Below w.heap.size w w46 := hv45.trans (b46.mono hv45.size)
                have hl11 : g11 < bl := hbl ▸ r11.lt
                have hl13 : g13 < bl := hbl ▸ r13.lt
                have hlb : w.heap.size ≤ bl := hbl ▸ hv45.size
                try have r11 := r11.below b46
                try have r13 := r13.below b46
                clear hw46 b46 hbl
                refine hK.out _ _ (hv46) (fun hHeld => ?_)
                clear hK K
                try simp only [PT]
                refine tkH 11 oW211 ?v11_65 (.inl ⟨by rfl, ?h11_65⟩) ?r11_65
                case h11_65 =>
                  intro W hSW
                  unfold oW211
                  try dsimp only at hSW
                  go_simp
                  try with_reducible rfl
                try simp only [oW211, PT]
                refine tkH 12 oW212 ?v12_66 (.inl ⟨by rfl, ?h12_66⟩) ?r12_66
                case h12_66 =>
                  intro W hSW
                  unfold oW212
                  try dsimp only at hSW
                  go_simp
                  try with_reducible rfl
                try simp only [oW212, PT]
                refine wpAnyH_done (by kernel_rfl) ?_ _
                obtain ⟨col, hat, hcol⟩ := lat_new l11.out l13.out HNE.out HN.out.1 HN.out.2 r11 r13 HD.out hlb hl11 hl13 rbl HTT.out.1 HTT.out.2.1 HTT.out.2.2
                have HAT := Lib.hid hat
                have HCO := Lib.hid hcol
                have HV := Lib.hid hv46
                clear hat hcol rbl r11 r13 hl11 hl13 hlb
                go_wp2_with fail
                exact bodyPost_ret (results_tmp2 rfl _ _ _) rfl ⟨bl, col, _, rfl, by rw [show newHead (n : Int) = hd from HHD.out]; exact HAT.out, HCO.out, HV.out⟩
          · skip
            refine AllReadyH.cons (o := oW24) rfl (fun K hK => ?_) ?_
            · skip
              unfold oW24
              go_simp
              obtain ⟨g13, hg13⟩ : ∃ x, w40.heap.size = x := ⟨_, rfl⟩
              obtain ⟨w42, hw42⟩ : ∃ x, w40.alloc (.cells M 3) = x := ⟨_, rfl⟩
              rw [hw42, hg13]
              obtain ⟨r13, z42, b42⟩ := new_ints hw42 HM.out
              rw [hg13] at r13
              have hv42 : Below w.heap.size w w42 := hv40.trans (b42.mono hv40.size)
              have l13 : Hid (w.heap.size ≤ g13) := Lib.hid (by rw [← hg13]; exact hv40.size)
              try have HNE : Hid (g11 ≠ g13) := Lib.hid (Nat.ne_of_lt (show g11 < g13 from hg13 ▸ r11.lt))
              try have r11 := r11.below b42
              try have rd15 := (rd15.below b42).more b42.size
              try have rd17 := (rd17.below b42).more b42.size
              clear hw42 b42 z42 hg13
              refine hK.out _ _ (hv42) (fun hHeld => ?_)
              clear hK K
              try simp only [PT]
              refine rdyH [1, 7] ?_
              refine AllReadyH.cons (o := oW23) rfl (fun K hK => ?_) ?_
              · skip
                unfold oW23
                go_simp
                obtain ⟨g11, hg11⟩ : ∃ x, w42.heap.size = x := ⟨_, rfl⟩
                obtain ⟨w43, hw43⟩ : ∃ x, w42.alloc (.cells M 3) = x := ⟨_, rfl⟩
                rw [hw43, hg11]
                obtain ⟨r11, z43, b43⟩ := new_ints hw43 HM.out
                rw [hg11] at r11
                have hv43 : Below w.heap.size w w43 := hv42.trans (b43.mono hv42.size)
                have l11 : Hid (w.heap.size ≤ g11) := Lib.hid (by rw [← hg11]; exact hv42.size)
                try have HNE : Hid (g11 ≠ g13) := Lib.hid (Nat.ne_of_gt (show g13 < g11 from hg11 ▸ r13.lt))
                try have r13 := r13.below b43
                try have rd15 := (rd15.below b43).more b43.size
                try have rd17 := (rd17.below b43).more b43.size
                clear hw43 b43 z43 hg11
                refine hK.out _ _ (hv43) (fun hHeld => ?_)
                clear hK K
                try simp only [PT]
                refine rdyH [7] ?_
                refine AllReadyH.cons (o := oW27) rfl (fun K hK => ?_) AllReadyH.nil
                unfold oW27
                go_simp
                clear rd15
                obtain ⟨g17, hg17⟩ : ∃ x, w43.heap.size = x := ⟨_, rfl⟩
                have rd17 := Rd.new w43 (svs [⟨(Wire.enc (n : Int)).toArray⟩]) 9 1 (size := 1) rfl
                obtain ⟨w44, hw44⟩ : ∃ x, w43.alloc (.cells #[.string ⟨(Wire.enc (n : Int)).toArray⟩] 9) = x := ⟨_, rfl⟩
                rw [show (svs [⟨(Wire.enc (n : Int)).toArray⟩]).toArray = #[.string ⟨(Wire.enc (n : Int)).toArray⟩] from rfl] at rd17
                rw [hw44, hg17] at rd17
                rw [hw44, hg17]
                have b44 : Below w43.heap.size w43 w44 := by rw [← hw44]; exact (Below.refl _ _).alloc (Nat.le_refl _) _
                have hv44 : Below w.heap.size w w44 := hv43.trans (b44.mono hv43.size)
                have rd17 : Rd w44 w44.heap.size 1 _ _ _ := rd17.more (by rw [← hw44, alloc_size1, hg17]; exact Nat.le_refl _)
                try have r11 := r11.below b44
                try have r13 := r13.below b44
                clear hw44 b44 hg17
                refine hK.out _ _ (hv44) (fun hHeld => ?_)
                clear hK K
                try simp only [PT]
                refine rdyH [8] ?_
                refine AllReadyH.cons (o := oW28) rfl (fun K hK => ?_) AllReadyH.nil
                unfold oW28
                go_simp
                refine (HOF.out g17 _ _ hv44 rd17 (Nat.le_refl _)).mono ?_
                rintro e w45 ⟨rfl, b45⟩
                have hv45 : Below w.heap.size w w45 := hv44.trans (b45.mono hv44.size)
                clear rd17
                try have r11 := r11.below b45
                try have r13 := r13.below b45
                clear b45
                refine hK.out _ _ (hv45) (fun hHeld => ?_)
                clear hK K
                try simp only [PT]
                refine tkH 9 oW29 _ (y_build234 rfl 71 2 3 4 (.tmp 11) (.tmp 13) (.tmp 18) rfl (.slice (some ⟨g11, 0, none⟩) n n) (.slice (some ⟨g13, 0, none⟩) n n) (dv hd) rfl rfl rfl _ (built_lg _ _ n n n hd HD.out)) ?_
                try simp only [oW29, PT]
                refine rdyH [10] ?_
                refine AllReadyH.cons (o := oW210) rfl (fun K hK => ?_) AllReadyH.nil
                unfold oW210
                go_simp
                obtain ⟨bl, hbl⟩ : ∃ x, w45.heap.size = x := ⟨_, rfl⟩
                have rbl := IsRow.new w45 71 (.int .i64 0 :: .slice none 0 0 :: .slice (some ⟨g11, 0, none⟩) n n :: .slice (some ⟨g13, 0, none⟩) n n :: bvs hd)
                obtain ⟨w46, hw46⟩ : ∃ x, w45.alloc (.cells (.int .i64 0 :: .slice none 0 0 :: .slice (some ⟨g11, 0, none⟩) n n :: .slice (some ⟨g13, 0, none⟩) n n :: bvs hd).toArray 71) = x := ⟨_, rfl⟩
                rw [hw46, hbl] at rbl
                try simp only [List.cons_append, List.nil_append, List.append_toArray, Array.toList_append]
                rw [hw46, hbl]
                have b46 : Below w45.heap.size w45 w46 := by rw [← hw46]; exact (Below.refl _ _).alloc (Nat.le_refl _) _
                have hv46 : Below w.heap.size w w46 := hv45.trans (b46.mono hv45.size)
                have hl11 : g11 < bl := hbl ▸ r11.lt
                have hl13 : g13 < bl := hbl ▸ r13.lt
                have hlb : w.heap.size ≤ bl := hbl ▸ hv45.size
                try have r11 := r11.below b46
                try have r13 := r13.below b46
                clear hw46 b46 hbl
                refine hK.out _ _ (hv46) (fun hHeld => ?_)
                clear hK K
                try simp only [PT]
                refine tkH 11 oW211 ?v11_68 (.inl ⟨by rfl, ?h11_68⟩) ?r11_68
                case h11_68 =>
                  intro W hSW
                  unfold oW211
                  try dsimp only at hSW
                  go_simp
                  try with_reducible rfl
                try simp only [oW211, PT]
                refine tkH 12 oW212 ?v12_69 (.inl ⟨by rfl, ?h12_69⟩) ?r12_69
                case h12_69 =>
                  intro W hSW
                  unfold oW212
                  try dsimp only at hSW
                  go_simp
                  try with_reducible rfl
                try simp only [oW212, PT]
                refine wpAnyH_done (by kernel_rfl) ?_ _
                obtain ⟨col, hat, hcol⟩ := lat_new l11.out l13.out HNE.out HN.out.1 HN.out.2 r11 r13 HD.out hlb hl11 hl13 rbl HTT.out.1 HTT.out.2.1 HTT.out.2.2
                have HAT := Lib.hid hat
                have HCO := Lib.hid hcol
                have HV := Lib.hid hv46
                clear hat hcol rbl r11 r13 hl11 hl13 hlb
                go_wp2_with fail
                exact bodyPost_ret (results_tmp2 rfl _ _ _) rfl ⟨bl, col, _, rfl, by rw [show newHead (n : Int) = hd from HHD.out]; exact HAT.out, HCO.out, HV.out⟩
              · skip
                refine AllReadyH.cons (o := oW27) rfl (fun K hK => ?_) AllReadyH.nil
                unfold oW27
                go_simp
                clear rd15
                obtain ⟨g17, hg17⟩ : ∃ x, w42.heap.size = x := ⟨_, rfl⟩
                have rd17 := Rd.new w42 (svs [⟨(Wire.enc (n : Int)).toArray⟩]) 9 1 (size := 1) rfl
                obtain ⟨w43, hw43⟩ : ∃ x, w42.alloc (.cells #[.string ⟨(Wire.enc (n : Int)).toArray⟩] 9) = x := ⟨_, rfl⟩
                rw [show (svs [⟨(Wire.enc (n : Int)).toArray⟩]).toArray = #[.string ⟨(Wire.enc (n : Int)).toArray⟩] from rfl] at rd17
                rw [hw43, hg17] at rd17
                rw [hw43, hg17]
                have b43 : Below w42.heap.size w42 w43 := by rw [← hw43]; exact (Below.refl _ _).alloc (Nat.le_refl _) _
                have hv43 : Below w.heap.size w w43 := hv42.trans (b43.mono hv42.size)
                have rd17 : Rd w43 w43.heap.size 1 _ _ _ := rd17.more (by rw [← hw43, alloc_size1, hg17]; exact Nat.le_refl _)
                try have r11 := r11.below b43
                try have r13 := r13.below b43
                clear hw43 b43 hg17
                refine hK.out _ _ (hv43) (fun hHeld => ?_)
                clear hK K
                try simp only [PT]
                refine rdyH [1, 8] ?_
                refine AllReadyH.cons (o := oW23) rfl (fun K hK => ?_) ?_
                · skip
                  unfold oW23
                  go_simp
                  obtain ⟨g11, hg11⟩ : ∃ x, w43.heap.size = x := ⟨_, rfl⟩
                  obtain ⟨w44, hw44⟩ : ∃ x, w43.alloc (.cells M 3) = x := ⟨_, rfl⟩
                  rw [hw44, hg11]
                  obtain ⟨r11, z44, b44⟩ := new_ints hw44 HM.out
                  rw [hg11] at r11
                  have hv44 : Below w.heap.size w w44 := hv43.trans (b44.mono hv43.size)
                  have l11 : Hid (w.heap.size ≤ g11) := Lib.hid (by rw [← hg11]; exact hv43.size)
                  try have HNE : Hid (g11 ≠ g13) := Lib.hid (Nat.ne_of_gt (show g13 < g11 from hg11 ▸ r13.lt))
                  try have r13 := r13.below b44
                  try have rd15 := (rd15.below b44).more b44.size
                  try have rd17 := (rd17.below b44).more b44.size
                  clear hw44 b44 z44 hg11
                  refine hK.out _ _ (hv44) (fun hHeld => ?_)
                  clear hK K
                  try simp only [PT]
                  refine rdyH [8] ?_
                  refine AllReadyH.cons (o := oW28) rfl (fun K hK => ?_) AllReadyH.nil
                  unfold oW28
                  go_simp
                  refine (HOF.out g17 _ _ hv44 rd17 (Nat.le_refl _)).mono ?_
                  rintro e w45 ⟨rfl, b45⟩
                  have hv45 : Below w.heap.size w w45 := hv44.trans (b45.mono hv44.size)
                  clear rd17
                  try have r11 := r11.below b45
                  try have r13 := r13.below b45
                  clear b45
                  refine hK.out _ _ (hv45) (fun hHeld => ?_)
                  clear hK K
                  try simp only [PT]
                  refine tkH 9 oW29 _ (y_build234 rfl 71 2 3 4 (.tmp 11) (.tmp 13) (.tmp 18) rfl (.slice (some ⟨g11, 0, none⟩) n n) (.slice (some ⟨g13, 0, none⟩) n n) (dv hd) rfl rfl rfl _ (built_lg _ _ n n n hd HD.out)) ?_
                  try simp only [oW29, PT]
                  refine rdyH [10] ?_
                  refine AllReadyH.cons (o := oW210) rfl (fun K hK => ?_) AllReadyH.nil
                  unfold oW210
                  go_simp
                  obtain ⟨bl, hbl⟩ : ∃ x, w45.heap.size = x := ⟨_, rfl⟩
                  have rbl := IsRow.new w45 71 (.int .i64 0 :: .slice none 0 0 :: .slice (some ⟨g11, 0, none⟩) n n :: .slice (some ⟨g13, 0, none⟩) n n :: bvs hd)
                  obtain ⟨w46, hw46⟩ : ∃ x, w45.alloc (.cells (.int .i64 0 :: .slice none 0 0 :: .slice (some ⟨g11, 0, none⟩) n n :: .slice (some ⟨g13, 0, none⟩) n n :: bvs hd).toArray 71) = x := ⟨_, rfl⟩
                  rw [hw46, hbl] at rbl
                  try simp only [List.cons_append, List.nil_append, List.append_toArray, Array.toList_append]
                  rw [hw46, hbl]
                  have b46 : Below w45.heap.size w45 w46 := by rw [← hw46]; exact (Below.refl _ _).alloc (Nat.le_refl _) _
                  have hv46 : Below w.heap.size w w46 := hv45.trans (b46.mono hv45.size)
                  have hl11 : g11 < bl := hbl ▸ r11.lt
                  have hl13 : g13 < bl := hbl ▸ r13.lt
                  have hlb : w.heap.size ≤ bl := hbl ▸ hv45.size
                  try have r11 := r11.below b46
                  try have r13 := r13.below b46
                  clear hw46 b46 hbl
                  refine hK.out _ _ (hv46) (fun hHeld => ?_)
                  clear hK K
                  try simp only [PT]
                  refine tkH 11 oW211 ?v11_71 (.inl ⟨by rfl, ?h11_71⟩) ?r11_71
                  case h11_71 =>
                    intro W hSW
                    unfold oW211
                    try dsimp only at hSW
                    go_simp
                    try with_reducible rfl
                  try simp only [oW211, PT]
                  refine tkH 12 oW212 ?v12_72 (.inl ⟨by rfl, ?h12_72⟩) ?r12_72
                  case h12_72 =>
                    intro W hSW
                    unfold oW212
                    try dsimp only at hSW
                    go_simp
                    try with_reducible rfl
                  try simp only [oW212, PT]
                  refine wpAnyH_done (by kernel_rfl) ?_ _
                  obtain ⟨col, hat, hcol⟩ := lat_new l11.out l13.out HNE.out HN.out.1 HN.out.2 r11 r13 HD.out hlb hl11 hl13 rbl HTT.out.1 HTT.out.2.1 HTT.out.2.2
                  have HAT := Lib.hid hat
                  have HCO := Lib.hid hcol
                  have HV := Lib.hid hv46
                  clear hat hcol rbl r11 r13 hl11 hl13 hlb
                  go_wp2_with fail
                  exact bodyPost_ret (results_tmp2 rfl _ _ _) rfl ⟨bl, col, _, rfl, by rw [show newHead (n : Int) = hd from HHD.out]; exact HAT.out, HCO.out, HV.out⟩
                · skip
                  refine AllReadyH.cons (o := oW28) rfl (fun K hK => ?_) AllReadyH.nil
                  unfold oW28
                  go_simp
                  refine (HOF.out g17 _ _ hv43 rd17 (Nat.le_refl _)).mono ?_
                  rintro e w44 ⟨rfl, b44⟩
                  have hv44 : Below w.heap.size w w44 := hv43.trans (b44.mono hv43.size)
                  clear rd17
                  try have r11 := r11.below b44
                  try have r13 := r13.below b44
                  clear b44
                  refine hK.out _ _ (hv44) (fun hHeld => ?_)
                  clear hK K
                  try simp only [PT]
                  refine rdyH [1] ?_
                  refine AllReadyH.cons (o := oW23) rfl (fun K hK => ?_) AllReadyH.nil
                  unfold oW23
                  go_simp
                  obtain ⟨g11, hg11⟩ : ∃ x, w44.heap.size = x := ⟨_, rfl⟩
                  obtain ⟨w45, hw45⟩ : ∃ x, w44.alloc (.cells M 3) = x := ⟨_, rfl⟩
                  rw [hw45, hg11]
                  obtain ⟨r11, z45, b45⟩ := new_ints hw45 HM.out
                  rw [hg11] at r11
                  have hv45 : Below w.heap.size w w45 := hv44.trans (b45.mono hv44.size)
                  have l11 : Hid (w.heap.size ≤ g11) := Lib.hid (by rw [← hg11]; exact hv44.size)
                  try have HNE : Hid (g11 ≠ g13) := Lib.hid (Nat.ne_of_gt (show g13 < g11 from hg11 ▸ r13.lt))
                  try have r13 := r13.below b45
                  try have rd15 := (rd15.below b45).more b45.size
                  try have rd17 := (rd17.below b45).more b45.size
                  clear hw45 b45 z45 hg11
                  refine hK.out _ _ (hv45) (fun hHeld => ?_)
                  clear hK K
                  try simp only [PT]
                  refine tkH 9 oW29 _ (y_build234 rfl 71 2 3 4 (.tmp 11) (.tmp 13) (.tmp 18) rfl (.slice (some ⟨g11, 0, none⟩) n n) (.slice (some ⟨g13, 0, none⟩) n n) (dv hd) rfl rfl rfl _ (built_lg _ _ n n n hd HD.out)) ?_
                  try simp only [oW29, PT]
                  refine rdyH [10] ?_
                  refine AllReadyH.cons (o := oW210) rfl (fun K hK => ?_) AllReadyH.nil
                  unfold oW210
                  go_simp
                  obtain ⟨bl, hbl⟩ : ∃ x, w45.heap.size = x := ⟨_, rfl⟩
                  have rbl := IsRow.new w45 71 (.int .i64 0 :: .slice none 0 0 :: .slice (some ⟨g11, 0, none⟩) n n :: .slice (some ⟨g13, 0, none⟩) n n :: bvs hd)
                  obtain ⟨w46, hw46⟩ : ∃ x, w45.alloc (.cells (.int .i64 0 :: .slice none 0 0 :: .slice (some ⟨g11, 0, none⟩) n n :: .slice (some ⟨g13, 0, none⟩) n n :: bvs hd).toArray 71) = x := ⟨_, rfl⟩
                  rw [hw46, hbl] at rbl
                  try simp only [List.cons_append, List.nil_append, List.append_toArray, Array.toList_append]
                  rw [hw46, hbl]
                  have b46 : Below w45.heap.size w45 w46 := by rw [← hw46]; exact (Below.refl _ _).alloc (Nat.le_refl _) _
                  have hv46 : Below w.heap.size w w46 := hv45.trans (b46.mono hv45.size)
                  have hl11 : g11 < bl := hbl ▸ r11.lt
                  have hl13 : g13 < bl := hbl ▸ r13.lt
                  have hlb : w.heap.size ≤ bl := hbl ▸ hv45.size
                  try have r11 := r11.below b46
                  try have r13 := r13.below b46
                  clear hw46 b46 hbl
                  refine hK.out _ _ (hv46) (fun hHeld => ?_)
                  clear hK K
                  try simp only [PT]
                  refine tkH 11 oW211 ?v11_74 (.inl ⟨by rfl, ?h11_74⟩) ?r11_74
                  case h11_74 =>
                    intro W hSW
                    unfold oW211
                    try dsimp only at hSW
                    go_simp
                    try with_reducible rfl
                  try simp only [oW211, PT]
                  refine tkH 12 oW212 ?v12_75 (.inl ⟨by rfl, ?h12_75⟩) ?r12_75
                  case h12_75 =>
                    intro W hSW
                    unfold oW212
                    try dsimp only at hSW
                    go_simp
                    try with_reducible rfl
                  try simp only [oW212, PT]
                  refine wpAnyH_done (by kernel_rfl) ?_ _
                  obtain ⟨col, hat, hcol⟩ := lat_new l11.out l13.out HNE.out HN.out.1 HN.out.2 r11 r13 HD.out hlb hl11 hl13 rbl HTT.out.1 HTT.out.2.1 HTT.out.2.2
                  have HAT := Lib.hid hat
                  have HCO := Lib.hid hcol
                  have HV := Lib.hid hv46
                  clear hat hcol rbl r11 r13 hl11 hl13 hlb
                  go_wp2_with fail
                  exact bodyPost_ret (results_tmp2 rfl _ _ _) rfl ⟨bl, col, _, rfl, by rw [show newHead (n : Int) = hd from HHD.out]; exact HAT.out, HCO.out, HV.out⟩
            · skip
              refine AllReadyH.cons (o := oW27) rfl (fun K hK => ?_) AllReadyH.nil
              unfold oW27
              go_simp
              clear rd15
              obtain ⟨g17, hg17⟩ : ∃ x, w40.heap.size = x := ⟨_, rfl⟩
              have rd17 := Rd.new w40 (svs [⟨(Wire.enc (n : Int)).toArray⟩]) 9 1 (size := 1) rfl
              obtain ⟨w42, hw42⟩ : ∃ x, w40.alloc (.cells #[.string ⟨(Wire.enc (n : Int)).toArray⟩] 9) = x := ⟨_, rfl⟩
              rw [show (svs [⟨(Wire.enc (n : Int)).toArray⟩]).toArray = #[.string ⟨(Wire.enc (n : Int)).toArray⟩] from rfl] at rd17
              rw [hw42, hg17] at rd17
              rw [hw42, hg17]
              have b42 : Below w40.heap.size w40 w42 := by rw [← hw42]; exact (Below.refl _ _).alloc (Nat.le_refl _) _
              have hv42 : Below w.heap.size w w42 := hv40.trans (b42.mono hv40.size)
              have rd17 : Rd w42 w42.heap.size 1 _ _ _ := rd17.more (by rw [← hw42, alloc_size1, hg17]; exact Nat.le_refl _)
              try have r11 := r11.below b42
              try have r13 := r13.below b42
              clear hw42 b42 hg17
              refine hK.out _ _ (hv42) (fun hHeld => ?_)
              clear hK K
              try simp only [PT]
              refine rdyH [1, 3, 8] ?_
              refine AllReadyH.cons (o := oW23) rfl (fun K hK => ?_) ?_
              · skip
                unfold oW23
                go_simp
                obtain ⟨g11, hg11⟩ : ∃ x, w42.heap.size = x := ⟨_, rfl⟩
                obtain ⟨w43, hw43⟩ : ∃ x, w42.alloc (.cells M 3) = x := ⟨_, rfl⟩
                rw [hw43, hg11]
                obtain ⟨r11, z43, b43⟩ := new_ints hw43 HM.out
                rw [hg11] at r11
                have hv43 : Below w.heap.size w w43 := hv42.trans (b43.mono hv42.size)
                have l11 : Hid (w.heap.size ≤ g11) := Lib.hid (by rw [← hg11]; exact hv42.size)
                try have HNE : Hid (g11 ≠ g13) := Lib.hid (Nat.ne_of_gt (show g13 < g11 from hg11 ▸ r13.lt))
                try have r13 := r13.below b43
                try have rd15 := (rd15.below b43).more b43.size
                try have rd17 := (rd17.below b43).more b43.size
                clear hw43 b43 z43 hg11
                refine hK.out _ _ (hv43) (fun hHeld => ?_)
                clear hK K
                try simp only [PT]
                refine rdyH [3, 8] ?_
                refine AllReadyH.cons (o := oW24) rfl (fun K hK => ?_) ?_
                · skip
                  unfold oW24
                  go_simp
                  obtain ⟨g13, hg13⟩ : ∃ x, w43.heap.size = x := ⟨_, rfl⟩
                  obtain ⟨w44, hw44⟩ : ∃ x, w43.alloc (.cells M 3) = x := ⟨_, rfl⟩
                  rw [hw44, hg13]
                  obtain ⟨r13, z44, b44⟩ := new_ints hw44 HM.out
                  rw [hg13] at r13
                  have hv44 : Below w.heap.size w w44 := hv43.trans (b44.mono hv43.size)
                  have l13 : Hid (w.heap.size ≤ g13) := Lib.hid (by rw [← hg13]; exact hv43.size)
                  try have HNE : Hid (g11 ≠ g13) := Lib.hid (Nat.ne_of_lt (show g11 < g13 from hg13 ▸ r11.lt))
                  try have r11 := r11.below b44
                  try have rd15 := (rd15.below b44).more b44.size
                  try have rd17 := (rd17.below b44).more b44.size
                  clear hw44 b44 z44 hg13
                  refine hK.out _ _ (hv44) (fun hHeld => ?_)
                  clear hK K
                  try simp only [PT]
                  refine rdyH [8] ?_
                  refine AllReadyH.cons (o := oW28) rfl (fun K hK => ?_) AllReadyH.nil
                  unfold oW28
                  go_simp
                  refine (HOF.out g17 _ _ hv44 rd17 (Nat.le_refl _)).mono ?_
                  rintro e w45 ⟨rfl, b45⟩
                  have hv45 : Below w.heap.size w w45 := hv44.trans (b45.mono hv44.size)
                  clear rd17
                  try have r11 := r11.below b45
                  try have r13 := r13.below b45
                  clear b45
                  refine hK.out _ _ (hv45) (fun hHeld => ?_)
                  clear hK K
                  try simp only [PT]
                  refine tkH 9 oW29 _ (y_build234 rfl 71 2 3 4 (.tmp 11) (.tmp 13) (.tmp 18) rfl (.slice (some ⟨g11, 0, none⟩) n n) (.slice (some ⟨g13, 0, none⟩) n n) (dv hd) rfl rfl rfl _ (built_lg _ _ n n n hd HD.out)) ?_
                  try simp only [oW29, PT]
                  refine rdyH [10] ?_
                  refine AllReadyH.cons (o := oW210) rfl (fun K hK => ?_) AllReadyH.nil
                  unfold oW210
                  go_simp
                  obtain ⟨bl, hbl⟩ : ∃ x, w45.heap.size = x := ⟨_, rfl⟩
                  have rbl := IsRow.new w45 71 (.int .i64 0 :: .slice none 0 0 :: .slice (some ⟨g11, 0, none⟩) n n :: .slice (some ⟨g13, 0, none⟩) n n :: bvs hd)
                  obtain ⟨w46, hw46⟩ : ∃ x, w45.alloc (.cells (.int .i64 0 :: .slice none 0 0 :: .slice (some ⟨g11, 0, none⟩) n n :: .slice (some ⟨g13, 0, none⟩) n n :: bvs hd).toArray 71) = x := ⟨_, rfl⟩
                  rw [hw46, hbl] at rbl
                  try simp only [List.cons_append, List.nil_append, List.append_toArray, Array.toList_append]
                  rw [hw46, hbl]
                  have b46 : Below w45.heap.size w45 w46 := by rw [← hw46]; exact (Below.refl _ _).alloc (Nat.le_refl _) _
                  have hv46 : Below w.heap.size w w46 := hv45.trans (b46.mono hv45.size)
                  have hl11 : g11 < bl := hbl ▸ r11.lt
                  have hl13 : g13 < bl := hbl ▸ r13.lt
                  have hlb : w.heap.size ≤ bl := hbl ▸ hv45.size
                  try have r11 := r11.below b46
                  try have r13 := r13.below b46
                  clear hw46 b46 hbl
                  refine hK.out _ _ (hv46) (fun hHeld => ?_)
                  clear hK K
                  try simp only [PT]
                  refine tkH 11 oW211 ?v11_77 (.inl ⟨by rfl, ?h11_77⟩) ?r11_77
                  case h11_77 =>
                    intro W hSW
                    unfold oW211
                    try dsimp only at hSW
                    go_simp
                    try with_reducible rfl
                  try simp only [oW211, PT]
                  refine tkH 12 oW212 ?v12_78 (.inl ⟨by rfl, ?h12_78⟩) ?r12_78
                  case h12_78 =>
                    intro W hSW
                    unfold oW212
                    try dsimp only at hSW
                    go_simp
                    try with_reducible rfl
                  try simp only [oW212, PT]
                  refine wpAnyH_done (by kernel_rfl) ?_ _
                  obtain ⟨col, hat, hcol⟩ := lat_new l11.out l13.out HNE.out HN.out.1 HN.out.2 r11 r13 HD.out hlb hl11 hl13 rbl HTT.out.1 HTT.out.2.1 HTT.out.2.2
                  have HAT := Lib.hid hat
                  have HCO := Lib.hid hcol
                  have HV := Lib.hid hv46
                  clear hat hcol rbl r11 r13 hl11 hl13 hlb
                  go_wp2_with fail
                  exact bodyPost_ret (results_tmp2 rfl _ _ _) rfl ⟨bl, col, _, rfl, by rw [show newHead (n : Int) = hd from HHD.out]; exact HAT.out, HCO.out, HV.out⟩
                · skip
                  refine AllReadyH.cons (o := oW28) rfl (fun K hK => ?_) AllReadyH.nil
                  unfold oW28
                  go_simp
                  refine (HOF.out g17 _ _ hv43 rd17 (Nat.le_refl _)).mono ?_
                  rintro e w44 ⟨rfl, b44⟩
                  have hv44 : Below w.heap.size w w44 := hv43.trans (b44.mono hv43.size)
                  clear rd17
                  try have r11 := r11.below b44
                  try have r13 := r13.below b44
                  clear b44
                  refine hK.out _ _ (hv44) (fun hHeld => ?_)
                  clear hK K
                  try simp only [PT]
                  refine rdyH [3] ?_
                  refine AllReadyH.cons (o := oW24) rfl (fun K hK => ?_) AllReadyH.nil
                  unfold oW24
                  go_simp
                  obtain ⟨g13, hg13⟩ : ∃ x, w44.heap.size = x := ⟨_, rfl⟩
                  obtain ⟨w45, hw45⟩ : ∃ x, w44.alloc (.cells M 3) = x := ⟨_, rfl⟩
                  rw [hw45, hg13]
                  obtain ⟨r13, z45, b45⟩ := new_ints hw45 HM.out
                  rw [hg13] at r13
                  have hv45 : Below w.heap.size w w45 := hv44.trans (b45.mono hv44.size)
                  have l13 : Hid (w.heap.size ≤ g13) := Lib.hid (by rw [← hg13]; exact hv44.size)
                  try have HNE : Hid (g11 ≠ g13) := Lib.hid (Nat.ne_of_lt (show g11 < g13 from hg13 ▸ r11.lt))
                  try have r11 := r11.below b45
                  try have rd15 := (rd15.below b45).more b45.size
                  try have rd17 := (rd17.below b45).more b45.size
                  clear hw45 b45 z45 hg13
                  refine hK.out _ _ (hv45) (fun hHeld => ?_)
                  clear hK K
                  try simp only [PT]
                  refine tkH 9 oW29 _ (y_build234 rfl 71 2 3 4 (.tmp 11) (.tmp 13) (.tmp 18) rfl (.slice (some ⟨g11, 0, none⟩) n n) (.slice (some ⟨g13, 0, none⟩) n n) (dv hd) rfl rfl rfl _ (built_lg _ _ n n n hd HD.out)) ?_
                  try simp only [oW29, PT]
                  refine rdyH [10] ?_
                  refine AllReadyH.cons (o := oW210) rfl (fun K hK => ?_) AllReadyH.nil
                  unfold oW210
                  go_simp
                  obtain ⟨bl, hbl⟩ : ∃ x, w45.heap.size = x := ⟨_, rfl⟩
                  have rbl := IsRow.new w45 71 (.int .i64 0 :: .slice none 0 0 :: .slice (some ⟨g11, 0, none⟩) n n :: .slice (some ⟨g13, 0, none⟩) n n :: bvs hd)
                  obtain ⟨w46, hw46⟩ : ∃ x, w45.alloc (.cells (.int .i64 0 :: .slice none 0 0 :: .slice (some ⟨g11, 0, none⟩) n n :: .slice (some ⟨g13, 0, none⟩) n n :: bvs hd).toArray 71) = x := ⟨_, rfl⟩
                  rw [hw46, hbl] at rbl
                  try simp only [List.cons_append, List.nil_append, List.append_toArray, Array.toList_append]
                  rw [hw46, hbl]
                  have b46 : Below w45.heap.size w45 w46 := by rw [← hw46]; exact (Below.refl _ _).alloc (Nat.le_refl _) _
                  have hv46 : Below w.heap.size w w46 := hv45.trans (b46.mono hv45.size)
                  have hl11 : g11 < bl := hbl ▸ r11.lt
                  have hl13 : g13 < bl := hbl ▸ r13.lt
                  have hlb : w.heap.size ≤ bl := hbl ▸ hv45.size
                  try have r11 := r11.below b46
                  try have r13 := r13.below b46
                  clear hw46 b46 hbl
                  refine hK.out _ _ (hv46) (fun hHeld => ?_)
                  clear hK K
                  try simp only [PT]
                  refine tkH 11 oW211 ?v11_80 (.inl ⟨by rfl, ?h11_80⟩) ?r11_80
                  case h11_80 =>
                    intro W hSW
                    unfold oW211
                    try dsimp only at hSW
                    go_simp
                    try with_reducible rfl
                  try simp only [oW211, PT]
                  refine tkH 12 oW212 ?v12_81 (.inl ⟨by rfl, ?h12_81⟩) ?r12_81
                  case h12_81 =>
                    intro W hSW
                    unfold oW212
                    try dsimp only at hSW
                    go_simp
                    try with_reducible rfl
                  try simp only [oW212, PT]
                  refine wpAnyH_done (by kernel_rfl) ?_ _
                  obtain ⟨col, hat, hcol⟩ := lat_new l11.out l13.out HNE.out HN.out.1 HN.out.2 r11 r13 HD.out hlb hl11 hl13 rbl HTT.out.1 HTT.out.2.1 HTT.out.2.2
                  have HAT := Lib.hid hat
                  have HCO := Lib.hid hcol
                  have HV := Lib.hid hv46
                  clear hat hcol rbl r11 r13 hl11 hl13 hlb
                  go_wp2_with fail
                  exact bodyPost_ret (results_tmp2 rfl _ _ _) rfl ⟨bl, col, _, rfl, by rw [show newHead (n : Int) = hd from HHD.out]; exact HAT.out, HCO.out, HV.out⟩
              · skip
                refine AllReadyH.cons (o := oW24) rfl (fun K hK => ?_) ?_
                · skip
                  unfold oW24
                  go_simp
                  obtain ⟨g13, hg13⟩ : ∃ x, w42.heap.size = x := ⟨_, rfl⟩
                  obtain ⟨w43, hw43⟩ : ∃ x, w42.alloc (.cells M 3) = x := ⟨_, rfl⟩
                  rw [hw43, hg13]
                  obtain ⟨r13, z43, b43⟩ := new_ints hw43 HM.out
                  rw [hg13] at r13
                  have hv43 : Below w.heap.size w w43 := hv42.trans (b43.mono hv42.size)
                  have l13 : Hid (w.heap.size ≤ g13) := Lib.hid (by rw [← hg13]; exact hv42.size)
                  try have HNE : Hid (g11 ≠ g13) := Lib.hid (Nat.ne_of_lt (show g11 < g13 from hg13 ▸ r11.lt))
                  try have r11 := r11.below b43
                  try have rd15 := (rd15.below b43).more b43.size
                  try have rd17 := (rd17.below b43).more b43.size
                  clear hw43 b43 z43 hg13
                  refine hK.out _ _ (hv43) (fun hHeld => ?_)
                  clear hK K
                  try simp only [PT]
                  refine rdyH [1, 8] ?_
                  refine AllReadyH.cons (o := oW23) rfl (fun K hK => ?_) ?_
                  · skip
                    unfold oW23
                    go_simp
                    obtain ⟨g11, hg11⟩ : ∃ x, w43.heap.size = x := ⟨_, rfl⟩
                    obtain ⟨w44, hw44⟩ : ∃ x, w43.alloc (.cells M 3) = x := ⟨_, rfl⟩
                    rw [hw44, hg11]
                    obtain ⟨r11, z44, b44⟩ := new_ints hw44 HM.out
                    rw [hg11] at r11
                    have hv44 : Below w.heap.size w w44 := hv43.trans (b44.mono hv43.size)
                    have l11 : Hid (w.heap.size ≤ g11) := Lib.hid (by rw [← hg11]; exact hv43.size)
                    try have HNE : Hid (g11 ≠ g13) := Lib.hid (Nat.ne_of_gt (show g13 < g11 from hg11 ▸ r13.lt))
                    try have r13 := r13.below b44
                    try have rd15 := (rd15.below b44).more b44.size
                    try have rd17 := (rd17.below b44).more b44.size
                    clear hw44 b44 z44 hg11
                    refine hK.out _ _ (hv44) (fun hHeld => ?_)
                    clear hK K
                    try simp only [PT]
                    refine rdyH [8] ?_
                    refine AllReadyH.cons (o := oW28) rfl (fun K hK => ?_) AllReadyH.nil
                    unfold oW28
                    go_simp
                    refine (HOF.out g17 _ _ hv44 rd17 (Nat.le_refl _)).mono ?_
                    rintro e w45 ⟨rfl, b45⟩
                    have hv45 : Below w.heap.size w w45 := hv44.trans (b45.mono hv44.size)
                    clear rd17
                    try have r11 := r11.below b45
                    try have r13 := r13.below b45
                    clear b45
                    refine hK.out _ _ (hv45) (fun hHeld => ?_)
                    clear hK K
                    try simp only [PT]
                    refine tkH 9 oW29 _ (y_build234 rfl 71 2 3 4 (.tmp 11) (.tmp 13) (.tmp 18) rfl (.slice (some ⟨g11, 0, none⟩) n n) (.slice (some ⟨g13, 0, none⟩) n n) (dv hd) rfl rfl rfl _ (built_lg _ _ n n n hd HD.out)) ?_
                    try simp only [oW29, PT]
                    refine rdyH [10] ?_
                    refine AllReadyH.cons (o := oW210) rfl (fun K hK => ?_) AllReadyH.nil
                    unfold oW210
                    go_simp
                    obtain ⟨bl, hbl⟩ : ∃ x, w45.heap.size = x := ⟨_, rfl⟩
                    have rbl := IsRow.new w45 71 (.int .i64 0 :: .slice none 0 0 :: .slice (some ⟨g11, 0, none⟩) n n :: .slice (some ⟨g13, 0, none⟩) n n :: bvs hd)
                    obtain ⟨w46, hw46⟩ : ∃ x, w45.alloc (.cells (.int .i64 0 :: .slice none 0 0 :: .slice (some ⟨g11, 0, none⟩) n n :: .slice (some ⟨g13, 0, none⟩) n n :: bvs hd).toArray 71) = x := ⟨_, rfl⟩
                    rw [hw46, hbl] at rbl
                    try simp only [List.cons_append, List.nil_append, List.append_toArray, Array.toList_append]
                    rw [hw46, hbl]
                    have b46 : Below w45.heap.size w45 w46 := by rw [← hw46]; exact (Below.refl _ _).alloc (Nat.le_refl _) _
                    have hv46 : Below w.heap.size w w46 := hv45.trans (b46.mono hv45.size)
                    have hl11 : g11 < bl := hbl ▸ r11.lt
                    have hl13 : g13 < bl := hbl ▸ r13.lt
                    have hlb : w.heap.size ≤ bl := hbl ▸ hv45.size
                    try have r11 := r11.below b46
                    try have r13 := r13.below b46
                    clear hw46 b46 hbl
                    refine hK.out _ _ (hv46) (fun hHeld => ?_)
                    clear hK K
                    try simp only [PT]
                    refine tkH 11 oW211 ?v11_83 (.inl ⟨by rfl, ?h11_83⟩) ?r11_83
                    case h11_83 =>
                      intro W hSW
                      unfold oW211
                      try dsimp only at hSW
                      go_simp
                      try with_reducible rfl
                    try simp only [oW211, PT]
                    refine tkH 12 oW212 ?v12_84 (.inl ⟨by rfl, ?h12_84⟩) ?r12_84
                    case h12_84 =>
                      intro W hSW
                      unfold oW212
                      try dsimp only at hSW
                      go_simp
                      try with_reducible rfl
                    try simp only [oW212, PT]
                    refine wpAnyH_done (by kernel_rfl) ?_ _
                    obtain ⟨col, hat, hcol⟩ := lat_new l11.out l13.out HNE.out HN.out.1 HN.out.2 r11 r13 HD.out hlb hl11 hl13 rbl HTT.out.1 HTT.out.2.1 HTT.out.2.2
                    have HAT := Lib.hid hat
                    have HCO := Lib.hid hcol
                    have HV := Lib.hid hv46
                    clear hat hcol rbl r11 r13 hl11 hl13 hlb
                    go_wp2_with fail
                    exact bodyPost_ret (results_tmp2 rfl _ _ _) rfl ⟨bl, col, _, rfl, by rw [show newHead (n : Int) = hd from HHD.out]; exact HAT.out, HCO.out, HV.out⟩
                  · skip
                    refine AllReadyH.cons (o := oW28) rfl (fun K hK => ?_) AllReadyH.nil
                    unfold oW28
                    go_simp
                    refine (HOF.out g17 _ _ hv43 rd17 (Nat.le_refl _)).mono ?_
                    rintro e w44 ⟨rfl, b44⟩
                    have hv44 : Below w.heap.size w w44 := hv43.trans (b44.mono hv43.size)
                    clear rd17
                    try have r11 := r11.below b44
                    try have r13 := r13.below b44
                    clear b44
                    refine hK.out _ _ (hv44) (fun hHeld => ?_)
                    clear hK K
                    try simp only [PT]
                    refine rdyH [1] ?_
                    refine AllReadyH.cons (o := oW23) rfl (fun K hK => ?_) AllReadyH.nil
                    unfold oW23
                    go_simp
                    obtain ⟨g11, hg11⟩ : ∃ x, w44.heap.size = x := ⟨_, rfl⟩
                    obtain ⟨w45, hw45⟩ : ∃ x, w44.alloc (.cells M 3) = x := ⟨_, rfl⟩
                    rw [hw45, hg11]
                    obtain ⟨r11, z45, b45⟩ := new_ints hw45 HM.out
                    rw [hg11] at r11
                    have hv45 : Below w.heap.size w w45 := hv44.trans (b45.mono hv44.size)
                    have l11 : Hid (w.heap.size ≤ g11) := Lib.hid (by rw [← hg11]; exact hv44.size)
                    try have HNE : Hid (g11 ≠ g13) := Lib.hid (Nat.ne_of_gt (show g13 < g11 from hg11 ▸ r13.lt))
                    try have r13 := r13.below b45
                    try have rd15 := (rd15.below b45).more b45.size
                    try have rd17 := (rd17.below b45).more b45.size
                    clear hw45 b45 z45 hg11
                    refine hK.out _ _ (hv45) (fun hHeld => ?_)
                    clear hK K
                    try simp only [PT]
                    refine tkH 9 oW29 _ (y_build234 rfl 71 2 3 4 (.tmp 11) (.tmp 13) (.tmp 18) rfl (.slice (some ⟨g11, 0, none⟩) n n) (.slice (some ⟨g13, 0, none⟩) n n) (dv hd) rfl rfl rfl _ (built_lg _ _ n n n hd HD.out)) ?_
                    try simp only [oW29, PT]
                    refine rdyH [10] ?_
                    refine AllReadyH.cons (o := oW210) rfl (fun K hK => ?_) AllReadyH.nil
                    unfold oW210
                    go_simp
                    obtain ⟨bl, hbl⟩ : ∃ x, w45.heap.size = x := ⟨_, rfl⟩
                    have rbl := IsRow.new w45 71 (.int .i64 0 :: .slice none 0 0 :: .slice (some ⟨g11, 0, none⟩) n n :: .slice (some ⟨g13, 0, none⟩) n n :: bvs hd)
                    obtain ⟨w46, hw46⟩ : ∃ x, w45.alloc (.cells (.int .i64 0 :: .slice none 0 0 :: .slice (some ⟨g11, 0, none⟩) n n :: .slice (some ⟨g13, 0, none⟩) n n :: bvs hd).toArray 71) = x := ⟨_, rfl⟩
                    rw [hw46, hbl] at rbl
                    try simp only [List.cons_append, List.nil_append, List.append_toArray, Array.toList_append]
                    rw [hw46, hbl]
                    have b46 : Below w45.heap.size w45 w46 := by rw [← hw46]; exact (Below.refl _ _).alloc (Nat.le_refl _) _
                    have hv46 : Below w.heap.size w w46 := hv45.trans (b46.mono hv45.size)
                    have hl11 : g11 < bl := hbl ▸ r11.lt
                    have hl13 : g13 < bl := hbl ▸ r13.lt
                    have hlb : w.heap.size ≤ bl := hbl ▸ hv45.size
                    try have r11 := r11.below b46
                    try have r13 := r13.below b46
                    clear hw46 b46 hbl
                    refine hK.out _ _ (hv46) (fun hHeld => ?_)
                    clear hK K
                    try simp only [PT]
                    refine tkH 11 oW211 ?v11_86 (.inl ⟨by rfl, ?h11_86⟩) ?r11_86
                    case h11_86 =>
                      intro W hSW
                      unfold oW211
                      try dsimp only at hSW
                      go_simp
                      try with_reducible rfl
                    try simp only [oW211, PT]
                    refine tkH 12 oW212 ?v12_87 (.inl ⟨by rfl, ?h12_87⟩) ?r12_87
                    case h12_87 =>
                      intro W hSW
                      unfold oW212
                      try dsimp only at hSW
                      go_simp
                      try with_reducible rfl
                    try simp only [oW212, PT]
                    refine wpAnyH_done (by kernel_rfl) ?_ _
                    obtain ⟨col, hat, hcol⟩ := lat_new l11.out l13.out HNE.out HN.out.1 HN.out.2 r11 r13 HD.out hlb hl11 hl13 rbl HTT.out.1 HTT.out.2.1 HTT.out.2.2
                    have HAT := Lib.hid hat
                    have HCO := Lib.hid hcol
                    have HV := Lib.hid hv46
                    clear hat hcol rbl r11 r13 hl11 hl13 hlb
                    go_wp2_with fail
                    exact bodyPost_ret (results_tmp2 rfl _ _ _) rfl ⟨bl, col, _, rfl, by rw [show newHead (n : Int) = hd from HHD.out]; exact HAT.out, HCO.out, HV.out⟩
                · skip
                  refine AllReadyH.cons (o := oW28) rfl (fun K hK => ?_) AllReadyH.nil
                  unfold oW28
                  go_simp
                  refine (HOF.out g17 _ _ hv42 rd17 (Nat.le_refl _)).mono ?_
                  rintro e w43 ⟨rfl, b43⟩
                  have hv43 : Below w.heap.size w w43 := hv42.trans (b43.mono hv42.size)
                  clear rd17
                  try have r11 := r11.below b43
                  try have r13 := r13.below b43
                  clear b43
                  refine hK.out _ _ (hv43) (fun hHeld => ?_)
                  clear hK K
                  try simp only [PT]
                  refine rdyH [1, 3] ?_
                  refine AllReadyH.cons (o := oW23) rfl (fun K hK => ?_) ?_
                  · skip
                    unfold oW23
                    go_simp
                    obtain ⟨g11, hg11⟩ : ∃ x, w43.heap.size = x := ⟨_, rfl⟩
                    obtain ⟨w44, hw44⟩ : ∃ x, w43.alloc (.cells M 3) = x := ⟨_, rfl⟩
                    rw [hw44, hg11]
                    obtain ⟨r11, z44, b44⟩ := new_ints hw44 HM.out
                    rw [hg11] at r11
                    have hv44 : Below w.heap.size w w44 := hv43.trans (b44.mono hv43.size)
                    have l11 : Hid (w.heap.size ≤ g11) := Lib.hid (by rw [← hg11]; exact hv43.size)
                    try have HNE : Hid (g11 ≠ g13) := Lib.hid (Nat.ne_of_gt (show g13 < g11 from hg11 ▸ r13.lt))
                    try have r13 := r13.below b44
                    try have rd15 := (rd15.below b44).more b44.size
                    try have rd17 := (rd17.below b44).more b44.size
                    clear hw44 b44 z44 hg11
                    refine hK.out _ _ (hv44) (fun hHeld => ?_)
                    clear hK K
                    try simp only [PT]
                    refine rdyH [3] ?_
                    refine AllReadyH.cons (o := oW24) rfl (fun K hK => ?_) AllReadyH.nil
                    unfold oW24
                    go_simp
                    obtain ⟨g13, hg13⟩ : ∃ x, w44.heap.size = x := ⟨_, rfl⟩
                    obtain ⟨w45, hw45⟩ : ∃ x, w44.alloc (.cells M 3) = x := ⟨_, rfl⟩
                    rw [hw45, hg13]
                    obtain ⟨r13, z45, b45⟩ := new_ints hw45 HM.out
                    rw [hg13] at r13
                    have hv45 : Below w.heap.size w w45 := hv44.trans (b45.mono hv44.size)
                    have l13 : Hid (w.heap.size ≤ g13) := Lib.hid (by rw [← hg13]; exact hv44.size)
                    try have HNE : Hid (g11 ≠ g13) := Lib.hid (Nat.ne_of_lt (show g11 < g13 from hg13 ▸ r11.lt))
                    try have r11 := r11.below b45
                    try have rd15 := (rd15.below b45).more b45.size
                    try have rd17 := (rd17.below b45).more b45.size
                    clear hw45 b45 z45 hg13
                    refine hK.out _ _ (hv45) (fun hHeld => ?_)
                    clear hK K
                    try simp only [PT]
                    refine tkH 9 oW29 _ (y_build234 rfl 71 2 3 4 (.tmp 11) (.tmp 13) (.tmp 18) rfl (.slice (some ⟨g11, 0, none⟩) n n) (.slice (some ⟨g13, 0, none⟩) n n) (dv hd) rfl rfl rfl _ (built_lg _ _ n n n hd HD.out)) ?_
                    try simp only [oW29, PT]
                    refine rdyH [10] ?_
                    refine AllReadyH.cons (o := oW210) rfl (fun K hK => ?_) AllReadyH.nil
                    unfold oW210
                    go_simp
                    obtain ⟨bl, hbl⟩ : ∃ x, w45.heap.size = x := ⟨_, rfl⟩
                    have rbl := IsRow.new w45 71 (.int .i64 0 :: .slice none 0 0 :: .slice (some ⟨g11, 0, none⟩) n n :: .slice (some ⟨g13, 0, none⟩) n n :: bvs hd)
                    obtain ⟨w46, hw46⟩ : ∃ x, w45.alloc (.cells (.int .i64 0 :: .slice none 0 0 :: .slice (some ⟨g11, 0, none⟩) n n :: .slice (some ⟨g13, 0, none⟩) n n :: bvs hd).toArray 71) = x := ⟨_, rfl⟩
                    rw [hw46, hbl] at rbl
                    try simp only [List.cons_append, List.nil_append, List.append_toArray, Array.toList_append]
                    rw [hw46, hbl]
                    have b46 : Below w45.heap.size w45 w46 := by rw [← hw46]; exact (Below.refl _ _).alloc (Nat.le_refl _) _
                    have hv46 : Below w.heap.size w w46 := hv45.trans (b46.mono hv45.size)
                    have hl11 : g11 < bl := hbl ▸ r11.lt
                    have hl13 : g13 < bl := hbl ▸ r13.lt
                    have hlb : w.heap.size ≤ bl := hbl ▸ hv45.size
                    try have r11 := r11.below b46
                    try have r13 := r13.below b46
                    clear hw46 b46 hbl
                    refine hK.out _ _ (hv46) (fun hHeld => ?_)
                    clear hK K
                    try simp only [PT]
                    refine tkH 11 oW211 ?v11_89 (.inl ⟨by rfl, ?h11_89⟩) ?r11_89
                    case h11_89 =>
                      intro W hSW
                      unfold oW211
                      try dsimp only at hSW
                      go_simp
                      try with_reducible rfl
                    try simp only [oW211, PT]
                    refine tkH 12 oW212 ?v12_90 (.inl ⟨by rfl, ?h12_90⟩) ?r12_90
                    case h12_90 =>
                      intro W hSW
                      unfold oW212
                      try dsimp only at hSW
                      go_simp
                      try with_reducible rfl
                    try simp only [oW212, PT]
                    refine wpAnyH_done (by kernel_rfl) ?_ _
                    obtain ⟨col, hat, hcol⟩ := lat_new l11.out l13.out HNE.out HN.out.1 HN.out.2 r11 r13 HD.out hlb hl11 hl13 rbl HTT.out.1 HTT.out.2.1 HTT.out.2.2
                    have HAT := Lib.hid hat
                    have HCO := Lib.hid hcol
                    have HV := Lib.hid hv46
                    clear hat hcol rbl r11 r13 hl11 hl13 hlb
                    go_wp2_with fail
                    exact bodyPost_ret (results_tmp2 rfl _ _ _) rfl ⟨bl, col, _, rfl, by rw [show newHead (n : Int) = hd from HHD.out]; exact HAT.out, HCO.out, HV.out⟩
                  · skip
                    refine AllReadyH.cons (o := oW24) rfl (fun K hK => ?_) AllReadyH.nil
                    unfold oW24
                    go_simp
                    obtain ⟨g13, hg13⟩ : ∃ x, w43.heap.size = x := ⟨_, rfl⟩
                    obtain ⟨w44, hw44⟩ : ∃ x, w43.alloc (.cells M 3) = x := ⟨_, rfl⟩
                    rw [hw44, hg13]
                    obtain ⟨r13, z44, b44⟩ := new_ints hw44 HM.out
                    rw [hg13] at r13
                    have hv44 : Below w.heap.size w w44 := hv43.trans (b44.mono hv43.size)
                    have l13 : Hid (w.heap.size ≤ g13) := Lib.hid (by rw [← hg13]; exact hv43.size)
                    try have HNE : Hid (g11 ≠ g13) := Lib.hid (Nat.ne_of_lt (show g11 < g13 from hg13 ▸ r11.lt))
                    try have r11 := r11.below b44
                    try have rd15 := (rd15.below b44).more b44.size
                    try have rd17 := (rd17.below b44).more b44.size
                    clear hw44 b44 z44 hg13
                    refine hK.out _ _ (hv44) (fun hHeld => ?_)
                    clear hK K
                    try simp only [PT]
                    refine rdyH [1] ?_
                    refine AllReadyH.cons (o := oW23) rfl (fun K hK => ?_) AllReadyH.nil
                    unfold oW23
                    go_simp
                    obtain ⟨g11, hg11⟩ : ∃ x, w44.heap.size = x := ⟨_, rfl⟩
                    obtain ⟨w45, hw45⟩ : ∃ x, w44.alloc (.cells M 3) = x := ⟨_, rfl⟩
                    rw [hw45, hg11]
                    obtain ⟨r11, z45, b45⟩ := new_ints hw45 HM.out
                    rw [hg11] at r11
                    have hv45 : Below w.heap.size w w45 := hv44.trans (b45.mono hv44.size)
                    have l11 : Hid (w.heap.size ≤ g11) := Lib.hid (by rw [← hg11]; exact hv44.size)
                    try have HNE : Hid (g11 ≠ g13) := Lib.hid (Nat.ne_of_gt (show g13 < g11 from hg11 ▸ r13.lt))
                    try have r13 := r13.below b45
                    try have rd15 := (rd15.below b45).more b45.size
                    try have rd17 := (rd17.below b45).more b45.size
                    clear hw45 b45 z45 hg11
                    refine hK.out _ _ (hv45) (fun hHeld => ?_)
                    clear hK K
                    try simp only [PT]
                    refine tkH 9 oW29 _ (y_build234 rfl 71 2 3 4 (.tmp 11) (.tmp 13) (.tmp 18) rfl (.slice (some ⟨g11, 0, none⟩) n n) (.slice (some ⟨g13, 0, none⟩) n n) (dv hd) rfl rfl rfl _ (built_lg _ _ n n n hd HD.out)) ?_
                    try simp only [oW29, PT]
                    refine rdyH [10] ?_
                    refine AllReadyH.cons (o := oW210) rfl (fun K hK => ?_) AllReadyH.nil
                    unfold oW210
                    go_simp
                    obtain ⟨bl, hbl⟩ : ∃ x, w45.heap.size = x := ⟨_, rfl⟩
                    have rbl := IsRow.new w45 71 (.int .i64 0 :: .slice none 0 0 :: .slice (some ⟨g11, 0, none⟩) n n :: .slice (some ⟨g13, 0, none⟩) n n :: bvs hd)
                    obtain ⟨w46, hw46⟩ : ∃ x, w45.alloc (.cells (.int .i64 0 :: .slice none 0 0 :: .slice (some ⟨g11, 0, none⟩) n n :: .slice (some ⟨g13, 0, none⟩) n n :: bvs hd).toArray 71) = x := ⟨_, rfl⟩
                    rw [hw46, hbl] at rbl
                    try simp only [List.cons_append, List.nil_append, List.append_toArray, Array.toList_append]
                    rw [hw46, hbl]
                    have b46 : Below w45.heap.size w45 w46 := by rw [← hw46]; exact (Below.refl _ _).alloc (Nat.le_refl _) _
                    have hv46 : Below w.heap.size w w46 := hv45.trans (b46.mono hv45.size)
                    have hl11 : g11 < bl := hbl ▸ r11.lt
                    have hl13 : g13 < bl := hbl ▸ r13.lt
                    have hlb : w.heap.size ≤ bl := hbl ▸ hv45.size
                    try have r11 := r11.below b46
                    try have r13 := r13.below b46
                    clear hw46 b46 hbl
                    refine hK.out _ _ (hv46) (fun hHeld => ?_)
                    clear hK K
                    try simp only [PT]
                    refine tkH 11 oW211 ?v11_92 (.inl ⟨by rfl, ?h11_92⟩) ?r11_92
                    case h11_92 =>
                      intro W hSW
                      unfold oW211
                      try dsimp only at hSW
                      go_simp
                      try with_reducible rfl
                    try simp only [oW211, PT]
                    refine tkH 12 oW212 ?v12_93 (.inl ⟨by rfl, ?h12_93⟩) ?r12_93
                    case h12_93 =>
                      intro W hSW
                      unfold oW212
                      try dsimp only at hSW
                      go_simp
                      try with_reducible rfl
                    try simp only [oW212, PT]
                    refine wpAnyH_done (by kernel_rfl) ?_ _
                    obtain ⟨col, hat, hcol⟩ := lat_new l11.out l13.out HNE.out HN.out.1 HN.out.2 r11 r13 HD.out hlb hl11 hl13 rbl HTT.out.1 HTT.out.2.1 HTT.out.2.2
                    have HAT := Lib.hid hat
                    have HCO := Lib.hid hcol
                    have HV := Lib.hid hv46
                    clear hat hcol rbl r11 r13 hl11 hl13 hlb
                    go_wp2_with fail
                    exact bodyPost_ret (results_tmp2 rfl _ _ _) rfl ⟨bl, col, _, rfl, by rw [show newHead (n : Int) = hd from HHD.out]; exact HAT.out, HCO.out, HV.out⟩
end Go.Proofs.YtkjomnakolhdcaaDoor
