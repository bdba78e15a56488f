/- Joined texts: ChkZ, ChkZ2. Conditions: as each part says. -/
import Derived.Test.YtcicfneekmbamaaChkRef
import Derived.Test.YtcicfneekmbamaaWireInt
import Derived.Test.YtcicfneekmbamaaChkPl
namespace Go.Proofs.Ytcicfneekmbamaa
set_option linter.unusedVariables false
set_option linter.unusedSimpArgs false
/-! The encoder's closure: numbers are written behind what is there. Conditions: 64 bits, at most 2^40 bytes. -/
section
open Go.RowKit
/-- the encoder's own blocks: the variable bo, blocks of bytes -/
def U8 (w : World) (bo b : Nat) : Prop := b = bo ∨ ∃ cur fr, w.heap[b]? = some (.cells cur 5 fr)
def KU (B bo : Nat) (w w' : World) : Prop := Keep (fun b => B ≤ b ∧ U8 w bo b) w w'
section
variable {B bo : Nat} {w w' w'' : World}
theorem KU.refl (w : World) : KU B bo w w := Keep.refl _ _
theorem KU.trans (h : KU B bo w w') (k : KU B bo w' w'') : KU B bo w w'' :=
  ⟨k.os.trans h.os, k.tape.trans h.tape, k.output.trans h.output, Nat.le_trans h.size k.size, fun i hi hs => (k.block i (Nat.lt_of_lt_of_le hi h.size) fun e => hs (by
    refine ⟨e.1, ?_⟩
    rcases e.2 with e2 | ⟨cur, fr, e2⟩
    · exact .inl e2
    · exact .inr ⟨cur, fr, (h.block i hi hs).symm.trans e2⟩)).trans (h.block i hi hs)⟩
theorem KU.of_below (h : Below w.heap.size w w') : KU B bo w w' := Keep.of_below h
theorem KU.row (h : KU B bo w w') {b t : Nat} {l : List Value} (hr : IsRow w b t l) (ht : t ≠ 5) (hb : b ≠ bo) : IsRow w' b t l :=
  hr.keep (h.block b hr.lt fun e => by
    rcases e.2 with e2 | ⟨cur, fr, e2⟩
    · exact hb e2
    · have h1 : w.heap[b]? = _ := hr
      rw [h1] at e2
      injection e2 with e2
      injection e2 with _ e3 _
      exact ht e3)
theorem KU.below (h : KU B bo w w') (hB : B ≤ w.heap.size) : Below B w w' := Keep.below h hB fun k hk e => by omega
/-- the variable out, with the bytes l -/
def OutS (w : World) (B bo : Nat) (l : List UInt8) : Prop := ∃ A c, IsRow w bo 70 [.slice A l.length c] ∧ w.ownsRow B 5 1 (.slice A l.length c) l.length (bvs l) ∧ B ≤ bo
theorem OutS.below {l : List UInt8} (h : OutS w B bo l) (hw : Below w.heap.size w w') : OutS w' B bo l := by
  obtain ⟨A, c, h1, h2, h3⟩ := h
  exact ⟨A, c, h1.below' hw, own_below h2 hw, h3⟩
theorem OutS.lt {l : List UInt8} (h : OutS w B bo l) : B ≤ bo ∧ bo < w.heap.size := by obtain ⟨A, c, h1, _, h3⟩ := h; exact ⟨h3, h1.lt⟩
/-- the row of out is no block of another type -/
theorem own_ne {A : Option Addr} {n c : Nat} {xs : List Value} (h : w.ownsRow B 5 1 (.slice A n c) n xs) {b t : Nat} {l : List Value} (hr : IsRow w b t l) (ht : t ≠ 5) : (Value.slice A n c).ownBlock ≠ some b := fun e => by
  rcases h.2 with ⟨h1, _⟩ | ⟨g, cap, cur, hv, _, hh, _⟩
  · rw [h1] at e; cases e
  · injection hv with h1
    subst h1
    have e1 : g = b := Option.some.inj e
    subst e1
    have h2 : w.heap[g]? = _ := hr
    rw [hh] at h2
    injection h2 with h2
    injection h2 with _ h3 _
    exact ht h3.symm
/-- bytes written behind, and the variable stored -/
theorem OutS.app {w1 : World} {l r : List UInt8} {A A' : Option Addr} {c c' : Nat} (hr : IsRow w bo 70 [.slice A l.length c]) (hB : B ≤ bo) (ho : w.ownsRow B 5 1 (.slice A l.length c) l.length (bvs l)) (ho' : w1.ownsRow B 5 1 (.slice A' (l.length + r.length) c') (l.length + r.length) (bvs l ++ bvs r)) (hg : w.grownBy w1 (Value.slice A l.length c).ownBlock) :
    OutS (w1.setCell ⟨bo, 0, none⟩ (.slice A' (l.length + r.length) c')) B bo (l ++ r) ∧ KU B bo w (w1.setCell ⟨bo, 0, none⟩ (.slice A' (l.length + r.length) c')) := by
  have hne := own_ne ho hr (by decide)
  have hr1 := hr.grown hg hne
  have hne' := own_ne ho' hr1 (by decide)
  refine ⟨⟨A', c', ?_, ?_, hB⟩, ?_⟩
  · have := hr1.set 0 (.slice A' (l.length + r.length) c')
    rw [List.length_append]; exact this
  · rw [List.length_append]
    have e : bvs (l ++ r) = bvs l ++ bvs r := by simp
    rw [e]
    refine ⟨ho'.1, ?_⟩
    rcases ho'.2 with h0 | ⟨g, cap, cur, hv, hg', hh, rest⟩
    · exact .inl h0
    · refine .inr ⟨g, cap, cur, hv, hg', (Below.heap_setCell _ _ _ _ fun e => hne' ?_).trans hh, rest⟩
      injection hv with h1
      rw [h1, show g = bo from e]; rfl
  · refine Keep.setCell (a := ⟨bo, 0, none⟩) (Keep.of_grown hg fun k hk => ?_) (.inl ⟨hB, .inl rfl⟩) _
    rcases ho.2 with ⟨h1, _⟩ | ⟨g, cap, cur, hv, hg', hh, _⟩
    · rw [h1] at hk; cases hk
    · injection hv with h1
      rw [h1] at hk
      have e1 : g = k := Option.some.inj hk
      subst e1
      exact ⟨hg', .inr ⟨cur, _, hh⟩⟩
end
def encs (xs : List Int) : List UInt8 := xs.flatMap Wire.enc
theorem encs_take {xs : List Int} {k : Nat} (h : k < xs.length) : encs (xs.take (k + 1)) = encs (xs.take k) ++ Wire.enc xs[k] := by
  unfold encs; rw [List.take_succ_eq_append_getElem h, List.flatMap_append]; simp
theorem encs_le : ∀ xs : List Int, (encs xs).length ≤ 9 * xs.length
  | [] => by simp [encs]
  | x :: xs => by
    have h1 := Wire.enc_length_le x
    have h2 := encs_le xs
    have : encs (x :: xs) = Wire.enc x ++ encs xs := rfl
    rw [this, List.length_append, List.length_cons]; omega
def PutRes (w : World) (B bo : Nat) (l : List UInt8) (e : Ending) (w' : World) : Prop := e = .returned (.tuple #[]) ∧ OutS w' B bo l ∧ KU B bo w w'
def I64 (x : Int) : Prop := -9223372036854775808 ≤ x ∧ x ≤ 9223372036854775807
set_option maxRecDepth 100000 in
set_option maxHeartbeats 1600000 in
theorem put_any (xs : List Int) (n : Nat) (hn : xs.length = n) (hn9 : n ≤ 100) (hx : ∀ x ∈ xs, I64 x) (vb B bo : Nat) (l : List UInt8) (w : World) (hv : IsRow w vb 3 (ivs xs)) (ho : OutS w B bo l) (hl : l.length ≤ 1073741824) (hvb : vb ≠ bo) :
    Calls Try.prog 60 #[.slice (some ⟨vb, 0, none⟩) n n, .pointer (some ⟨bo, 0, none⟩)] w (PutRes w B bo (l ++ encs xs)) := by
  have HX := Lib.hid hx
  have HN := Lib.hid hn
  have HV := Lib.hid hv
  have HO := Lib.hid ho
  clear hx hn hv ho
  go_enter Try.func60, Try.ntmps60
  go_wp2_with fail
  go_loopw [7] (fun u7 wx => ∃ (wr : World) (j : Nat) (L : List UInt8), wr = wx ∧ j ≤ n ∧ u7 = .int .i64 (j : Int) ∧ Hid (L = l ++ encs (xs.take j)) ∧ Hid (OutS wr B bo L) ∧ Hid (KU B bo w wr)) (fun u7 _ => n - (intOf u7).toNat)
  case atStart => exact ⟨_, 0, l, rfl, Nat.zero_le _, rfl, Lib.hid (by simp [encs]), HO, Lib.hid (KU.refl _)⟩
  case round =>
    obtain ⟨wr, j, L, rfl, hj, rfl, HL, HOR, HK⟩ := hrel
    by_cases hlt : j < n
    · have hjl : j < xs.length := by rw [HN.out]; exact hlt
      have hrow := HK.out.row HV.out (by decide) hvb
      have hval : wr.cell? ⟨vb, j, none⟩ = some (.int .i64 xs[j]) := by rw [hrow.cell, List.getElem?_map, List.getElem?_eq_getElem hjl]; rfl
      have hxi := HX.out xs[j] (List.getElem_mem hjl)
      have hst := encs_take hjl
      have hle := encs_le (xs.take j)
      have hlj : (xs.take j).length ≤ j := List.length_take_le _ _
      obtain ⟨x, hxe⟩ : ∃ x, xs[j] = x := ⟨_, rfl⟩
      rw [hxe] at hval hxi hst
      have HW := Lib.hid (fun W => wireInt_any x hxi.1 hxi.2 W)
      have HEX := Lib.hid (Wire.enc_length_le x)
      obtain ⟨E, hE⟩ : ∃ E, Wire.enc x = E := ⟨_, rfl⟩
      rw [hE] at HW hst HEX
      obtain ⟨A, c, hr, hown, hBb⟩ := HOR.out
      have hLl : L.length ≤ 1073741824 + 900 := by rw [HL.out, List.length_append]; omega
      obtain ⟨N, hN⟩ : ∃ N, L.length = N := ⟨_, rfl⟩
      obtain ⟨M, hM⟩ : ∃ M, E.length = M := ⟨_, rfl⟩
      rw [hM] at HW HEX
      have HR := Lib.hid hr
      have HOW := Lib.hid hown
      rw [hN] at HR HOW hLl
      have HNM := Lib.hid (And.intro hN hM)
      have HST := Lib.hid hst
      have HBB := Lib.hid (And.intro hBb hr.lt)
      have HLL := Lib.hid hLl
      have e1 : (0 : Int) ≤ (j : Int) := by omega
      have e2 : (j : Int) < (n : Int) := by omega
      clear hjl hrow hxi hst hle hlj hxe hE hr hown hBb hLl hN hM
      go_upto_region 3 with fail
      have hv0 : Below wr.heap.size wr wr.drew := (Below.refl _ _).drew
      refine wp_region_late (fun W => Below wr.heap.size wr W) [3, 4] (by kernel_rfl) (hv0) (fun hHeld => ?_)
      refine wpAnyL_take (i := 0) (oi := { dst := some 11, op := Op.load 70 (Operand.tmp 1), type := 70, pos := "code.go:13", after := #[], guard := none }) (v := ?v0_1) rfl (by kernel_rfl) (by kernel_rfl) (by kernel_rfl) (by kernel_rfl) (fun _ _ _ h => h) (Or.inl ⟨by rfl, ?h0_1⟩) (by assumption) ?r0_1
      case h0_1 =>
        intro W hSW
        try dsimp only at hSW
        have hcc := (hSW.cell (p := ⟨bo, 0, none⟩) HBB.out.2).trans (HR.out.cell 0)
        go_simp
        try with_reducible rfl
      try simp only [Act.put, List.setIfInBounds_toArray, List.set_cons_zero, List.set_cons_succ]
      refine wpAnyL_take (i := 1) (oi := { dst := some 12, op := Op.move (Operand.tmp 4), type := 3, pos := "code.go:13", after := #[], guard := none }) (v := ?v1_2) rfl (by kernel_rfl) (by kernel_rfl) (by kernel_rfl) (by kernel_rfl) (fun _ _ _ h => h) (Or.inl ⟨by rfl, ?h1_2⟩) (by assumption) ?r1_2
      case h1_2 =>
        intro W hSW
        try dsimp only at hSW
        go_simp
        try with_reducible rfl
      try simp only [Act.put, List.setIfInBounds_toArray, List.set_cons_zero, List.set_cons_succ]
      refine wpAnyL_ready (rs := [2]) (by kernel_rfl) (by simp) ?_
      refine AllReadyL.cons (o := { dst := some 13, op := Op.call { callee := Callee.value (Operand.func 59), args := #[Operand.tmp 12], argTypes := #[3] }, type := 70, pos := "code.go:13", after := #[{ on := 1, ground := Ground.data }], guard := none }) rfl (fun K hK => ?_) AllReadyL.nil
      go_simp
      refine (HW.out _).mono ?_
      rintro e w60 ⟨A2, c2, rfl, own2, b60⟩
      have hv60 : Below wr.heap.size wr w60 := (hv0).trans (b60.mono (hv0).size)
      have rd2 := Rd.of_own own2
      clear own2 b60
      refine hK.out _ _ (hv60) (fun hHeld => ?_)
      clear hK K
      try simp only [Act.put, List.setIfInBounds_toArray, List.set_cons_zero, List.set_cons_succ]
      refine wpAnyL_ready (rs := [3]) (by kernel_rfl) (by simp) ?_
      refine AllReadyL.late (o := { dst := some 14, op := Op.call { callee := Callee.builtin Builtin.append, args := #[Operand.tmp 11, Operand.tmp 13], argTypes := #[70, 70] }, type := 70, pos := "code.go:13", after := #[{ on := 0, ground := Ground.data }, { on := 2, ground := Ground.data }, { on := 2, ground := Ground.chain }], guard := none }) rfl (by rfl) (fun K hK => ?_) AllReadyL.nil
      rw [if_pos (by rfl)]
      have hrn := HR.out.below' hv60
      have hon := own_below HOW.out hv60
      refine wp_app _ (.tmp 11) (.tmp 13) 70 rfl B 5 (.int .u8 0) 1 1 bytesE A N c (bvs L) rfl hon w60.heap.size A2 M c2 (bvs E) rfl rd2 (bvs_one _) (by have := HLL.out; have := HEX.out; omega) (by have := HLL.out; have := HEX.out; unfold maxLen; omega) (by have := HBB.out; have := (hv60).size; omega) ?_
      intro A3 c3 w61 own3 g3 hA3
      have kbo := hrn.grown g3 (own_ne hon hrn (by decide))
      have k0 := kbo.cell 0
      have f0 := kbo.frozen 0
      have hfin : OutS (w61.setCell ⟨bo, 0, none⟩ (.slice A3 (N + M) c3)) B bo (L ++ E) ∧ KU B bo w60 (w61.setCell ⟨bo, 0, none⟩ (.slice A3 (N + M) c3)) := by
        obtain ⟨eN, eM⟩ := HNM.out
        subst eN eM
        exact OutS.app hrn HBB.out.1 hon own3 g3
      have HFIN := Lib.hid (And.intro hfin.1 ((KU.of_below hv60).trans hfin.2))
      clear own3 g3 hA3 kbo hfin hrn hon
      refine hK.out _ _ ?_
      clear hK K
      try simp only [Act.put, List.setIfInBounds_toArray, List.set_cons_zero, List.set_cons_succ]
      refine wpAnyL_ready (rs := [4]) (by kernel_rfl) (by simp) ?_
      refine AllReadyL.late (o := { dst := none, op := Op.store 70 (Operand.tmp 1) (Operand.tmp 14), type := 0, pos := "code.go:13", after := #[{ on := 3, ground := Ground.data }, { on := 3, ground := Ground.chain }, { on := 0, ground := Ground.phase }, { on := 1, ground := Ground.phase }, { on := 2, ground := Ground.phase }, { on := 3, ground := Ground.phase }], guard := none }) rfl (by rfl) (fun K hK => ?_) AllReadyL.nil
      go_simp
      obtain ⟨w62, hw62⟩ : ∃ y, w61.setCell ⟨bo, 0, none⟩ (.slice A3 (N + M) c3) = y := ⟨_, rfl⟩
      rw [hw62] at HFIN
      rw [hw62]
      clear hw62 k0 f0
      refine hK.out _ _ ?_
      clear hK K
      try simp only [Act.put, List.setIfInBounds_toArray, List.set_cons_zero, List.set_cons_succ]
      refine wpAnyL_done (by kernel_rfl) ?_ _
      go_wp2_with fail
      go_roundw
      case rel => exact ⟨_, j + 1, L ++ E, rfl, by omega, by go_num, Lib.hid (by rw [HST.out, HL.out, List.append_assoc]), Lib.hid HFIN.out.1, Lib.hid (HK.out.trans HFIN.out.2)⟩
      case measure => simp [intOf]; omega
    · obtain rfl : j = n := by omega
      have HE := Lib.hid (show L = l ++ encs xs by rw [HL.out, List.take_of_length_le (by rw [HN.out]; exact Nat.le_refl _)])
      go_wp2_with fail
      refine bodyPost_end (results_none rfl _ _ _) rfl ?_
      have := HOR.out
      rw [HE.out] at this
      exact ⟨rfl, this, HK.out⟩
end
/-! Encode of the program's table. Conditions: the table is kept. -/
section
open Go.RowKit
theorem put_new (xs : List Int) (n : Nat) (hn : xs.length = n) (hn9 : n ≤ 100) (hx : ∀ x ∈ xs, I64 x) (B bo : Nat) (l : List UInt8) (w : World) (ho : OutS w B bo l) (hl : l.length ≤ 1073741824) (ua : Array Value) (hua : ua = (ivs xs).toArray) :
    Calls Try.prog 60 #[.slice (some ⟨w.heap.size, 0, none⟩) n n, .pointer (some ⟨bo, 0, none⟩)] (w.alloc (.cells ua 3)) (PutRes w B bo (l ++ encs xs)) := by
  subst hua
  have hb : Below w.heap.size w (w.alloc (.cells (ivs xs).toArray 3)) := (Below.refl _ _).alloc (Nat.le_refl _) _
  refine (put_any xs n hn hn9 hx w.heap.size B bo l _ (IsRow.new w 3 (ivs xs)) (ho.below hb) hl (by have := ho.lt; omega)).mono ?_
  rintro e w' ⟨h1, h2, h3⟩
  exact ⟨h1, h2, (KU.of_below hb).trans h3⟩
theorem encC_le {c : Chk.Ck} (h : Chk.CkOk c) : (Chk.encC c).length ≤ 400 := by
  have h1 := Wire.enc_length_le c.id
  have h2 := h.dg
  have h3 := Wire.enc_length_le c.pr
  have h4 := Wire.enc_length_le 1
  have h5 := Wire.enc_length_le 0
  have h6 := Wire.enc_length_le c.at_.r
  have h7 := Wire.enc_length_le c.at_.g
  have h8 := Wire.enc_length_le c.at_.u
  have h9 := Wire.enc_length_le c.refs.length
  have h10 := refs_len h.refs
  have h11 : ∀ l : List Chk.Rf, (l.flatMap fun r => Wire.enc r.t ++ Wire.enc r.n).length ≤ 18 * l.length := fun l => by
    induction l with
    | nil => simp
    | cons r l ih =>
      have a1 := Wire.enc_length_le r.t
      have a2 := Wire.enc_length_le r.n
      rw [List.flatMap_cons, List.length_append, List.length_append, List.length_cons]; omega
  have h12 := h11 c.refs
  unfold Chk.encC
  rw [List.length_append, List.length_append, List.length_append, List.length_append, List.length_append]
  split
  · omega
  · rw [List.length_append, List.length_append, List.length_append]; omega
theorem encF_le (l : List Chk.Ck) (h : ∀ c ∈ l, Chk.CkOk c) : ∀ k, ((l.take k).flatMap Chk.encC).length ≤ 400 * (l.take k).length := fun k => by
  have : ∀ m : List Chk.Ck, (∀ c ∈ m, Chk.CkOk c) → (m.flatMap Chk.encC).length ≤ 400 * m.length := fun m => by
    induction m with
    | nil => intro _; simp
    | cons c m ih =>
      intro hm
      have a1 := encC_le (hm c (List.mem_cons_self ..))
      have a2 := ih fun x hx => hm x (List.mem_cons_of_mem _ hx)
      rw [List.flatMap_cons, List.length_append, List.length_cons]; omega
  exact this _ fun c hc => h c (List.mem_of_mem_take hc)
def ChkEncRes (w : World) (x : List UInt8) (e : Ending) (w' : World) : Prop := ∃ A c, e = .returned (.slice A x.length c) ∧ w'.ownsRow w.heap.size 5 1 (.slice A x.length c) x.length (bvs x) ∧ Below w.heap.size w w'
/-- what holds of out behind a write: the bytes, the frame, their number -/
structure OSt (w0 w : World) (B bo b6 : Nat) (cs : List Value) (l : List UInt8) (m : Nat) : Prop where
  o : OutS w B bo l
  k : KU B bo w0 w
  r : IsRow w b6 45 cs
  le : l.length ≤ m
theorem OSt.put {w0 w w' : World} {B bo b6 : Nat} {cs : List Value} {l : List UInt8} {m : Nat} (h : OSt w0 w B bo b6 cs l m) (hne : b6 ≠ bo) {xs : List Int} (h1 : OutS w' B bo (l ++ encs xs)) (h2 : KU B bo w w') {m' : Nat} (hm : m + 9 * xs.length ≤ m') : OSt w0 w' B bo b6 cs (l ++ encs xs) m' :=
  ⟨h1, h.k.trans h2, h2.row h.r (by decide) hne, by have := encs_le xs; have := h.le; rw [List.length_append]; omega⟩
theorem i64_of {x : Int} (h1 : 0 ≤ x) (h2 : x < 4294967296) : I64 x := ⟨by omega, by omega⟩
set_option maxRecDepth 100000 in
set_option maxHeartbeats 3200000 in
theorem encode_any {w : World} {F S : Nat → Prop} {a : Nat} {t : TM} {l : List Chk.Ck} (h : TAt w F S a t l) :
    Calls Try.prog 36 #[.pointer (some ⟨a, 0, none⟩)] w (ChkEncRes w (Chk.encT l)) := by
  have c0 := h.cells.1
  have HT := Lib.hid h
  have hm := h.max
  have hlen := h.len.1
  obtain ⟨N, hN⟩ : ∃ N, t.n = N := ⟨_, rfl⟩
  obtain ⟨C, hC⟩ : ∃ C, t.c = C := ⟨_, rfl⟩
  obtain ⟨A, hA⟩ : ∃ A, t.A = A := ⟨_, rfl⟩
  rw [hN, hC, hA] at c0
  rw [hN] at hm hlen
  have HN := Lib.hid (And.intro hN (And.intro hC hA))
  have HC := Lib.hid (And.intro c0 h.row.lt)
  have HLN := Lib.hid hlen
  have HW := Lib.hid (fun W => wireInt_any (N : Int) (by omega) (by omega) W)
  have HEN := Lib.hid (Wire.enc_length_le (N : Int))
  obtain ⟨E, hE⟩ : ∃ E, Wire.enc (N : Int) = E := ⟨_, rfl⟩
  rw [hE] at HW HEN
  have HET : Hid (Chk.encT l = E ++ l.flatMap Chk.encC) := Lib.hid (by unfold Chk.encT; rw [hlen, hE])
  have HFL := Lib.hid (encF_le l h.inv.ok)
  have HM := Lib.hid hm
  obtain ⟨M, hM⟩ : ∃ M, E.length = M := ⟨_, rfl⟩
  rw [hM] at HW HEN
  have HEM := Lib.hid hM
  clear h hN hC hA hlen hE hM hm
  go_enter Try.func36, Try.ntmps36
  go_upto_region 2 with (go_at_call 59; refine (HW.out _).mono ?_; rintro e w1 ⟨A1, c1, rfl, own1, b1⟩)
  have r2 : IsRow (w1.alloc (.cells #[.slice A1 M c1] 70)) w1.heap.size 70 [.slice A1 M c1] := IsRow.new w1 70 [.slice A1 M c1]
  have b2 : Below w1.heap.size w1 (w1.alloc (.cells #[.slice A1 M c1] 70)) := (Below.refl _ _).alloc (Nat.le_refl _) _
  have own2 := own_below own1 b2
  have HBO : Hid (w.heap.size ≤ w1.heap.size) := Lib.hid b1.size
  obtain ⟨w2, hw2⟩ : ∃ x, w1.alloc (.cells #[.slice A1 M c1] 70) = x := ⟨_, rfl⟩
  obtain ⟨bo, hbo⟩ : ∃ x, w1.heap.size = x := ⟨_, rfl⟩
  rw [hw2, hbo] at r2
  rw [hw2] at own2 b2
  rw [hw2, hbo]
  rw [hbo] at HBO
  have hb2 : Below w.heap.size w w2 := b1.trans (b2.mono (by rw [hbo]; exact HBO.out))
  have HB2 := Lib.hid hb2
  have HO2 : Hid (OutS w2 w.heap.size bo E) := Lib.hid ⟨A1, c1, by rw [HEM.out]; exact r2, by rw [HEM.out]; exact own2, HBO.out⟩
  have c02 := (hb2.cell (p := ⟨a, 0, none⟩) HC.out.2).trans HC.out.1
  clear hw2 hbo b2 own2 own1 b1 c0 hb2 r2
  go_wp2_with fail
  go_loopw [21] (fun u21 wx => ∃ (wr : World) (j : Nat) (L : List UInt8), wr = wx ∧ j ≤ N ∧ u21 = .int .i64 (j : Int) ∧ Hid (L = E ++ (l.take j).flatMap Chk.encC) ∧ Hid (OutS wr w.heap.size bo L) ∧ Hid (KU w.heap.size bo w2 wr)) (fun u21 _ => N - (intOf u21).toNat)
  case atStart => exact ⟨_, 0, E, rfl, Nat.zero_le _, rfl, Lib.hid (by simp), HO2, Lib.hid (KU.refl _)⟩
  case round =>
    obtain ⟨wr, j, L, rfl, hj, rfl, HL, HOR, HKR⟩ := hrel
    have HBR := Lib.hid (HB2.out.trans ((HKR.out.below HB2.out.size)))
    by_cases hlt : j < N
    · have hjn : j < t.n := by rw [HN.out.1]; exact hlt
      obtain ⟨g, x, hA, hg, hx, hlx, hxm, hrg⟩ := (HT.out.below HBR.out).at hjn
      have hA : A = some ⟨g, 0, none⟩ := by rw [← HN.out.2.2]; exact hA
      subst hA
      have hok := HT.out.inv.ok x.c (List.mem_of_getElem? hlx)
      have hcc := ckCells_at x.c (.slice x.A x.n x.k) hok.dg
      obtain ⟨b, off, hrf⟩ := HT.out.rfOf hx
      have hrA := hrf.A
      have hrn := hrf.ln
      have hr16 := hrf.n16
      have hLle : L.length ≤ 9 + 400 * j := by
        have h1 := HFL.out j
        have h2 : (l.take j).length ≤ j := List.length_take_le _ _
        have h3 := HEN.out
        rw [HL.out, List.length_append, HEM.out]; omega
      have hLj : L.length ≤ 9 + 400 * 65536 := by have := HM.out; omega
      have HSTEP : Hid (E ++ (l.take (j + 1)).flatMap Chk.encC = L ++ Chk.encC x.c) := Lib.hid (by
        have hjl : j < l.length := by rw [HLN.out]; exact hlt
        have e : l[j] = x.c := by have := List.getElem?_eq_getElem hjl; rw [hlx] at this; exact (Option.some.inj this).symm
        rw [List.take_succ_eq_append_getElem hjl, List.flatMap_append, e, HL.out, List.append_assoc]; simp)
      have HX := Lib.hid (And.intro (i64_of (x := x.c.id) (by have := hok.id1; omega) (by have := hok.id2; omega)) (i64_of hok.pr.1 hok.pr.2))
      have HUN : Hid (x.c.lost = false → I64 x.c.at_.r ∧ I64 x.c.at_.g ∧ I64 x.c.at_.u) := Lib.hid (fun e => by
        obtain ⟨⟨a1, a2⟩, ⟨a3, a4⟩, ⟨a5, a6⟩⟩ := hok.un e
        exact ⟨i64_of a1 (by omega), i64_of a3 (by omega), i64_of a5 (by omega)⟩)
      have HRFS : Hid (∀ r ∈ x.c.refs, I64 r.t ∧ I64 r.n) := Lib.hid (fun r hr => by
        have a1 := hok.refs.ten r hr
        have a2 := hok.refs.pos r hr
        have a3 : r.n ≤ Chk.total x.c.refs := by
          obtain ⟨p, q, e⟩ := List.append_of_mem hr
          have n1 := Chk.total_nonneg (l := p) fun z hz => hok.refs.pos z (by rw [e]; exact List.mem_append_left _ hz)
          have n2 := Chk.total_nonneg (l := q) fun z hz => hok.refs.pos z (by rw [e]; exact List.mem_append_right _ (List.mem_cons_of_mem _ hz))
          rw [e, Chk.total_app]; show r.n ≤ Chk.total p + (r.n + Chk.total q); omega
        have a4 := hok.refs.tot
        have a5 : Chk.most = 2147483647 := rfl
        exact ⟨i64_of a1.1 (by have := a1.2; omega), i64_of (by omega) (by omega)⟩)
      have HDG := Lib.hid hok.dg
      have HRD := Lib.hid (And.intro hrf.rd hrf.ln)
      have hw1 : 0 < x.n := hrf.pos
      have hccs : ∃ cs, x.cells = cs := ⟨_, rfl⟩
      obtain ⟨cs, hcs⟩ := hccs
      rw [show ckCells x.c (.slice x.A x.n x.k) = cs from hcs] at hcc
      rw [hcs] at hrg
      rw [hrA] at hcc
      have HCC := Lib.hid hcc
      have HLEN := Lib.hid (show cs.length = 23 by rw [← hcs]; exact ckCells_len hok.dg _)
      have HALL := Lib.hid (show cs.all (·.oneCell') = true by rw [← hcs, List.all_eq_true]; exact cr_one x)
      have HDC : Hid (∀ (q : Nat) (u : Value), (bvs x.c.dg)[q]? = some u → cs[1 + q]? = some u) := Lib.hid (fun q u hq => by
        rw [← hcs]
        have hql : q < (bvs x.c.dg).length := (List.getElem?_eq_some_iff.1 hq).1
        show (ckCells x.c _)[1 + q]? = _
        unfold ckCells
        rw [List.getElem?_append_right (by simp), List.getElem?_append_left (by simpa using hql)]
        simpa using hq)
      have HEC : Hid (Chk.encC x.c = encs [x.c.id] ++ (x.c.dg ++ (encs [x.c.pr] ++ ((if x.c.lost then encs [1] else encs [0, x.c.at_.r, x.c.at_.g, x.c.at_.u]) ++ (encs [(x.n : Int)] ++ x.c.refs.flatMap fun r => encs [r.t, r.n]))))) := Lib.hid (by
        unfold Chk.encC encs
        rw [hrn]
        cases x.c.lost <;> simp)
      have e1 : (0 : Int) ≤ (j : Int) := by omega
      have e2 : (j : Int) < (N : Int) := by omega
      clear hjn hx hlx hxm hok hcc hrf hrA hrn hcs hLle
      go_upto_region 6 with (first
        | (refine wpList_load_mid rfl _ (.tmp 23) rfl g (j * 23) rfl cs _ hrg Try.underlying45 rfl (by rw [HLEN.out]; exact sizeCk) ?_)
        | (refine wpList_allocRow rfl _ rfl _ infoCk' ?_; intro w3 rz3 b3 z3)
        | (refine wpList_storeRow rfl _ (.tmp 6) (.tmp 24) rfl (l' := cs) rz3 rfl rfl (by rw [HLEN.out]; exact sizeCk) (by rw [HLEN.out]; rfl) HALL.out ?_; intro w4 rz4 g4 z4))
      have hb4 : Below wr.heap.size wr w4 := b3.grown g4 b3.size (fun i hi => by have := Option.some.inj hi; omega)
      have HNE : Hid (wr.heap.size ≠ bo ∧ w.heap.size ≤ bo) := Lib.hid ⟨by have := HOR.out.lt; omega, HOR.out.lt.1⟩
      obtain ⟨b6, hb6⟩ : ∃ y, wr.heap.size = y := ⟨_, rfl⟩
      rw [hb6] at rz4 HNE ⊢
      have HS4 : Hid (OSt w2 w4 w.heap.size bo b6 cs L (9 + 400 * 65536)) := Lib.hid ⟨HOR.out.below hb4, HKR.out.trans (KU.of_below hb4), rz4, hLj⟩
      have q0 := rz4.cell 0
      rw [HCC.out.1] at q0
      clear rz3 b3 z3 g4 z4 hb4 rz4 hrg hb6
      try simp only [Act.put, List.setIfInBounds_toArray, List.set_cons_zero, List.set_cons_succ]
      go_upto_region 7 with (go_at_call 60; refine (put_new [x.c.id] 1 rfl (by omega) (fun z hz => by obtain rfl := List.mem_singleton.1 hz; exact HX.out.1) w.heap.size bo _ w4 HS4.out.o (by have := HS4.out.le; omega) _ rfl).mono ?_; rintro e w5 ⟨rfl, o, k⟩; have HS5 := Lib.hid (HS4.out.put HNE.out.1 o k (m' := (18 + 400 * 65536)) (by simp)); clear o k)
      have HR5 := Lib.hid HS5.out.r
      have HB6L : Hid (b6 < w5.heap.size ∧ bo < w5.heap.size) := Lib.hid ⟨HS5.out.r.lt, HS5.out.o.lt.2⟩
      obtain ⟨A5, c5, hr5, ho5, _⟩ := HS5.out.o
      obtain ⟨L5, hL5⟩ : ∃ y, L ++ encs [x.c.id] = y := ⟨_, rfl⟩
      rw [hL5] at HS5 hr5 ho5
      obtain ⟨n5, hn5⟩ : ∃ y, L5.length = y := ⟨_, rfl⟩
      rw [hn5] at hr5 ho5
      have HO5 := Lib.hid (And.intro hr5 ho5)
      have HN5 := Lib.hid hn5
      have HL5 := Lib.hid hL5
      have HLE5 := Lib.hid (show n5 ≤ 18 + 400 * 65536 by rw [← hn5]; exact HS5.out.le)
      clear hr5 ho5 hL5 hn5 q0
      have hv0 : Below w5.heap.size w5 w5.drew := (Below.refl _ _).drew
      refine wp_region_late (fun W => Below w5.heap.size w5 W) [3, 4] (by kernel_rfl) (hv0) (fun hHeld => ?_)
      refine wpAnyL_take (i := 0) (oi := { dst := some 30, op := Op.load 70 (Operand.tmp 3), type := 70, pos := "code.go:18", after := #[], guard := none }) (v := ?v0_1) rfl (by kernel_rfl) (by kernel_rfl) (by kernel_rfl) (by kernel_rfl) (fun _ _ _ h => h) (Or.inl ⟨by rfl, ?h0_1⟩) (by assumption) ?r0_1
      case h0_1 =>
        intro W hSW
        try dsimp only at hSW
        have hcc := (hSW.cell (p := ⟨bo, 0, none⟩) HB6L.out.2).trans (HO5.out.1.cell 0)
        go_simp
        try with_reducible rfl
      try simp only [Act.put, List.setIfInBounds_toArray, List.set_cons_zero, List.set_cons_succ]
      refine wpAnyL_take (i := 1) (oi := { dst := some 31, op := Op.fieldAddr 45 (Operand.tmp 6) 1, type := 0, pos := "code.go:18", after := #[], guard := none }) (v := ?v1_2) rfl (by kernel_rfl) (by kernel_rfl) (by kernel_rfl) (by kernel_rfl) (fun _ _ _ h => h) (Or.inl ⟨by rfl, ?h1_2⟩) (by assumption) ?r1_2
      case h1_2 =>
        intro W hSW
        try dsimp only at hSW
        go_simp
        try with_reducible rfl
      try simp only [Act.put, List.setIfInBounds_toArray, List.set_cons_zero, List.set_cons_succ]
      refine wpAnyL_take (i := 2) (oi := { dst := some 32, op := Op.slice 42 (Operand.tmp 31) none none none, type := 70, pos := "code.go:18", after := #[{ on := 1, ground := Ground.data }], guard := none }) (v := ?v2_3) rfl (by kernel_rfl) (by kernel_rfl) (by kernel_rfl) (by kernel_rfl) (fun _ _ _ h => h) (Or.inl ⟨by rfl, ?h2_3⟩) (by assumption) ?r2_3
      case h2_3 =>
        intro W hSW
        try dsimp only at hSW
        go_simp
        try with_reducible rfl
      try simp only [Act.put, List.setIfInBounds_toArray, List.set_cons_zero, List.set_cons_succ]
      refine wpAnyL_ready (rs := [3]) (by kernel_rfl) (by simp) ?_
      refine AllReadyL.late (o := { dst := some 33, op := Op.call { callee := Callee.builtin Builtin.append, args := #[Operand.tmp 30, Operand.tmp 32], argTypes := #[70, 70] }, type := 70, pos := "code.go:18", after := #[{ on := 0, ground := Ground.data }, { on := 2, ground := Ground.data }], guard := none }) rfl (by rfl) (fun K hK => ?_) AllReadyL.nil
      rw [if_pos (by rfl)]
      have hrn := HO5.out.1.below' hv0
      have hon := own_below HO5.out.2 hv0
      have rd2 : Rd w5.drew w5.drew.heap.size 1 (some ⟨b6, 1, none⟩) 16 (bvs x.c.dg) := ⟨by rw [bvs_length, HDG.out], fun _ => ⟨b6, 1, rfl, Nat.lt_of_lt_of_le HB6L.out.1 (hv0).size, fun q u hq => (HR5.out.below' hv0).cell (1 + q) |>.trans (HDC.out q u hq)⟩⟩
      refine wp_app _ (.tmp 30) (.tmp 32) 70 rfl w.heap.size 5 (.int .u8 0) 1 1 bytesE A5 n5 c5 (bvs L5) rfl hon w5.drew.heap.size (some ⟨b6, 1, none⟩) 16 16 (bvs x.c.dg) rfl rd2 (bvs_one _) (by have := HLE5.out; omega) (by have := HLE5.out; unfold maxLen; omega) (by have := HNE.out.2; have := HB6L.out.2; have := (hv0).size; omega) ?_
      intro A6 c6 w60 own6 g6 hA6
      have kbo := hrn.grown g6 (own_ne hon hrn (by decide))
      have k0 := kbo.cell 0
      have f0 := kbo.frozen 0
      have hfin : OutS (w60.setCell ⟨bo, 0, none⟩ (.slice A6 (n5 + 16) c6)) w.heap.size bo (L5 ++ x.c.dg) ∧ KU w.heap.size bo w5.drew (w60.setCell ⟨bo, 0, none⟩ (.slice A6 (n5 + 16) c6)) := by
        have eN := HN5.out
        have eM := HDG.out
        subst eN
        rw [← eM] at own6 ⊢
        exact OutS.app hrn HNE.out.2 hon own6 g6
      have hkk := (KU.of_below hv0).trans hfin.2
      have HS6 : Hid (OSt w2 (w60.setCell ⟨bo, 0, none⟩ (.slice A6 (n5 + 16) c6)) w.heap.size bo b6 cs (L5 ++ x.c.dg) (34 + 400 * 65536)) := Lib.hid ⟨hfin.1, HS5.out.k.trans hkk, hkk.row HS5.out.r (by decide) HNE.out.1, by have := HLE5.out; rw [List.length_append, HDG.out, HN5.out]; omega⟩
      clear own6 g6 hA6 kbo hfin hrn hon rd2 hkk
      refine hK.out _ _ ?_
      clear hK K
      try simp only [Act.put, List.setIfInBounds_toArray, List.set_cons_zero, List.set_cons_succ]
      refine wpAnyL_ready (rs := [4]) (by kernel_rfl) (by simp) ?_
      refine AllReadyL.late (o := { dst := none, op := Op.store 70 (Operand.tmp 3) (Operand.tmp 33), type := 0, pos := "code.go:18", after := #[{ on := 3, ground := Ground.data }, { on := 3, ground := Ground.chain }, { on := 0, ground := Ground.phase }, { on := 1, ground := Ground.phase }, { on := 2, ground := Ground.phase }, { on := 3, ground := Ground.phase }], guard := none }) rfl (by rfl) (fun K hK => ?_) AllReadyL.nil
      go_simp
      obtain ⟨w61, hw61⟩ : ∃ y, w60.setCell ⟨bo, 0, none⟩ (.slice A6 (n5 + 16) c6) = y := ⟨_, rfl⟩
      rw [hw61] at HS6
      rw [hw61]
      clear hw61 k0 f0
      refine hK.out _ _ ?_
      clear hK K
      try simp only [Act.put, List.setIfInBounds_toArray, List.set_cons_zero, List.set_cons_succ]
      refine wpAnyL_done (by kernel_rfl) ?_ _
      obtain ⟨w7, hw7⟩ : ∃ y, w61 = y := ⟨_, rfl⟩
      rw [hw7] at HS6 ⊢
      clear hw7
      have q17 := HS6.out.r.cell 17
      rw [HCC.out.2.1] at q17
      have e17 : IntKind.i64.wrap x.c.pr = x.c.pr := IntWalk.i64_in _ HX.out.2
      go_upto_region 9 with (go_at_call 60; refine (put_new [x.c.pr] 1 rfl (by omega) (fun z hz => by obtain rfl := List.mem_singleton.1 hz; exact HX.out.2) w.heap.size bo _ w7 HS6.out.o (by have := HS6.out.le; omega) _ rfl).mono ?_; rintro e w8 ⟨rfl, o, k⟩; have HS8 := Lib.hid (HS6.out.put HNE.out.1 o k (m' := (43 + 400 * 65536)) (by simp)); clear o k)
      clear q17 e17
      have q21 := HS8.out.r.cell 21
      rw [HCC.out.2.2.2.2.2.1] at q21
      cases hlo : x.c.lost with
      | true =>
        rw [hlo] at q21
        go_upto_region 12 with (go_at_call 60; refine (put_new [1] 1 rfl (by omega) (fun z hz => by obtain rfl := List.mem_singleton.1 hz; exact ⟨by omega, by omega⟩) w.heap.size bo _ w8 HS8.out.o (by have := HS8.out.le; omega) _ rfl).mono ?_; rintro e w9 ⟨rfl, o, k⟩; have HS9 := Lib.hid (HS8.out.put HNE.out.1 o k (m' := (79 + 400 * 65536)) (by simp)); clear o k q21)
        obtain ⟨L9, hL9⟩ : ∃ y, L5 ++ x.c.dg ++ encs [x.c.pr] ++ encs [1] = y := ⟨_, rfl⟩
        rw [hL9] at HS9
        have HL9 := Lib.hid hL9
        clear hL9
        have q22 := HS9.out.r.cell 22
        rw [HCC.out.2.2.2.2.2.2] at q22
        go_upto_region 13 with (go_at_call 60; refine (put_new [(x.n : Int)] 1 rfl (by omega) (fun z hz => by obtain rfl := List.mem_singleton.1 hz; exact i64_of (by omega) (by omega)) w.heap.size bo _ w9 HS9.out.o (by have := HS9.out.le; omega) _ rfl).mono ?_; rintro e w10 ⟨rfl, o, k⟩; have HS10 := Lib.hid (HS9.out.put HNE.out.1 o k (m' := (88 + 400 * 65536)) (by simp)); clear o k)
        clear q22
        have q22 := HS10.out.r.cell 22
        rw [HCC.out.2.2.2.2.2.2] at q22
        go_wp2_with fail
        go_loopw [68] (fun u68 wx => ∃ (wi : World) (i : Nat) (Li : List UInt8), wi = wx ∧ i ≤ x.n ∧ u68 = .int .i64 (i : Int) ∧ Hid (Li = L9 ++ encs [(x.n : Int)] ++ (x.c.refs.take i).flatMap fun r => encs [r.t, r.n]) ∧ Hid (OSt w2 wi w.heap.size bo b6 cs Li (88 + 18 * i + 400 * 65536)) ∧ Hid (KU w.heap.size bo w2 wi)) (fun u68 _ => x.n - (intOf u68).toNat)
        case atStart => exact ⟨_, 0, _, rfl, Nat.zero_le _, rfl, Lib.hid (by simp), HS10, Lib.hid HS10.out.k⟩
        case round =>
          obtain ⟨wi, i, Li, rfl, hi, rfl, HLi, HSi, HKi⟩ := hrel
          by_cases hil : i < x.n
          · have hir : i < x.c.refs.length := by rw [HRD.out.2]; exact hil
            have hbi : Below w.heap.size w wi := HB2.out.trans (HKi.out.below HB2.out.size)
            obtain ⟨b', off', he, hbb, hrgi⟩ := (HRD.out.1.below hbi).elem (f := rfCells) (fun _ _ => rfl) hir hil
            obtain ⟨rfl, rfl⟩ : b = b' ∧ off = off' := by have := Option.some.inj he; exact ⟨congrArg Addr.block this, congrArg Addr.off this⟩
            have hr64 := HRFS.out _ (List.getElem_mem hir)
            have hstep : (x.c.refs.take (i + 1)).flatMap (fun r => encs [r.t, r.n]) = (x.c.refs.take i).flatMap (fun r => encs [r.t, r.n]) ++ encs [x.c.refs[i].t, x.c.refs[i].n] := by
              rw [List.take_succ_eq_append_getElem hir, List.flatMap_append]; simp
            obtain ⟨r, hr⟩ : ∃ r, x.c.refs[i] = r := ⟨_, rfl⟩
            rw [hr] at hrgi hr64 hstep
            have k0 : wi.cell? ⟨b, off + i * 2, none⟩ = some (.int .i64 r.t) := hrgi 0 _ rfl
            have k1 : wi.cell? ⟨b, off + i * 2 + 1, none⟩ = some (.int .i64 r.n) := hrgi 1 _ rfl
            have HST := Lib.hid hstep
            have H64 := Lib.hid hr64
            have hal : Below wi.heap.size wi (wi.alloc (.cells #[.int .i64 r.t, .int .i64 r.n] 83)) := (Below.refl _ _).alloc (Nat.le_refl _) _
            have ral := IsRow.new wi 83 [.int .i64 r.t, .int .i64 r.n]
            have HSa : Hid (OSt w2 (wi.alloc (.cells #[.int .i64 r.t, .int .i64 r.n] 83)) w.heap.size bo b6 cs Li (88 + 18 * i + 400 * 65536)) := Lib.hid ⟨HSi.out.o.below hal, HSi.out.k.trans (KU.of_below hal), HSi.out.r.below' hal, HSi.out.le⟩
            obtain ⟨wa, hwa⟩ : ∃ y, wi.alloc (.cells #[.int .i64 r.t, .int .i64 r.n] 83) = y := ⟨_, rfl⟩
            have HWA := Lib.hid hwa
            rw [hwa] at HSa
            rw [show ([.int .i64 r.t, .int .i64 r.n] : List Value).toArray = #[.int .i64 r.t, .int .i64 r.n] from rfl, hwa] at ral
            have ra0 := ral.cell 0
            have ra1 := ral.cell 1
            have i1 : (0 : Int) ≤ (i : Int) := by omega
            have i2 : (i : Int) < (x.n : Int) := by omega
            have HI16 := Lib.hid (show i < 16 by omega)
            clear hir hbi he hbb hrgi hr64 hstep hr hal ral hwa
            go_upto_region 16 with fail
            rw [HWA.out]
            go_wp2_with (go_at_call 60; refine (put_new [r.t, r.n] 2 rfl (by omega) (fun z hz => by simp only [List.mem_cons, List.not_mem_nil, or_false] at hz; rcases hz with rfl | rfl; exact H64.out.1; exact H64.out.2) w.heap.size bo _ wa HSa.out.o (by have := HSa.out.le; have := HI16.out; omega) _ rfl).mono ?_; rintro e wb ⟨rfl, o, k⟩; have HSb := Lib.hid (HSa.out.put HNE.out.1 o k (m' := 88 + 18 * (i + 1) + 400 * 65536) (by simp; omega)); clear o k)
            go_roundw
            case rel => exact ⟨_, i + 1, _, rfl, by omega, by go_num, Lib.hid (by rw [HST.out, HLi.out, List.append_assoc]), HSb, Lib.hid HSb.out.k⟩
            case measure => simp [intOf]; omega
          · obtain rfl : i = x.n := by omega
            have HFIN : Hid (Li = E ++ (l.take (j + 1)).flatMap Chk.encC) := Lib.hid (by
              rw [HSTEP.out, HEC.out, HLi.out, List.take_of_length_le (by rw [HRD.out.2]; exact Nat.le_refl _), ← HL9.out, ← HL5.out, hlo]
              simp [List.append_assoc])
            have hmx := HM.out
            go_wp2_with fail
            go_roundw
            case rel => exact ⟨_, j + 1, Li, rfl, by omega, by go_num, HFIN, Lib.hid HSi.out.o, HKi⟩
            case measure => simp [intOf]; omega
      | false =>
        rw [hlo] at q21
        have HU := Lib.hid (HUN.out hlo)
        have q18 := HS8.out.r.cell 18
        have q19 := HS8.out.r.cell 19
        have q20 := HS8.out.r.cell 20
        rw [HCC.out.2.2.1] at q18
        rw [HCC.out.2.2.2.1] at q19
        rw [HCC.out.2.2.2.2.1] at q20
        go_upto_region 12 with (go_at_call 60; refine (put_new [0, x.c.at_.r, x.c.at_.g, x.c.at_.u] 4 rfl (by omega) (fun z hz => by simp only [List.mem_cons, List.not_mem_nil, or_false] at hz; rcases hz with rfl | rfl | rfl | rfl; exact ⟨by omega, by omega⟩; exact HU.out.1; exact HU.out.2.1; exact HU.out.2.2) w.heap.size bo _ w8 HS8.out.o (by have := HS8.out.le; omega) _ rfl).mono ?_; rintro e w9 ⟨rfl, o, k⟩; have HS9 := Lib.hid (HS8.out.put HNE.out.1 o k (m' := (79 + 400 * 65536)) (by simp)); clear o k q21 q18 q19 q20)
        obtain ⟨L9, hL9⟩ : ∃ y, L5 ++ x.c.dg ++ encs [x.c.pr] ++ encs [0, x.c.at_.r, x.c.at_.g, x.c.at_.u] = y := ⟨_, rfl⟩
        rw [hL9] at HS9
        have HL9 := Lib.hid hL9
        clear hL9
        have q22 := HS9.out.r.cell 22
        rw [HCC.out.2.2.2.2.2.2] at q22
        go_upto_region 13 with (go_at_call 60; refine (put_new [(x.n : Int)] 1 rfl (by omega) (fun z hz => by obtain rfl := List.mem_singleton.1 hz; exact i64_of (by omega) (by omega)) w.heap.size bo _ w9 HS9.out.o (by have := HS9.out.le; omega) _ rfl).mono ?_; rintro e w10 ⟨rfl, o, k⟩; have HS10 := Lib.hid (HS9.out.put HNE.out.1 o k (m' := (88 + 400 * 65536)) (by simp)); clear o k)
        clear q22
        have q22 := HS10.out.r.cell 22
        rw [HCC.out.2.2.2.2.2.2] at q22
        go_wp2_with fail
        go_loopw [68] (fun u68 wx => ∃ (wi : World) (i : Nat) (Li : List UInt8), wi = wx ∧ i ≤ x.n ∧ u68 = .int .i64 (i : Int) ∧ Hid (Li = L9 ++ encs [(x.n : Int)] ++ (x.c.refs.take i).flatMap fun r => encs [r.t, r.n]) ∧ Hid (OSt w2 wi w.heap.size bo b6 cs Li (88 + 18 * i + 400 * 65536)) ∧ Hid (KU w.heap.size bo w2 wi)) (fun u68 _ => x.n - (intOf u68).toNat)
        case atStart => exact ⟨_, 0, _, rfl, Nat.zero_le _, rfl, Lib.hid (by simp), HS10, Lib.hid HS10.out.k⟩
        case round =>
          obtain ⟨wi, i, Li, rfl, hi, rfl, HLi, HSi, HKi⟩ := hrel
          by_cases hil : i < x.n
          · have hir : i < x.c.refs.length := by rw [HRD.out.2]; exact hil
            have hbi : Below w.heap.size w wi := HB2.out.trans (HKi.out.below HB2.out.size)
            obtain ⟨b', off', he, hbb, hrgi⟩ := (HRD.out.1.below hbi).elem (f := rfCells) (fun _ _ => rfl) hir hil
            obtain ⟨rfl, rfl⟩ : b = b' ∧ off = off' := by have := Option.some.inj he; exact ⟨congrArg Addr.block this, congrArg Addr.off this⟩
            have hr64 := HRFS.out _ (List.getElem_mem hir)
            have hstep : (x.c.refs.take (i + 1)).flatMap (fun r => encs [r.t, r.n]) = (x.c.refs.take i).flatMap (fun r => encs [r.t, r.n]) ++ encs [x.c.refs[i].t, x.c.refs[i].n] := by
              rw [List.take_succ_eq_append_getElem hir, List.flatMap_append]; simp
            obtain ⟨r, hr⟩ : ∃ r, x.c.refs[i] = r := ⟨_, rfl⟩
            rw [hr] at hrgi hr64 hstep
            have k0 : wi.cell? ⟨b, off + i * 2, none⟩ = some (.int .i64 r.t) := hrgi 0 _ rfl
            have k1 : wi.cell? ⟨b, off + i * 2 + 1, none⟩ = some (.int .i64 r.n) := hrgi 1 _ rfl
            have HST := Lib.hid hstep
            have H64 := Lib.hid hr64
            have hal : Below wi.heap.size wi (wi.alloc (.cells #[.int .i64 r.t, .int .i64 r.n] 83)) := (Below.refl _ _).alloc (Nat.le_refl _) _
            have ral := IsRow.new wi 83 [.int .i64 r.t, .int .i64 r.n]
            have HSa : Hid (OSt w2 (wi.alloc (.cells #[.int .i64 r.t, .int .i64 r.n] 83)) w.heap.size bo b6 cs Li (88 + 18 * i + 400 * 65536)) := Lib.hid ⟨HSi.out.o.below hal, HSi.out.k.trans (KU.of_below hal), HSi.out.r.below' hal, HSi.out.le⟩
            obtain ⟨wa, hwa⟩ : ∃ y, wi.alloc (.cells #[.int .i64 r.t, .int .i64 r.n] 83) = y := ⟨_, rfl⟩
            have HWA := Lib.hid hwa
            rw [hwa] at HSa
            rw [show ([.int .i64 r.t, .int .i64 r.n] : List Value).toArray = #[.int .i64 r.t, .int .i64 r.n] from rfl, hwa] at ral
            have ra0 := ral.cell 0
            have ra1 := ral.cell 1
            have i1 : (0 : Int) ≤ (i : Int) := by omega
            have i2 : (i : Int) < (x.n : Int) := by omega
            have HI16 := Lib.hid (show i < 16 by omega)
            clear hir hbi he hbb hrgi hr64 hstep hr hal ral hwa
            go_upto_region 16 with fail
            rw [HWA.out]
            go_wp2_with (go_at_call 60; refine (put_new [r.t, r.n] 2 rfl (by omega) (fun z hz => by simp only [List.mem_cons, List.not_mem_nil, or_false] at hz; rcases hz with rfl | rfl; exact H64.out.1; exact H64.out.2) w.heap.size bo _ wa HSa.out.o (by have := HSa.out.le; have := HI16.out; omega) _ rfl).mono ?_; rintro e wb ⟨rfl, o, k⟩; have HSb := Lib.hid (HSa.out.put HNE.out.1 o k (m' := 88 + 18 * (i + 1) + 400 * 65536) (by simp; omega)); clear o k)
            go_roundw
            case rel => exact ⟨_, i + 1, _, rfl, by omega, by go_num, Lib.hid (by rw [HST.out, HLi.out, List.append_assoc]), HSb, Lib.hid HSb.out.k⟩
            case measure => simp [intOf]; omega
          · obtain rfl : i = x.n := by omega
            have HFIN : Hid (Li = E ++ (l.take (j + 1)).flatMap Chk.encC) := Lib.hid (by
              rw [HSTEP.out, HEC.out, HLi.out, List.take_of_length_le (by rw [HRD.out.2]; exact Nat.le_refl _), ← HL9.out, ← HL5.out, hlo]
              simp [List.append_assoc])
            have hmx := HM.out
            go_wp2_with fail
            go_roundw
            case rel => exact ⟨_, j + 1, Li, rfl, by omega, by go_num, HFIN, Lib.hid HSi.out.o, HKi⟩
            case measure => simp [intOf]; omega
    · obtain rfl : j = N := by omega
      have HE := Lib.hid (show L = Chk.encT l by rw [HL.out, HET.out, List.take_of_length_le (by rw [HLN.out]; exact Nat.le_refl _)])
      obtain ⟨A9, c9, hr9, ho9, _⟩ := HOR.out
      have k9 := hr9.cell 0
      have HO9 := Lib.hid ho9
      clear hr9 ho9
      go_wp2_with fail
      go_ret
      have ho := HO9.out
      rw [HE.out] at ho ⊢
      exact ⟨A9, c9, rfl, ho, HBR.out⟩
end
end Go.Proofs.Ytcicfneekmbamaa
