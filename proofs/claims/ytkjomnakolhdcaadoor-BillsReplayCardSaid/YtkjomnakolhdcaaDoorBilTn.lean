/- Layer 35's replaying: numbers, the integers from the front of a byte sequence. Conditions: at most a million bytes, 1 to 100 integers. -/
import Derived.Test.YtkjomnakolhdcaaDoorHeld2
import Derived.Test.YtkjomnakolhdcaaDoorBilTk
import Derived.Test.YtkjomnakolhdcaaDoorBilW1
import Derived.Test.YtkjomnakolhdcaaDoorWireDec2
namespace Go.Proofs.YtkjomnakolhdcaaDoor
set_option linter.unusedVariables false
set_option linter.unusedSimpArgs false
open Go.RowKit
abbrev oTn0 : Oper := { dst := some 15, op := Op.move (Operand.tmp 3), type := 3, pos := "bills.go:268", after := #[], guard := none }
abbrev oTn1 : Oper := { dst := some 18, op := Op.load 58 (Operand.tmp 0), type := 58, pos := "bills.go:268", after := #[], guard := none }
abbrev oTn2 : Oper := { dst := some 19, op := Op.move (Operand.tmp 4), type := 3, pos := "bills.go:268", after := #[], guard := none }
abbrev oTn3 : Oper := { dst := some 20, op := Op.slice 58 (Operand.tmp 18) (some (Operand.tmp 19)) none none, type := 58, pos := "bills.go:268", after := #[{ on := 4, ground := Ground.data }, { on := 5, ground := Ground.data }], guard := none }
abbrev oTn4 : Oper := { dst := some 14, op := Op.load 29 (Operand.tmp 1), type := 29, pos := "bills.go:268", after := #[], guard := none }
abbrev oTn5 : Oper := { dst := some 16, op := Op.buildSlice 29 1 #[(0, Operand.tmp 15)], type := 29, pos := "bills.go:268", after := #[{ on := 1, ground := Ground.data }], guard := none }
abbrev oTn6 : Oper := { dst := some 17, op := Op.call { callee := Callee.builtin Builtin.append, args := #[Operand.tmp 14, Operand.tmp 16], argTypes := #[29, 29] }, type := 29, pos := "bills.go:268", after := #[{ on := 0, ground := Ground.data }, { on := 2, ground := Ground.data }], guard := none }
abbrev oTn7 : Oper := { dst := none, op := Op.store 29 (Operand.tmp 1) (Operand.tmp 17), type := 0, pos := "bills.go:268", after := #[{ on := 3, ground := Ground.data }, { on := 3, ground := Ground.chain }, { on := 0, ground := Ground.phase }, { on := 1, ground := Ground.phase }, { on := 2, ground := Ground.phase }, { on := 3, ground := Ground.phase }, { on := 4, ground := Ground.textOnly Departure.inlinedCapture }, { on := 5, ground := Ground.textOnly Departure.lateStores }, { on := 6, ground := Ground.textOnly Departure.lateStoresUnsure }], guard := none }
abbrev oTn8 : Oper := { dst := none, op := Op.store 58 (Operand.tmp 0) (Operand.tmp 20), type := 0, pos := "bills.go:268", after := #[{ on := 6, ground := Ground.data }, { on := 7, ground := Ground.chain }, { on := 0, ground := Ground.phase }, { on := 1, ground := Ground.phase }, { on := 2, ground := Ground.phase }, { on := 3, ground := Ground.phase }, { on := 4, ground := Ground.phase }, { on := 5, ground := Ground.phase }, { on := 6, ground := Ground.phase }, { on := 7, ground := Ground.phase }], guard := none }
/-- b1: the variable of the bytes; b2: that of the numbers -/
structure NumS (w W : World) (b1 b2 : Nat) (b : List UInt8) (l : List Int) : Prop where
 below : Below w.heap.size w W
 row1 : ∃ A c, IsRow W b1 58 [.slice A b.length c] ∧ b.length ≤ c ∧ c ≤ maxLen ∧ Rd W w.heap.size 1 A b.length (bvs b)
 row2 : ∃ A c, IsRow W b2 29 [.slice A l.length c] ∧ W.ownsRow (b2 + 1) 3 1 (.slice A l.length c) l.length (ivs l)
 o : w.heap.size ≤ b1 ∧ b1 < b2
 lb : b.length ≤ 1000000
/-- while the closure appends -/
structure NumV (W V : World) (b2 : Nat) (A : Option Addr) (n c : Nat) (l : List Int) : Prop where
 k : Keep (fun q => b2 < q) W V
 own : V.ownsRow (b2 + 1) 3 1 (.slice A n c) n (ivs l)
 lt : b2 < W.heap.size
/-- behind the store of the numbers -/
structure NumU (W V : World) (b1 b2 : Nat) (A : Option Addr) (n c : Nat) (l : List Int) : Prop where
 k : Keep (fun q => b1 < q) W V
 own : V.ownsRow (b2 + 1) 3 1 (.slice A n c) n (ivs l)
 row : IsRow V b2 29 [.slice A n c]
 lt : b1 < b2
section
variable {w W V : World} {b1 b2 n c : Nat} {A : Option Addr} {b : List UInt8} {l l0 : List Int}
theorem Rd.grown_below {xs : List Value} {n B size : Nat} {W' : World} (h : Rd V B size A n xs) {q : Nat} (hg : V.grownBy W' (some q)) (hq : B ≤ q) : Rd W' B size A n xs :=
 ⟨h.1, fun hn => by
  obtain ⟨b, off, e, hb, hc⟩ := h.2 hn
  refine ⟨b, off, e, hb, fun j x hx => ?_⟩
  have hx' := hc j x hx
  have hlt : b < V.heap.size := by
   rcases Nat.lt_or_ge b V.heap.size with h1 | h1
   ·
    exact h1
   ·
    simp [World.cell?, Array.getElem?_eq_none h1] at hx'
  exact (World.cell?_of_block (a := ⟨b, off + j, none⟩) (hg.block b hlt (fun e => by have := Option.some.inj e; omega))).trans hx'⟩
theorem NumV.s (h : NumV W V b2 A n c l) (h12 : b1 < b2) : Keep (fun q => b1 < q) W V := h.k.mono fun q _ hq => by omega
theorem NumV.size (h : NumV W V b2 A n c l) : b2 + 1 ≤ V.heap.size := by have := h.k.size; have := h.lt; omega
theorem NumV.alloc (h : NumV W V b2 A n c l) (o : Obj) : NumV W (V.alloc o) b2 A n c l := ⟨h.k.alloc o, h.own.alloc o, h.lt⟩
theorem NumV.app (h : NumV W V b2 A n c l) {V' : World} {A' : Option Addr} {n' c' : Nat} {l' : List Int} (own : V'.ownsRow (b2 + 1) 3 1 (.slice A' n' c') n' (ivs l')) (gr : V.grownBy V' (Value.slice A n c).ownBlock) : NumV W V' b2 A' n' c' l' :=
 ⟨h.k.grown gr fun k hk => .inl (by have := h.own.lt k hk; omega), own, h.lt⟩
theorem NumV.row (h : NumV W V b2 A n c l) {u : List Value} (hr : IsRow W b2 29 u) : IsRow V b2 29 u := hr.keep (h.k.block b2 hr.lt (by omega))
theorem NumV.store (h : NumV W V b2 A n c l) (h12 : b1 < b2) {u : Value} (hr : IsRow W b2 29 [u]) : NumU W (V.setCell ⟨b2, 0, none⟩ (.slice A n c)) b1 b2 A n c l :=
 ⟨(h.s h12).grown (grown_setCell _ _ _ _) fun k e => .inl (by have := Option.some.inj e; omega), own_far h.own (grown_setCell _ _ _ _) (by omega), (h.row hr).set 0 _, h12⟩
theorem NumU.s (h : NumU W V b1 b2 A n c l) (h12 : b1 < b2) : Keep (fun q => b1 < q) W V := h.k
theorem NumU.fin (h : NumU W V b1 b2 A n c l) (hn : l.length = n) (h0 : NumS w W b1 b2 b l0) {u : Value} (hr1 : IsRow W b1 58 [u]) {A2 : Option Addr} {m c2 : Nat} {r : List UInt8} (hm : r.length = m) (hmb : m ≤ 1000000) (hmc : m ≤ c2) (hc2 : c2 ≤ maxLen) (rd : Rd W w.heap.size 1 A2 m (bvs r)) :
  NumS w (V.setCell ⟨b1, 0, none⟩ (.slice A2 m c2)) b1 b2 r l := by
 subst hm
 subst hn
 have ho := h0.o
 have hz := h0.below.size
 have hg := grown_setCell V b1 0 (.slice A2 r.length c2)
 have hlt := h.lt
 have hw : w.heap.size ≤ W.heap.size := hz
 have hbv : Below w.heap.size w V := h0.below.trans (h.k.below hz fun q hq e => by omega)
 have hrv : IsRow V b1 58 [u] := hr1.keep (h.k.block b1 hr1.lt (by omega))
 refine ⟨hbv.grown hg hbv.size (fun k e => by have := Option.some.inj e; omega), ⟨A2, c2, hrv.set 0 _, hmc, hc2, (rd.keep fun p hp => World.cell?_of_block (h.k.block p.block (by omega) (by omega))).grown_below hg ho.1⟩, ⟨A, c, h.row.grown hg (fun e => by have := Option.some.inj e; omega), own_far h.own hg (by omega)⟩, ho, hmb⟩
end
set_option maxRecDepth 100000 in
set_option maxHeartbeats 1600000 in
theorem numStep_ok (w W : World) (b1 b2 : Nat) (b : List UInt8) (l : List Int) (h : NumS w W b1 b2 b l) (hl : l.length ≤ 100) (x : Int) (u : Nat) (hd : Wire.dec b = (x, u, 0)) :
  Calls Tryd.prog 79 #[.pointer (some ⟨b1, 0, none⟩), .pointer (some ⟨b2, 0, none⟩)] W fun e w' => e = .returned (.bool true) ∧ NumS w w' b1 b2 (b.drop u) (l ++ [x]) := by
 have HS := Lib.hid h
 obtain ⟨A, c, r1, hc, hcm, rd⟩ := h.row1
 obtain ⟨A0, c0, r2, own⟩ := h.row2
 obtain ⟨n, hn⟩ : ∃ n, b.length = n := ⟨_, rfl⟩
 obtain ⟨j, hj⟩ : ∃ j, l.length = j := ⟨_, rfl⟩
 rw [hn] at r1 hc rd
 rw [hj] at r2 own hl
 have hul := (Wire.dec_ok hd).2.2.2.2.1
 have hlb := h.lb
 rw [hn] at hul hlb
 have HG := Lib.hid (fun (V : World) (rv : Rd V w.heap.size 1 A n (bvs b)) => wireGetInt_len A c n b V w.heap.size hn rv (by omega) hc hcm x u 0 hd)
 have HRD := Lib.hid rd
 have HN := Lib.hid (And.intro own (And.intro r2.lt h.o.2))
 have HR1 := Lib.hid r1
 have HR2 := Lib.hid r2
 have c1 : W.cell? ⟨b1, 0, none⟩ = some (.slice A n c) := r1.cell 0
 have hcut := fun (V : World) => run_cutFrom (P := Tryd.prog) V bytesE A n c u .i64 hul
 have rd2 := rd.cut hul hc
 obtain ⟨A2, hA2⟩ : ∃ y, (if c = u then A else A.map (·.add (u * 1))) = y := ⟨_, rfl⟩
 rw [hA2] at rd2
 simp only [hA2] at hcut
 obtain ⟨m, hm⟩ : ∃ y, n - u = y := ⟨_, rfl⟩
 obtain ⟨c2, hc2⟩ : ∃ y, c - u = y := ⟨_, rfl⟩
 rw [hm] at rd2
 simp only [hm, hc2] at hcut
 have hdr : (bvs b).drop (u * 1) = bvs (b.drop u) := by rw [Nat.mul_one]; simp [bvs, List.map_drop]
 rw [hdr] at rd2
 have HRD2 := Lib.hid rd2
 have HM : Hid ((b.drop u).length = m ∧ m ≤ 1000000 ∧ m ≤ c2 ∧ c2 ≤ maxLen) := Lib.hid ⟨by rw [List.length_drop, hn, hm], by omega, by omega, by omega⟩
 have HJ : Hid ((j + 1) * 8 ≤ 140737488355328 ∧ j + 1 ≤ maxLen) := Lib.hid (by unfold maxLen; omega)
 have HLX : Hid (ivs l ++ [Value.int .i64 x] = ivs (l ++ [x])) := Lib.hid (ivs_snoc l x rfl)
 have HLX1 : Hid ((l ++ [x]).length = j + 1) := Lib.hid (by rw [List.length_append, hj]; rfl)
 have h12 := h.o.2
 clear h r1 r2 own rd rd2 hA2 hm hc2 hdr hn hj hl hul hlb hd hc hcm
 go_enter Tryd.func79, Tryd.ntmps79
 go_upto_region 3 with (go_at_call 80; refine (HG.out _ HRD.out).mono ?_; rintro e w3 ⟨rfl, rfl⟩)
 go_wp2_with fail
 have hv0 : NumV W W.drew b2 A0 j c0 l := ⟨Keep.of_below (Below.refl _ _).drew, HN.out.1.drew, HN.out.2.1⟩
 refine wp_region_late (fun V => Keep (fun q => b1 < q) W V) [8] (by kernel_rfl) ((hv0).s HN.out.2.2) (fun hHeld => ?_)
 obtain ⟨wd, hwd⟩ : ∃ x, W.drew = x := ⟨_, rfl⟩
 rw [hwd] at hv0 hHeld  ⊢
 clear hwd
 refine tkL 1 oTn0 ?v1_1 (.inl ⟨by rfl, ?h1_1⟩) ?r1_1
 case h1_1 =>
  intro W hSW
  unfold oTn0
  try dsimp only at hSW
  go_simp
  try with_reducible rfl
 try simp only [oTn0, PT]
 refine tkL 4 oTn1 ?v4_2 (.inl ⟨by rfl, ?h4_2⟩) ?r4_2
 case h4_2 =>
  intro W hSW
  unfold oTn1
  try dsimp only at hSW
  have hcc : W.cell? ⟨b1, 0, none⟩ = some (.slice A n c) := (HR1.out.keep (hSW.block b1 HR1.out.lt (by omega))).cell 0
  go_simp
  try with_reducible rfl
 try simp only [oTn1, PT]
 refine tkL 5 oTn2 ?v5_3 (.inl ⟨by rfl, ?h5_3⟩) ?r5_3
 case h5_3 =>
  intro W hSW
  unfold oTn2
  try dsimp only at hSW
  go_simp
  try with_reducible rfl
 try simp only [oTn2, PT]
 refine tkL 6 oTn3 ?v6_4 (.inl ⟨by rfl, ?h6_4⟩) ?r6_4
 case h6_4 =>
  intro W hSW
  unfold oTn3
  try dsimp only at hSW
  go_simp
  try with_reducible rfl
 try simp only [oTn3, PT]
 refine rdyL [0, 2] ?_
 refine AllReadyL.cons (o := oTn4) rfl (fun K hK => ?_) ?_
 ·
  skip
  unfold oTn4
  rw [if_pos (by rfl)]
  have hcc : wd.cell? ⟨b2, 0, none⟩ = some (.slice A0 j c0) := ((hv0).row HR2.out).cell 0
  go_simp
  clear hcc
  refine hK.out _ _ ((hv0).s HN.out.2.2) (fun hHeld => ?_)
  clear hK K
  try simp only [PT]
  refine rdyL [2] ?_
  refine AllReadyL.cons (o := oTn5) rfl (fun K hK => ?_) AllReadyL.nil
  unfold oTn5
  go_simp
  obtain ⟨g16, hg16⟩ : ∃ y, wd.heap.size = y := ⟨_, rfl⟩
  have rd16 := Rd.new wd [Value.int .i64 x] 3 1 (size := 1) rfl
  have hv2 := (hv0).alloc (.cells #[Value.int .i64 x] 3)
  obtain ⟨w2, hw2⟩ : ∃ y, wd.alloc (.cells #[Value.int .i64 x] 3) = y := ⟨_, rfl⟩
  rw [show ([Value.int .i64 x] : List Value).toArray = #[Value.int .i64 x] from rfl, hw2, hg16] at rd16
  rw [hw2] at hv2
  rw [hw2, hg16]
  have rd16 : Rd w2 w2.heap.size 1 _ _ _ := rd16.more (by rw [← hw2, alloc_size1, hg16]; exact Nat.le_refl _)
  clear hw2 hg16
  refine hK.out _ _ ((hv2).s HN.out.2.2) (fun hHeld => ?_)
  clear hK K
  try simp only [PT]
  refine rdyL [3] ?_
  refine AllReadyL.cons (o := oTn6) rfl (fun K hK => ?_) AllReadyL.nil
  unfold oTn6
  rw [if_pos (by rfl)]
  refine wp_app _ (.tmp 14) (.tmp 16) 29 rfl (b2 + 1) 3 (.int .i64 0) 1 8 intsE A0 j c0 (ivs l) rfl (hv2).own w2.heap.size (some ⟨g16, 0, none⟩) 1 1 [Value.int .i64 x] rfl rd16 (ivs_one [x]) HJ.out.1 HJ.out.2 (hv2).size ?_
  intro A1 c1 w3 own3 gr3 hA3
  rw [HLX.out] at own3
  have hv3 := (hv2).app own3 gr3
  have k7 : w3.cell? ⟨b2, 0, none⟩ = some (.slice A0 j c0) := (hv3.row HR2.out).cell 0
  have f7 : w3.frozen? ⟨b2, 0, none⟩ = false := (hv3.row HR2.out).frozen 0
  clear own3 gr3 hA3 rd16
  refine hK.out _ _ ((hv3).s HN.out.2.2) (fun hHeld => ?_)
  clear hK K
  try simp only [PT]
  refine rdyL [7] ?_
  refine AllReadyL.cons (o := oTn7) rfl (fun K hK => ?_) AllReadyL.nil
  unfold oTn7
  go_simp
  have hv4 := (hv3).store HN.out.2.2 HR2.out
  obtain ⟨w4, hw4⟩ : ∃ y, w3.setCell ⟨b2, 0, none⟩ (.slice A1 (j + 1) c1) = y := ⟨_, rfl⟩
  rw [hw4] at hv4
  rw [hw4]
  have k8 : w4.cell? ⟨b1, 0, none⟩ = some (.slice A n c) := (HR1.out.keep (hv4.k.block b1 HR1.out.lt (by omega))).cell 0
  have f8 : w4.frozen? ⟨b1, 0, none⟩ = false := (HR1.out.keep (hv4.k.block b1 HR1.out.lt (by omega))).frozen 0
  clear hw4 k7 f7
  refine hK.out _ _ ((hv4).s HN.out.2.2) (fun hHeld => ?_)
  clear hK K
  try simp only [PT]
  refine rdyL [8] ?_
  refine AllReadyL.late (o := oTn8) rfl (by rfl) (fun K hK => ?_) AllReadyL.nil
  unfold oTn8
  go_simp
  have hf5 := (hv4).fin HLX1.out HS.out HR1.out HM.out.1 HM.out.2.1 HM.out.2.2.1 HM.out.2.2.2 HRD2.out
  obtain ⟨w5, hw5⟩ : ∃ y, w4.setCell ⟨b1, 0, none⟩ (.slice A2 m c2) = y := ⟨_, rfl⟩
  rw [hw5] at hf5
  rw [hw5]
  have hv5 := hf5
  clear hw5 k8 f8
  refine hK.out _ _ ?_
  clear hK K
  try simp only [PT]
  refine wpAnyL_done (by kernel_rfl) ?_ _
  have HF := Lib.hid hv5
  clear hv5
  go_wp2_with fail
  go_ret
  exact ⟨rfl, HF.out⟩
 ·
  skip
  refine AllReadyL.cons (o := oTn5) rfl (fun K hK => ?_) AllReadyL.nil
  unfold oTn5
  go_simp
  obtain ⟨g16, hg16⟩ : ∃ y, wd.heap.size = y := ⟨_, rfl⟩
  have rd16 := Rd.new wd [Value.int .i64 x] 3 1 (size := 1) rfl
  have hv1 := (hv0).alloc (.cells #[Value.int .i64 x] 3)
  obtain ⟨w1, hw1⟩ : ∃ y, wd.alloc (.cells #[Value.int .i64 x] 3) = y := ⟨_, rfl⟩
  rw [show ([Value.int .i64 x] : List Value).toArray = #[Value.int .i64 x] from rfl, hw1, hg16] at rd16
  rw [hw1] at hv1
  rw [hw1, hg16]
  have rd16 : Rd w1 w1.heap.size 1 _ _ _ := rd16.more (by rw [← hw1, alloc_size1, hg16]; exact Nat.le_refl _)
  clear hw1 hg16
  refine hK.out _ _ ((hv1).s HN.out.2.2) (fun hHeld => ?_)
  clear hK K
  try simp only [PT]
  refine rdyL [0] ?_
  refine AllReadyL.cons (o := oTn4) rfl (fun K hK => ?_) AllReadyL.nil
  unfold oTn4
  rw [if_pos (by rfl)]
  have hcc : w1.cell? ⟨b2, 0, none⟩ = some (.slice A0 j c0) := ((hv1).row HR2.out).cell 0
  go_simp
  clear hcc
  refine hK.out _ _ ((hv1).s HN.out.2.2) (fun hHeld => ?_)
  clear hK K
  try simp only [PT]
  refine rdyL [3] ?_
  refine AllReadyL.cons (o := oTn6) rfl (fun K hK => ?_) AllReadyL.nil
  unfold oTn6
  rw [if_pos (by rfl)]
  refine wp_app _ (.tmp 14) (.tmp 16) 29 rfl (b2 + 1) 3 (.int .i64 0) 1 8 intsE A0 j c0 (ivs l) rfl (hv1).own w1.heap.size (some ⟨g16, 0, none⟩) 1 1 [Value.int .i64 x] rfl rd16 (ivs_one [x]) HJ.out.1 HJ.out.2 (hv1).size ?_
  intro A1 c1 w3 own3 gr3 hA3
  rw [HLX.out] at own3
  have hv3 := (hv1).app own3 gr3
  have k7 : w3.cell? ⟨b2, 0, none⟩ = some (.slice A0 j c0) := (hv3.row HR2.out).cell 0
  have f7 : w3.frozen? ⟨b2, 0, none⟩ = false := (hv3.row HR2.out).frozen 0
  clear own3 gr3 hA3 rd16
  refine hK.out _ _ ((hv3).s HN.out.2.2) (fun hHeld => ?_)
  clear hK K
  try simp only [PT]
  refine rdyL [7] ?_
  refine AllReadyL.cons (o := oTn7) rfl (fun K hK => ?_) AllReadyL.nil
  unfold oTn7
  go_simp
  have hv4 := (hv3).store HN.out.2.2 HR2.out
  obtain ⟨w4, hw4⟩ : ∃ y, w3.setCell ⟨b2, 0, none⟩ (.slice A1 (j + 1) c1) = y := ⟨_, rfl⟩
  rw [hw4] at hv4
  rw [hw4]
  have k8 : w4.cell? ⟨b1, 0, none⟩ = some (.slice A n c) := (HR1.out.keep (hv4.k.block b1 HR1.out.lt (by omega))).cell 0
  have f8 : w4.frozen? ⟨b1, 0, none⟩ = false := (HR1.out.keep (hv4.k.block b1 HR1.out.lt (by omega))).frozen 0
  clear hw4 k7 f7
  refine hK.out _ _ ((hv4).s HN.out.2.2) (fun hHeld => ?_)
  clear hK K
  try simp only [PT]
  refine rdyL [8] ?_
  refine AllReadyL.late (o := oTn8) rfl (by rfl) (fun K hK => ?_) AllReadyL.nil
  unfold oTn8
  go_simp
  have hf5 := (hv4).fin HLX1.out HS.out HR1.out HM.out.1 HM.out.2.1 HM.out.2.2.1 HM.out.2.2.2 HRD2.out
  obtain ⟨w5, hw5⟩ : ∃ y, w4.setCell ⟨b1, 0, none⟩ (.slice A2 m c2) = y := ⟨_, rfl⟩
  rw [hw5] at hf5
  rw [hw5]
  have hv5 := hf5
  clear hw5 k8 f8
  refine hK.out _ _ ?_
  clear hK K
  try simp only [PT]
  refine wpAnyL_done (by kernel_rfl) ?_ _
  have HF := Lib.hid hv5
  clear hv5
  go_wp2_with fail
  go_ret
  exact ⟨rfl, HF.out⟩
set_option maxRecDepth 100000 in
set_option maxHeartbeats 1600000 in
theorem numStep_bad (w W : World) (b1 b2 : Nat) (b : List UInt8) (l : List Int) (h : NumS w W b1 b2 b l) (x er : Int) (u : Nat) (hd : Wire.dec b = (x, u, er)) (he : er ≠ 0) :
  Calls Tryd.prog 79 #[.pointer (some ⟨b1, 0, none⟩), .pointer (some ⟨b2, 0, none⟩)] W fun e w' => e = .returned (.bool false) ∧ w' = W := by
 obtain ⟨A, c, r1, hc, hcm, rd⟩ := h.row1
 obtain ⟨n, hn⟩ : ∃ n, b.length = n := ⟨_, rfl⟩
 rw [hn] at r1 hc rd
 have hlb := h.lb
 rw [hn] at hlb
 have HG := Lib.hid (wireGetInt_len A c n b W w.heap.size hn rd (by omega) hc hcm x u er hd)
 have c1 : W.cell? ⟨b1, 0, none⟩ = some (.slice A n c) := r1.cell 0
 have he0 : (er == 0) = false := by rw [beq_eq_false_iff_ne]; exact he
 clear h r1 rd hn hlb hd hc hcm he
 go_enter Tryd.func79, Tryd.ntmps79
 go_wp2_with (go_at_call 80; refine HG.out.mono ?_; rintro e w3 ⟨rfl, rfl⟩)
 go_ret
 exact ⟨rfl, rfl⟩
/-- what numbers gives -/
def NumRes (w : World) (k : Nat) (b : List UInt8) (e : Ending) (w' : World) : Prop :=
 Below w.heap.size w w' ∧ ((Bil.rdN k b = none ∧ e = .returned (.tuple #[.slice none 0 0, .slice none 0 0])) ∨
  ∃ l r A1 c1 A2 c2, Bil.rdN k b = some (l, r) ∧ e = .returned (.tuple #[.slice A1 k c1, .slice A2 r.length c2]) ∧ w'.ownsRow w.heap.size 3 1 (.slice A1 k c1) k (ivs l) ∧ r.length ≤ c2 ∧ c2 ≤ maxLen ∧ Rd w' w.heap.size 1 A2 r.length (bvs r))
set_option maxRecDepth 100000 in
set_option maxHeartbeats 1600000 in
theorem numbers_any (A : Option Addr) (n c : Nat) (b : List UInt8) (hn : b.length = n) (k : Nat) (hk : k ≤ 100) (w : World) (B : Nat) (hB : B ≤ w.heap.size) (rd : Rd w B 1 A n (bvs b)) (hL : n ≤ 1000000) (hc : n ≤ c) (hcm : c ≤ maxLen) :
  Calls Tryd.prog 55 #[.slice A n c, .int .i64 (k : Int)] w (NumRes w k b) := by
 have r1 := IsRow.new w 58 [.slice A n c]
 obtain ⟨w1, hw1⟩ : ∃ x, w.alloc (.cells #[.slice A n c] 58) = x := ⟨_, rfl⟩
 have r2 := IsRow.new w1 29 [.slice none 0 0]
 obtain ⟨w2, hw2⟩ : ∃ x, w1.alloc (.cells #[.slice none 0 0] 29) = x := ⟨_, rfl⟩
 rw [show w.alloc (.cells [.slice A n c].toArray 58) = w1 from hw1] at r1
 rw [show w1.alloc (.cells [.slice none 0 0].toArray 29) = w2 from hw2] at r2
 have hb1 : Below w.heap.size w w1 := by rw [← hw1]; exact (Below.refl _ _).alloc (Nat.le_refl _) _
 have hb2 : Below w1.heap.size w1 w2 := by rw [← hw2]; exact (Below.refl _ _).alloc (Nat.le_refl _) _
 have hs1 : w1.heap.size = w.heap.size + 1 := by rw [← hw1, alloc_size1]
 have hs2 : w2.heap.size = w1.heap.size + 1 := by rw [← hw2, alloc_size1]
 have HW := Lib.hid (And.intro hw1 hw2)
 obtain ⟨b1, hbb1⟩ : ∃ x, w.heap.size = x := ⟨_, rfl⟩
 obtain ⟨b2, hbb2⟩ : ∃ x, w1.heap.size = x := ⟨_, rfl⟩
 have HBB := Lib.hid (And.intro hbb1 (show b1 + 1 = b2 by omega))
 have hst : NumS w w2 b1 b2 b [] := by
  refine ⟨hb1.trans (hb2.mono (by omega)), ⟨A, c, ?_, ?_, hcm, ?_⟩, ⟨none, 0, ?_, World.ownsRow_nil _ _ _ _⟩, by omega, by omega⟩
  ·
   rw [hn]; exact hbb1 ▸ (r1.below' hb2)
  ·
   rw [hn]; exact hc
  ·
   rw [hn]; exact ((rd.more hB).below hb1).below (hb2.mono (by omega))
  ·
   exact hbb2 ▸ r2
 have HST := Lib.hid hst
 have HKK := Lib.hid hk
 clear hst r1 r2 hb1 hb2 hs1 hs2 hw1 hw2 hbb1 hbb2 hn hB rd hL hc hcm hk
 go_enter Tryd.func55, Tryd.ntmps55
 go_upto_region 2 with fail
 rw [show w.alloc (.cells #[.slice A n c] 58) = w1 from HW.out.1]
 rw [show w1.alloc (.cells #[.slice none 0 0] 29) = w2 from HW.out.2, show w.heap.size = b1 from HBB.out.1, show b1 + 1 = b2 from HBB.out.2]
 go_wp2_with fail
 go_loopw [10] (fun u10 wr => ∃ (i : Nat) (l : List Int) (r : List UInt8), i ≤ k ∧ u10 = .int .i64 (i : Int) ∧ Hid (Bil.rdN i b = some (l, r)) ∧ Hid (NumS w wr b1 b2 r l)) (fun u10 _ => k - (intOf u10).toNat)
 case atStart => exact ⟨0, [], b, by omega, rfl, Lib.hid rfl, HST⟩
 case round =>
  obtain ⟨i, l, r, hik, rfl, HR, HS⟩ := hrel
  have HLI : Hid (l.length = i) := Lib.hid (Bil.rdN_len HR.out).1
  have hkk := HKK.out
  by_cases hlt : i < k
  ·
   obtain ⟨x, u, er, hd⟩ : ∃ x u e, Wire.dec r = (x, u, e) := ⟨_, _, _, rfl⟩
   by_cases he : er = 0
   ·
    subst he
    have HC := Lib.hid (numStep_ok w wr b1 b2 r l HS.out (by rw [HLI.out]; have := HKK.out; omega) x u hd)
    have HR2 : Hid (Bil.rdN (i + 1) b = some (l ++ [x], r.drop u)) := Lib.hid (Bil.rdN_ok HR.out hd)
    clear hd
    go_wp2_with (go_at_call 79; refine HC.out.mono ?_; rintro e w3 ⟨rfl, hs3⟩; have HS3 := Lib.hid hs3; clear hs3)
    go_roundw
    case rel => exact ⟨i + 1, _, _, by omega, by go_num, HR2, HS3⟩
    case measure => simp [intOf]; omega
   ·
    have HC := Lib.hid (numStep_bad w wr b1 b2 r l HS.out x er u hd he)
    have HR2 : Hid (Bil.rdN k b = none) := Lib.hid (by
     have h1 := Bil.rdN_none (Bil.rdN_err HR.out hd he) (k - (i + 1))
     rwa [show i + 1 + (k - (i + 1)) = k by omega] at h1)
    clear hd he
    go_wp2_with (go_at_call 79; refine HC.out.mono ?_; rintro e w3 ⟨rfl, hw3⟩; rw [hw3]; clear hw3 w3)
    go_ret2
    exact ⟨HS.out.below, .inl ⟨HR2.out, rfl⟩⟩
  ·
   obtain rfl : i = k := by omega
   obtain ⟨A1, c1, r2, own⟩ := HS.out.row2
   obtain ⟨A2, c2, r1, hc2, hcm2, rd2⟩ := HS.out.row1
   have q1 : wr.cell? ⟨b1, 0, none⟩ = some (.slice A2 r.length c2) := r1.cell 0
   have q2 : wr.cell? ⟨b2, 0, none⟩ = some (.slice A1 l.length c1) := r2.cell 0
   obtain ⟨m, hm⟩ : ∃ m, r.length = m := ⟨_, rfl⟩
   rw [HLI.out] at q2 own
   have HO := Lib.hid (And.intro own (And.intro hc2 (And.intro hcm2 rd2)))
   have HM := Lib.hid hm
   rw [hm] at q1
   clear own hc2 hcm2 rd2 r1 r2 hm
   go_wp2_with fail
   go_quiet (fail)
   go_wp2
   go_ret2
   have hm := HM.out
   subst hm
   exact ⟨below_drewN HS.out.below _, .inr ⟨l, r, A1, c1, A2, c2, HR.out, rfl, own_base (own_drewN HO.out.1 _) (by have := HS.out.o; omega), HO.out.2.1, HO.out.2.2.1, HO.out.2.2.2.drewN _⟩⟩
end Go.Proofs.YtkjomnakolhdcaaDoor
