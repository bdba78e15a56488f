/- The program's decoder: Decode. Conditions: at most 2^40 bytes are read. -/
import Derived.Test.YtcicfneekmbamaaChkSH
namespace Go.Proofs.Ytcicfneekmbamaa
set_option linter.unusedVariables false
set_option linter.unusedSimpArgs false
open Go.RowKit
/-- what lies in memory between two chunks -/
def DSt (w : World) (rb a : Nat) (l : List Chk.Ck) (s : Chk.Rdr) (W : World) : Prop :=
  ∃ F S : Nat → Prop, (∃ t, TAt W F S a t l) ∧ (∀ b, F b ∨ S b → rb < b ∧ b < W.heap.size) ∧ Below w.heap.size w W ∧ RdrAt W 100 rb w.heap.size s ∧ w.heap.size = rb
section
variable {w W W' : World} {rb a : Nat} {l : List Chk.Ck} {s s' : Chk.Rdr}
theorem DSt.b (h : DSt w rb a l s W) : Below w.heap.size w W := by obtain ⟨F, S, _, _, h3, _⟩ := h; exact h3
theorem DSt.rd (h : DSt w rb a l s W) : RdrAt W 100 rb w.heap.size s := by obtain ⟨F, S, _, _, _, h4, _⟩ := h; exact h4
theorem DSt.read (h : DSt w rb a l s W) (hs : RdrAt W' 100 rb w.heap.size s') (hk : Keep (fun q => q = rb) W W') : DSt w rb a l s' W' := by
  obtain ⟨F, S, ⟨t, h1⟩, h2, h3, h4, h5⟩ := h
  refine ⟨F, S, ⟨t, h1.keep hk (fun b hb e => ?_) (fun b hb e => ?_)⟩, fun b e => ⟨(h2 b e).1, Nat.lt_of_lt_of_le (h2 b e).2 hk.size⟩, Below.then_keep h3 hk (fun k e => by omega) (Nat.le_refl _), hs, h5⟩
  · have := (h2 b (.inr hb)).1; omega
  · have := (h2 b (.inl hb)).1; omega
theorem DSt.new (h : DSt w rb a l s W) : TabNew w W a l := by
  obtain ⟨F, S, h1, h2, h3, h4, h5⟩ := h
  exact ⟨F, S, h1, fun b e => ⟨by have := (h2 b e).1; omega, (h2 b e).2⟩, h3⟩
theorem DSt.inv (h : DSt w rb a l s W) : Chk.Inv l := h.new.g.inv
end
theorem own_kbK {w v : World} {S : Nat → Prop} {base size n c : Nat} {A : Option Addr} {e : TypeId} {xs : List Value} (h : w.ownsRow base e size (.slice A n c) n xs) (hk : Keep S w v) (hS : ∀ p, A = some p → ¬ S p.block) : v.ownsRow base e size (.slice A n c) n xs := by
  refine ⟨h.1, ?_⟩
  rcases h.2 with h0 | ⟨g, cap, cur, hv, hg, hh, r⟩
  · exact .inl h0
  · have hA : A = some ⟨g, 0, none⟩ := by injection hv
    exact .inr ⟨g, cap, cur, hv, hg, (hk.block g (Array.getElem?_eq_some_iff.1 hh).1 (hS _ hA)).trans hh, r⟩
/-- what Decode gives -/
def DecRes (w : World) (R : List Chk.Ck ⊕ Int) (e : Ending) (w' : World) : Prop :=
  Below w.heap.size w w' ∧ ((∃ l a, R = .inl l ∧ e = .returned (.tuple #[.pointer (some ⟨a, 0, none⟩), .int .i64 0]) ∧ TabNew w w' a l) ∨ (∃ er, R = .inr er ∧ er ≠ 0 ∧ e = .returned (.tuple #[.pointer none, .int .i64 er])))
theorem decC_len {l : List Chk.Ck} {last : Int} {s s' : Chk.Rdr} {c : Chk.Ck} (h : Chk.decC l last s = (c, s')) (he : s'.e = 0) (h0 : 0 ≤ last) : s'.b.length ≤ s.b.length := by
  obtain ⟨_, _, _, _, hb⟩ := Chk.decC_ok h he h0
  rw [hb, List.length_append]; omega
set_option maxRecDepth 100000 in
set_option maxHeartbeats 6400000 in
theorem pdecode_any (b : List UInt8) (A : Option Addr) (n c : Nat) (hbn : b.length = n) (hL : n ≤ 1099511627776) (hc : n ≤ c) (hcm : c ≤ maxLen) (w : World) (rd : Rd w w.heap.size 1 A n (bvs b)) :
    Calls Try.prog 37 #[.slice A n c] w (DecRes w (Chk.decT b)) := by
  obtain ⟨x, s1, h1⟩ : ∃ x y, Chk.num ⟨b, 0⟩ 0 65536 = (x, y) := ⟨_, _, rfl⟩
  obtain ⟨L, s2, h2⟩ : ∃ y z, Chk.decN x.toNat [] 0 s1 = (y, z) := ⟨_, _, rfl⟩
  have HDT := Lib.hid (Chk.decT_eq h1 h2)
  obtain ⟨N, hN⟩ : ∃ N : Nat, x.toNat = N := ⟨_, rfl⟩
  have hxr := num_range h1
  have hxN : x = (N : Int) := by omega
  subst hxN
  have hN6 : N ≤ 65536 := by omega
  rw [Int.toNat_natCast] at h2
  have HD2 := Lib.hid h2
  have HL1 : Hid (s1.b.length ≤ 1099511627776) := Lib.hid (by have := num_len h1; have h3 : s1.b.length ≤ b.length := this; omega)
  obtain ⟨w1, hw1⟩ : ∃ z, w.alloc (.cells #[.slice A n c, .int .i64 0] 100) = z := ⟨_, rfl⟩
  have hb1 : Below w.heap.size w w1 := by rw [← hw1]; exact (Below.refl _ _).alloc (Nat.le_refl _) _
  have hrw : IsRow w1 w.heap.size 100 [.slice A n c, .int .i64 0] := by rw [← hw1]; exact IsRow.new w _ [.slice A n c, .int .i64 0]
  have hs1 : w1.heap.size = w.heap.size + 1 := by rw [← hw1]; simp
  have hrd1 : RdrAt w1 100 w.heap.size w.heap.size ⟨b, 0⟩ := ⟨A, n, c, hrw, hbn, hc, hcm, rd.below hb1, Nat.le_refl _⟩
  obtain ⟨rb, hrb⟩ : ∃ y, w.heap.size = y := ⟨_, rfl⟩
  have HW1 := Lib.hid hw1
  have HNEW := Lib.hid (new_new w1)
  have HN1 := Lib.hid (fun W h => number_any w.heap.size w.heap.size ⟨b, 0⟩ 0 65536 (by show b.length ≤ _; omega) (N : Int) s1 h1 W h)
  have H1 := Lib.hid (And.intro hb1 (And.intro hs1 (And.intro hrd1 hrb)))
  clear hw1 hb1 hrw hs1 hrd1 rd hxr hN h1 h2 hcm hc hL hbn
  go_enter Try.func37, Try.ntmps37
  go_upto_region 2 with fail
  rw [HW1.out]
  go_upto_region 3 with (go_at_call 27; refine HNEW.out.mono ?_; rintro e' w2 ⟨a, rfl, htab⟩)
  have hst : DSt w rb a [] ⟨b, 0⟩ w2 := by
    obtain ⟨hb1, hs1, hrd1, hrb⟩ := H1.out
    obtain ⟨F, S, h1, h2, h3⟩ := htab
    exact ⟨F, S, h1, fun b e => ⟨by have := (h2 b e).1; omega, (h2 b e).2⟩, hb1.trans (h3.mono hb1.size), by rw [← hrb]; exact hrd1.below h3, hrb⟩
  have HS2 := Lib.hid hst
  have hrb := H1.out.2.2.2
  rw [hrb] at HN1
  try rw [hrb]
  clear htab hst
  go_upto_region 5 with (go_at_call 61; refine (HN1.out w2 (hrb ▸ HS2.out.rd)).mono ?_; rintro e' w3 ⟨rfl, hs3, hk3⟩)
  have HS3 := Lib.hid (HS2.out.read (s' := s1) (hrb.symm ▸ hs3) hk3)
  have HRB := Lib.hid hrb
  clear hs3 hk3 hrb H1 HNEW HN1 HS2
  go_loopw [6, 14] (fun u6 u14 wx => ∃ (wr : World) (j : Nat) (l : List Chk.Ck) (last : Int) (s : Chk.Rdr), wr = wx ∧ j ≤ N ∧ u14 = .int .i64 (j : Int) ∧ u6 = .int .i64 last ∧ Hid (DSt w rb a l s wr) ∧ Hid (Chk.decN (N - j) l last s = (L, s2)) ∧ Hid (0 ≤ last ∧ last ≤ 65536 ∧ (∀ x ∈ l, x.id ≤ last) ∧ s.b.length ≤ 1099511627776)) (fun _ u14 _ => N - (intOf u14).toNat)
  case atStart => exact ⟨_, 0, [], 0, s1, rfl, Nat.zero_le _, rfl, rfl, HS3, Lib.hid HD2.out, Lib.hid ⟨by omega, by omega, by simp, HL1.out⟩⟩
  case round =>
    obtain ⟨wr, j, l, last, s, rfl, hj, rfl, rfl, HSJ, HDJ, HLJ⟩ := hrel
    by_cases hlt : j < N
    · obtain ⟨ck, sa, hca⟩ : ∃ x y, Chk.decC l last s = (x, y) := ⟨_, _, rfl⟩
      have HCA := Lib.hid hca
      obtain ⟨F, S, ⟨t, ht⟩, hbd, hbl, hrdr, hrb⟩ := HSJ.out
      have hrS : ¬ S rb := fun e => by have := (hbd rb (.inr e)).1; omega
      have hrF : ¬ F rb := fun e => by have := (hbd rb (.inl e)).1; omega
      have HCH := Lib.hid (chunk_any rb w.heap.size t.m s HLJ.out.2.2.2 last HLJ.out.1 HLJ.out.2.1 l ck sa hca wr hrdr ⟨_, ht.map⟩ (fun e => hrS (e ▸ ht.sm)) (by have := (hbd _ (.inr ht.sm)).1; omega))
      have HTB := Lib.hid (And.intro ht (And.intro hbd (And.intro hbl (And.intro hrS (And.intro hrF hrb)))))
      have c1 := ht.cells.2
      have e2 : (j : Int) < (N : Int) := by omega
      obtain ⟨tm, htm⟩ : ∃ y, t.m = y := ⟨_, rfl⟩
      rw [htm] at c1 HCH
      have HTM := Lib.hid htm
      have HDG : Hid (ck.dg.length = 16) := Lib.hid (by
        obtain ⟨x1, q1, h1⟩ : ∃ x y, Chk.num s (last + 1) 65536 = (x, y) := ⟨_, _, rfl⟩
        obtain ⟨dg, q2, h2⟩ : ∃ x y, Chk.dgs q1 = (x, y) := ⟨_, _, rfl⟩
        have h3 : (Chk.decC l last s).1.dg = dg := by unfold Chk.decC; simp only [h1, h2]
        rw [hca] at h3
        rw [show ck.dg = dg from h3]; exact dgs_16 h2)
      clear hca ht hbd hbl hrdr hrb hrS hrF htm
      go_upto_region 7 with (first
        | (refine wpList_storeRow rfl _ (.tmp 7) (.tmp 22) rfl (l' := cs) rz5 rfl rfl (by rw [HL5.out.1]; exact sizeCk) (by rw [HL5.out.1]; rfl) (List.all_eq_true.2 HL5.out.2) ?_; intro w6 rz6 g6 z6)
        | (refine wpList_allocRow rfl _ rfl _ infoCk' ?_; intro w5 rz5 b5 z5)
        | (go_at_call 62; refine HCH.out.mono ?_; rintro e' w4 ⟨A4, k4, rfl, own4, rd4, kp4, S4, hS4, hm4⟩; have HC4 := Lib.hid (And.intro own4 (And.intro rd4 (And.intro kp4 (And.intro hS4 hm4)))); have HL5 := Lib.hid (And.intro (ckCells_len HDG.out (.slice A4 ck.refs.length k4)) (ckCells_one ck (.slice A4 ck.refs.length k4) rfl)); obtain ⟨cs, hcs⟩ : ∃ y, ckCells ck (.slice A4 ck.refs.length k4) = y := ⟨_, rfl⟩; rw [hcs] at HL5 ⊢; have HCS := Lib.hid hcs; clear hcs own4 rd4 kp4 hS4 hm4))
      obtain ⟨b7, hb7⟩ : ∃ y, w4.heap.size = y := ⟨_, rfl⟩
      have hb46 : Below w4.heap.size w4 w6 := b5.grown g6 b5.size (fun i hi => by have := Option.some.inj hi; omega)
      rw [hb7] at rz6
      try rw [hb7]
      have HB46 := Lib.hid (And.intro hb46 hb7)
      have HR6 := Lib.hid rz6
      have HE6 := Lib.hid (HC4.out.2.1.below hb46).cellE
      have c1 := HE6.out
      clear rz5 b5 z5 rz6 g6 z6 hb46 hb7
      obtain ⟨er, her⟩ : ∃ y, sa.e = y := ⟨_, rfl⟩
      rw [her] at c1
      have HER := Lib.hid her
      clear her
      by_cases he : er = 0
      · subst he
        have hok := Chk.decC_ok HCA.out HER.out HLJ.out.1
        obtain ⟨_, hck, hid, hun, hbe⟩ := hok
        have hinv := HSJ.out.inv.snoc HLJ.out.2.2.1 hid hck hun
        have HDJ2 : Hid (Chk.decN (N - (j + 1)) (l ++ [ck]) ck.id sa = (L, s2)) := Lib.hid (by
          have h0 := HDJ.out
          rw [show N - j = (N - (j + 1)) + 1 by omega] at h0
          have h1 : Chk.decN (N - (j + 1) + 1) l last s = if (Chk.decC l last s).2.e ≠ 0 then (l, (Chk.decC l last s).2) else Chk.decN (N - (j + 1)) (l ++ [(Chk.decC l last s).1]) (Chk.decC l last s).1.id (Chk.decC l last s).2 := rfl
          rw [h1, HCA.out] at h0
          simp only [HER.out, ne_eq, not_true_eq_false, if_false] at h0
          exact h0)
        have HLJ2 : Hid (0 ≤ ck.id ∧ ck.id ≤ 65536 ∧ (∀ x ∈ l ++ [ck], x.id ≤ ck.id) ∧ sa.b.length ≤ 1099511627776) := Lib.hid ⟨by have := hck.id1; omega, hck.id2, fun x hx => (by
          rcases List.mem_append.1 hx with hx | hx
          · have := HLJ.out.2.2.1 x hx; omega
          · rw [List.mem_singleton] at hx; subst hx; exact Int.le_refl _), by have := decC_len HCA.out HER.out HLJ.out.1; have := HLJ.out.2.2.2; omega⟩
        have HM6 : Hid (∃ N', MapIs w4 tm unV (unM (l ++ [ck])) N') := Lib.hid (by
          obtain ⟨N', hN'⟩ := HC4.out.2.2.2.2
          rw [unM_snoc (HC4.out.2.2.2.1 HER.out) hun] at hN'
          exact ⟨N', hN'⟩)
        have HINV := Lib.hid hinv
        have hn6 : t.n ≤ 65536 := HTB.out.1.max
        have HK6 : Hid (Keep (fun q => q = rb ∨ q = tm) wr w6) := Lib.hid (HC4.out.2.2.1.trans (Keep.of_below HB46.out.1))
        have HSA : Hid (S a ∧ rb ≠ a ∧ a ≠ tm ∧ a < wr.heap.size) := Lib.hid ⟨HTB.out.1.sa, fun e => HTB.out.2.2.2.1 (e ▸ HTB.out.1.sa), by rw [← HTM.out]; exact HTB.out.1.am, HTB.out.1.row.lt⟩
        have HRA : Hid (IsRow w6 a 90 [.slice t.A t.n t.c, .map (some t.m)]) := Lib.hid (HTB.out.1.row.keep (HK6.out.block a HSA.out.2.2.2 (fun e => e.elim (fun e => HSA.out.2.1 e.symm) HSA.out.2.2.1)))
        have HOW : Hid (w6.ownsRow 0 45 23 (.slice t.A t.n t.c) t.n (crs t.D)) := Lib.hid (by
          refine own_kbK HTB.out.1.own HK6.out fun p hp e => ?_
          rcases e with e | e
          · exact HTB.out.2.2.2.1 (e ▸ HTB.out.1.sg p hp)
          · rw [← HTM.out] at e; exact (HTB.out.1.ag p hp).2 e)
        have HAL : Hid (∀ p, t.A = some p → p.block < wr.heap.size ∧ p.block ≠ a) := Lib.hid (fun p hp => ⟨(HTB.out.2.1 _ (.inr (HTB.out.1.sg p hp))).2, (HTB.out.1.ag p hp).1⟩)
        have HID0 : Hid (cs[0]? = some (.int .i64 ck.id)) := Lib.hid (by rw [← HCS.out]; rfl)
        have HSZ : Hid (wr.heap.size ≤ b7 ∧ b7 < w6.heap.size) := Lib.hid ⟨by rw [← HB46.out.2]; exact HC4.out.2.2.1.size, HR6.out.lt⟩
        clear hck hid hun hbe hinv HE6
        go_upto_region 9 with fail
        clear c1
        have HBZ : Hid (Below w6.heap.size w6 w6.drew) := Lib.hid (Below.refl w6.heap.size w6).drew
        have hv0 : Keep (fun q => (∃ p, t.A = some p ∧ q = p.block) ∨ q = a) w6 w6.drew := Keep.of_below (Below.refl _ _).drew
        refine wp_region_held_drew (S := fun W => Keep (fun q => (∃ p, t.A = some p ∧ q = p.block) ∨ q = a) w6 W) (by kernel_rfl) (hv0) (fun hHeld => ?_)
        refine wpAnyH_take (i := 0) (oi := { dst := some 32, op := Op.move (Operand.tmp 5), type := 27, pos := "code.go:104", after := #[], guard := none }) (v := ?v0_1) rfl (by kernel_rfl) (by kernel_rfl) (by kernel_rfl) (fun _ _ _ h => h) (Or.inl ⟨by rfl, ?h0_1⟩) (by assumption) ?r0_1
        case h0_1 =>
          intro W hSW
          try dsimp only at hSW
          go_simp
          try with_reducible rfl
        try simp only [Act.put, List.setIfInBounds_toArray, List.set_cons_zero, List.set_cons_succ]
        refine wpAnyH_take (i := 1) (oi := { dst := some 33, op := Op.move (Operand.tmp 5), type := 27, pos := "code.go:104", after := #[], guard := none }) (v := ?v1_2) rfl (by kernel_rfl) (by kernel_rfl) (by kernel_rfl) (fun _ _ _ h => h) (Or.inl ⟨by rfl, ?h1_2⟩) (by assumption) ?r1_2
        case h1_2 =>
          intro W hSW
          try dsimp only at hSW
          go_simp
          try with_reducible rfl
        try simp only [Act.put, List.setIfInBounds_toArray, List.set_cons_zero, List.set_cons_succ]
        refine wpAnyH_take (i := 2) (oi := { dst := some 34, op := Op.nilCheck (Operand.tmp 33), type := 0, pos := "code.go:104", after := #[{ on := 1, ground := Ground.data }], guard := none }) (v := ?v2_3) rfl (by kernel_rfl) (by kernel_rfl) (by kernel_rfl) (fun _ _ _ h => h) (Or.inl ⟨by rfl, ?h2_3⟩) (by assumption) ?r2_3
        case h2_3 =>
          intro W hSW
          try dsimp only at hSW
          go_simp
          try with_reducible rfl
        try simp only [Act.put, List.setIfInBounds_toArray, List.set_cons_zero, List.set_cons_succ]
        refine wpAnyH_take (i := 3) (oi := { dst := some 35, op := Op.fieldAddr 90 (Operand.tmp 34) 0, type := 0, pos := "code.go:104", after := #[{ on := 2, ground := Ground.data }], guard := none }) (v := ?v3_4) rfl (by kernel_rfl) (by kernel_rfl) (by kernel_rfl) (fun _ _ _ h => h) (Or.inl ⟨by rfl, ?h3_4⟩) (by assumption) ?r3_4
        case h3_4 =>
          intro W hSW
          try dsimp only at hSW
          go_simp
          try with_reducible rfl
        try simp only [Act.put, List.setIfInBounds_toArray, List.set_cons_zero, List.set_cons_succ]
        refine wpAnyH_take (i := 5) (oi := { dst := some 37, op := Op.load 45 (Operand.tmp 7), type := 45, pos := "code.go:104", after := #[], guard := none }) (v := (.agg cs.toArray)) rfl (by kernel_rfl) (by kernel_rfl) (by kernel_rfl) (fun _ _ _ h => h) (yieldsIf_load_mid (by rfl) 45 (.tmp 7) rfl b7 0 rfl cs _ (fun W hW q v hv => by rw [Nat.zero_add]; exact (hW.cell (p := ⟨b7, q, none⟩) HR6.out.lt (fun e => by have h2 := HSZ.out.1; have h3 := HSA.out.2.2.2; rcases e with ⟨p, hp, e⟩ | e; (have h1 := (HAL.out p hp).1; dsimp only at e; omega); (dsimp only at e; omega))).trans ((HR6.out.cell q).trans hv)) Try.underlying45 rfl (by rw [HL5.out.1]; exact sizeCk)) (by assumption) ?_
        try simp only [Act.put, List.setIfInBounds_toArray, List.set_cons_zero, List.set_cons_succ]
        refine wpAnyH_take (i := 8) (oi := { dst := some 40, op := Op.fieldAddr 45 (Operand.tmp 7) 0, type := 0, pos := "code.go:104", after := #[{ on := 12, ground := Ground.gcOnly Departure.lateStores }], guard := none }) (v := ?v8_6) rfl (by kernel_rfl) (by kernel_rfl) (by kernel_rfl) (fun _ _ _ h => h) (Or.inl ⟨by rfl, ?h8_6⟩) (by assumption) ?r8_6
        case h8_6 =>
          intro W hSW
          try dsimp only at hSW
          go_simp
          try with_reducible rfl
        try simp only [Act.put, List.setIfInBounds_toArray, List.set_cons_zero, List.set_cons_succ]
        refine wpAnyH_take (i := 9) (oi := { dst := some 41, op := Op.load 3 (Operand.tmp 40), type := 3, pos := "code.go:104", after := #[{ on := 8, ground := Ground.data }, { on := 12, ground := Ground.gcOnly Departure.lateStores }], guard := none }) (v := ?v9_7) rfl (by kernel_rfl) (by kernel_rfl) (by kernel_rfl) (fun _ _ _ h => h) (Or.inl ⟨by rfl, ?h9_7⟩) (by assumption) ?r9_7
        case h9_7 =>
          intro W hSW
          try dsimp only at hSW
          have c7 := (hSW.cell (p := ⟨b7, 0, none⟩) HR6.out.lt (fun e => by have h2 := HSZ.out.1; have h3 := HSA.out.2.2.2; rcases e with ⟨p, hp, e⟩ | e; (have h1 := (HAL.out p hp).1; dsimp only at e; omega); (dsimp only at e; omega))).trans ((HR6.out.cell 0).trans HID0.out)
          go_simp
          try with_reducible rfl
        try simp only [Act.put, List.setIfInBounds_toArray, List.set_cons_zero, List.set_cons_succ]
        refine wpAnyH_ready (rs := [4, 6]) (by kernel_rfl) (by simp) ?_
        refine AllReadyH.cons (o := { dst := some 36, op := Op.load 32 (Operand.tmp 35), type := 32, pos := "code.go:104", after := #[{ on := 3, ground := Ground.data }], guard := none }) rfl (fun K hK => ?_) ?_
        · skip
          rw [if_pos (by rfl)]
          have c0 : w6.drew.cell? ⟨a, 0, none⟩ = some (.slice t.A t.n t.c) := (HBZ.out.cell (p := ⟨a, 0, none⟩) HRA.out.lt).trans (HRA.out.cell 0)
          go_simp
          clear c0
          refine hK.out _ _ (hv0) (fun hHeld => ?_)
          clear hK K
          try simp only [Act.put, List.setIfInBounds_toArray, List.set_cons_zero, List.set_cons_succ]
          refine wpAnyH_ready (rs := [6]) (by kernel_rfl) (by simp) ?_
          refine AllReadyH.cons (o := { dst := some 38, op := Op.buildSlice 32 1 #[(0, Operand.tmp 37)], type := 32, pos := "code.go:104", after := #[{ on := 5, ground := Ground.data }], guard := none }) rfl (fun K hK => ?_) AllReadyH.nil
          rw [if_pos (by rfl)]
          refine wp_build23 (.tmp 37) rfl cs HL5.out.1 rfl ?_
          obtain ⟨vb, hvb⟩ : ∃ q, w6.drew.heap.size = q := ⟨_, rfl⟩
          have rv := IsRow.new w6.drew 45 cs
          have hbw : Below w6.drew.heap.size w6.drew (w6.drew.alloc (.cells cs.toArray 45)) := (Below.refl _ _).alloc (Nat.le_refl _) _
          obtain ⟨w81, hw81⟩ : ∃ q, w6.drew.alloc (.cells cs.toArray 45) = q := ⟨_, rfl⟩
          rw [hw81, hvb] at rv
          rw [hw81] at hbw
          rw [hw81, hvb]
          have hv81 : Keep (fun q => (∃ p, t.A = some p ∧ q = p.block) ∨ q = a) w6 w81 := (hv0).trans (Keep.of_below hbw)
          have HBZ := Lib.hid (HBZ.out.trans (hbw.mono HBZ.out.size))
          have HOc := Lib.hid (own_below HOW.out HBZ.out)
          have HRV := Lib.hid rv
          have HBc := HBZ
          obtain ⟨WBC, hWBC⟩ : ∃ x, x = w81 := ⟨_, rfl⟩
          have HWBC := Lib.hid hWBC
          clear hWBC
          clear hw81 hvb hbw rv
          refine hK.out _ _ (hv81) (fun hHeld => ?_)
          clear hK K
          try simp only [Act.put, List.setIfInBounds_toArray, List.set_cons_zero, List.set_cons_succ]
          refine wpAnyH_ready (rs := [7]) (by kernel_rfl) (by simp) ?_
          refine AllReadyH.cons (o := { dst := some 39, op := Op.call { callee := Callee.builtin Builtin.append, args := #[Operand.tmp 36, Operand.tmp 38], argTypes := #[32, 32] }, type := 32, pos := "code.go:104", after := #[{ on := 4, ground := Ground.data }, { on := 6, ground := Ground.data }], guard := none }) rfl (fun K hK => ?_) AllReadyH.nil
          rw [if_pos (by rfl)]
          have hrv := HRV.out.rd (B := w81.heap.size) (n := 1) (size := 23) (by rw [HL5.out.1]) HRV.out.lt
          refine wp_app _ (.tmp 36) (.tmp 38) 32 rfl 0 45 _ 23 88 chunkT t.A t.n t.c (crs t.D) rfl HOc.out w81.heap.size (some ⟨vb, 0, none⟩) 1 1 cs rfl hrv HL5.out.2 (by omega) (by unfold maxLen; omega) (Nat.zero_le _) ?_
          intro A3 c3 w82 own3 g3 hA3
          have hv82 : Keep (fun q => (∃ p, t.A = some p ∧ q = p.block) ∨ q = a) w6 w82 := (hv81).grown g3 (fun i hi => .inl (.inl (ownB_any hi)))
          have hkg : Keep (fun q => ∃ p, t.A = some p ∧ q = p.block) w81 w82 := Keep.of_grown g3 fun k e => ownB_any e
          have hra := (HRA.out.below' HBc.out).keep (hkg.block a (Nat.lt_of_lt_of_le HRA.out.lt HBc.out.size) (fun ⟨p, hp, e⟩ => (HAL.out p hp).2 e.symm))
          have ka := hra.cell 0
          have fa := hra.frozen 0
          have HOd := Lib.hid (And.intro own3 (And.intro g3 hA3))
          obtain ⟨WAP, hWAP⟩ : ∃ x, x = w82 := ⟨_, rfl⟩
          have HWAP := Lib.hid hWAP
          clear hWAP
          clear own3 g3 hA3 hrv hra hkg
          refine hK.out _ _ (hv82) (fun hHeld => ?_)
          clear hK K
          try simp only [Act.put, List.setIfInBounds_toArray, List.set_cons_zero, List.set_cons_succ]
          refine wpAnyH_take (i := 10) (oi := { dst := some 42, op := Op.nilCheck (Operand.tmp 32), type := 0, pos := "code.go:104", after := #[{ on := 0, ground := Ground.data }, { on := 0, ground := Ground.phase }, { on := 1, ground := Ground.phase }, { on := 2, ground := Ground.phase }, { on := 3, ground := Ground.phase }, { on := 4, ground := Ground.phase }, { on := 5, ground := Ground.phase }, { on := 6, ground := Ground.phase }, { on := 7, ground := Ground.phase }, { on := 8, ground := Ground.textOnly Departure.lateStores }, { on := 9, ground := Ground.textOnly Departure.lateStores }], guard := none }) (v := ?v10_8) rfl (by kernel_rfl) (by kernel_rfl) (by kernel_rfl) (fun _ _ _ h => h) (Or.inl ⟨by rfl, ?h10_8⟩) (by assumption) ?r10_8
          case h10_8 =>
            intro W hSW
            try dsimp only at hSW
            go_simp
            try with_reducible rfl
          try simp only [Act.put, List.setIfInBounds_toArray, List.set_cons_zero, List.set_cons_succ]
          refine wpAnyH_take (i := 11) (oi := { dst := some 43, op := Op.fieldAddr 90 (Operand.tmp 42) 0, type := 0, pos := "code.go:104", after := #[{ on := 10, ground := Ground.data }, { on := 0, ground := Ground.phase }, { on := 1, ground := Ground.phase }, { on := 2, ground := Ground.phase }, { on := 3, ground := Ground.phase }, { on := 4, ground := Ground.phase }, { on := 5, ground := Ground.phase }, { on := 6, ground := Ground.phase }, { on := 7, ground := Ground.phase }, { on := 8, ground := Ground.textOnly Departure.lateStores }, { on := 9, ground := Ground.textOnly Departure.lateStores }], guard := none }) (v := ?v11_9) rfl (by kernel_rfl) (by kernel_rfl) (by kernel_rfl) (fun _ _ _ h => h) (Or.inl ⟨by rfl, ?h11_9⟩) (by assumption) ?r11_9
          case h11_9 =>
            intro W hSW
            try dsimp only at hSW
            go_simp
            try with_reducible rfl
          try simp only [Act.put, List.setIfInBounds_toArray, List.set_cons_zero, List.set_cons_succ]
          refine wpAnyH_ready (rs := [12]) (by kernel_rfl) (by simp) ?_
          refine AllReadyH.cons (o := { dst := none, op := Op.store 32 (Operand.tmp 43) (Operand.tmp 39), type := 0, pos := "code.go:104", after := #[{ on := 11, ground := Ground.data }, { on := 7, ground := Ground.data }, { on := 7, ground := Ground.chain }, { on := 0, ground := Ground.phase }, { on := 1, ground := Ground.phase }, { on := 2, ground := Ground.phase }, { on := 3, ground := Ground.phase }, { on := 4, ground := Ground.phase }, { on := 5, ground := Ground.phase }, { on := 6, ground := Ground.phase }, { on := 7, ground := Ground.phase }, { on := 8, ground := Ground.textOnly Departure.lateStores }, { on := 9, ground := Ground.textOnly Departure.lateStores }], guard := none }) rfl (fun K hK => ?_) AllReadyH.nil
          go_simp
          have hks : Keep (fun q => (∃ p, t.A = some p ∧ q = p.block) ∨ q = a) w6 (w82.setCell ⟨a, 0, none⟩ (.slice A3 (t.n + 1) c3)) := (hv82).trans ((setE_keep w82 a 0 _).mono fun _ _ e => .inr e)
          obtain ⟨w83, hw83⟩ : ∃ q, w82.setCell ⟨a, 0, none⟩ (.slice A3 (t.n + 1) c3) = q := ⟨_, rfl⟩
          have HW9 := Lib.hid hw83
          rw [hw83] at hks
          rw [hw83]
          have hv83 := hks
          clear ka fa hw83 hks
          refine hK.out _ _ (hv83) (fun hHeld => ?_)
          clear hK K
          try simp only [Act.put, List.setIfInBounds_toArray, List.set_cons_zero, List.set_cons_succ]
          refine wpAnyH_take (i := 13) (oi := { dst := some 6, op := Op.assign (Operand.tmp 41), type := 3, pos := "code.go:104", after := #[{ on := 9, ground := Ground.data }, { on := 12, ground := Ground.chain }, { on := 0, ground := Ground.phase }, { on := 1, ground := Ground.phase }, { on := 2, ground := Ground.phase }, { on := 3, ground := Ground.phase }, { on := 4, ground := Ground.phase }, { on := 5, ground := Ground.phase }, { on := 6, ground := Ground.phase }, { on := 7, ground := Ground.phase }, { on := 8, ground := Ground.phase }, { on := 9, ground := Ground.phase }, { on := 10, ground := Ground.phase }, { on := 11, ground := Ground.phase }, { on := 12, ground := Ground.phase }], guard := none }) (v := ?v13_10) rfl (by kernel_rfl) (by kernel_rfl) (by kernel_rfl) (fun _ _ _ h => h) (Or.inl ⟨by rfl, ?h13_10⟩) (by assumption) ?r13_10
          case h13_10 =>
            intro W hSW
            try dsimp only at hSW
            go_simp
            try with_reducible rfl
          try simp only [Act.put, List.setIfInBounds_toArray, List.set_cons_zero, List.set_cons_succ]
          refine wpAnyH_done (by kernel_rfl) ?_ _
          have hfin : DSt w rb a (l ++ [ck]) sa w83 := by
            obtain ⟨N', hN'⟩ := HM6.out
            obtain ⟨ht, hbd, hbl, hrS, hrF, hrb⟩ := HTB.out
            obtain ⟨own3, g3, hA3⟩ := HOd.out
            have hBc := HBc.out
            have hW9 := HW9.out
            have e1 := HWBC.out
            have e2 := HWAP.out
            rw [← e1] at g3 hA3 hBc
            rw [← e2] at own3 g3 hW9
            have h46 : Below w4.heap.size w4 w6 := HB46.out.1
            have h4c : Below w4.heap.size w4 WBC := h46.trans (hBc.mono h46.size)
            have hk := (HC4.out.2.2.1).trans (Keep.of_below h4c)
            rw [← HTM.out] at hk hN'
            rw [← HCS.out] at own3
            have hfin := ht.snoc (fun b e => (hbd b e).2) hrS hrF hk (own_below HC4.out.1 h4c) (hN'.below h4c hN'.lt) own3 g3 hA3 HINV.out
            rw [hW9] at hfin
            obtain ⟨F', S', h1, h2, h3, h4, h5⟩ := hfin
            have hs := hk.size
            have hrlt := HC4.out.2.1.lt
            refine ⟨F', S', h1, fun b e => ⟨?_, h3 b e⟩, Below.then_keep hbl h2 (fun k e => ?_) (Nat.le_refl _), ?_, hrb⟩
            · rcases e with e | e
              · rcases h5 b e with h | h
                · exact (hbd b (.inl h)).1
                · have := HSJ.out.rd.lt; omega
              · rcases h4 b e with h | h
                · exact (hbd b (.inr h)).1
                · have := HSJ.out.rd.lt; omega
            · rcases e with e | e
              · have := (hbd k (.inr e)).1; omega
              · omega
            · have hr6 := HC4.out.2.1.below h4c
              have hkg : Keep (fun q => ∃ p, t.A = some p ∧ q = p.block) WBC WAP := Keep.of_grown g3 fun k e => ownB_any e
              have hr8 := hr6.keep hkg (fun ⟨p, hp, e⟩ => hrS (e ▸ ht.sg p hp)) (fun k hk ⟨p, hp, e⟩ => by have := (hbd _ (.inr (ht.sg p hp))).1; omega)
              have hr9 := hr8.keep (setE_keep WAP a 0 (.slice A3 (t.n + 1) c3)) (fun e => HSA.out.2.1 e) (fun k hk e => by have := (hbd _ (.inr ht.sa)).1; omega)
              rw [hW9] at hr9
              exact hr9
          have HFIN := Lib.hid hfin
          clear hfin
          go_wp2_with fail
          go_roundw
          case rel => exact ⟨_, j + 1, l ++ [ck], ck.id, sa, rfl, by omega, by go_num, rfl, HFIN, HDJ2, HLJ2⟩
          case measure => simp [intOf]; omega
        · skip
          refine AllReadyH.cons (o := { dst := some 38, op := Op.buildSlice 32 1 #[(0, Operand.tmp 37)], type := 32, pos := "code.go:104", after := #[{ on := 5, ground := Ground.data }], guard := none }) rfl (fun K hK => ?_) AllReadyH.nil
          rw [if_pos (by rfl)]
          refine wp_build23 (.tmp 37) rfl cs HL5.out.1 rfl ?_
          obtain ⟨vb, hvb⟩ : ∃ q, w6.drew.heap.size = q := ⟨_, rfl⟩
          have rv := IsRow.new w6.drew 45 cs
          have hbw : Below w6.drew.heap.size w6.drew (w6.drew.alloc (.cells cs.toArray 45)) := (Below.refl _ _).alloc (Nat.le_refl _) _
          obtain ⟨w80, hw80⟩ : ∃ q, w6.drew.alloc (.cells cs.toArray 45) = q := ⟨_, rfl⟩
          rw [hw80, hvb] at rv
          rw [hw80] at hbw
          rw [hw80, hvb]
          have hv80 : Keep (fun q => (∃ p, t.A = some p ∧ q = p.block) ∨ q = a) w6 w80 := (hv0).trans (Keep.of_below hbw)
          have HBZ := Lib.hid (HBZ.out.trans (hbw.mono HBZ.out.size))
          have HOc := Lib.hid (own_below HOW.out HBZ.out)
          have HRV := Lib.hid rv
          have HBc := HBZ
          obtain ⟨WBC, hWBC⟩ : ∃ x, x = w80 := ⟨_, rfl⟩
          have HWBC := Lib.hid hWBC
          clear hWBC
          clear hw80 hvb hbw rv
          refine hK.out _ _ (hv80) (fun hHeld => ?_)
          clear hK K
          try simp only [Act.put, List.setIfInBounds_toArray, List.set_cons_zero, List.set_cons_succ]
          refine wpAnyH_ready (rs := [4]) (by kernel_rfl) (by simp) ?_
          refine AllReadyH.cons (o := { dst := some 36, op := Op.load 32 (Operand.tmp 35), type := 32, pos := "code.go:104", after := #[{ on := 3, ground := Ground.data }], guard := none }) rfl (fun K hK => ?_) AllReadyH.nil
          rw [if_pos (by rfl)]
          have c0 : w80.cell? ⟨a, 0, none⟩ = some (.slice t.A t.n t.c) := (HBZ.out.cell (p := ⟨a, 0, none⟩) HRA.out.lt).trans (HRA.out.cell 0)
          go_simp
          clear c0
          refine hK.out _ _ (hv80) (fun hHeld => ?_)
          clear hK K
          try simp only [Act.put, List.setIfInBounds_toArray, List.set_cons_zero, List.set_cons_succ]
          refine wpAnyH_ready (rs := [7]) (by kernel_rfl) (by simp) ?_
          refine AllReadyH.cons (o := { dst := some 39, op := Op.call { callee := Callee.builtin Builtin.append, args := #[Operand.tmp 36, Operand.tmp 38], argTypes := #[32, 32] }, type := 32, pos := "code.go:104", after := #[{ on := 4, ground := Ground.data }, { on := 6, ground := Ground.data }], guard := none }) rfl (fun K hK => ?_) AllReadyH.nil
          rw [if_pos (by rfl)]
          have hrv := HRV.out.rd (B := w80.heap.size) (n := 1) (size := 23) (by rw [HL5.out.1]) HRV.out.lt
          refine wp_app _ (.tmp 36) (.tmp 38) 32 rfl 0 45 _ 23 88 chunkT t.A t.n t.c (crs t.D) rfl HOc.out w80.heap.size (some ⟨vb, 0, none⟩) 1 1 cs rfl hrv HL5.out.2 (by omega) (by unfold maxLen; omega) (Nat.zero_le _) ?_
          intro A3 c3 w82 own3 g3 hA3
          have hv82 : Keep (fun q => (∃ p, t.A = some p ∧ q = p.block) ∨ q = a) w6 w82 := (hv80).grown g3 (fun i hi => .inl (.inl (ownB_any hi)))
          have hkg : Keep (fun q => ∃ p, t.A = some p ∧ q = p.block) w80 w82 := Keep.of_grown g3 fun k e => ownB_any e
          have hra := (HRA.out.below' HBc.out).keep (hkg.block a (Nat.lt_of_lt_of_le HRA.out.lt HBc.out.size) (fun ⟨p, hp, e⟩ => (HAL.out p hp).2 e.symm))
          have ka := hra.cell 0
          have fa := hra.frozen 0
          have HOd := Lib.hid (And.intro own3 (And.intro g3 hA3))
          obtain ⟨WAP, hWAP⟩ : ∃ x, x = w82 := ⟨_, rfl⟩
          have HWAP := Lib.hid hWAP
          clear hWAP
          clear own3 g3 hA3 hrv hra hkg
          refine hK.out _ _ (hv82) (fun hHeld => ?_)
          clear hK K
          try simp only [Act.put, List.setIfInBounds_toArray, List.set_cons_zero, List.set_cons_succ]
          refine wpAnyH_take (i := 10) (oi := { dst := some 42, op := Op.nilCheck (Operand.tmp 32), type := 0, pos := "code.go:104", after := #[{ on := 0, ground := Ground.data }, { on := 0, ground := Ground.phase }, { on := 1, ground := Ground.phase }, { on := 2, ground := Ground.phase }, { on := 3, ground := Ground.phase }, { on := 4, ground := Ground.phase }, { on := 5, ground := Ground.phase }, { on := 6, ground := Ground.phase }, { on := 7, ground := Ground.phase }, { on := 8, ground := Ground.textOnly Departure.lateStores }, { on := 9, ground := Ground.textOnly Departure.lateStores }], guard := none }) (v := ?v10_11) rfl (by kernel_rfl) (by kernel_rfl) (by kernel_rfl) (fun _ _ _ h => h) (Or.inl ⟨by rfl, ?h10_11⟩) (by assumption) ?r10_11
          case h10_11 =>
            intro W hSW
            try dsimp only at hSW
            go_simp
            try with_reducible rfl
          try simp only [Act.put, List.setIfInBounds_toArray, List.set_cons_zero, List.set_cons_succ]
          refine wpAnyH_take (i := 11) (oi := { dst := some 43, op := Op.fieldAddr 90 (Operand.tmp 42) 0, type := 0, pos := "code.go:104", after := #[{ on := 10, ground := Ground.data }, { on := 0, ground := Ground.phase }, { on := 1, ground := Ground.phase }, { on := 2, ground := Ground.phase }, { on := 3, ground := Ground.phase }, { on := 4, ground := Ground.phase }, { on := 5, ground := Ground.phase }, { on := 6, ground := Ground.phase }, { on := 7, ground := Ground.phase }, { on := 8, ground := Ground.textOnly Departure.lateStores }, { on := 9, ground := Ground.textOnly Departure.lateStores }], guard := none }) (v := ?v11_12) rfl (by kernel_rfl) (by kernel_rfl) (by kernel_rfl) (fun _ _ _ h => h) (Or.inl ⟨by rfl, ?h11_12⟩) (by assumption) ?r11_12
          case h11_12 =>
            intro W hSW
            try dsimp only at hSW
            go_simp
            try with_reducible rfl
          try simp only [Act.put, List.setIfInBounds_toArray, List.set_cons_zero, List.set_cons_succ]
          refine wpAnyH_ready (rs := [12]) (by kernel_rfl) (by simp) ?_
          refine AllReadyH.cons (o := { dst := none, op := Op.store 32 (Operand.tmp 43) (Operand.tmp 39), type := 0, pos := "code.go:104", after := #[{ on := 11, ground := Ground.data }, { on := 7, ground := Ground.data }, { on := 7, ground := Ground.chain }, { on := 0, ground := Ground.phase }, { on := 1, ground := Ground.phase }, { on := 2, ground := Ground.phase }, { on := 3, ground := Ground.phase }, { on := 4, ground := Ground.phase }, { on := 5, ground := Ground.phase }, { on := 6, ground := Ground.phase }, { on := 7, ground := Ground.phase }, { on := 8, ground := Ground.textOnly Departure.lateStores }, { on := 9, ground := Ground.textOnly Departure.lateStores }], guard := none }) rfl (fun K hK => ?_) AllReadyH.nil
          go_simp
          have hks : Keep (fun q => (∃ p, t.A = some p ∧ q = p.block) ∨ q = a) w6 (w82.setCell ⟨a, 0, none⟩ (.slice A3 (t.n + 1) c3)) := (hv82).trans ((setE_keep w82 a 0 _).mono fun _ _ e => .inr e)
          obtain ⟨w83, hw83⟩ : ∃ q, w82.setCell ⟨a, 0, none⟩ (.slice A3 (t.n + 1) c3) = q := ⟨_, rfl⟩
          have HW9 := Lib.hid hw83
          rw [hw83] at hks
          rw [hw83]
          have hv83 := hks
          clear ka fa hw83 hks
          refine hK.out _ _ (hv83) (fun hHeld => ?_)
          clear hK K
          try simp only [Act.put, List.setIfInBounds_toArray, List.set_cons_zero, List.set_cons_succ]
          refine wpAnyH_take (i := 13) (oi := { dst := some 6, op := Op.assign (Operand.tmp 41), type := 3, pos := "code.go:104", after := #[{ on := 9, ground := Ground.data }, { on := 12, ground := Ground.chain }, { on := 0, ground := Ground.phase }, { on := 1, ground := Ground.phase }, { on := 2, ground := Ground.phase }, { on := 3, ground := Ground.phase }, { on := 4, ground := Ground.phase }, { on := 5, ground := Ground.phase }, { on := 6, ground := Ground.phase }, { on := 7, ground := Ground.phase }, { on := 8, ground := Ground.phase }, { on := 9, ground := Ground.phase }, { on := 10, ground := Ground.phase }, { on := 11, ground := Ground.phase }, { on := 12, ground := Ground.phase }], guard := none }) (v := ?v13_13) rfl (by kernel_rfl) (by kernel_rfl) (by kernel_rfl) (fun _ _ _ h => h) (Or.inl ⟨by rfl, ?h13_13⟩) (by assumption) ?r13_13
          case h13_13 =>
            intro W hSW
            try dsimp only at hSW
            go_simp
            try with_reducible rfl
          try simp only [Act.put, List.setIfInBounds_toArray, List.set_cons_zero, List.set_cons_succ]
          refine wpAnyH_done (by kernel_rfl) ?_ _
          have hfin : DSt w rb a (l ++ [ck]) sa w83 := by
            obtain ⟨N', hN'⟩ := HM6.out
            obtain ⟨ht, hbd, hbl, hrS, hrF, hrb⟩ := HTB.out
            obtain ⟨own3, g3, hA3⟩ := HOd.out
            have hBc := HBc.out
            have hW9 := HW9.out
            have e1 := HWBC.out
            have e2 := HWAP.out
            rw [← e1] at g3 hA3 hBc
            rw [← e2] at own3 g3 hW9
            have h46 : Below w4.heap.size w4 w6 := HB46.out.1
            have h4c : Below w4.heap.size w4 WBC := h46.trans (hBc.mono h46.size)
            have hk := (HC4.out.2.2.1).trans (Keep.of_below h4c)
            rw [← HTM.out] at hk hN'
            rw [← HCS.out] at own3
            have hfin := ht.snoc (fun b e => (hbd b e).2) hrS hrF hk (own_below HC4.out.1 h4c) (hN'.below h4c hN'.lt) own3 g3 hA3 HINV.out
            rw [hW9] at hfin
            obtain ⟨F', S', h1, h2, h3, h4, h5⟩ := hfin
            have hs := hk.size
            have hrlt := HC4.out.2.1.lt
            refine ⟨F', S', h1, fun b e => ⟨?_, h3 b e⟩, Below.then_keep hbl h2 (fun k e => ?_) (Nat.le_refl _), ?_, hrb⟩
            · rcases e with e | e
              · rcases h5 b e with h | h
                · exact (hbd b (.inl h)).1
                · have := HSJ.out.rd.lt; omega
              · rcases h4 b e with h | h
                · exact (hbd b (.inr h)).1
                · have := HSJ.out.rd.lt; omega
            · rcases e with e | e
              · have := (hbd k (.inr e)).1; omega
              · omega
            · have hr6 := HC4.out.2.1.below h4c
              have hkg : Keep (fun q => ∃ p, t.A = some p ∧ q = p.block) WBC WAP := Keep.of_grown g3 fun k e => ownB_any e
              have hr8 := hr6.keep hkg (fun ⟨p, hp, e⟩ => hrS (e ▸ ht.sg p hp)) (fun k hk ⟨p, hp, e⟩ => by have := (hbd _ (.inr (ht.sg p hp))).1; omega)
              have hr9 := hr8.keep (setE_keep WAP a 0 (.slice A3 (t.n + 1) c3)) (fun e => HSA.out.2.1 e) (fun k hk e => by have := (hbd _ (.inr ht.sa)).1; omega)
              rw [hW9] at hr9
              exact hr9
          have HFIN := Lib.hid hfin
          clear hfin
          go_wp2_with fail
          go_roundw
          case rel => exact ⟨_, j + 1, l ++ [ck], ck.id, sa, rfl, by omega, by go_num, rfl, HFIN, HDJ2, HLJ2⟩
          case measure => simp [intOf]; omega

      · have he' : (er != 0) = true := by simpa using he
        have HDF : Hid (Chk.decT b = .inr er) := Lib.hid (by
          rw [HDT.out]
          have h0 := HDJ.out
          rw [show N - j = (N - (j + 1)) + 1 by omega] at h0
          have h1 : Chk.decN (N - (j + 1) + 1) l last s = if (Chk.decC l last s).2.e ≠ 0 then (l, (Chk.decC l last s).2) else Chk.decN (N - (j + 1)) (l ++ [(Chk.decC l last s).1]) (Chk.decC l last s).1.id (Chk.decC l last s).2 := rfl
          rw [h1, HCA.out] at h0
          have h2 : sa.e ≠ 0 := by rw [HER.out]; exact he
          rw [if_pos h2] at h0
          obtain ⟨_, e2⟩ := Prod.mk.inj h0
          rw [← e2, if_pos h2, HER.out])
        have HNE := Lib.hid he
        have HBF : Hid (Below w.heap.size w w6) := Lib.hid (by
          obtain ⟨ht, hbd, hbl, _, _, hrb⟩ := HTB.out
          have h4 : Below w.heap.size w w4 := Below.then_keep hbl HC4.out.2.2.1 (fun k e => by
            rcases e with e | e
            · omega
            · have := (hbd _ (.inr ht.sm)).1; rw [HTM.out] at this; omega) (Nat.le_refl _)
          exact h4.trans (HB46.out.1.mono h4.size))
        clear he
        go_wp2_with fail
        go_quiet (fail)
        go_wp2_with fail
        go_ret2
        exact ⟨below_drewN HBF.out _, .inr ⟨er, HDF.out, HNE.out, rfl⟩⟩
    · obtain rfl : j = N := by omega
      have hdj := HDJ.out
      rw [Nat.sub_self] at hdj
      obtain ⟨rfl, rfl⟩ := Prod.mk.inj (show (l, s) = (L, s2) from hdj)
      obtain ⟨A5, n5, c5, hb5, hn5, _, _, _, _⟩ := HSJ.out.rd
      have c0 := hb5.cell 0
      dsimp only [List.getElem?_cons_zero] at c0
      obtain ⟨is, his⟩ : ∃ is, (((n5 : Nat) : Int) == 0) = is := ⟨_, rfl⟩
      obtain ⟨Z, hZ⟩ : ∃ Z, ((failS s is 6).e == 0) = Z := ⟨_, rfl⟩
      have HF := Lib.hid (fun (W : World) (h : DSt w rb a l s W) => fail_any rb w.heap.size s is 6 Z hZ W h.rd)
      have HFA := Lib.hid (And.intro his (And.intro hZ hn5))
      clear hb5 hn5 hdj hZ
      cases Z with
      | false =>
        have HDF : Hid (Chk.decT b = .inr (failS s is 6).e ∧ (failS s is 6).e ≠ 0) := Lib.hid (by
          obtain ⟨h1, h2, h3⟩ := HFA.out
          have hne : (failS s is 6).e ≠ 0 := by simpa using h2
          refine ⟨?_, hne⟩
          rw [HDT.out]
          unfold failS at hne ⊢
          by_cases he : s.e = 0
          · cases is with
            | true => rw [if_neg (fun h => by cases h.2)] at hne; exact absurd he hne
            | false =>
              have hb : s.b ≠ [] := fun h => by rw [h] at h3; subst h3; simp at h1
              rw [if_neg (fun h => h he), if_neg hb, if_pos ⟨he, rfl⟩]
          · rw [if_pos he, if_neg (fun h => he h.1)])
        go_upto_region 12 with (go_at_call 63; refine (HF.out _ HSJ.out).mono ?_; rintro e' w9 ⟨rfl, hs9, hk9⟩)
        have HS9 := Lib.hid (HSJ.out.read hs9 hk9)
        have c1 := hs9.cellE
        obtain ⟨er, her⟩ : ∃ y, (failS s is 6).e = y := ⟨_, rfl⟩
        rw [her] at c1 HDF
        clear hs9 hk9 c0 her his
        go_quiet (fail)
        go_wp2_with fail
        go_ret2
        exact ⟨below_drewN HS9.out.b _, .inr ⟨er, HDF.out.1, HDF.out.2, rfl⟩⟩
      | true =>
        have HDF : Hid (Chk.decT b = .inl l) := Lib.hid (by
          obtain ⟨h1, h2, h3⟩ := HFA.out
          rw [HDT.out]
          unfold failS at h2
          by_cases he : s.e = 0
          · cases is with
            | false => rw [if_pos ⟨he, rfl⟩] at h2; cases h2
            | true =>
              have hb : s.b = [] := List.eq_nil_of_length_eq_zero (by rw [h3]; have := eq_of_beq h1; omega)
              rw [if_neg (fun h => h he), if_pos hb]
          · rw [if_neg (fun h => he h.1)] at h2
            exact absurd (by simpa using h2) he)
        go_wp2_with (go_at_call 63; refine (HF.out _ HSJ.out).mono ?_; rintro e' w9 ⟨rfl, hs9, hk9⟩)
        go_ret2
        have h9 := HSJ.out.read hs9 hk9
        exact ⟨h9.b, .inl ⟨l, a, HDF.out, rfl, h9.new⟩⟩
end Go.Proofs.Ytcicfneekmbamaa
