/- The reference's table: Encode. Conditions: the table is kept. -/
import Derived.Test.YtcicfneekmbamaaChkSI
namespace Go.Proofs.Ytcicfneekmbamaa
set_option linter.unusedVariables false
set_option linter.unusedSimpArgs false
open Go.RowKit
theorem rInt_len (v : Int) (hv : I64 v) (E : List UInt8) (hE : Wire.enc v = E) (m : Nat) (hm : E.length = m) (w : World) :
    Calls Try.prog 67 #[.int .i64 v] w fun e w' => ∃ A c, e = .returned (.slice A m c) ∧ w'.ownsRow w.heap.size 5 1 (.slice A m c) m (bvs E) ∧ Below w.heap.size w w' := by
  subst hE hm; exact refInt_any v hv.1 hv.2 w
/-- what was written, and the chunk in hand -/
structure RSt (w : World) (bc : Nat) (cs : List Value) (X : List UInt8) (A : Option Addr) (n c M : Nat) (W : World) : Prop where
  o : W.ownsRow w.heap.size 5 1 (.slice A n c) n (bvs X)
  ln : X.length = n
  b : Below w.heap.size w W
  r : IsRow W bc 45 cs
  lb : w.heap.size ≤ bc
  le : n ≤ M
theorem RSt.app {w W W1 W2 : World} {bc n c M m n' M' c' : Nat} {cs : List Value} {X E X' : List UInt8} {A A' : Option Addr} (h : RSt w bc cs X A n c M W) (hE : E.length = m) (h1 : Below W.heap.size W W1) (hn : n + m = n') (hX : X ++ E = X')
    (ho : W2.ownsRow w.heap.size 5 1 (.slice A' n' c') n' (bvs X ++ bvs E)) (hg : W1.grownBy W2 (Value.slice A n c).ownBlock) (hM : M + m ≤ M') : RSt w bc cs X' A' n' c' M' W2 := by
  subst hn hX
  have hb1 := h.b.trans (h1.mono h.b.size)
  have ho1 := own_below h.o h1
  refine ⟨?_, by rw [List.length_append, h.ln, hE], ?_, (h.r.below' h1).grown hg (own_ne ho1 (h.r.below' h1) (by decide)), h.lb, by have := h.le; omega⟩
  · rw [bvs, List.map_append]; exact ho
  · exact hb1.grown hg hb1.size fun i hi => by obtain ⟨p, hp, e⟩ := ownB_any hi; have := (own_block_lt ho1 p hp).1; omega
theorem RSt.more {w W : World} {bc n c M M' : Nat} {cs : List Value} {X : List UInt8} {A : Option Addr} (h : RSt w bc cs X A n c M W) (hM : M ≤ M') : RSt w bc cs X A n c M' W := ⟨h.o, h.ln, h.b, h.r, h.lb, Nat.le_trans h.le hM⟩
theorem Chk.held_le_n {l : List Rf} (h : Chk.RefsOk l) {r : Rf} (hr : r ∈ l) : r.n ≤ 2147483647 := by
  have h1 : ∀ l : List Rf, (∀ r ∈ l, 1 ≤ r.n) → r ∈ l → r.n ≤ Chk.total l := fun l => by
    induction l with
    | nil => intro _ h; cases h
    | cons q l ih =>
      intro hp hm
      have h0 := Chk.total_nonneg (l := l) fun x hx => hp x (List.mem_cons_of_mem _ hx)
      have hq := hp q (List.mem_cons_self ..)
      rw [Chk.total]
      rcases List.mem_cons.1 hm with rfl | hm
      · omega
      · have := ih (fun x hx => hp x (List.mem_cons_of_mem _ hx)) hm; omega
  have := h1 l h.pos hr
  have h2 := h.tot
  have h3 : Chk.most = 2147483647 := rfl
  omega
def inU (u : Chk.Un) : Prop := Chk.valid u
theorem encR_take {l : List Chk.Rf} {j : Nat} (hj : j < l.length) : Chk.encR (l.take (j + 1)) = Chk.encR (l.take j) ++ (Wire.enc l[j].t ++ Wire.enc l[j].n) := by
  unfold Chk.encR
  rw [List.take_succ_eq_append_getElem hj, List.flatMap_append]; simp
theorem encF_take {l : List Chk.Ck} {j : Nat} (hj : j < l.length) : (l.take (j + 1)).flatMap Chk.encC = (l.take j).flatMap Chk.encC ++ Chk.encC (Chk.nth l j) := by
  have e : l[j] = Chk.nth l j := by have := Chk.nth_get hj; rw [List.getElem?_eq_getElem hj] at this; exact Option.some.inj this
  rw [List.take_succ_eq_append_getElem hj, List.flatMap_append, e]; simp
set_option maxRecDepth 100000 in
set_option maxHeartbeats 6400000 in
theorem rencode_any {w : World} {F S : Nat → Prop} {a : Nat} {t : RM} {l : List Chk.Ck} (h : RAt w F S a t l) :
    Calls Try.prog 39 #[.pointer (some ⟨a, 0, none⟩)] w (ChkEncRes w (Chk.encT l)) := by
  have H := Lib.hid h
  have HL := Lib.hid h.len.1
  have hmx := h.max
  have c0 := h.cell
  have HENF := Lib.hid (encF_le l (fun c hc => h.inv.ok c hc))
  obtain ⟨E0, hE0⟩ : ∃ y, Wire.enc (t.n : Int) = y := ⟨_, rfl⟩
  obtain ⟨m0, hm0⟩ : ∃ y, E0.length = y := ⟨_, rfl⟩
  have HI0 := Lib.hid (fun W => rInt_len (t.n : Int) ⟨by omega, by omega⟩ E0 hE0 m0 hm0 W)
  have HM0 : Hid (m0 ≤ 9 ∧ E0.length = m0) := Lib.hid ⟨by rw [← hm0, ← hE0]; exact Wire.enc_length_le _, hm0⟩
  have HET : Hid (Chk.encT l = E0 ++ l.flatMap Chk.encC) := Lib.hid (by unfold Chk.encT; rw [← hE0, HL.out])
  have HONE : Hid (∀ b : Bool, I64 (if b then 1 else 0)) := Lib.hid (fun b => by cases b <;> exact ⟨by decide, by decide⟩)
  clear h hE0 hm0
  go_enter Try.func39, Try.ntmps39
  go_upto_region 3 with (go_at_call 67; refine (HI0.out _).mono ?_; rintro e' w1 ⟨A1, c1, rfl, own1, b1⟩)
  have HO1 := Lib.hid (And.intro own1 b1)
  clear own1 b1 c0
  go_loopw [3, 4] (fun u3 u4 wx => ∃ (wr : World) (k : Nat) (A : Option Addr) (n c : Nat), wr = wx ∧ k ≤ t.n ∧ u4 = .int .i64 (k : Int) ∧ u3 = .slice A n c ∧ Hid (wr.ownsRow w.heap.size 5 1 (.slice A n c) n (bvs (E0 ++ (l.take k).flatMap Chk.encC))) ∧ Hid (Below w.heap.size w wr) ∧ Hid ((E0 ++ (l.take k).flatMap Chk.encC).length = n)) (fun _ u4 _ => t.n - (intOf u4).toNat)
  case atStart => exact ⟨_, 0, A1, m0, c1, rfl, Nat.zero_le _, rfl, rfl, Lib.hid (by simpa using HO1.out.1), Lib.hid HO1.out.2, Lib.hid (by simpa using HM0.out.2)⟩
  case round =>
    obtain ⟨wr, k, A, n, c, rfl, hk, rfl, rfl, HOK, HBK, HLK⟩ := hrel
    have c0 := H.out.rd HBK.out
    by_cases hlt : k < t.n
    · have hkl : k < l.length := by rw [HL.out]; exact hlt
      obtain ⟨g, x, hA, hg, hx, hn, hok, hck, hrg⟩ := H.out.at hlt
      rw [hA] at c0
      have hrw : wr.rangeAt g (k * 23) x.cells := fun j v hv => (HBK.out.cell (p := ⟨g, k * 23 + j, none⟩) hg).trans (hrg j v hv)
      have hn0 : n ≤ 30000000 := by
        have h1 := HENF.out k
        have h2 := HLK.out
        have h3 := HM0.out
        rw [List.length_append] at h2
        rw [List.length_take] at h1
        omega
      have HN0 := Lib.hid hn0
      have e1 : (0 : Int) ≤ (k : Int) := by omega
      have e2 : (k : Int) < (t.n : Int) := by omega
      have hln := ckCells_len hck.dg (.slice x.A x.n x.k)
      have hat := ckCells_at x.c (.slice x.A x.n x.k) hck.dg
      have HONE2 := Lib.hid (ckCells_one x.c (.slice x.A x.n x.k) rfl)
      obtain ⟨cs, hcs⟩ : ∃ y, x.cells = y := ⟨_, rfl⟩
      have hcs' : ckCells x.c (.slice x.A x.n x.k) = cs := hcs
      have hd1 : ∀ i, i < 16 → ∃ d : UInt8, x.c.dg[i]? = some d ∧ cs[1 + i]? = some (.int .u8 (d.toNat : Int)) := fun i hi => by
        have h1 : i < x.c.dg.length := by rw [hck.dg]; exact hi
        refine ⟨x.c.dg[i], List.getElem?_eq_getElem h1, ?_⟩
        rw [← hcs']; unfold ckCells
        rw [List.getElem?_append_right (by show 1 ≤ 1 + i; omega), show 1 + i - ([Value.int .i64 x.c.id] : List Value).length = i from by show 1 + i - 1 = i; omega, List.getElem?_append_left (by rw [bvs_length]; exact h1), List.getElem?_map, List.getElem?_eq_getElem h1]; rfl
      rw [hcs] at hrw
      rw [hcs'] at hln hat HONE2
      have HLN := Lib.hid hln
      have HAT := Lib.hid hat
      have HD1 := Lib.hid hd1
      have HCK := Lib.hid hck
      have HRF := Lib.hid (hok.rd)
      have HRN := Lib.hid hok.n
      have HET2 := Lib.hid (encF_take hkl)
      rw [hn] at HET2
      clear hkl hA hg hx hn hok hck hrg hn0 hln hat hcs hcs' hd1
      go_upto_region 6 with (first
        | (refine wpList_load_mid rfl _ (.tmp 28) rfl g (k * 23) rfl cs _ hrw Try.underlying45 rfl (by rw [HLN.out]; exact sizeCk) ?_)
        | (refine wpList_allocRow rfl _ rfl _ infoCk' ?_; intro w3 rz3 b3 z3)
        | (refine wpList_storeRow rfl _ (.tmp 5) (.tmp 29) rfl (l' := cs) rz3 rfl rfl (by rw [HLN.out]; exact sizeCk) (by rw [HLN.out]; rfl) (List.all_eq_true.2 HONE2.out) ?_; intro w4 rz4 g4 z4))
      obtain ⟨bc, hbc⟩ : ∃ y, wr.heap.size = y := ⟨_, rfl⟩
      have hb4 : Below wr.heap.size wr w4 := b3.grown g4 b3.size (fun i hi => by have := Option.some.inj hi; omega)
      have hst : RSt w bc cs (E0 ++ (l.take k).flatMap Chk.encC) A n c 30000000 w4 := ⟨own_below HOK.out hb4, HLK.out, HBK.out.trans (hb4.mono HBK.out.size), hbc ▸ rz4, by have := HBK.out.size; omega, HN0.out⟩
      try rw [hbc]
      obtain ⟨X0, hX0⟩ : ∃ y, E0 ++ (l.take k).flatMap Chk.encC = y := ⟨_, rfl⟩
      rw [hX0] at hst HLK
      have HX0 := Lib.hid hX0
      have HS0 := Lib.hid hst
      clear hst hb4 rz3 b3 z3 rz4 g4 z4 hrw c0 hbc hX0 HOK
      obtain ⟨id, hid⟩ : ∃ y, x.c.id = y := ⟨_, rfl⟩
      obtain ⟨pr, hpr⟩ : ∃ y, x.c.pr = y := ⟨_, rfl⟩
      obtain ⟨ur, hur⟩ : ∃ y, x.c.at_.r = y := ⟨_, rfl⟩
      obtain ⟨ug, hug⟩ : ∃ y, x.c.at_.g = y := ⟨_, rfl⟩
      obtain ⟨uu, huu⟩ : ∃ y, x.c.at_.u = y := ⟨_, rfl⟩
      obtain ⟨lo, hlo⟩ : ∃ y, x.c.lost = y := ⟨_, rfl⟩
      rw [hid, hpr, hur, hug, huu, hlo] at HAT
      have HV : Hid (I64 id ∧ (0 ≤ pr ∧ pr < 4294967296) ∧ I64 ur ∧ I64 ug ∧ I64 uu) := Lib.hid (by
        have h1 := HCK.out
        have a1 := h1.id1
        have a2 := h1.id2
        have a3 := h1.pr
        rw [hid] at a1 a2
        rw [hpr] at a3
        have hz : inU x.c.at_ := by
          cases hl : x.c.lost with
          | true => rw [h1.lo hl]; exact ⟨⟨by decide, by decide⟩, ⟨by decide, by decide⟩, ⟨by decide, by decide⟩⟩
          | false => exact h1.un hl
        obtain ⟨⟨p1, p2⟩, ⟨p3, p4⟩, ⟨p5, p6⟩⟩ := hz
        rw [hur] at p1 p2
        rw [hug] at p3 p4
        rw [huu] at p5 p6
        exact ⟨⟨by omega, by omega⟩, a3, ⟨by omega, by omega⟩, ⟨by omega, by omega⟩, ⟨by omega, by omega⟩⟩)
      have HEQ : Hid (Chk.encC x.c = Wire.enc id ++ (x.c.dg ++ (Wire.enc pr ++ ((if lo then Wire.enc 1 else Wire.enc 0 ++ (Wire.enc ur ++ (Wire.enc ug ++ Wire.enc uu))) ++ (Wire.enc x.n ++ Chk.encR x.c.refs))))) := Lib.hid (by
        unfold Chk.encC Chk.encR; rw [hid, hpr, hur, hug, huu, hlo, HRN.out])
      clear hid hpr hur hug huu hlo
      have k0 := (HS0.out.r.cell 0).trans HAT.out.1
      obtain ⟨E1, hE1⟩ : ∃ y, Wire.enc id = y := ⟨_, rfl⟩
      obtain ⟨m1, hm1⟩ : ∃ y, E1.length = y := ⟨_, rfl⟩
      have HI1 := Lib.hid (fun W => rInt_len id HV.out.1 E1 hE1 m1 hm1 W)
      have HM1 : Hid (m1 ≤ 9 ∧ E1.length = m1 ∧ Wire.enc id = E1) := Lib.hid ⟨by rw [← hm1, ← hE1]; exact Wire.enc_length_le _, hm1, hE1⟩
      obtain ⟨X1, hX1⟩ : ∃ y, X0 ++ E1 = y := ⟨_, rfl⟩
      have HX1 := Lib.hid hX1
      clear hE1 hm1 hX1
      go_upto_region 7 with (first
        | (at_builtin; refine wpList_app _ rfl (.tmp 30) (.tmp 33) 70 rfl w.heap.size 5 _ 1 1 bytesE A n c (bvs X0) rfl (own_below HS0.out.o HB1.out.2) _ Ae1 m1 ce1 (bvs E1) rfl (Rd.of_own HB1.out.1) (bvs_one _) (by have := HS0.out.le; have := HM1.out.1; omega) (by have := HS0.out.le; have := HM1.out.1; unfold maxLen; omega) (Nat.le_trans HS0.out.b.size HB1.out.2.size) ?_; intro A1 c1 w10 own3 g3 hA3; obtain ⟨n1, hn1⟩ : ∃ y, n + m1 = y := ⟨_, rfl⟩; rw [hn1] at own3 ⊢; have HS1 := Lib.hid (HS0.out.app (E := E1) (M' := 30000009) HM1.out.2.1 HB1.out.2 hn1 HX1.out own3 g3 (by have := HM1.out.1; omega)); clear own3 g3 hA3 hn1)
        | (go_at_call 67; refine (HI1.out _).mono ?_; rintro e' we1 ⟨Ae1, ce1, rfl, own1, b1⟩; have HB1 := Lib.hid (And.intro own1 b1); clear own1 b1))
      clear k0
      go_upto_region 8 with fail
      go_loopw [3, 6] (fun u3 u6 wx => ∃ (wd : World) (i : Nat) (A : Option Addr) (n c : Nat), wd = wx ∧ i ≤ 16 ∧ u6 = .int .i64 (i : Int) ∧ u3 = .slice A n c ∧ Hid (RSt w bc cs (X1 ++ x.c.dg.take i) A n c 30000025 wd)) (fun _ u6 _ => 16 - (intOf u6).toNat)
      case atStart => exact ⟨_, 0, A1, n1, c1, rfl, Nat.zero_le _, rfl, rfl, Lib.hid (by simpa using HS1.out.more (M' := 30000025) (by omega))⟩
      case round =>
        obtain ⟨wd, i, A2, n2, c2, rfl, hi, rfl, rfl, HS2⟩ := hrel
        by_cases hil : i < 16
        · obtain ⟨d, hd, hcd⟩ := HD1.out i hil
          have kd : wd.cell? ⟨bc, 1 + i, none⟩ = some (.int .u8 (d.toNat : Int)) := (HS2.out.r.cell (1 + i)).trans hcd
          have HTK : Hid ((X1 ++ x.c.dg.take i) ++ [d] = X1 ++ x.c.dg.take (i + 1)) := Lib.hid (by
            have hl : i < x.c.dg.length := (List.getElem?_eq_some_iff.1 hd).1
            rw [List.take_succ_eq_append_getElem hl, List.append_assoc]
            rw [List.getElem?_eq_getElem hl] at hd
            rw [Option.some.inj hd])
          have HLE : Hid (n2 + 1 ≤ 30000025) := Lib.hid (by
            have h1 := HS2.out.ln
            have h2 := HS1.out.ln
            have h3 := HS1.out.le
            rw [List.length_append, List.length_take] at h1
            omega)
          have e3 : (0 : Int) ≤ (i : Int) := by omega
          have e4 : (i : Int) < 16 := by omega
          obtain ⟨dn, hdn⟩ : ∃ y : Int, (d.toNat : Int) = y := ⟨_, rfl⟩
          rw [hdn] at kd
          have HDN := Lib.hid hdn
          clear hd hcd hdn
          go_wp2_with (at_builtin; refine wpList_app1 rfl (.tmp 39) (.tmp 44) 70 rfl w.heap.size 5 _ 1 bytesE A2 n2 c2 (bvs (X1 ++ x.c.dg.take i)) (.int .u8 dn) rfl rfl HS2.out.o HS2.out.b rfl (by have := HLE.out; omega) (Nat.le_refl _) HS2.out.b.size ?_; intro g4 c4 w4x own4 hb4 hg4; have HO4 := Lib.hid (And.intro own4 (And.intro hb4 hg4)); clear own4 hb4 hg4)
          go_roundw
          case rel =>
            refine ⟨_, i + 1, some ⟨g4, 0, none⟩, n2 + 1, c4, rfl, by omega, by go_num, rfl, Lib.hid ?_⟩
            have hx := HS2.out
            refine ⟨?_, by rw [← HTK.out, List.length_append, hx.ln]; rfl, HO4.out.2.1, hx.r.grown HO4.out.2.2.1 (own_ne hx.o hx.r (by decide)), hx.lb, HLE.out⟩
            have := HO4.out.1
            rw [← HDN.out] at this
            rw [← HTK.out]
            rw [bvs, List.map_append]
            exact this
          case measure => simp [intOf]; omega
        · obtain rfl : i = 16 := by omega
          have hdl : x.c.dg.take 16 = x.c.dg := List.take_of_length_le (by rw [HCK.out.dg]; exact Nat.le_refl _)
          rw [hdl] at HS2
          obtain ⟨X2, hX2⟩ : ∃ y, X1 ++ x.c.dg = y := ⟨_, rfl⟩
          rw [hX2] at HS2
          have HX2 := Lib.hid hX2
          clear hdl hX2 HS1 HS0
          have k17 := (HS2.out.r.cell 17).trans HAT.out.2.1
          have ewp : IntKind.i64.wrap pr = pr := IntWalk.i64_in _ (by have := HV.out.2.1; omega)
          obtain ⟨E3, hE3⟩ : ∃ y, Wire.enc pr = y := ⟨_, rfl⟩
          obtain ⟨m3, hm3⟩ : ∃ y, E3.length = y := ⟨_, rfl⟩
          have HI3 := Lib.hid (fun W => rInt_len pr ⟨by have := HV.out.2.1; omega, by have := HV.out.2.1; omega⟩ E3 hE3 m3 hm3 W)
          have HM3 : Hid (m3 ≤ 9 ∧ E3.length = m3 ∧ Wire.enc pr = E3) := Lib.hid ⟨by rw [← hm3, ← hE3]; exact Wire.enc_length_le _, hm3, hE3⟩
          obtain ⟨X3, hX3⟩ : ∃ y, X2 ++ E3 = y := ⟨_, rfl⟩
          have HX3 := Lib.hid hX3
          clear hE3 hm3 hX3
          go_upto_region 12 with (first
            | (at_builtin; refine wpList_app _ rfl (.tmp 46) (.tmp 50) 70 rfl w.heap.size 5 _ 1 1 bytesE A2 n2 c2 (bvs X2) rfl (own_below HS2.out.o HB3.out.2) _ Ae3 m3 ce3 (bvs E3) rfl (Rd.of_own HB3.out.1) (bvs_one _) (by have := HS2.out.le; have := HM3.out.1; omega) (by have := HS2.out.le; have := HM3.out.1; unfold maxLen; omega) (Nat.le_trans HS2.out.b.size HB3.out.2.size) ?_; intro A3 c3 w30 own3 g3 hA3; obtain ⟨n3, hn3⟩ : ∃ y, n2 + m3 = y := ⟨_, rfl⟩; rw [hn3] at own3 ⊢; have HS3 := Lib.hid (HS2.out.app (E := E3) (M' := 30000034) HM3.out.2.1 HB3.out.2 hn3 HX3.out own3 g3 (by have := HM3.out.1; omega)); clear own3 g3 hA3 hn3)
            | (go_at_call 67; refine (HI3.out _).mono ?_; rintro e' we3 ⟨Ae3, ce3, rfl, own1, b1⟩; have HB3 := Lib.hid (And.intro own1 b1); clear own1 b1))
          clear k17 ewp
          have k21 := (HS3.out.r.cell 21).trans HAT.out.2.2.2.2.2.1
          go_upto_if 53 with fail
          clear k21
          go_cut [3] from 54 to 79 (fun u3 wx => ∃ (wv : World) (X4 : List UInt8) (A4 : Option Addr) (n4 c4 : Nat), wv = wx ∧ u3 = .slice A4 n4 c4 ∧ Hid (X4 = X3 ++ (if lo then Wire.enc 1 else Wire.enc 0 ++ (Wire.enc ur ++ (Wire.enc ug ++ Wire.enc uu)))) ∧ Hid (RSt w bc cs X4 A4 n4 c4 30000070 wv))
          case first =>
            cases lo with
            | true =>
              obtain ⟨E4, hE4⟩ : ∃ y, Wire.enc 1 = y := ⟨_, rfl⟩
              obtain ⟨m4, hm4⟩ : ∃ y, E4.length = y := ⟨_, rfl⟩
              have HI4 := Lib.hid (fun W => rInt_len 1 ⟨by decide, by decide⟩ E4 hE4 m4 hm4 W)
              have HM4 : Hid (m4 ≤ 9 ∧ E4.length = m4 ∧ Wire.enc 1 = E4) := Lib.hid ⟨by rw [← hm4, ← hE4]; exact Wire.enc_length_le _, hm4, hE4⟩
              obtain ⟨X4, hX4⟩ : ∃ y, X3 ++ E4 = y := ⟨_, rfl⟩
              have HX4 := Lib.hid hX4
              clear hE4 hm4 hX4
              go_wp2_with (first
                | (at_builtin; refine wpList_app _ rfl (.tmp 54) (.tmp 55) 70 rfl w.heap.size 5 _ 1 1 bytesE A3 n3 c3 (bvs X3) rfl (own_below HS3.out.o HB4.out.2) _ Ae4 m4 ce4 (bvs E4) rfl (Rd.of_own HB4.out.1) (bvs_one _) (by have := HS3.out.le; have := HM4.out.1; omega) (by have := HS3.out.le; have := HM4.out.1; unfold maxLen; omega) (Nat.le_trans HS3.out.b.size HB4.out.2.size) ?_; intro A4 c4 w40 own3 g3 hA3; obtain ⟨n4, hn4⟩ : ∃ y, n3 + m4 = y := ⟨_, rfl⟩; rw [hn4] at own3 ⊢; have HS4 := Lib.hid (HS3.out.app (E := E4) (M' := 30000070) HM4.out.2.1 HB4.out.2 hn4 HX4.out own3 g3 (by have := HM4.out.1; omega)); clear own3 g3 hA3 hn4)
                | (go_at_call 67; refine (HI4.out _).mono ?_; rintro e' we4 ⟨Ae4, ce4, rfl, own1, b1⟩; have HB4 := Lib.hid (And.intro own1 b1); clear own1 b1))

              go_meet
              exact ⟨_, X4, A4, n4, c4, rfl, rfl, Lib.hid (by rw [← HX4.out, ← HM4.out.2.2]; rfl), HS4⟩
            | false =>
              obtain ⟨E4, hE4⟩ : ∃ y, Wire.enc 0 = y := ⟨_, rfl⟩
              obtain ⟨m4, hm4⟩ : ∃ y, E4.length = y := ⟨_, rfl⟩
              have HI4 := Lib.hid (fun W => rInt_len 0 ⟨by decide, by decide⟩ E4 hE4 m4 hm4 W)
              have HM4 : Hid (m4 ≤ 9 ∧ E4.length = m4 ∧ Wire.enc 0 = E4) := Lib.hid ⟨by rw [← hm4, ← hE4]; exact Wire.enc_length_le _, hm4, hE4⟩
              obtain ⟨X4, hX4⟩ : ∃ y, X3 ++ E4 = y := ⟨_, rfl⟩
              have HX4 := Lib.hid hX4
              clear hE4 hm4 hX4
              go_upto_region 15 with (first
                | (at_builtin; refine wpList_app _ rfl (.tmp 57) (.tmp 58) 70 rfl w.heap.size 5 _ 1 1 bytesE A3 n3 c3 (bvs X3) rfl (own_below HS3.out.o HB4.out.2) _ Ae4 m4 ce4 (bvs E4) rfl (Rd.of_own HB4.out.1) (bvs_one _) (by have := HS3.out.le; have := HM4.out.1; omega) (by have := HS3.out.le; have := HM4.out.1; unfold maxLen; omega) (Nat.le_trans HS3.out.b.size HB4.out.2.size) ?_; intro A4 c4 w40 own3 g3 hA3; obtain ⟨n4, hn4⟩ : ∃ y, n3 + m4 = y := ⟨_, rfl⟩; rw [hn4] at own3 ⊢; have HS4 := Lib.hid (HS3.out.app (E := E4) (M' := 30000043) HM4.out.2.1 HB4.out.2 hn4 HX4.out own3 g3 (by have := HM4.out.1; omega)); clear own3 g3 hA3 hn4)
                | (go_at_call 67; refine (HI4.out _).mono ?_; rintro e' we4 ⟨Ae4, ce4, rfl, own1, b1⟩; have HB4 := Lib.hid (And.intro own1 b1); clear own1 b1))

              have k18 := (HS4.out.r.cell 18).trans HAT.out.2.2.1
              obtain ⟨E5, hE5⟩ : ∃ y, Wire.enc ur = y := ⟨_, rfl⟩
              obtain ⟨m5, hm5⟩ : ∃ y, E5.length = y := ⟨_, rfl⟩
              have HI5 := Lib.hid (fun W => rInt_len ur HV.out.2.2.1 E5 hE5 m5 hm5 W)
              have HM5 : Hid (m5 ≤ 9 ∧ E5.length = m5 ∧ Wire.enc ur = E5) := Lib.hid ⟨by rw [← hm5, ← hE5]; exact Wire.enc_length_le _, hm5, hE5⟩
              obtain ⟨X5, hX5⟩ : ∃ y, X4 ++ E5 = y := ⟨_, rfl⟩
              have HX5 := Lib.hid hX5
              clear hE5 hm5 hX5
              go_upto_region 16 with (first
                | (at_builtin; refine wpList_app _ rfl (.tmp 60) (.tmp 65) 70 rfl w.heap.size 5 _ 1 1 bytesE A4 n4 c4 (bvs X4) rfl (own_below HS4.out.o HB5.out.2) _ Ae5 m5 ce5 (bvs E5) rfl (Rd.of_own HB5.out.1) (bvs_one _) (by have := HS4.out.le; have := HM5.out.1; omega) (by have := HS4.out.le; have := HM5.out.1; unfold maxLen; omega) (Nat.le_trans HS4.out.b.size HB5.out.2.size) ?_; intro A5 c5 w50 own3 g3 hA3; obtain ⟨n5, hn5⟩ : ∃ y, n4 + m5 = y := ⟨_, rfl⟩; rw [hn5] at own3 ⊢; have HS5 := Lib.hid (HS4.out.app (E := E5) (M' := 30000052) HM5.out.2.1 HB5.out.2 hn5 HX5.out own3 g3 (by have := HM5.out.1; omega)); clear own3 g3 hA3 hn5)
                | (go_at_call 67; refine (HI5.out _).mono ?_; rintro e' we5 ⟨Ae5, ce5, rfl, own1, b1⟩; have HB5 := Lib.hid (And.intro own1 b1); clear own1 b1))
              clear k18
              have k19 := (HS5.out.r.cell 19).trans HAT.out.2.2.2.1
              obtain ⟨E6, hE6⟩ : ∃ y, Wire.enc ug = y := ⟨_, rfl⟩
              obtain ⟨m6, hm6⟩ : ∃ y, E6.length = y := ⟨_, rfl⟩
              have HI6 := Lib.hid (fun W => rInt_len ug HV.out.2.2.2.1 E6 hE6 m6 hm6 W)
              have HM6 : Hid (m6 ≤ 9 ∧ E6.length = m6 ∧ Wire.enc ug = E6) := Lib.hid ⟨by rw [← hm6, ← hE6]; exact Wire.enc_length_le _, hm6, hE6⟩
              obtain ⟨X6, hX6⟩ : ∃ y, X5 ++ E6 = y := ⟨_, rfl⟩
              have HX6 := Lib.hid hX6
              clear hE6 hm6 hX6
              go_upto_region 17 with (first
                | (at_builtin; refine wpList_app _ rfl (.tmp 67) (.tmp 72) 70 rfl w.heap.size 5 _ 1 1 bytesE A5 n5 c5 (bvs X5) rfl (own_below HS5.out.o HB6.out.2) _ Ae6 m6 ce6 (bvs E6) rfl (Rd.of_own HB6.out.1) (bvs_one _) (by have := HS5.out.le; have := HM6.out.1; omega) (by have := HS5.out.le; have := HM6.out.1; unfold maxLen; omega) (Nat.le_trans HS5.out.b.size HB6.out.2.size) ?_; intro A6 c6 w60 own3 g3 hA3; obtain ⟨n6, hn6⟩ : ∃ y, n5 + m6 = y := ⟨_, rfl⟩; rw [hn6] at own3 ⊢; have HS6 := Lib.hid (HS5.out.app (E := E6) (M' := 30000061) HM6.out.2.1 HB6.out.2 hn6 HX6.out own3 g3 (by have := HM6.out.1; omega)); clear own3 g3 hA3 hn6)
                | (go_at_call 67; refine (HI6.out _).mono ?_; rintro e' we6 ⟨Ae6, ce6, rfl, own1, b1⟩; have HB6 := Lib.hid (And.intro own1 b1); clear own1 b1))
              clear k19
              have k20 := (HS6.out.r.cell 20).trans HAT.out.2.2.2.2.1
              obtain ⟨E7, hE7⟩ : ∃ y, Wire.enc uu = y := ⟨_, rfl⟩
              obtain ⟨m7, hm7⟩ : ∃ y, E7.length = y := ⟨_, rfl⟩
              have HI7 := Lib.hid (fun W => rInt_len uu HV.out.2.2.2.2 E7 hE7 m7 hm7 W)
              have HM7 : Hid (m7 ≤ 9 ∧ E7.length = m7 ∧ Wire.enc uu = E7) := Lib.hid ⟨by rw [← hm7, ← hE7]; exact Wire.enc_length_le _, hm7, hE7⟩
              obtain ⟨X7, hX7⟩ : ∃ y, X6 ++ E7 = y := ⟨_, rfl⟩
              have HX7 := Lib.hid hX7
              clear hE7 hm7 hX7
              go_wp2_with (first
                | (at_builtin; refine wpList_app _ rfl (.tmp 74) (.tmp 78) 70 rfl w.heap.size 5 _ 1 1 bytesE A6 n6 c6 (bvs X6) rfl (own_below HS6.out.o HB7.out.2) _ Ae7 m7 ce7 (bvs E7) rfl (Rd.of_own HB7.out.1) (bvs_one _) (by have := HS6.out.le; have := HM7.out.1; omega) (by have := HS6.out.le; have := HM7.out.1; unfold maxLen; omega) (Nat.le_trans HS6.out.b.size HB7.out.2.size) ?_; intro A7 c7 w70 own3 g3 hA3; obtain ⟨n7, hn7⟩ : ∃ y, n6 + m7 = y := ⟨_, rfl⟩; rw [hn7] at own3 ⊢; have HS7 := Lib.hid (HS6.out.app (E := E7) (M' := 30000070) HM7.out.2.1 HB7.out.2 hn7 HX7.out own3 g3 (by have := HM7.out.1; omega)); clear own3 g3 hA3 hn7)
                | (go_at_call 67; refine (HI7.out _).mono ?_; rintro e' we7 ⟨Ae7, ce7, rfl, own1, b1⟩; have HB7 := Lib.hid (And.intro own1 b1); clear own1 b1))

              go_meet
              exact ⟨_, X7, A7, n7, c7, rfl, rfl, Lib.hid (by rw [← HX7.out, ← HX6.out, ← HX5.out, ← HX4.out, HM4.out.2.2, HM5.out.2.2, HM6.out.2.2, HM7.out.2.2]; simp), HS7⟩
          case rest =>
            obtain ⟨w40, X4, A4, n4, c4, rfl, rfl, HX4, HS4⟩ := hcut
            have k22 := (HS4.out.r.cell 22).trans HAT.out.2.2.2.2.2.2
            have hxn : x.n ≤ 16 := by have := refs_len HCK.out.refs; have := HRN.out; omega
            obtain ⟨E5, hE5⟩ : ∃ y, Wire.enc (x.n : Int) = y := ⟨_, rfl⟩
            obtain ⟨m5, hm5⟩ : ∃ y, E5.length = y := ⟨_, rfl⟩
            have HI5 := Lib.hid (fun W => rInt_len (x.n : Int) ⟨by omega, by omega⟩ E5 hE5 m5 hm5 W)
            have HM5 : Hid (m5 ≤ 9 ∧ E5.length = m5 ∧ Wire.enc (x.n : Int) = E5) := Lib.hid ⟨by rw [← hm5, ← hE5]; exact Wire.enc_length_le _, hm5, hE5⟩
            obtain ⟨X5, hX5⟩ : ∃ y, X4 ++ E5 = y := ⟨_, rfl⟩
            have HX5 := Lib.hid hX5
            clear hE5 hm5 hX5
            go_upto_region 19 with (first
              | (at_builtin; refine wpList_app _ rfl (.tmp 80) (.tmp 84) 70 rfl w.heap.size 5 _ 1 1 bytesE A4 n4 c4 (bvs X4) rfl (own_below HS4.out.o HB5.out.2) _ Ae5 m5 ce5 (bvs E5) rfl (Rd.of_own HB5.out.1) (bvs_one _) (by have := HS4.out.le; have := HM5.out.1; omega) (by have := HS4.out.le; have := HM5.out.1; unfold maxLen; omega) (Nat.le_trans HS4.out.b.size HB5.out.2.size) ?_; intro A5 c5 w50 own3 g3 hA3; obtain ⟨n5, hn5⟩ : ∃ y, n4 + m5 = y := ⟨_, rfl⟩; rw [hn5] at own3 ⊢; have HS5 := Lib.hid (HS4.out.app (E := E5) (M' := 30000079) HM5.out.2.1 HB5.out.2 hn5 HX5.out own3 g3 (by have := HM5.out.1; omega)); clear own3 g3 hA3 hn5)
              | (go_at_call 67; refine (HI5.out _).mono ?_; rintro e' we5 ⟨Ae5, ce5, rfl, own1, b1⟩; have HB5 := Lib.hid (And.intro own1 b1); clear own1 b1))
            clear k22
            go_upto_region 20 with fail
            go_loopw [3, 7] (fun u3 u7 wx => ∃ (wd : World) (i : Nat) (A : Option Addr) (n c : Nat), wd = wx ∧ i ≤ x.n ∧ u7 = .int .i64 (i : Int) ∧ u3 = .slice A n c ∧ Hid (RSt w bc cs (X5 ++ Chk.encR (x.c.refs.take i)) A n c (30000079 + 18 * i) wd)) (fun _ u7 _ => x.n - (intOf u7).toNat)
            case atStart => exact ⟨_, 0, A5, n5, c5, rfl, Nat.zero_le _, rfl, rfl, Lib.hid (by simpa [Chk.encR] using HS5.out)⟩
            case round =>
              obtain ⟨wd, i, A6, n6, c6, rfl, hi, rfl, rfl, HS6⟩ := hrel
              have k22 := (HS6.out.r.cell 22).trans HAT.out.2.2.2.2.2.2
              by_cases hil : i < x.n
              · have hrl : i < x.c.refs.length := by rw [HRN.out]; exact hil
                have hrd : Rd wd w.heap.size 2 x.A x.n (rfs x.c.refs) := HRF.out.below HS6.out.b
                obtain ⟨bf, off, hxA, hbf, hrg⟩ := hrd.elem (f := rfCells) (fun _ _ => rfl) hrl hil
                have hET := encR_take hrl
                obtain ⟨rt, hrt⟩ : ∃ y, (x.c.refs[i]).t = y := ⟨_, rfl⟩
                obtain ⟨rn, hrn⟩ : ∃ y, (x.c.refs[i]).n = y := ⟨_, rfl⟩
                have q0 : wd.cell? ⟨bf, off + i * 2, none⟩ = some (.int .i64 rt) := by rw [← hrt]; exact hrg 0 _ rfl
                have q1 : wd.cell? ⟨bf, off + i * 2 + 1, none⟩ = some (.int .i64 rn) := by rw [← hrn]; exact hrg 1 _ rfl
                rw [hxA] at k22
                rw [hrt, hrn] at hET
                have HRV : Hid (I64 rt ∧ I64 rn) := Lib.hid (by
                  have hm := List.getElem_mem hrl
                  have h1 := HCK.out.refs.ten _ hm
                  have h2 := HCK.out.refs.pos _ hm
                  have h3 := Chk.held_le_n HCK.out.refs hm
                  rw [hrt] at h1
                  rw [hrn] at h2 h3
                  exact ⟨⟨by have := h1.1; omega, by have := h1.2; omega⟩, ⟨by omega, by omega⟩⟩)
                have HQ1 := Lib.hid (And.intro q1 hbf)
                have HXA := Lib.hid hxA
                have HETR := Lib.hid hET
                obtain ⟨X6, hX6⟩ : ∃ y, X5 ++ Chk.encR (x.c.refs.take i) = y := ⟨_, rfl⟩
                rw [hX6] at HS6
                have HX6 := Lib.hid hX6
                have e3 : (0 : Int) ≤ (i : Int) := by omega
                have e4 : (i : Int) < (x.n : Int) := by omega
                clear hrl hrd hbf hrg hET hrt hrn hX6 hxA q1
                obtain ⟨E7, hE7⟩ : ∃ y, Wire.enc rt = y := ⟨_, rfl⟩
                obtain ⟨m7, hm7⟩ : ∃ y, E7.length = y := ⟨_, rfl⟩
                have HI7 := Lib.hid (fun W => rInt_len rt HRV.out.1 E7 hE7 m7 hm7 W)
                have HM7 : Hid (m7 ≤ 9 ∧ E7.length = m7 ∧ Wire.enc rt = E7) := Lib.hid ⟨by rw [← hm7, ← hE7]; exact Wire.enc_length_le _, hm7, hE7⟩
                obtain ⟨X7, hX7⟩ : ∃ y, X6 ++ E7 = y := ⟨_, rfl⟩
                have HX7 := Lib.hid hX7
                clear hE7 hm7 hX7
                go_upto_region 23 with (first
                  | (at_builtin; refine wpList_app _ rfl (.tmp 93) (.tmp 100) 70 rfl w.heap.size 5 _ 1 1 bytesE A6 n6 c6 (bvs X6) rfl (own_below HS6.out.o HB7.out.2) _ Ae7 m7 ce7 (bvs E7) rfl (Rd.of_own HB7.out.1) (bvs_one _) (by have := HS6.out.le; have := HM7.out.1; omega) (by have := HS6.out.le; have := HM7.out.1; unfold maxLen; omega) (Nat.le_trans HS6.out.b.size HB7.out.2.size) ?_; intro A7 c7 w70 own3 g3 hA3; obtain ⟨n7, hn7⟩ : ∃ y, n6 + m7 = y := ⟨_, rfl⟩; rw [hn7] at own3 ⊢; have HS7 := Lib.hid (HS6.out.app (E := E7) (M' := 30000079 + 18 * i + 9) HM7.out.2.1 HB7.out.2 hn7 HX7.out own3 g3 (by have := HM7.out.1; omega)); clear own3 g3 hA3 hn7)
                  | (go_at_call 67; refine (HI7.out _).mono ?_; rintro e' we7 ⟨Ae7, ce7, rfl, own1, b1⟩; have HB7 := Lib.hid (And.intro own1 b1); clear own1 b1))
                clear k22 q0
                have k22 : w70.cell? ⟨bc, 22, none⟩ = some (.slice x.A x.n x.k) := (HS7.out.r.cell 22).trans HAT.out.2.2.2.2.2.2
                rw [HXA.out] at k22
                have q1 : w70.cell? ⟨bf, off + i * 2 + 1, none⟩ = some (.int .i64 rn) := by
                  have hrd : Rd w70 w.heap.size 2 x.A x.n (rfs x.c.refs) := HRF.out.below HS7.out.b
                  have hrl : i < x.c.refs.length := by rw [HRN.out]; exact hil
                  obtain ⟨bf', off', hxA', _, hrg'⟩ := hrd.elem (f := rfCells) (fun _ _ => rfl) hrl hil
                  have he := Option.some.inj (hxA'.symm.trans HXA.out)
                  injection he with h1 h2
                  subst h1 h2
                  have h8 := hrg' 1 _ rfl
                  have hrd0 : Rd wd w.heap.size 2 x.A x.n (rfs x.c.refs) := HRF.out.below HS6.out.b
                  obtain ⟨bf2, off2, hxA2, _, hrg2⟩ := hrd0.elem (f := rfCells) (fun _ _ => rfl) hrl hil
                  have he2 := Option.some.inj (hxA2.symm.trans HXA.out)
                  injection he2 with h3 h4
                  subst h3 h4
                  exact h8.trans ((hrg2 1 _ rfl).symm.trans HQ1.out.1)
                obtain ⟨E8, hE8⟩ : ∃ y, Wire.enc rn = y := ⟨_, rfl⟩
                obtain ⟨m8, hm8⟩ : ∃ y, E8.length = y := ⟨_, rfl⟩
                have HI8 := Lib.hid (fun W => rInt_len rn HRV.out.2 E8 hE8 m8 hm8 W)
                have HM8 : Hid (m8 ≤ 9 ∧ E8.length = m8 ∧ Wire.enc rn = E8) := Lib.hid ⟨by rw [← hm8, ← hE8]; exact Wire.enc_length_le _, hm8, hE8⟩
                obtain ⟨X8, hX8⟩ : ∃ y, X7 ++ E8 = y := ⟨_, rfl⟩
                have HX8 := Lib.hid hX8
                clear hE8 hm8 hX8
                go_wp2_with (first
                  | (at_builtin; refine wpList_app _ rfl (.tmp 102) (.tmp 109) 70 rfl w.heap.size 5 _ 1 1 bytesE A7 n7 c7 (bvs X7) rfl (own_below HS7.out.o HB8.out.2) _ Ae8 m8 ce8 (bvs E8) rfl (Rd.of_own HB8.out.1) (bvs_one _) (by have := HS7.out.le; have := HM8.out.1; omega) (by have := HS7.out.le; have := HM8.out.1; unfold maxLen; omega) (Nat.le_trans HS7.out.b.size HB8.out.2.size) ?_; intro A8 c8 w80 own3 g3 hA3; obtain ⟨n8, hn8⟩ : ∃ y, n7 + m8 = y := ⟨_, rfl⟩; rw [hn8] at own3 ⊢; have HS8 := Lib.hid (HS7.out.app (E := E8) (M' := 30000079 + 18 * (i + 1)) HM8.out.2.1 HB8.out.2 hn8 HX8.out own3 g3 (by have := HM8.out.1; omega)); clear own3 g3 hA3 hn8)
                  | (go_at_call 67; refine (HI8.out _).mono ?_; rintro e' we8 ⟨Ae8, ce8, rfl, own1, b1⟩; have HB8 := Lib.hid (And.intro own1 b1); clear own1 b1))

                go_roundw
                case rel => exact ⟨_, i + 1, A8, n8, c8, rfl, by omega, by go_num, rfl, Lib.hid (by
                  have h8 := HS8.out
                  rw [← HX8.out, ← HX7.out, ← HX6.out, ← HM7.out.2.2, ← HM8.out.2.2, List.append_assoc, List.append_assoc, ← HETR.out] at h8
                  exact h8)⟩
                case measure => simp [intOf]; omega
              · obtain rfl : i = x.n := by omega
                have hrt : x.c.refs.take x.n = x.c.refs := List.take_of_length_le (by rw [HRN.out]; exact Nat.le_refl _)
                rw [hrt] at HS6
                clear hrt
                go_wp2_with fail
                go_roundw
                case rel =>
                  have h6 := HS6.out
                  have e : X5 ++ Chk.encR x.c.refs = E0 ++ (l.take (k + 1)).flatMap Chk.encC := by
                    rw [HET2.out, HEQ.out, ← HX5.out, HX4.out, ← HX3.out, ← HX2.out, ← HX1.out, ← HX0.out, HM1.out.2.2, HM3.out.2.2, HM5.out.2.2]
                    simp only [List.append_assoc]
                  rw [e] at h6
                  exact ⟨_, k + 1, A6, n6, c6, rfl, by omega, by go_num, rfl, Lib.hid h6.o, Lib.hid h6.b, Lib.hid h6.ln⟩
                case measure => simp [intOf]; omega
    · obtain rfl : k = t.n := by omega
      have hE : (l.take t.n).flatMap Chk.encC = l.flatMap Chk.encC := by rw [List.take_of_length_le (by rw [HL.out]; exact Nat.le_refl _)]
      rw [hE] at HOK HLK
      clear hE
      go_wp2_with fail
      go_ret
      refine ⟨A, c, ?_, ?_, HBK.out⟩
      · show _ = Ending.returned (.slice A (Chk.encT l).length c)
        rw [HET.out, HLK.out]; rfl
      · show World.ownsRow wr w.heap.size _ 1 (.slice A (Chk.encT l).length c) (Chk.encT l).length (bvs (Chk.encT l))
        rw [HET.out, HLK.out]; exact HOK.out
end Go.Proofs.Ytcicfneekmbamaa
