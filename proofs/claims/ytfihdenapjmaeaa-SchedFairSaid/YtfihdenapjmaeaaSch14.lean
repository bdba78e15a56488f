/- Layer 37's Run. Conditions: at most 1000 tasks. -/
import Derived.Test.YtfihdenapjmaeaaSch13
import Derived.Test.YtfihdenapjmaeaaKeep
namespace Go.Proofs.Ytfihdenapjmaeaa
set_option linter.unusedVariables false
set_option linter.unusedSimpArgs false
open Go.RowKit
theorem Run_bad (A0 : Option Addr) (n0 c0 : Nat) (cr : List Int) (hl : cr.length = n0) (B0 : Nat) (t : Value) (b : Int) (w : World) (hr0 : Rd w B0 1 A0 n0 (ivs cr)) (hB0 : B0 ≤ w.heap.size) (hv : vldB cr = false ∨ b < 0) :
    Calls Try.prog 21 #[.agg #[.slice A0 n0 c0], t, .int .i64 b] w fun e w' => e = .returned (.tuple #[.agg #[.slice none 0 0], .slice none 0 0, .int .i64 1]) ∧ Below w.heap.size w w' := by
  have HV := Lib.hid (fun W (hW : Below w.heap.size w W) => valid_any A0 n0 c0 cr hl B0 W (hr0.below (hW.mono hB0)) (Nat.le_trans hB0 hW.size))
  obtain ⟨v, hvv⟩ : ∃ v, vldB cr = v := ⟨_, rfl⟩
  rw [hvv] at HV hv
  have hb : Below w.heap.size w ((w.alloc (.cells #[.slice A0 n0 c0] 26)).alloc (.cells #[.slice none 0 0] 26)) := ((Below.refl _ _).alloc (Nat.le_refl _) _).alloc (by simp) _
  clear hr0
  cases v with
  | false =>
    clear hv hvv
    go_enter Try.func21, Try.ntmps21
    go_wp2_with (go_at_call 14; refine (HV.out _ hb).mono ?_; rintro e w1 ⟨rfl, b1⟩; have k0 := b1.cell (p := ⟨w.heap.size + 1, 0, none⟩) (by simp); have f0 := b1.frozen (p := ⟨w.heap.size + 1, 0, none⟩) (by simp))
    exact bodyPost_ret (v := .tuple #[.agg #[.slice none 0 0], .slice none 0 0, .int .i64 1]) (by simp [results, Try.results21, go_sem, k0, f0]) rfl ⟨rfl, (hb.trans (b1.mono hb.size)).setCell (by simp) _⟩
  | true =>
    have hb0 : b < 0 := by rcases hv with h | h; cases h; exact h
    have hd : decide (b < 0) = true := by simpa using hb0
    clear hv hvv hb0
    go_enter Try.func21, Try.ntmps21
    go_wp2_with (go_at_call 14; refine (HV.out _ hb).mono ?_; rintro e w1 ⟨rfl, b1⟩; have k0 := b1.cell (p := ⟨w.heap.size + 1, 0, none⟩) (by simp); have f0 := b1.frozen (p := ⟨w.heap.size + 1, 0, none⟩) (by simp))
    exact bodyPost_ret (v := .tuple #[.agg #[.slice none 0 0], .slice none 0 0, .int .i64 1]) (by simp [results, Try.results21, go_sem, k0, f0]) rfl ⟨rfl, (hb.trans (b1.mono hb.size)).setCell (by simp) _⟩
/-- Run's results -/
def RunOk (R : List Int × List Nat) (w : World) (e : Ending) (w' : World) : Prop := ∃ g c' P np cp, e = .returned (.tuple #[.agg #[.slice (some ⟨g, 0, none⟩) 5 c'], .slice P np cp, .int .i64 0]) ∧ Cr5 w' g R.1 ∧ w.heap.size ≤ g ∧ R.2.length = np ∧ Rd w' w'.heap.size 1 P np (nvs R.2) ∧ np ≤ cp ∧ Below w.heap.size w w'
/-- the indices that are left: a row of the call's own, or none -/
def LeftAt (w : World) (g lo : Nat) (B0 : Nat) (AL : Option Addr) (ml cl : Nat) (ks : List Nat) : Prop := ks.length = ml ∧ ml ≤ cl ∧ cl ≤ 9223372036854775807 ∧ (0 < ml → ∃ gl, AL = some ⟨gl, 0, none⟩ ∧ gl ≠ g ∧ gl < B0 ∧ lo < gl ∧ IRow w gl (ks.map fun k : Nat => (k : Int)))
theorem LeftAt.rd {w : World} {g lo B0 ml cl : Nat} {AL : Option Addr} {ks : List Nat} (h : LeftAt w g lo B0 AL ml cl ks) : Rd w w.heap.size 1 AL ml (nvs ks) := by
  obtain ⟨h1, h2, h3, h4⟩ := h
  rcases Nat.eq_zero_or_pos ml with h0 | h0
  · subst h0
    obtain rfl : ks = [] := List.eq_nil_of_length_eq_zero h1
    exact Rd.nil_ _ _ _ _
  · obtain ⟨gl, rfl, _, _, _, hi⟩ := h4 h0
    rw [nvs_ivs]; exact hi.rd (by simp [h1])
theorem IRow.keep {w w' : World} {g : Nat} {l : List Int} (h : IRow w g l) (hk : w'.heap[g]? = w.heap[g]?) : IRow w' g l := by
  refine ⟨?_, fun t ht => (World.cell?_of_block (a := ⟨g, t, none⟩) hk).trans (h.cell t ht), fun t ht => (World.frozen?_of_block (a := ⟨g, t, none⟩) hk).trans (h.free t ht)⟩
  have h1 : w.heap[g]? = some (w.heap[g]'h.lt) := Array.getElem?_eq_getElem h.lt
  rw [h1] at hk
  exact (Array.getElem?_eq_some_iff.1 hk).1
theorem LeftAt.keep {w w' : World} {g lo B0 ml cl : Nat} {AL : Option Addr} {ks : List Nat} (h : LeftAt w g lo B0 AL ml cl ks) (hk : ∀ gl, gl ≠ g → gl < B0 → gl < w.heap.size → w'.heap[gl]? = w.heap[gl]?) : LeftAt w' g lo B0 AL ml cl ks := by
  obtain ⟨h1, h2, h3, h4⟩ := h
  refine ⟨h1, h2, h3, fun h0 => ?_⟩
  obtain ⟨gl, e, hne, hlt, hgg, hi⟩ := h4 h0
  exact ⟨gl, e, hne, hlt, hgg, hi.keep (hk gl hne hlt hi.lt)⟩
theorem LeftAt.rd_grown {w w' : World} {g lo B0 ml cl : Nat} {AL : Option Addr} {ks : List Nat} (h : LeftAt w g lo B0 AL ml cl ks) (hg : w.grownBy w' (some g)) : Rd w' w.heap.size 1 AL ml (nvs ks) := by
  rcases Nat.eq_zero_or_pos ml with h0 | h0
  · subst h0
    obtain rfl : ks = [] := List.eq_nil_of_length_eq_zero h.1
    exact Rd.nil_ _ _ _ _
  · obtain ⟨gl, e, hne, _⟩ := h.2.2.2 h0
    exact h.rd.grown_far hg (Nat.le_refl _) (fun a ha e' => by rw [e] at ha; have h1 := Option.some.inj ha; have h2 := Option.some.inj e'; subst h1; exact hne h2)
def slen (v : Value) : Nat := match v with | .slice _ n _ => n | _ => 0
theorem own_ne {w : World} {base n c g : Nat} {e : TypeId} {A : Option Addr} {xs : List Value} (h : w.ownsRow base e 1 (.slice A n c) n xs) (hg : g < base) : (Value.slice A n c).ownBlock = none ∨ (Value.slice A n c).ownBlock ≠ some g := by
  cases A with
  | none => left; rfl
  | some a =>
    right
    intro e
    have := h.lt g e
    omega
theorem own_ge {w : World} {base n c : Nat} {e : TypeId} {A : Option Addr} {xs : List Value} (h : w.ownsRow base e 1 (.slice A n c) n xs) : ∀ k, (Value.slice A n c).ownBlock = some k → base ≤ k ∧ k < w.heap.size := fun k hk => h.lt k hk
/-- what holds at the end of Run -/
theorem run_end {w w4 W : World} {g b9 np cp : Nat} {AP : Option Addr} {R : List Int × List Nat} (v : Value) (hgw : w.heap.size + 2 ≤ g) (hgb : g < b9) (Z9 : b9 < w4.heap.size) (B4 : Below w.heap.size w w4) (K : Keep (fun k => k = g ∨ b9 < k) w4 W) (C : Cr5 W g R.1) (hown : W.ownsRow w4.heap.size 3 1 (.slice AP np cp) np (nvs R.2)) (hnp : R.2.length = np) :
    Cr5 (W.setCell ⟨w.heap.size + 1, 0, none⟩ v) g R.1 ∧ Rd (W.setCell ⟨w.heap.size + 1, 0, none⟩ v) (W.setCell ⟨w.heap.size + 1, 0, none⟩ v).heap.size 1 AP np (nvs R.2) ∧ np ≤ cp ∧ Below w.heap.size w (W.setCell ⟨w.heap.size + 1, 0, none⟩ v) := by
  have hB : Below w.heap.size w W := Below.then_keep B4 K (fun k hk => by rcases hk with h | h <;> omega) (Nat.le_refl _)
  refine ⟨C.keep (Below.heap_setCell _ _ _ _ (fun e => by have : g = w.heap.size + 1 := e; omega)), ?_, (own_cap hown).1, hB.setCell (by simp) _⟩
  have h1 := (Rd.of_own hown).setCell_far (p := ⟨w.heap.size + 1, 0, none⟩) (fun a ha => by have := (own_block_lt hown a ha).1; show a.block ≠ w.heap.size + 1; omega) v
  refine h1.more ?_
  simp
theorem filt_cast (ks : List Nat) (k : Nat) : (ks.map fun k : Nat => (k : Int)).filter (fun x => !(x == (k : Int))) = (ks.filter (· ≠ k)).map fun k : Nat => (k : Int) := by
  induction ks with
  | nil => rfl
  | cons a ks ih =>
    simp only [List.map_cons, List.filter_cons, ih]
    by_cases h : a = k
    · subst h; simp
    · have h1 : ((a : Int) == (k : Int)) = false := by rw [beq_eq_false_iff_ne]; omega
      simp [h1, h]
set_option maxRecDepth 100000 in
set_option maxHeartbeats 4000000 in
theorem Run_ok (A0 : Option Addr) (c0 : Nat) (cr : List Int) (hl : cr.length = 5) (B0 : Nat) (b : Nat) (hb63 : (b : Int) ≤ 9223372036854775807) (A : Option Addr) (n c : Nat) (L : List Sc.Tk) (hL : L.length = n) (hn : n ≤ 1000) (B : Nat) (w : World) (hr : Rd w B 5 A n (L.flatMap tcs)) (hB : B ≤ w.heap.size) (hr0 : Rd w B0 1 A0 5 (ivs cr)) (hB0 : B0 ≤ w.heap.size) (hv : vldB cr = true) :
    Calls Try.prog 21 #[.agg #[.slice A0 5 c0], .slice A n c, .int .i64 (b : Int)] w (RunOk (Sc.run L b cr (List.range n)) w) := by
  have HV := Lib.hid (fun W (hW : Below w.heap.size w W) => valid_any A0 5 c0 cr hl B0 W (hr0.below (hW.mono hB0)) (Nat.le_trans hB0 hW.size))
  rw [hv] at HV
  have hvld := (vldB_iff cr).1 hv
  have HCL := Lib.hid (fun W (hW : Below w.heap.size w W) => cloneI A0 5 c0 cr hl (by omega) B0 W (hr0.below (hW.mono hB0)) (Nat.le_trans hB0 hW.size))
  have HEV := Lib.hid (fun W => every_any A n c hn W)
  have HVL := Lib.hid hvld
  have HR := Lib.hid hr
  have hd : decide ((b : Int) < 0) = false := decide_eq_false (by omega)
  have hb : Below w.heap.size w ((w.alloc (.cells #[.slice A0 5 c0] 26)).alloc (.cells #[.slice none 0 0] 26)) := ((Below.refl _ _).alloc (Nat.le_refl _) _).alloc (by simp) _
  clear hr0 hv hr hvld
  go_enter Try.func21, Try.ntmps21
  go_wp2_with (first
    | (go_at_call 14; refine (HV.out _ hb).mono ?_; rintro e w1 ⟨rfl, b1⟩; have l01 : w.heap.size + 2 ≤ w1.heap.size := (by have := b1.size; simpa using this); have k0 := b1.cell (p := ⟨w.heap.size, 0, none⟩) (by simp; omega); have hb1 := hb.trans (b1.mono hb.size))
    | (go_at_call 24; refine (HCL.out _ hb1).mono ?_; rintro e w2 ⟨A2, c2, rfl, own2, b2⟩; have hb2 := hb1.trans (b2.mono hb1.size); have l2 := b2.size)
    | (go_at_call 26; refine (HEV.out _).mono ?_; rintro e w4 ⟨A4, c4, rfl, own4, b4⟩))
  obtain ⟨g, rfl, hg, C2⟩ := Cr5.of_own own2 hl
  obtain ⟨w3, hw3⟩ : ∃ w3, w2.alloc (.cells #[.slice (some ⟨g, 0, none⟩) 5 c2] 26) = w3 := ⟨_, rfl⟩
  rw [hw3] at own4 b4
  have Z3 : w2.heap.size + 1 = w3.heap.size := by rw [← hw3, alloc_size1]
  have hg3 : g < w2.heap.size := C2.lt
  have l4 := b4.size
  have C4 : Cr5 w4 g cr := Cr5.below (by rw [← hw3]; exact C2.alloc _) b4
  have X4 : w4.cell? ⟨w2.heap.size, 0, none⟩ = some (.slice (some ⟨g, 0, none⟩) 5 c2) := by
    rw [b4.cell (p := ⟨w2.heap.size, 0, none⟩) (by show w2.heap.size < w3.heap.size; omega), ← hw3, cell_of_row _ _ _ _ _ _ (heap_alloc_new w2 _)]; rfl
  have B4 : Below w.heap.size w w4 := Below.trans (by rw [← hw3]; exact hb2.alloc hb2.size _) (b4.mono (by have := hb2.size; omega))
  have K4 : w4.cell? ⟨w.heap.size + 1, 0, none⟩ = some (.slice none 0 0) := by
    rw [b4.cell (p := ⟨w.heap.size + 1, 0, none⟩) (by show w.heap.size + 1 < w3.heap.size; omega), ← hw3, World.cell?_alloc_lt _ _ _ (by show w.heap.size + 1 < w2.heap.size; omega), b2.cell (p := ⟨w.heap.size + 1, 0, none⟩) (by show w.heap.size + 1 < w1.heap.size; omega), b1.cell (p := ⟨w.heap.size + 1, 0, none⟩) (by simp)]
    simp
  have F4 : w4.frozen? ⟨w.heap.size + 1, 0, none⟩ = false := by
    have e2 := b2.frozen (p := ⟨w.heap.size + 1, 0, none⟩) (by show w.heap.size + 1 < w1.heap.size; omega)
    have e1 := b1.frozen (p := ⟨w.heap.size + 1, 0, none⟩) (by simp)
    have e0 : w3.frozen? ⟨w.heap.size + 1, 0, none⟩ = w2.frozen? ⟨w.heap.size + 1, 0, none⟩ := by rw [← hw3]; exact World.frozen?_of_block (RowKit.Below.heap_alloc w2 _ _ (by show w.heap.size + 1 < w2.heap.size; omega))
    rw [b4.frozen (p := ⟨w.heap.size + 1, 0, none⟩) (by show w.heap.size + 1 < w3.heap.size; omega), e0, e2, e1]; simp
  have hcap := own_cap own4
  have L4 : LeftAt w4 g w2.heap.size w4.heap.size A4 n c4 (List.range n) := by
    refine ⟨List.length_range, hcap.1, by have := hcap.2; unfold maxLen at this; exact this, fun h0 => ?_⟩
    obtain ⟨gl, cap, hv4, hbl, hlt⟩ := own4.form h0
    have hA : A4 = some ⟨gl, 0, none⟩ := by injection hv4
    subst hA
    refine ⟨gl, rfl, by omega, hlt, by omega, hlt, fun t ht => ?_, fun t ht => own4.frozenAt t⟩
    have hlen : t < n := by simpa using ht
    have := own4.cells (g := gl) rfl t (.int .i64 (t : Int)) (by simp [nvs, hlen])
    rw [Addr.add_lit, Nat.zero_add] at this
    rw [this]
    simp [List.getD, hlen]
  have hgw : w.heap.size + 2 ≤ g := by omega
  have HX4 := Lib.hid X4
  have HK4 := Lib.hid K4
  have HF4 := Lib.hid F4
  have HC4 := Lib.hid C4
  have HL4 := Lib.hid L4
  have Z9 : w2.heap.size < w4.heap.size := by omega
  clear hw3 X4 K4 F4 C4 L4 own2 own4 C2 k0 hcap Z3 l4 b1 b2 hb hb1
  obtain ⟨b9, hb9⟩ : ∃ b9, w2.heap.size = b9 := ⟨_, rfl⟩
  rw [hb9] at HX4 Z9 hg3 HL4 ⊢
  clear hb9 hb2 b4 l2
  have HB4 := Lib.hid B4
  clear B4
  have hs2 : w.heap.size + 2 ≤ w4.heap.size := by omega
  go_loopw [10, 11] (fun u10 u11 wx => ∃ (wr : World) (cr' : List Int) (ks p : List Nat) (AL : Option Addr) (ml cl : Nat) (AP : Option Addr) (cp : Nat), wr = wx ∧ u10 = .slice AL ml cl ∧ u11 = .slice AP p.length cp ∧ p.length ≤ b ∧ p.length + ml ≤ n ∧ Hid (∀ k ∈ ks, k < n) ∧ Hid (Sc.Vld cr') ∧ LeftAt wr g b9 w4.heap.size AL ml cl ks ∧ wr.ownsRow w4.heap.size 3 1 (.slice AP p.length cp) p.length (nvs p) ∧ Cr5 wr g cr' ∧ Keep (fun k => k = g ∨ b9 < k) w4 wr ∧ Hid (Sc.run L b cr (List.range n) = ((Sc.run L (b - p.length) cr' ks).1, p ++ (Sc.run L (b - p.length) cr' ks).2))) (fun _ u11 _ => b - slen u11)
  case atStart => exact ⟨w4, cr, List.range n, [], A4, n, c4, none, 0, rfl, rfl, rfl, by simp, by simp, range_lt n, HVL.out, HL4.out, World.ownsRow_nil _ _ _ _, HC4.out, Keep.refl _ _, by simp [Hid]⟩
  case round =>
    obtain ⟨wr, cr', ks, p, AL, ml, cl, AP, cp, rfl, rfl, rfl, hpb, hpn, HKS, HVC, HL, hown, HC, HKP, HRUN⟩ := hrel
    have hg9 : ¬ (b9 = g ∨ b9 < b9) := by omega
    have hgr : ¬ (w.heap.size + 1 = g ∨ b9 < w.heap.size + 1) := by omega
    have X9 : wr.cell? ⟨b9, 0, none⟩ = some (.slice (some ⟨g, 0, none⟩) 5 c2) := (HKP.cell (p := ⟨b9, 0, none⟩) Z9 hg9).trans HX4.out
    have K9 : wr.cell? ⟨w.heap.size + 1, 0, none⟩ = some (.slice none 0 0) := (HKP.cell (p := ⟨w.heap.size + 1, 0, none⟩) (by show w.heap.size + 1 < _; omega) hgr).trans HK4.out
    have F9 : wr.frozen? ⟨w.heap.size + 1, 0, none⟩ = false := (World.frozen?_of_block (a := ⟨w.heap.size + 1, 0, none⟩) (HKP.block (w.heap.size + 1) (by omega) hgr)).trans HF4.out
    have HWN := Lib.hid hown
    have HCC := Lib.hid HC
    have HKK := Lib.hid HKP
    have HLL := Lib.hid HL
    by_cases hlt : p.length < b
    · have hlt' : (p.length : Int) < (b : Int) := by omega
      have BW : Below w.heap.size w wr := Below.then_keep HB4.out HKP (fun k hk => by rcases hk with h | h <;> omega) (Nat.le_refl _)
      have hnext := next_any g c2 cr' HVC.out A n c L hL hn AL ml cl ks HL.1 (by omega) HKS.out B wr.heap.size wr (HR.out.below (BW.mono hB)) HL.rd (Nat.le_trans hB BW.size) (Nat.le_refl _) (fun W' h' => (HR.out.below (BW.mono hB)).nilA (Nat.le_trans hB BW.size) (show B ≤ g by omega) W' h') (fun W' h' => HL.rd_grown h') HC
      have hrs : Sc.run L (b - p.length) cr' ks = if (Sc.next cr' L ks).2 < 0 then ((Sc.next cr' L ks).1, []) else ((Sc.run L (b - (p.length + 1)) (Sc.next cr' L ks).1 (ks.filter (· ≠ (Sc.next cr' L ks).2.toNat))).1, (Sc.next cr' L ks).2.toNat :: (Sc.run L (b - (p.length + 1)) (Sc.next cr' L ks).1 (ks.filter (· ≠ (Sc.next cr' L ks).2.toNat))).2) := by
        rw [show b - p.length = (b - (p.length + 1)) + 1 by omega]; rfl
      have hvn := Sc.vld_next L ks HVC.out
      have hor := Sc.next_or cr' L ks
      unfold NextRes at hnext
      obtain ⟨nx, hnx⟩ : ∃ nx, Sc.next cr' L ks = nx := ⟨_, rfl⟩
      rw [hnx] at hnext hrs hvn hor
      obtain ⟨cn, kv⟩ := nx
      simp only [] at hnext hrs hvn hor
      have HNX := Lib.hid hnext
      have HRS := Lib.hid hrs
      have HVN := Lib.hid hvn
      have hbw2 := BW.size
      have hw4r := HKP.size
      clear hnext hrs hvn hnx hown HC HKP HL
      rcases hor with ⟨rfl, _⟩ | ⟨k, hkm, rfl, _⟩
      · have HRT : Hid (Sc.run L b cr (List.range n) = (cn, p)) := Lib.hid (by rw [HRUN.out, HRS.out, if_pos (by omega), List.append_nil])
        go_wp2_with (go_at_call 25; refine HNX.out.mono ?_; rintro e w5 ⟨rfl, C5, G5⟩; have X10 := far_grown G5 X9 (show b9 < wr.heap.size by omega) (show b9 ≠ g by omega); have K10 := far_grown G5 K9 (show w.heap.size + 1 < wr.heap.size by omega) (show w.heap.size + 1 ≠ g by omega); have F10 : w5.frozen? ⟨w.heap.size + 1, 0, none⟩ = false := ((World.frozen?_of_block (a := ⟨w.heap.size + 1, 0, none⟩) (G5.block (w.heap.size + 1) (by omega) (fun e => by have := Option.some.inj e; omega))).trans F9); have z5 := G5.size; have x5 : ∀ o, (w5.alloc o).cell? ⟨b9, 0, none⟩ = some (.slice (some ⟨g, 0, none⟩) 5 c2) := (fun o => (World.cell?_alloc_lt w5 o _ (by show b9 < _; omega)).trans X10); have y5 : ∀ o, (w5.alloc o).cell? ⟨w.heap.size + 1, 0, none⟩ = some (.slice none 0 0) := (fun o => (World.cell?_alloc_lt w5 o _ (by show w.heap.size + 1 < _; omega)).trans K10); have f5 : ∀ o, (w5.alloc o).frozen? ⟨w.heap.size + 1, 0, none⟩ = false := (fun o => (World.frozen?_of_block (RowKit.Below.heap_alloc w5 o _ (by show w.heap.size + 1 < _; omega))).trans F10))
        have E := run_end (W := w5.alloc (.cells #[.int .i64 (-1)] 3)) (R := (cn, p)) (.slice (some ⟨g, 0, none⟩) 5 c2) hgw (show g < b9 by omega) Z9 HB4.out ((HKK.out.grown G5 (fun j hj => Or.inl (Or.inl (Option.some.inj hj).symm))).alloc _) (C5.alloc _) ((HWN.out.kept G5 (own_ne HWN.out (by omega))).alloc _) rfl
        exact bodyPost_ret (v := .tuple #[.agg #[.slice (some ⟨g, 0, none⟩) 5 c2], .slice AP p.length cp, .int .i64 0]) (by simp [results, Try.results21, go_sem, y5]) rfl (by rw [HRT.out]; exact ⟨g, c2, AP, p.length, cp, rfl, E.1, by omega, rfl, E.2.1, E.2.2.1, E.2.2.2⟩)
      · obtain ⟨gl, hAL, hglg, hglB, hglo, hirow⟩ := HLL.out.2.2.2 (by have := List.length_pos_of_mem hkm; have := HLL.out.1; omega)
        subst hAL
        have HIR := Lib.hid hirow
        have HKM : Hid ((k : Int) ∈ ks.map fun k : Nat => (k : Int)) := Lib.hid (List.mem_map.2 ⟨k, hkm, rfl⟩)
        have HFC := Lib.hid (filt_cast ks k)
        have HLF : Hid ((ks.filter (· ≠ k)).length < ml) := Lib.hid (by rw [← HLL.out.1]; exact Sc.filter_len hkm)
        have hkn : ¬ (k : Int) < 0 := by omega
        have hd2 : decide ((k : Int) < 0) = false := decide_eq_false hkn
        have HRT : Hid (Sc.run L b cr (List.range n) = ((Sc.run L (b - (p ++ [k]).length) cn (ks.filter (· ≠ k))).1, (p ++ [k]) ++ (Sc.run L (b - (p ++ [k]).length) cn (ks.filter (· ≠ k))).2)) := Lib.hid (by
          rw [HRUN.out, HRS.out, if_neg hkn, Int.toNat_natCast, List.length_append, List.length_singleton, List.append_assoc]; rfl)
        have hml : ml ≤ 1000 := by omega
        have hpl : p.length + 1 ≤ 1000 := by have := List.length_pos_of_mem hkm; have := HLL.out.1; omega
        clear hkm hirow
        go_upto_region 9 with (go_at_call 25; refine HNX.out.mono ?_; rintro e w5 ⟨rfl, C5, G5⟩; have z5 := G5.size; have x5 : ∀ o, (w5.alloc o).cell? ⟨b9, 0, none⟩ = some (.slice (some ⟨g, 0, none⟩) 5 c2) := (fun o => (World.cell?_alloc_lt w5 o _ (by show b9 < _; omega)).trans (far_grown G5 X9 (show b9 < wr.heap.size by omega) (show b9 ≠ g by omega))); have own6 := (HWN.out.kept G5 (own_ne HWN.out (by omega))).alloc (.cells #[.int .i64 (k : Int)] 3); have cb : (w5.alloc (.cells #[.int .i64 (k : Int)] 3)).cell? ⟨w5.heap.size, 0, none⟩ = some (.int .i64 (k : Int)) := (by have := cell_one_new w5 (.int .i64 (k : Int)) 3 0 _ rfl; rwa [Addr.add_lit] at this))
        obtain ⟨w6, hw6⟩ : ∃ w6, w5.alloc (.cells #[.int .i64 (k : Int)] 3) = w6 := ⟨_, rfl⟩
        have z6 : w5.heap.size + 1 = w6.heap.size := by rw [← hw6, alloc_size1]
        have C6 : Cr5 w6 g cn := by rw [← hw6]; exact C5.alloc _
        have K6 : Keep (fun k => k = g ∨ b9 < k) w4 w6 := by rw [← hw6]; exact (HKK.out.grown G5 (fun j hj => Or.inl (Or.inl (Option.some.inj hj).symm))).alloc _
        have I6 : IRow w6 gl (ks.map fun k : Nat => (k : Int)) := by rw [← hw6]; exact (HIR.out.keep (G5.block gl HIR.out.lt (fun e => hglg (Option.some.inj e)))).keep (RowKit.Below.heap_alloc w5 _ gl (Nat.lt_of_lt_of_le HIR.out.lt z5))
        rw [hw6] at own6 cb
        try rw [hw6]
        obtain ⟨bk, hbk⟩ : ∃ bk, w5.heap.size = bk := ⟨_, rfl⟩
        rw [hbk] at cb z6 z5
        try rw [hbk]
        have HCB := Lib.hid cb
        have hbk5 : w4.heap.size ≤ bk := by omega
        clear hw6 hbk x5
        go_wp2_with (first
          | (at_builtin; refine wpList_app1 rfl (.tmp 37) (.tmp 39) 22 rfl w4.heap.size 3 _ 8 intsE AP p.length cp _ _ rfl rfl own6 (Below.refl 0 _) rfl (by omega) (Nat.zero_le _) (by omega) ?_; intro g7 c7 w7 own7 hbel7 hg7)
          | fail)
        have hob : ∀ q, (Value.slice AP p.length cp).ownBlock = some q → w4.heap.size ≤ q ∧ q < bk := fun q hq => ⟨(own_ge HWN.out q hq).1, by have := (own_ge HWN.out q hq).2; omega⟩
        have h7 := hg7.1
        have I7 := I6.keep (h7.block gl I6.lt (fun e => by have := (hob gl e.symm).1; omega))
        have cb7 : w7.cell? ⟨bk, 0, none⟩ = some (.int .i64 (k : Int)) := (World.cell?_of_block (a := ⟨bk, 0, none⟩) (h7.block bk (by omega) (fun e => by have := (hob bk e.symm).2; omega))).trans HCB.out
        have C7 := C6.keep (h7.block g C6.lt (fun e => by have := (hob g e.symm).1; omega))
        have K7 := K6.grown h7 (fun q hq => Or.inr (hob q hq).1)
        have z7 := h7.size
        have hD := deleteK gl ml cl (ks.map fun k : Nat => (k : Int)) (by rw [List.length_map]; exact HLL.out.1) hml HLL.out.2.1 HLL.out.2.2.1 (k : Int) HKM.out bk w7 I7 (by omega) (by omega) cb7
        unfold DelRes at hD
        rw [HFC.out, List.length_map] at hD
        refine hD.mono ?_
        rintro e w8 ⟨rfl, I8, G8⟩
        have own8 := own7.kept G8 (own_ne own7 (by omega))
        have C8 := C7.keep (G8.block g C7.lt (fun e => hglg (Option.some.inj e).symm))
        have K8 := K7.grown G8 (fun q hq => Or.inl (Or.inr (by have := Option.some.inj hq; omega)))
        clear hD cb7
        go_wp2_with fail
        go_roundw
        case rel => exact ⟨w8, cn, ks.filter (· ≠ k), p ++ [k], some ⟨gl, 0, none⟩, (ks.filter (· ≠ k)).length, cl, some ⟨g7, 0, none⟩, c7, rfl, by simp, by rw [List.length_append, List.length_singleton], by rw [List.length_append, List.length_singleton]; omega, by rw [List.length_append, List.length_singleton]; have := HLF.out; omega, fun q hq => HKS.out q (List.mem_filter.1 hq).1, HVN.out, ⟨rfl, by have := HLF.out; have := HLL.out.2.1; omega, HLL.out.2.2.1, fun _ => ⟨gl, rfl, hglg, hglB, hglo, I8⟩⟩, by rw [List.length_append, List.length_singleton]; simpa [nvs] using own8, C8, K8, HRT.out⟩
        case measure => simp [slen]; omega
    · have hd' : decide ((p.length : Int) < (b : Int)) = false := decide_eq_false (by omega)
      have hge : (b : Int) ≤ (p.length : Int) := by omega
      have hpe : b - p.length = 0 := by omega
      have HRT : Hid (Sc.run L b cr (List.range n) = (cr', p)) := Lib.hid (by rw [HRUN.out, hpe, Sc.run, List.append_nil])
      have E := run_end (R := (cr', p)) (.slice (some ⟨g, 0, none⟩) 5 c2) hgw (show g < b9 by omega) Z9 HB4.out HKP HC hown rfl
      have HE := Lib.hid E
      clear hown HC HKP HL E
      go_wp2
      exact bodyPost_ret (v := .tuple #[.agg #[.slice (some ⟨g, 0, none⟩) 5 c2], .slice AP p.length cp, .int .i64 0]) (by simp [results, Try.results21, go_sem, K9]) rfl (by rw [HRT.out]; exact ⟨g, c2, AP, p.length, cp, rfl, HE.out.1, by omega, rfl, HE.out.2.1, HE.out.2.2.1, HE.out.2.2.2⟩)
end Go.Proofs.Ytfihdenapjmaeaa
