/- Joined texts: BilQ, BilS, BilT. Conditions: as each part says. -/
import Derived.Test.YtkjomnakolhdcaaDoorBilD
namespace Go.Proofs.YtkjomnakolhdcaaDoor
set_option linter.unusedVariables false
set_option linter.unusedSimpArgs false
/-! Layer 35's laws in plain: what a booking keeps. Condition: the ledger keeps what it keeps (Ok). -/
section
namespace Bil
theorem getD_le {l : List Int} {lo hi : Int} (h0 : lo ≤ 0 ∧ 0 ≤ hi) (h : ∀ t, t < l.length → lo ≤ l.getD t 0 ∧ l.getD t 0 ≤ hi) (t : Nat) : lo ≤ l.getD t 0 ∧ l.getD t 0 ≤ hi := by
  rcases Nat.lt_or_ge t l.length with ht | ht
  · exact h t ht
  · have : l.getD t 0 = 0 := by simp [List.getD, List.getElem?_eq_none ht]
    omega
theorem closeE_zero {l : Lg} {md hs : Int} {C : List Int} (h : closeE l md hs C = 0) : CloseOk l md hs C ∧ l.periods < 65536 := by
  unfold closeE at h
  split at h
  · rename_i hc
    split at h
    · cases h
    · exact ⟨hc, by omega⟩
  · cases h
theorem i64s_of {l : List Int} (h : ∀ t : Nat, -9223372036854775808 ≤ l.getD t 0 ∧ l.getD t 0 ≤ 9223372036854775807) : I64s l := fun x hx => by
  obtain ⟨j, hj, rfl⟩ := List.mem_iff_getElem.1 hx
  have := h j
  simpa [List.getD, hj] using this
theorem fits_i64s {C : List Int} (h : ∀ c ∈ C, fits c = true) : I64s C := fun x hx => by
  have := h x hx
  simp [fits] at this
  omega
structure Inv (l : Lg) (K : Int) : Prop where
  ok : Ok l
  sm : Sm l K
  ke : KEnc l
theorem sm_close {l : Lg} (hl : Ok l) {K : Int} (hs : Sm l K) {md hh : Int} {C : List Int} (h : CloseOk l md hh C) (hd : List UInt8) : Sm (closeOf hd l md hh C) (K + 1099511627776) := by
  have hlen : C.length = l.pending.length := by rw [h.1, hl.p]
  have hcn := charges_nonneg h.2.2.2.1
  have hK : 0 ≤ K := by have := hs 0; omega
  intro t
  rcases Nat.lt_or_ge t l.n with ht | ht
  · have e1 : (closeOf hd l md hh C).pending.getD t 0 = l.pending.getD t 0 - (usedL C l.pending).getD t 0 := zip_get _ (by rw [used_len hlen, hlen]) (by rw [hl.p]; exact ht)
    have e2 : (closeOf hd l md hh C).paid.getD t 0 = l.paid.getD t 0 + (netL C (usedL C l.pending)).getD t 0 := zip_get _ (by rw [net_len hlen, h.1, hl.q]) (by rw [hl.q]; exact ht)
    have hcl := h.1
    rw [used_get hlen (by omega)] at e1
    rw [net_get hlen (by omega)] at e2
    have h1 := hs t
    have h2 := hcn t
    rw [e1, e2]
    omega
  · have e1 : (closeOf hd l md hh C).pending.getD t 0 = 0 := by
      show (List.zipWith _ l.pending (usedL C l.pending)).getD t 0 = 0
      simp only [List.getD]; rw [List.getElem?_eq_none (by rw [List.length_zipWith, hl.p]; omega)]; rfl
    have e2 : (closeOf hd l md hh C).paid.getD t 0 = 0 := by
      show (List.zipWith _ l.paid (netL C (usedL C l.pending))).getD t 0 = 0
      simp only [List.getD]; rw [List.getElem?_eq_none (by rw [List.length_zipWith, hl.q]; omega)]; rfl
    rw [e1, e2]; omega
theorem sm_credit {l : Lg} (hl : Ok l) {K : Int} (hs : Sm l K) {i t : Nat} {u : Int} (ht : t < l.n) (h1 : 1 ≤ u) (h2 : u ≤ 1099511627776) (hd : List UInt8) : Sm (creditOf hd l i t u) (K + 1099511627776) := by
  intro s
  have h := hs s
  have e : (creditOf hd l i t u).pending.getD s 0 = l.pending.getD s 0 + if s = t then u else 0 := pending_credit hl hd i ht u s
  show 0 ≤ (creditOf hd l i t u).pending.getD s 0 ∧ (creditOf hd l i t u).pending.getD s 0 ≤ _ ∧ 0 ≤ l.paid.getD s 0 ∧ l.paid.getD s 0 ≤ _
  rw [e]
  split <;> omega
theorem aenc_bill {l : Lg} (hl : Ok l) {md hh : Int} {C : List Int} (h : CloseOk l md hh C) : AEnc ⟨billOf l md hh C, List.replicate l.n 0⟩ := by
  have hlen : C.length = l.pending.length := by rw [h.1, hl.p]
  obtain ⟨b1, b2, b3⟩ := bill_adds hl h
  have hmd := h.2.1
  have hnn : ∀ L : List Int, (∀ t : Nat, 0 ≤ L.getD t 0) → 0 ≤ L.sum := by
    intro L
    induction L with
    | nil => intro _; simp
    | cons a L ih =>
      intro hL
      have h0 := hL 0
      have := ih (fun t => by have := hL (t + 1); simpa using this)
      simp only [List.sum_cons, List.getD_cons_zero] at *
      omega
  have hns : 0 ≤ (billOf l md hh C).nets.sum := hnn _ fun t => by
    rcases Nat.lt_or_ge t l.n with ht | ht
    · exact (b3 t ht).2.1
    · have : (billOf l md hh C).nets.getD t 0 = 0 := by
        show (netL C (usedL C l.pending)).getD t 0 = 0
        simp only [List.getD]; rw [List.getElem?_eq_none (by rw [net_len hlen, h.1]; omega)]; rfl
      omega
  simp [fits] at hmd
  refine ⟨?_, ?_, fits_i64s h.2.2.2.1, i64s_of fun t => ?_, i64s_of fun t => ?_⟩
  · show -9223372036854775808 ≤ md ∧ md ≤ 9223372036854775807; omega
  · show -9223372036854775808 ≤ (billOf l md hh C).house ∧ (billOf l md hh C).house ≤ 9223372036854775807; omega
  · refine getD_le (by omega) (fun t ht => ?_) t
    have ht : t < (usedL C l.pending).length := ht
    rw [used_len hlen] at ht
    show -9223372036854775808 ≤ (usedL C l.pending).getD t 0 ∧ (usedL C l.pending).getD t 0 ≤ 9223372036854775807
    rw [used_get hlen ht]
    have := charges_nonneg h.2.2.2.1 t
    have := hl.nn t
    omega
  · show -9223372036854775808 ≤ (List.replicate l.n (0 : Int)).getD t 0 ∧ (List.replicate l.n (0 : Int)).getD t 0 ≤ _
    rw [rep_zero]; omega
theorem inv_do {l : Lg} {K : Int} (h : Inv l K) (x : Bk) : Inv (doSt l x) (K + 1099511627776) := by
  have hmono : Inv l (K + 1099511627776) := ⟨h.ok, fun t => by have := h.sm t; omega, h.ke⟩
  unfold doSt
  split
  · unfold closeS
    split
    · rename_i he
      obtain ⟨hc, hp⟩ := closeE_zero he
      refine ⟨ok_close h.ok hc _, sm_close h.ok h.sm hc _, fun a ha => ?_⟩
      have ha2 := List.mem_of_mem_drop (show a ∈ (l.kept ++ [(⟨billOf l x.a x.b x.ch, List.replicate l.n 0⟩ : Acc)]).drop _ from ha)
      rcases List.mem_append.1 ha2 with h1 | h1
      · exact h.ke a h1
      · obtain rfl := List.mem_singleton.1 h1; exact aenc_bill h.ok hc
    · exact hmono
  · unfold creditSt
    split
    · rename_i he
      obtain ⟨i, t, hi, ht, htl, hu, hm⟩ := creditErr_zero he
      have hil := (idx_some hi).2.2.1
      rw [hi, ht]
      simp only [Option.getD_some, Int.toNat_natCast]
      obtain ⟨a1, _⟩ := h.ok.a i hil
      have hcf := charges_nonneg a1.f t
      have had := a1.d t
      refine ⟨ok_credit h.ok hil htl hu hm _, sm_credit h.ok h.sm htl hu (by omega) _, fun a ha => ?_⟩
      have ha : a ∈ l.kept.set i ⟨(accAt l i).bill, addAt (accAt l i).granted t x.c⟩ := ha
      rcases List.mem_or_eq_of_mem_set ha with h1 | h1
      · exact h.ke a h1
      · subst h1
        have hmem : accAt l i ∈ l.kept := by simp [accAt, List.getD, hil]
        have hk := h.ke _ hmem
        refine ⟨hk.md, hk.hs, hk.c, hk.r, i64s_of fun s => ?_⟩
        show -9223372036854775808 ≤ (addAt (accAt l i).granted t x.c).getD s 0 ∧ _
        rw [addAt_get (by rw [a1.g]; exact htl)]
        have h1 := a1.d s
        have h2 := charges_nonneg a1.f s
        split <;> omega
    · exact hmono
theorem inv_new (n : Nat) (hd : List UInt8) (K : Int) (hK : 0 ≤ K) : Inv (newOf n hd) K := ⟨ok_new n hd, fun t => by
  show 0 ≤ (List.replicate n (0 : Int)).getD t 0 ∧ (List.replicate n (0 : Int)).getD t 0 ≤ K ∧ 0 ≤ (List.replicate n (0 : Int)).getD t 0 ∧ (List.replicate n (0 : Int)).getD t 0 ≤ K
  rw [rep_zero]; omega, fun a ha => by simp [newOf] at ha⟩
/-- the ledger of the first k bookings -/
def run (l : Lg) : List Bk → Lg
  | [] => l
  | x :: xs => run (doSt l x) xs
theorem sm_big {l : Lg} {K : Int} (h : Sm l K) (hK : K ≤ 1152921504606846976) : Sm l 1152921504606846976 := fun t => by have := h t; omega
theorem closing {l : Lg} {x : Bk} (h0 : doErr l x = 0) (h1 : x.kind = 1) : CloseOk l x.a x.b x.ch ∧ doSt l x = closeOf (bookHead l.head ⟨(encClose x.a x.b x.ch).toArray⟩) l x.a x.b x.ch := by
  unfold doErr at h0
  rw [if_pos h1] at h0
  refine ⟨(closeE_zero h0).1, ?_⟩
  unfold doSt closeS
  rw [if_pos h1, if_pos h0]
end Bil
end
/-! Layer 35's laws: Few, sanity. Conditions: the tables are in memory. -/
section
open Go.RowKit
/-- Few's result -/
def fewB (L : List BkM) : Bool := decide (L.length ≤ 60) && L.all fun y => decide (y.n ≤ 20)
/-! sanity -/
def bill1 : Bil.Bill := ⟨0, 10, 1, [4, 5], [0, 0], [4, 5]⟩
def bill2 : Bil.Bill := ⟨1, 6, 2, [4, 2], [0, 2], [4, 0]⟩
def sL0 (h : List UInt8) : Bil.Lg := ⟨2, 0, [], [0, 0], [0, 0], h⟩
def sL1 (h : List UInt8) : Bil.Lg := ⟨2, 1, [⟨bill1, [0, 0]⟩], [0, 0], [4, 5], h⟩
def sL2 (h : List UInt8) : Bil.Lg := ⟨2, 1, [⟨bill1, [0, 3]⟩], [0, 3], [4, 5], h⟩
def sL3 (h : List UInt8) : Bil.Lg := ⟨2, 2, [⟨bill1, [0, 3]⟩, ⟨bill2, [0, 0]⟩], [0, 1], [8, 5], h⟩
theorem s0 (h : List UInt8) : Bil.newOf 2 h = sL0 h := rfl
theorem s1ok (h : List UInt8) : Bil.CloseOk (sL0 h) 10 1 [4, 5] := ⟨rfl, by simp [Bil.fits], by simp [Bil.fits], by simp [Bil.fits], rfl⟩
theorem s1err (h : List UInt8) : Bil.doErr (sL0 h) ⟨1, 10, 1, 0, [4, 5]⟩ = 0 := by
  unfold Bil.doErr Bil.closeE
  rw [if_pos rfl, if_pos (s1ok h), if_neg (by show ¬ 65536 ≤ 0; omega)]
theorem s1st (h : List UInt8) : ∃ h', h'.length = 16 ∧ Bil.doSt (sL0 h) ⟨1, 10, 1, 0, [4, 5]⟩ = sL1 h' := by
  refine ⟨bookHead h ⟨(encClose 10 1 [4, 5]).toArray⟩, Mk.short_len _, ?_⟩
  have e := s1err h
  unfold Bil.doSt Bil.closeS
  unfold Bil.doErr at e
  rw [if_pos rfl] at e
  rw [if_pos rfl, if_pos e]
  rfl
theorem s1bill (h : List UInt8) : Bil.billOf (sL0 h) 10 1 [4, 5] = bill1 := rfl
theorem s2err (h : List UInt8) : Bil.creditErr (sL1 h) 0 1 3 = 0 := rfl
theorem s2st (h : List UInt8) : ∃ h', h'.length = 16 ∧ Bil.creditSt (sL1 h) 0 1 3 = sL2 h' := by
  refine ⟨bookHead h ⟨(encCredit 0 1 3).toArray⟩, Mk.short_len _, ?_⟩
  unfold Bil.creditSt
  rw [if_pos (s2err h)]
  rfl
theorem s3err (h : List UInt8) : Bil.creditErr (sL2 h) 0 1 3 = 2 := rfl
theorem s3st (h : List UInt8) : Bil.creditSt (sL2 h) 0 1 3 = sL2 h := by
  unfold Bil.creditSt
  rw [s3err, if_neg (by decide)]
theorem s4ok (h : List UInt8) : Bil.CloseOk (sL2 h) 6 0 [4, 2] := ⟨rfl, by simp [Bil.fits], by simp [Bil.fits], by simp [Bil.fits], rfl⟩
theorem s4err (h : List UInt8) : Bil.doErr (sL2 h) ⟨1, 6, 0, 0, [4, 2]⟩ = 0 := by
  unfold Bil.doErr Bil.closeE
  rw [if_pos rfl, if_pos (s4ok h), if_neg (by show ¬ 65536 ≤ 1; omega)]
theorem s4st (h : List UInt8) : ∃ h', h'.length = 16 ∧ Bil.doSt (sL2 h) ⟨1, 6, 0, 0, [4, 2]⟩ = sL3 h' := by
  refine ⟨bookHead h ⟨(encClose 6 0 [4, 2]).toArray⟩, Mk.short_len _, ?_⟩
  have e := s4err h
  unfold Bil.doSt Bil.closeS
  unfold Bil.doErr at e
  rw [if_pos rfl] at e
  rw [if_pos rfl, if_pos e]
  rfl
theorem s4bill (h : List UInt8) : Bil.billOf (sL2 h) 6 0 [4, 2] = bill2 := rfl
theorem sInv0 (h : List UInt8) : Bil.Inv (sL0 h) 1000 := by rw [← s0]; exact Bil.inv_new 2 h 1000 (by decide)
theorem sInv1 (h : List UInt8) : ∃ h', h'.length = 16 ∧ Bil.doSt (sL0 h) ⟨1, 10, 1, 0, [4, 5]⟩ = sL1 h' ∧ Bil.Inv (sL1 h') 1099511628776 := by
  obtain ⟨h', e1, e2⟩ := s1st h
  refine ⟨h', e1, e2, ?_⟩
  rw [← e2]
  exact Bil.inv_do (sInv0 h) _
theorem enc_pos (x : Int) : 1 ≤ (Wire.enc x).length := by
  rw [Wire.enc_length]; omega
theorem s4enc (h : List UInt8) (h16 : h.length = 16) : 20 < (Bil.enc (sL3 h)).length := by
  have e := enc_pos
  have h1 := e ((2 : Nat) : Int)
  have h2 : ∀ a b : Int, 3 ≤ (Wire.encI [a, b]).length := fun a b => by
    have h1 := e ([a, b].length : Int)
    have h2 := e a
    have h3 := e b
    show 3 ≤ (Wire.enc ([a, b].length : Int) ++ [a, b].flatMap Wire.enc).length
    rw [List.length_append]
    simp only [List.flatMap_cons, List.flatMap_nil, List.append_nil, List.length_append]
    omega
  have h3 := h2 0 1
  have h4 := h2 8 5
  unfold Bil.enc Bil.encH
  simp only [List.length_append]
  show 20 < (Wire.enc ((2 : Nat) : Int)).length + ((Wire.enc ((2 : Nat) : Int)).length + (h.length + ((Wire.encI [0, 1]).length + (Wire.encI [8, 5]).length))) + _
  omega
theorem keep_below {w W W' : World} {S : Nat → Prop} (hb : Below w.heap.size w W) (hk : Keep S W W') (hs : ∀ b, S b → w.heap.size ≤ b) : Below w.heap.size w W' := hb.trans (hk.below hb.size fun k hk hS => by have := hs k hS; omega)
/-- a closing in the sanity example: its bill as cells -/
def SC (W : World) (bl : Nat) (col : Nat → Nat) (bill : Bil.Bill) (L : List UInt8 → Bil.Lg) (e : Ending) (W' : World) : Prop := ∃ A1 A2 A3 c1 c2 c3 col' m' h', e = .returned (.tuple #[.agg [.int .i64 bill.period, .int .i64 bill.media, .int .i64 bill.house, .slice A1 bill.charges.length c1, .slice A2 bill.credits.length c2, .slice A3 bill.nets.length c3].toArray, .int .i64 0]) ∧
  W'.ownsRow W.heap.size 3 1 (.slice A3 bill.nets.length c3) bill.nets.length (ivs bill.nets) ∧ h'.length = 16 ∧ LAt W' bl col' m' (L h') ∧ Keep (fun b => col b ≠ 0) W W' ∧ ∀ b, col' b ≠ 0 → col b ≠ 0 ∨ W.heap.size ≤ b
theorem san_close (bl : Nat) (col : Nat → Nat) (m : LM) (l : Bil.Lg) (L : List UInt8 → Bil.Lg) (bill : Bil.Bill) (a b : Int) (ch : List Int) (c0 : Nat) (he : Bil.doErr l ⟨1, a, b, 0, ch⟩ = 0) (hs : ∃ h', h'.length = 16 ∧ Bil.doSt l ⟨1, a, b, 0, ch⟩ = L h') (hb : Bil.billOf l a b ch = bill) (hb64 : i64 b) (hn : ch.length ≤ 1000)
    (w0 : World) (K : Int) (hI : Bil.Inv l K) (hK : K ≤ 1152921504606846976) (hT : Tabs w0) (hR : RG w0) (h : LAt w0 bl col m l) :
    Calls Tryd.prog 29 #[.pointer (some ⟨bl, 0, none⟩), .int .i64 a, .int .i64 b, .slice (some ⟨w0.heap.size, 0, none⟩) ch.length c0] (w0.alloc (.cells (ivs ch).toArray 3)) (SC (w0.alloc (.cells (ivs ch).toArray 3)) bl col bill L) := by
  have hba : Below w0.heap.size w0 (w0.alloc (.cells (ivs ch).toArray 3)) := (Below.refl _ _).alloc (Nat.le_refl _) _
  refine (close_any bl col m l ⟨1, a, b, 0, ch⟩ rfl hb64 (some ⟨w0.heap.size, 0, none⟩) ch.length c0 rfl hn (w0.heap.size + 1) _ (h.below hba) hI.ok (Bil.sm_big hI.sm hK) (hT.below hba) (hR.below hba) (Rd.new w0 (ivs ch) 3 ch.length (size := 1) (by simp)) (by rw [alloc_size1]; exact Nat.le_refl _) (fun _ x hx => ?_)).mono ?_
  · obtain rfl := Option.some.inj hx
    show col w0.heap.size = 0
    rcases Nat.eq_zero_or_pos (col w0.heap.size) with h0 | h0
    · exact h0
    · have := h.lt w0.heap.size (by omega); omega
  · rintro e w' ⟨v, col', m', rfl, h1, _, h3, h4, h5⟩
    obtain ⟨A1, A2, A3, c1, c2, c3, rfl, o1, o2, o3⟩ := h1 ⟨he, rfl⟩
    obtain ⟨h', hh, hs'⟩ := hs
    rw [hs'] at h3
    simp only [hb] at o3 ⊢
    exact ⟨A1, A2, A3, c1, c2, c3, col', m', h', by rw [he], o3, hh, h3, h4, h5⟩
end
/-! Layer 35's laws: the sanity example. Conditions: the tables are in memory. -/
section
open Go.RowKit
theorem keeps_row {W W' : World} {S : Nat → Prop} {q t : Nat} {L : List Value} (h : IsRow W q t L) (hk : Keep S W W') (hn : ¬ S q) : IsRow W' q t L := h.keep (hk.block q h.lt hn)
theorem inv_head {l : Bil.Lg} {K : Int} (h : Bil.Inv l K) (hd : List UInt8) : Bil.Inv { l with head := hd } K := ⟨⟨h.ok.p, h.ok.q, h.ok.k, h.ok.a, h.ok.nn⟩, h.sm, h.ke⟩
theorem inv_mono {l : Bil.Lg} {K K' : Int} (h : Bil.Inv l K) (hK : K ≤ K') : Bil.Inv l K' := ⟨h.ok, fun t => by have := h.sm t; omega, h.ke⟩
theorem sI1 (h : List UInt8) : Bil.Inv (sL1 h) 10000000000000 := by
  obtain ⟨h', _, _, e⟩ := sInv1 h
  exact inv_mono (inv_head e h) (by decide)
theorem sI2 (h : List UInt8) : Bil.Inv (sL2 h) 100000000000000 := by
  obtain ⟨h', _, e2⟩ := s2st h
  have h1 := Bil.inv_do (sI1 h) ⟨2, 0, 1, 3, []⟩
  have e3 : Bil.doSt (sL1 h) ⟨2, 0, 1, 3, []⟩ = Bil.creditSt (sL1 h) 0 1 3 := by unfold Bil.doSt; rw [if_neg (by decide)]
  rw [e3, e2] at h1
  exact inv_mono (inv_head h1 h) (by decide)
theorem sI3 (h : List UInt8) : Bil.Inv (sL3 h) 1000000000000000 := by
  obtain ⟨h', _, e2⟩ := s4st h
  have h1 := Bil.inv_do (sI2 h) ⟨1, 6, 0, 0, [4, 2]⟩
  rw [e2] at h1
  exact inv_mono (inv_head h1 h) (by decide)
theorem i64s_of_inv {l : Bil.Lg} {K : Int} (h : Bil.Inv l K) (hK : K ≤ 9000000000000000000) : I64s l.pending ∧ I64s l.paid := ⟨Bil.i64s_of fun t => by have := h.sm t; omega, Bil.i64s_of fun t => by have := h.sm t; omega⟩
theorem col_zero {W : World} {bl : Nat} {col : Nat → Nat} {m : LM} {l : Bil.Lg} (h : LAt W bl col m l) {q : Nat} (hq : W.heap.size ≤ q) : col q = 0 := by
  rcases Nat.eq_zero_or_pos (col q) with h0 | h0
  · exact h0
  · have := h.lt q (by omega); omega
set_option maxRecDepth 100000 in
set_option maxHeartbeats 6400000 in
theorem sanity_any (w : World) (hT : Tabs w) (hR : RG w) : Calls Tryd.prog 9 #[] w fun e w' => e = .returned (.bool true) ∧ Below w.heap.size w w' := by
  have HN := Lib.hid (new_any 2 (by decide) (by decide) w hT hR)
  have HTT := Lib.hid hT
  have HRR := Lib.hid hR
  have HC2 := Lib.hid san_close
  clear hT hR
  go_enter Tryd.func9, Tryd.ntmps9
  go_upto_region 4 with (go_at_call 11; refine HN.out.mono ?_; rintro e w1 ⟨bl, col, m, rfl, hl, hc, hb⟩; rw [s0] at hl; have HL := Lib.hid hl; have HC := Lib.hid hc; have HB := Lib.hid hb; clear hl hc hb)
  obtain ⟨h0, hh0⟩ : ∃ x, newHead ((2 : Nat) : Int) = x := ⟨_, rfl⟩
  rw [hh0] at HL
  have HCA := Lib.hid (san_close bl col m (sL0 h0) sL1 bill1 10 1 [4, 5] 2 (s1err h0) (s1st h0) (s1bill h0) ⟨by decide, by decide⟩ (by decide) w1 1000 (sInv0 h0) (by decide) (HTT.out.below HB.out) (HRR.out.below HB.out) HL.out)
  have hba : Below w.heap.size w (w1.alloc (.cells (ivs [4, 5]).toArray 3)) := HB.out.alloc (by have := HB.out.size; omega) _
  have HBA := Lib.hid hba
  have HI1 := Lib.hid (sInv1 h0)
  clear hh0 hba
  go_upto_region 5 with (first
    | (go_at_call 29; refine HCA.out.mono ?_; rintro e w2 ⟨A1, A2, A3, c1, c2, c3, col1, m1, h1, rfl, own3, h16, hl1, hk1, hcc1⟩; have HL1 := Lib.hid hl1; have HK1 := Lib.hid hk1; have HCC1 := Lib.hid hcc1; clear hl1 hk1 hcc1 own3)
    | (refine wpList_allocRow rfl _ rfl _ info6 ?_; intro w3 r3 b3 z3)
    | (refine wpList_storeRow rfl _ (.tmp 3) (.tmp 23) rfl (l' := [.int .i64 bill1.period, .int .i64 bill1.media, .int .i64 bill1.house, .slice A1 bill1.charges.length c1, .slice A2 bill1.credits.length c2, .slice A3 bill1.nets.length c3]) r3 rfl rfl size6 rfl rfl ?_; intro w4 r4 g4 z4))
  have hb2 : Below w.heap.size w w2 := keep_below HBA.out HK1.out HC.out
  have hz2 := HK1.out.size
  obtain ⟨q3, hq3⟩ : ∃ x, w2.heap.size = x := ⟨_, rfl⟩
  have hb3 : Below w.heap.size w w3 := hb2.trans (b3.mono hb2.size)
  have hb4 : Below w.heap.size w w4 := hb3.grown g4 hb3.size (fun j hj => by have := Option.some.inj hj; have := hb2.size; omega)
  have hl4 : LAt w4 bl col1 m1 (sL1 h1) := (HL1.out.below b3).keeps (S := fun k => k = w2.heap.size) (Keep.of_grown g4 fun k e => (Option.some.inj e).symm) (fun b e => col_zero HL1.out (Nat.le_of_eq (show b = w2.heap.size from e).symm))
  have hc4 : ∀ b, col1 b ≠ 0 → w.heap.size ≤ b := fun b hb => by
    rcases HCC1.out b hb with h | h
    · exact HC.out b h
    · have := HBA.out.size; omega
  have hz3 : col1 q3 = 0 := col_zero HL1.out (Nat.le_of_eq hq3)
  rw [hq3] at r4 ⊢
  have hI := sI1 h1
  have HCR := Lib.hid (credit_any bl col1 m1 (sL1 h1) 0 1 3 w4 hl4 hI.ok (Bil.sm_big hI.sm (by decide)) (HTT.out.below hb4) (by decide) (by decide) (by decide))
  have HB4 := Lib.hid hb4
  have HC4 := Lib.hid hc4
  have HZ3 := Lib.hid hz3
  have HR4 := Lib.hid r4
  have HE2 := Lib.hid (s2err h1)
  have HS2 := Lib.hid (s2st h1)
  have HQ3 : Hid (w.heap.size ≤ q3) := Lib.hid (by have := hb2.size; omega)
  clear hb2 hz2 hq3 hb3 hb4 hl4 hc4 hz3 hI r3 r4 b3 g4 z3 z4 HCA HN HBA HI1 HL HC HB HL1 HK1 HCC1 h16
  go_upto_region 6 with (go_at_call 30; refine HCR.out.mono ?_; rintro e w5 ⟨rfl, hk5, m5, hl5⟩; rw [HE2.out]; have HK5 := Lib.hid hk5; have HL5 := Lib.hid hl5; clear hk5 hl5)
  obtain ⟨h5, _, e5⟩ := HS2.out
  have hl5 := HL5.out
  rw [e5] at hl5
  have hb5 : Below w.heap.size w w5 := keep_below HB4.out HK5.out HC4.out
  have hr5 := keeps_row HR4.out HK5.out (fun h => h HZ3.out)
  have hI := sI2 h5
  have HCR2 := Lib.hid (credit_any bl col1 m5 (sL2 h5) 0 1 3 w5 hl5 hI.ok (Bil.sm_big hI.sm (by decide)) (HTT.out.below hb5) (by decide) (by decide) (by decide))
  have HB5 := Lib.hid hb5
  have HR5 := Lib.hid hr5
  have HE3 := Lib.hid (s3err h5)
  have HS3 := Lib.hid (s3st h5)
  clear hl5 hb5 hr5 hI e5 HCR HK5 HL5 HR4 HE2 HS2 HB4
  go_upto_region 7 with (go_at_call 30; refine HCR2.out.mono ?_; rintro e w6 ⟨rfl, hk6, m6, hl6⟩; rw [HE3.out]; have HK6 := Lib.hid hk6; have HL6 := Lib.hid hl6; clear hk6 hl6)
  have hl6 := HL6.out
  rw [HS3.out] at hl6
  have hb6 : Below w.heap.size w w6 := keep_below HB5.out HK6.out HC4.out
  have hr6 := keeps_row HR5.out HK6.out (fun h => h HZ3.out)
  have hb6a : Below w.heap.size w (w6.alloc (.cells (ivs [4, 2]).toArray 3)) := hb6.alloc (by have := hb6.size; omega) _
  have HCA := Lib.hid (san_close bl col1 m6 (sL2 h5) sL3 bill2 6 0 [4, 2] 2 (s4err h5) (s4st h5) (s4bill h5) ⟨by decide, by decide⟩ (by decide) w6 _ (sI2 h5) (by decide) (HTT.out.below hb6) (HRR.out.below hb6) hl6)
  have HB6 := Lib.hid hb6a
  have HR6 : Hid (IsRow (w6.alloc (.cells (ivs [4, 2]).toArray 3)) q3 _ _) := Lib.hid (hr6.alloc _)
  clear hl6 hb6 hr6 hb6a HCR2 HK6 HL6 HR5 HE3 HS3 HB5
  go_upto_region 8 with (first
    | (go_at_call 29; refine HCA.out.mono ?_; rintro e w7 ⟨D1, D2, D3, d1, d2, d3, col2, m2, h7, rfl, own7, h716, hl7, hk7, hcc7⟩; have HL7 := Lib.hid hl7; have HK7 := Lib.hid hk7; have HCC7 := Lib.hid hcc7; have HO7 := Lib.hid own7; have H716 := Lib.hid h716; clear hl7 hk7 hcc7 own7 h716)
    | (refine wpList_allocRow rfl _ rfl _ info6 ?_; intro w8 r8 b8 z8)
    | (refine wpList_storeRow rfl _ (.tmp 7) (.tmp 33) rfl (l' := [.int .i64 bill2.period, .int .i64 bill2.media, .int .i64 bill2.house, .slice D1 bill2.charges.length d1, .slice D2 bill2.credits.length d2, .slice D3 bill2.nets.length d3]) r8 rfl rfl size6 rfl rfl ?_; intro w9 r9 g9 z9))
  have hb7 : Below w.heap.size w w7 := keep_below HB6.out HK7.out HC4.out
  obtain ⟨q8, hq8⟩ : ∃ x, w7.heap.size = x := ⟨_, rfl⟩
  have hb8 : Below w.heap.size w w8 := hb7.trans (b8.mono hb7.size)
  have hb9 : Below w.heap.size w w9 := hb8.grown g9 hb8.size (fun j hj => by have := Option.some.inj hj; have := hb7.size; omega)
  have hl9 : LAt w9 bl col2 m2 (sL3 h7) := (HL7.out.below b8).keeps (S := fun k => k = w7.heap.size) (Keep.of_grown g9 fun k e => (Option.some.inj e).symm) (fun b e => col_zero HL7.out (Nat.le_of_eq (show b = w7.heap.size from e).symm))
  have hr7 := keeps_row HR6.out HK7.out (fun h => h HZ3.out)
  have hr9 := (hr7.below' b8).grown g9 (by intro e; have := Option.some.inj e; have := hr7.lt; omega)
  have hz67 := HK7.out.size
  obtain ⟨gd, hgd, hgdb, fd⟩ := FRow.of_own HO7.out (by decide)
  subst hgd
  have fd9 : FRow w9 gd 2 (fun t => bill2.nets.getD t 0) := (fd.below b8).keep (g9.block gd (by have := fd.lt; have := b8.size; omega) (fun e => by have := Option.some.inj e; have := fd.lt; omega))
  rw [hq8] at r9 ⊢
  have hI := sI3 h7
  have ke := i64s_of_inv hI (by decide)
  have HPN := Lib.hid (pending_any bl col2 m2 (sL3 h7) w9 hl9 1)
  have HPD := Lib.hid (paid_any bl col2 m2 (sL3 h7) w9 hl9 1)
  have HPR := Lib.hid (periods_any bl col2 m2 (sL3 h7) w9 hl9)
  have HEN := Lib.hid (encode_any bl col2 m2 (sL3 h7) w9 hl9 ke.1 ke.2 hI.ke)
  have HLE := Lib.hid (s4enc h7 H716.out)
  have k1 : w9.cell? ⟨q3, 2, none⟩ = some (.int .i64 1) := hr9.cell 2
  have k2 : w9.cell? ⟨q8, 2, none⟩ = some (.int .i64 2) := r9.cell 2
  have k3 : w9.cell? ⟨q8, 5, none⟩ = some (.slice (some ⟨gd, 0, none⟩) 2 d3) := r9.cell 5
  have k4 : w9.cell? ⟨gd, 1, none⟩ = some (.int .i64 0) := fd9.cell 1 (by decide)
  have HB9 := Lib.hid hb9
  clear hb7 hq8 hb8 hb9 hl9 hr7 hr9 hz67 hgdb fd fd9 hI ke r8 r9 b8 g9 z8 z9 HCA HO7 HB6 HR6 HL7 HK7 HCC7 H716 HZ3 HQ3
  go_wp2_with (first
    | (go_at_call 15; refine HPN.out.mono ?_; rintro e w10 ⟨rfl, hw⟩; rw [hw, show Bil.atOf (sL3 h7).pending 1 = 1 from rfl]; clear hw w10)
    | (go_at_call 13; refine HPD.out.mono ?_; rintro e w10 ⟨rfl, hw⟩; rw [hw, show Bil.atOf (sL3 h7).paid 1 = 5 from rfl]; clear hw w10)
    | (go_at_call 14; refine HPR.out.mono ?_; rintro e w10 ⟨rfl, hw⟩; rw [hw, show ((sL3 h7).periods : Int) = 2 from rfl]; clear hw w10)
    | (go_at_call 26; refine HEN.out.mono ?_; rintro e w10 ⟨AE, nE, cE, rfl, hnE, _, bE⟩; have hE20 : 20 < nE := by rw [hnE]; exact HLE.out
       have hE21 : (20 : Int) < (nE : Int) := by omega
       clear hnE hE20))
  go_ret
  exact ⟨rfl, HB9.out.trans (bE.mono HB9.out.size)⟩
end
end Go.Proofs.YtkjomnakolhdcaaDoor
