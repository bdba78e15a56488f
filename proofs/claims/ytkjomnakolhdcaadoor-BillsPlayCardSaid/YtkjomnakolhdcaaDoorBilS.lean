/- Layer 35's laws: Few, sanity. Conditions: the tables are in memory. -/
import Derived.Test.YtkjomnakolhdcaaDoorBilQ
namespace Go.Proofs.YtkjomnakolhdcaaDoor
set_option linter.unusedVariables false
set_option linter.unusedSimpArgs false
open Go.RowKit
theorem rdF {w : World} {B n : Nat} {A : Option Addr} {L : List BkM} (h : Rd w B 5 A n (L.flatMap bkc)) (hL : L.length = n) (h0 : 0 < n) : ∃ b off, A = some ⟨b, off, none⟩ ∧ b < B ∧ ∀ (k : Nat) (hk : k < L.length) (j : Nat) (u : Value), (bkc L[k])[j]? = some u → w.cell? ⟨b, off + k * 5 + j, none⟩ = some u := by
  obtain ⟨b, off, e, hb, hc⟩ := h.2 h0
  refine ⟨b, off, e, hb, fun k hk j u hu => ?_⟩
  have hj : j < 5 := by have := (List.getElem?_eq_some_iff.1 hu).1; exact this
  rw [Nat.add_assoc]
  exact hc _ _ (by rw [flatMap_get? (f := bkc) (sz := 5) (fun d _ => rfl) hk hj]; exact hu)
/-- Few's result -/
def fewB (L : List BkM) : Bool := decide (L.length ≤ 60) && L.all fun y => decide (y.n ≤ 20)
theorem fewB_true {L : List BkM} (h : fewB L = true) : L.length ≤ 60 ∧ ∀ y ∈ L, y.n ≤ 20 := by simpa [fewB] using h
set_option maxHeartbeats 1600000 in
theorem few_any (A : Option Addr) (n c : Nat) (L : List BkM) (hL : L.length = n) (B : Nat) (w : World) (rd : Rd w B 5 A n (L.flatMap bkc)) :
    Calls Tryd.prog 10 #[.slice A n c] w fun e w' => e = .returned (.bool (fewB L)) ∧ w' = w := by
  have HR := Lib.hid rd
  have HL := Lib.hid hL
  clear rd hL
  by_cases h60 : 60 < n
  · go_enter Tryd.func10, Tryd.ntmps10
    go_wp2
    go_ret
    have e : fewB L = false := by unfold fewB; rw [decide_eq_false (by rw [HL.out]; omega)]; rfl
    exact ⟨by rw [e]; rfl, rfl⟩
  · have hn : n ≤ 60 := by omega
    clear h60
    go_enter Tryd.func10, Tryd.ntmps10
    go_wp2
    go_loopw [3] (fun u3 wr => ∃ k : Nat, k ≤ n ∧ u3 = .int .i64 k ∧ Hid (∀ (j : Nat) (hj : j < L.length), j < k → L[j].n ≤ 20) ∧ wr = w) (fun u3 _ => n - (intOf u3).toNat)
    case atStart => exact ⟨0, Nat.zero_le _, rfl, Lib.hid (fun j hj h => by omega), rfl⟩
    case round =>
      obtain ⟨k, hk, rfl, HK, hwr⟩ := hrel
      rw [hwr]
      clear hwr
      by_cases hlt : k < n
      · obtain ⟨b, off, rfl, _, hc⟩ := rdF HR.out HL.out (by omega)
        have hkl : k < L.length := by rw [HL.out]; exact hlt
        have hck := hc k hkl 4 _ rfl
        obtain ⟨y, hy⟩ : ∃ y, L[k] = y := ⟨_, rfl⟩
        rw [hy] at hck
        have HY := Lib.hid hy
        have HKL := Lib.hid hkl
        clear hc hy
        by_cases hy20 : 20 < y.n
        · have i1 : (20 : Int) < (y.n : Int) := by omega
          have HY2 : Hid (20 < y.n) := Lib.hid hy20
          go_wp2
          go_ret
          have e : fewB L = false := by
            have h2 : (L.all fun y => decide (y.n ≤ 20)) = false := by
              rw [List.all_eq_false]
              exact ⟨L[k]'hkl, List.getElem_mem hkl, by have h1 := HY2.out; have h3 : ∀ h : k < L.length, (L[k]'h).n = y.n := fun _ => congrArg BkM.n HY.out; rw [decide_eq_true_iff, h3]; omega⟩
            unfold fewB; rw [h2, Bool.and_false]
          exact ⟨by rw [e]; rfl, rfl⟩
        · have i1 : ¬ ((20 : Int) < (y.n : Int)) := by omega
          have i2 : (y.n : Int) ≤ 20 := by omega
          have HY2 : Hid (y.n ≤ 20) := Lib.hid (by omega)
          clear hy20
          go_wp2
          go_roundw
          case rel =>
            refine ⟨k + 1, by omega, by go_num, Lib.hid fun j hj hjk => ?_, trivial⟩
            by_cases e : j = k
            · subst e; rw [HY.out]; exact HY2.out
            · exact HK.out j hj (by omega)
          case measure => simp [intOf]; omega
      · obtain rfl : k = n := by omega
        go_wp2
        go_ret
        have e : fewB L = true := by
          unfold fewB
          rw [decide_eq_true (by rw [HL.out]; exact hn), Bool.true_and, List.all_eq_true]
          intro y hy
          obtain ⟨j, hj, rfl⟩ := List.mem_iff_getElem.1 hy
          exact decide_eq_true (HK.out j hj (by have := HL.out; omega))
        exact ⟨by rw [e]; rfl, rfl⟩
/-! sanity -/
def bill1 : Bil.Bill := ⟨0, 10, 1, [4, 5], [0, 0], [4, 5]⟩
def bill2 : Bil.Bill := ⟨1, 6, 2, [4, 2], [0, 2], [4, 0]⟩
def sL0 (h : List UInt8) : Bil.Lg := ⟨2, 0, [], [0, 0], [0, 0], h⟩
def sL1 (h : List UInt8) : Bil.Lg := ⟨2, 1, [⟨bill1, [0, 0]⟩], [0, 0], [4, 5], h⟩
def sL2 (h : List UInt8) : Bil.Lg := ⟨2, 1, [⟨bill1, [0, 3]⟩], [0, 3], [4, 5], h⟩
def sL3 (h : List UInt8) : Bil.Lg := ⟨2, 2, [⟨bill1, [0, 3]⟩, ⟨bill2, [0, 0]⟩], [0, 1], [8, 5], h⟩
theorem s0 (h : List UInt8) : Bil.newOf 2 h = sL0 h := rfl
theorem s1ok (h : List UInt8) : Bil.CloseOk (sL0 h) 10 1 [4, 5] := ⟨rfl, by simp [Bil.fits], by simp [Bil.fits], by simp [Bil.fits], rfl⟩
theorem s1err (h : List UInt8) : Bil.doErr (sL0 h) ⟨1, 10, 1, 0, [4, 5]⟩ = 0 := by
  unfold Bil.doErr Bil.closeE
  rw [if_pos rfl, if_pos (s1ok h), if_neg (by show ¬ 65536 ≤ 0; omega)]
theorem s1st (h : List UInt8) : ∃ h', h'.length = 16 ∧ Bil.doSt (sL0 h) ⟨1, 10, 1, 0, [4, 5]⟩ = sL1 h' := by
  refine ⟨bookHead h ⟨(encClose 10 1 [4, 5]).toArray⟩, Mk.short_len _, ?_⟩
  have e := s1err h
  unfold Bil.doSt Bil.closeS
  unfold Bil.doErr at e
  rw [if_pos rfl] at e
  rw [if_pos rfl, if_pos e]
  rfl
theorem s1bill (h : List UInt8) : Bil.billOf (sL0 h) 10 1 [4, 5] = bill1 := rfl
theorem s2err (h : List UInt8) : Bil.creditErr (sL1 h) 0 1 3 = 0 := rfl
theorem s2st (h : List UInt8) : ∃ h', h'.length = 16 ∧ Bil.creditSt (sL1 h) 0 1 3 = sL2 h' := by
  refine ⟨bookHead h ⟨(encCredit 0 1 3).toArray⟩, Mk.short_len _, ?_⟩
  unfold Bil.creditSt
  rw [if_pos (s2err h)]
  rfl
theorem s3err (h : List UInt8) : Bil.creditErr (sL2 h) 0 1 3 = 2 := rfl
theorem s3st (h : List UInt8) : Bil.creditSt (sL2 h) 0 1 3 = sL2 h := by
  unfold Bil.creditSt
  rw [s3err, if_neg (by decide)]
theorem s4ok (h : List UInt8) : Bil.CloseOk (sL2 h) 6 0 [4, 2] := ⟨rfl, by simp [Bil.fits], by simp [Bil.fits], by simp [Bil.fits], rfl⟩
theorem s4err (h : List UInt8) : Bil.doErr (sL2 h) ⟨1, 6, 0, 0, [4, 2]⟩ = 0 := by
  unfold Bil.doErr Bil.closeE
  rw [if_pos rfl, if_pos (s4ok h), if_neg (by show ¬ 65536 ≤ 1; omega)]
theorem s4st (h : List UInt8) : ∃ h', h'.length = 16 ∧ Bil.doSt (sL2 h) ⟨1, 6, 0, 0, [4, 2]⟩ = sL3 h' := by
  refine ⟨bookHead h ⟨(encClose 6 0 [4, 2]).toArray⟩, Mk.short_len _, ?_⟩
  have e := s4err h
  unfold Bil.doSt Bil.closeS
  unfold Bil.doErr at e
  rw [if_pos rfl] at e
  rw [if_pos rfl, if_pos e]
  rfl
theorem s4bill (h : List UInt8) : Bil.billOf (sL2 h) 6 0 [4, 2] = bill2 := rfl
theorem sInv0 (h : List UInt8) : Bil.Inv (sL0 h) 1000 := by rw [← s0]; exact Bil.inv_new 2 h 1000 (by decide)
theorem sInv1 (h : List UInt8) : ∃ h', h'.length = 16 ∧ Bil.doSt (sL0 h) ⟨1, 10, 1, 0, [4, 5]⟩ = sL1 h' ∧ Bil.Inv (sL1 h') 1099511628776 := by
  obtain ⟨h', e1, e2⟩ := s1st h
  refine ⟨h', e1, e2, ?_⟩
  rw [← e2]
  exact Bil.inv_do (sInv0 h) _
theorem enc_pos (x : Int) : 1 ≤ (Wire.enc x).length := by
  rw [Wire.enc_length]; omega
theorem s4enc (h : List UInt8) (h16 : h.length = 16) : 20 < (Bil.enc (sL3 h)).length := by
  have e := enc_pos
  have h1 := e ((2 : Nat) : Int)
  have h2 : ∀ a b : Int, 3 ≤ (Wire.encI [a, b]).length := fun a b => by
    have h1 := e ([a, b].length : Int)
    have h2 := e a
    have h3 := e b
    show 3 ≤ (Wire.enc ([a, b].length : Int) ++ [a, b].flatMap Wire.enc).length
    rw [List.length_append]
    simp only [List.flatMap_cons, List.flatMap_nil, List.append_nil, List.length_append]
    omega
  have h3 := h2 0 1
  have h4 := h2 8 5
  unfold Bil.enc Bil.encH
  simp only [List.length_append]
  show 20 < (Wire.enc ((2 : Nat) : Int)).length + ((Wire.enc ((2 : Nat) : Int)).length + (h.length + ((Wire.encI [0, 1]).length + (Wire.encI [8, 5]).length))) + _
  omega
theorem keep_below {w W W' : World} {S : Nat → Prop} (hb : Below w.heap.size w W) (hk : Keep S W W') (hs : ∀ b, S b → w.heap.size ≤ b) : Below w.heap.size w W' := hb.trans (hk.below hb.size fun k hk hS => by have := hs k hS; omega)
/-- a closing in the sanity example: its bill as cells -/
def SC (W : World) (bl : Nat) (col : Nat → Nat) (bill : Bil.Bill) (L : List UInt8 → Bil.Lg) (e : Ending) (W' : World) : Prop := ∃ A1 A2 A3 c1 c2 c3 col' m' h', e = .returned (.tuple #[.agg [.int .i64 bill.period, .int .i64 bill.media, .int .i64 bill.house, .slice A1 bill.charges.length c1, .slice A2 bill.credits.length c2, .slice A3 bill.nets.length c3].toArray, .int .i64 0]) ∧
  W'.ownsRow W.heap.size 3 1 (.slice A3 bill.nets.length c3) bill.nets.length (ivs bill.nets) ∧ h'.length = 16 ∧ LAt W' bl col' m' (L h') ∧ Keep (fun b => col b ≠ 0) W W' ∧ ∀ b, col' b ≠ 0 → col b ≠ 0 ∨ W.heap.size ≤ b
theorem san_close (bl : Nat) (col : Nat → Nat) (m : LM) (l : Bil.Lg) (L : List UInt8 → Bil.Lg) (bill : Bil.Bill) (a b : Int) (ch : List Int) (c0 : Nat) (he : Bil.doErr l ⟨1, a, b, 0, ch⟩ = 0) (hs : ∃ h', h'.length = 16 ∧ Bil.doSt l ⟨1, a, b, 0, ch⟩ = L h') (hb : Bil.billOf l a b ch = bill) (hb64 : i64 b) (hn : ch.length ≤ 1000)
    (w0 : World) (K : Int) (hI : Bil.Inv l K) (hK : K ≤ 1152921504606846976) (hT : Tabs w0) (hR : RG w0) (h : LAt w0 bl col m l) :
    Calls Tryd.prog 29 #[.pointer (some ⟨bl, 0, none⟩), .int .i64 a, .int .i64 b, .slice (some ⟨w0.heap.size, 0, none⟩) ch.length c0] (w0.alloc (.cells (ivs ch).toArray 3)) (SC (w0.alloc (.cells (ivs ch).toArray 3)) bl col bill L) := by
  have hba : Below w0.heap.size w0 (w0.alloc (.cells (ivs ch).toArray 3)) := (Below.refl _ _).alloc (Nat.le_refl _) _
  refine (close_any bl col m l ⟨1, a, b, 0, ch⟩ rfl hb64 (some ⟨w0.heap.size, 0, none⟩) ch.length c0 rfl hn (w0.heap.size + 1) _ (h.below hba) hI.ok (Bil.sm_big hI.sm hK) (hT.below hba) (hR.below hba) (Rd.new w0 (ivs ch) 3 ch.length (size := 1) (by simp)) (by rw [alloc_size1]; exact Nat.le_refl _) (fun _ x hx => ?_)).mono ?_
  · obtain rfl := Option.some.inj hx
    show col w0.heap.size = 0
    rcases Nat.eq_zero_or_pos (col w0.heap.size) with h0 | h0
    · exact h0
    · have := h.lt w0.heap.size (by omega); omega
  · rintro e w' ⟨v, col', m', rfl, h1, _, h3, h4, h5⟩
    obtain ⟨A1, A2, A3, c1, c2, c3, rfl, o1, o2, o3⟩ := h1 ⟨he, rfl⟩
    obtain ⟨h', hh, hs'⟩ := hs
    rw [hs'] at h3
    simp only [hb] at o3 ⊢
    exact ⟨A1, A2, A3, c1, c2, c3, col', m', h', by rw [he], o3, hh, h3, h4, h5⟩
end Go.Proofs.YtkjomnakolhdcaaDoor
