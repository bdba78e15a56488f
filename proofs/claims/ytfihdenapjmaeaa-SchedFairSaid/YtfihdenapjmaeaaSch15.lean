/- The reference's order of stripes (layer 36). Conditions: all have units that are not good and none is lost. -/
import Derived.Test.YtfihdenapjmaeaaSch10
import Derived.Deep.DeepCutAuto
namespace Go.Proofs.Ytfihdenapjmaeaa
set_option linter.unusedVariables false
set_option linter.unusedSimpArgs false
open Go.RowKit
set_option maxHeartbeats 800000 in
theorem before_any (x y : Sc.Tk) (hx : 0 ≤ x.left) (hy : 0 ≤ y.left) (w : World) : Calls Try.prog 46 #[hv x, hv y] w fun e w' => e = .returned (.bool (Sc.ltR x y)) ∧ Below w.heap.size w w' := by
  obtain ⟨kind, row, grp, left, bad⟩ := x
  obtain ⟨kind', row', grp', left', bad'⟩ := y
  have HC := Lib.hid (show Sc.ltR ⟨kind, row, grp, left, bad⟩ ⟨kind', row', grp', left', bad'⟩ = decide (left < left' ∨ left = left' ∧ (bad' < bad ∨ bad' = bad ∧ (row < row' ∨ row = row' ∧ grp < grp'))) from rfl)
  generalize Sc.ltR ⟨kind, row, grp, left, bad⟩ ⟨kind', row', grp', left', bad'⟩ = q at *
  have hb : Below w.heap.size w ((w.alloc (.cells #[.int .i64 row, .int .i64 grp, .int .i64 left, .int .i64 bad] 78)).alloc (.cells #[.int .i64 row', .int .i64 grp', .int .i64 left', .int .i64 bad'] 78)) := ((Below.refl _ _).alloc (Nat.le_refl _) _).alloc (by simp) _
  have d1 : decide (left < 0) = false := decide_eq_false (by have : 0 ≤ left := hx; omega)
  have d2 : decide (left' < 0) = false := decide_eq_false (by have : 0 ≤ left' := hy; omega)
  clear hx hy
  by_cases h1 : left = left'
  · subst h1
    by_cases h2 : bad = bad'
    · subst h2
      by_cases h3 : row = row'
      · subst h3
        go_enter Try.func46, Try.ntmps46
        go_wp2
        go_ret
        exact ⟨ret_bool (by rw [HC.out, Bool.eq_iff_iff]; simp), hb⟩
      · have e3 : (row != row') = true := by simpa using h3
        have H3 := Lib.hid h3
        clear h3
        go_enter Try.func46, Try.ntmps46
        go_wp2
        go_ret
        exact ⟨ret_bool (by rw [HC.out, Bool.eq_iff_iff]; have := H3.out; simp only [decide_eq_true_eq, true_and, Int.lt_irrefl, false_or]; omega), hb⟩
    · have e2 : (bad != bad') = true := by simpa using h2
      have H2 := Lib.hid h2
      clear h2
      go_enter Try.func46, Try.ntmps46
      go_wp2
      go_ret
      exact ⟨ret_bool (by rw [HC.out, Bool.eq_iff_iff]; have := H2.out; simp only [decide_eq_true_eq, true_and, Int.lt_irrefl, false_or]; omega), hb⟩
  · have e1 : (left != left') = true := by simpa using h1
    have H1 := Lib.hid h1
    clear h1
    go_enter Try.func46, Try.ntmps46
    go_wp2
    go_ret
    exact ⟨ret_bool (by rw [HC.out, Bool.eq_iff_iff]; have := H1.out; simp only [decide_eq_true_eq, true_and, Int.lt_irrefl, false_or]; omega), hb⟩
/-- where x goes among the first k of some -/
def posOf (x : Sc.Tk) (out : List Sc.Tk) : Nat → Nat
  | 0 => 0
  | k + 1 => if Sc.ltR x (Sc.atK out k) then posOf x out k else k + 1
theorem posOf_le (x : Sc.Tk) (out : List Sc.Tk) (k : Nat) : posOf x out k ≤ k := by
  induction k with
  | zero => exact Nat.le_refl _
  | succ k ih => unfold posOf; split <;> omega
def insT (out : List Sc.Tk) (x : Sc.Tk) : List Sc.Tk := out.take (posOf x out out.length) ++ x :: out.drop (posOf x out out.length)
def ordT (l : List Sc.Tk) : List Sc.Tk := l.foldl insT []
theorem insT_len (out : List Sc.Tk) (x : Sc.Tk) : (insT out x).length = out.length + 1 := by
  have := posOf_le x out out.length
  unfold insT; simp; omega
theorem ordT_len (l : List Sc.Tk) : (ordT l).length = l.length := by
  unfold ordT
  induction l using Sc.snoc_ind with
  | h0 => rfl
  | h1 l a ih => rw [List.foldl_append, List.foldl_cons, List.foldl_nil, insT_len, ih]; simp
theorem insT_mem {out : List Sc.Tk} {x t : Sc.Tk} (h : t ∈ insT out x) : t = x ∨ t ∈ out := by
  unfold insT at h
  simp only [List.mem_append, List.mem_cons] at h
  rcases h with h | h | h
  · exact .inr (List.mem_of_mem_take h)
  · exact .inl h
  · exact .inr (List.mem_of_mem_drop h)
theorem ordT_mem {l : List Sc.Tk} {t : Sc.Tk} : t ∈ ordT l → t ∈ l := by
  unfold ordT
  induction l using Sc.snoc_ind with
  | h0 => exact id
  | h1 l a ih =>
    rw [List.foldl_append, List.foldl_cons, List.foldl_nil]
    intro h
    rcases insT_mem h with rfl | h
    · simp
    · have := ih h; simp [this]
theorem fm_len (l : List Sc.Tk) : (l.flatMap hcs).length = l.length * 4 := flatMap_len (fun _ _ => rfl)
theorem fm_take (l : List Sc.Tk) (k : Nat) : (l.take k).flatMap hcs = (l.flatMap hcs).take (k * 4) := by
  induction k generalizing l with
  | zero => simp
  | succ k ih =>
    cases l with
    | nil => simp
    | cons a l => rw [List.take_succ_cons, List.flatMap_cons, List.flatMap_cons, ih, Nat.succ_mul, Nat.add_comm (k * 4) 4, List.take_append, List.take_of_length_le (l := hcs a) (by show 4 ≤ 4 + k * 4; omega)]; show _ = _ ++ List.take (4 + k * 4 - 4) _; rw [Nat.add_sub_cancel_left]
theorem fm_drop (l : List Sc.Tk) (k : Nat) : (l.drop k).flatMap hcs = (l.flatMap hcs).drop (k * 4) := by
  induction k generalizing l with
  | zero => simp
  | succ k ih =>
    cases l with
    | nil => simp
    | cons a l => rw [List.drop_succ_cons, List.flatMap_cons, ih, Nat.succ_mul, Nat.add_comm (k * 4) 4, List.drop_append, List.drop_of_length_le (l := hcs a) (by show 4 ≤ 4 + k * 4; omega)]; show _ = [] ++ List.drop (4 + k * 4 - 4) _; rw [Nat.add_sub_cancel_left]; rfl
theorem Rd.hl {w : World} {B n : Nat} {A : Option Addr} {L : List Sc.Tk} (h : Rd w B 4 A n (L.flatMap hcs)) (hn : L.length = n) (h0 : 0 < n) : ∃ b off, A = some ⟨b, off, none⟩ ∧ b < B ∧ ∀ k, k < n → w.cell? ⟨b, off + k * 4, none⟩ = some (.int .i64 (Sc.atK L k).row) ∧ w.cell? ⟨b, off + k * 4 + 1, none⟩ = some (.int .i64 (Sc.atK L k).grp) ∧ w.cell? ⟨b, off + k * 4 + 2, none⟩ = some (.int .i64 (Sc.atK L k).left) ∧ w.cell? ⟨b, off + k * 4 + 3, none⟩ = some (.int .i64 (Sc.atK L k).bad) := by
  obtain ⟨b, off, e, hb, hc⟩ := h.2 h0
  refine ⟨b, off, e, hb, fun k hk => ?_⟩
  have hkl : k < L.length := by omega
  have ea : Sc.atK L k = L[k] := by simp [Sc.atK, List.getD, hkl]
  rw [ea]
  have g := fun j (hj : j < 4) => fm_get hkl hj
  refine ⟨?_, ?_, ?_, ?_⟩
  · have := hc (k * 4 + 0) _ (by rw [g 0 (by omega)]; rfl); simpa using this
  · have := hc (k * 4 + 1) _ (by rw [g 1 (by omega)]; rfl); rwa [← Nat.add_assoc] at this
  · have := hc (k * 4 + 2) _ (by rw [g 2 (by omega)]; rfl); rwa [← Nat.add_assoc] at this
  · have := hc (k * 4 + 3) _ (by rw [g 3 (by omega)]; rfl); rwa [← Nat.add_assoc] at this
def OrdRow (l : List Sc.Tk) (n : Nat) (w : World) (e : Ending) (w' : World) : Prop := ∃ A' c', e = .returned (.slice A' n c') ∧ Rd w' w'.heap.size 4 A' n ((ordT l).flatMap hcs) ∧ n ≤ c' ∧ Below w.heap.size w w'
set_option maxRecDepth 100000 in
set_option maxHeartbeats 4000000 in
theorem refOrder_any (A : Option Addr) (n c : Nat) (l : List Sc.Tk) (hl : l.length = n) (hn : n ≤ 1000) (hgood : ∀ t ∈ l, 0 ≤ t.left ∧ 0 < t.bad) (B : Nat) (w : World) (hr : Rd w B 4 A n (l.flatMap hcs)) (hB : B ≤ w.heap.size) :
    Calls Try.prog 42 #[.slice A n c] w (OrdRow l n w) := by
  have HL := Lib.hid hl
  have HGD := Lib.hid hgood
  clear hl hgood
  go_enter Try.func42, Try.ntmps42
  go_wp2
  go_loopw [3, 4] (fun u3 u4 wx => ∃ (wr : World) (i : Nat) (A' : Option Addr) (c' : Nat), wr = wx ∧ i ≤ n ∧ u3 = .slice A' i c' ∧ u4 = .int .i64 i ∧ wr.ownsRow w.heap.size 78 4 (.slice A' i c') i ((ordT (l.take i)).flatMap hcs) ∧ Below w.heap.size w wr) (fun _ u4 _ => n - (intOf u4).toNat)
  case atStart => exact ⟨w, 0, none, 0, rfl, Nat.zero_le _, rfl, rfl, World.ownsRow_nil _ _ _ _, Below.refl _ _⟩
  case round =>
    obtain ⟨wr, i, A', c', rfl, hi, rfl, rfl, hown, hbel⟩ := hrel
    by_cases hlt : i < n
    · have hil : i < l.length := by rw [HL.out]; exact hlt
      obtain ⟨b, off, rfl, hb0, hc⟩ := (hr.below (hbel.mono hB)).hl HL.out (by omega)
      have hci := hc i hlt
      have hgi := HGD.out (Sc.atK l i) (by simp [Sc.atK, List.getD, hil])
      have hto : l.take (i + 1) = l.take i ++ [Sc.atK l i] := by rw [List.take_succ_eq_append_getElem hil]; simp [Sc.atK, List.getD, hil]
      have hord : ordT (l.take (i + 1)) = insT (ordT (l.take i)) (Sc.atK l i) := by rw [hto]; unfold ordT; rw [List.foldl_append]; rfl
      have hol : (ordT (l.take i)).length = i := by rw [ordT_len, List.length_take]; omega
      have hog : ∀ k, k < i → 0 ≤ (Sc.atK (ordT (l.take i)) k).left := fun k hk => by
        have hk' : k < (ordT (l.take i)).length := by omega
        have : Sc.atK (ordT (l.take i)) k = (ordT (l.take i))[k] := by simp [Sc.atK, List.getD, hk']
        rw [this]; exact (HGD.out _ (List.mem_of_mem_take (ordT_mem (List.getElem_mem hk')))).1
      obtain ⟨out, hout⟩ : ∃ o, ordT (l.take i) = o := ⟨_, rfl⟩
      rw [hout] at hown hord hol hog
      obtain ⟨x, hx⟩ : ∃ x, Sc.atK l i = x := ⟨_, rfl⟩
      rw [hx] at hci hgi hord
      have hro := fun (h0 : 0 < i) => (Rd.of_own hown).hl hol h0
      have HRO := Lib.hid hro
      have HOG := Lib.hid hog
      have HOL := Lib.hid hol
      have HBFX := Lib.hid (fun (u : Sc.Tk) (hu : 0 ≤ u.left) W => before_any x u hgi.1 hu W)
      have HSU : Hid (∀ q, posOf x out i = q → ∀ (w4 : World) (A4 : Option Addr) (c4 : Nat), w4.ownsRow wr.heap.size 78 4 (.slice A4 (q + 1 + (i - q)) c4) (q + 1 + (i - q)) ((out.take q).flatMap hcs ++ hcs x ++ (out.drop q).flatMap hcs) → w4.ownsRow w.heap.size 78 4 (.slice A4 (i + 1) c4) (i + 1) ((ordT (l.take (i + 1))).flatMap hcs)) := Lib.hid (by
        intro q hq w4 A4 c4 ho
        have hle := posOf_le x out i
        rw [show q + 1 + (i - q) = i + 1 by omega] at ho
        have e : (ordT (l.take (i + 1))).flatMap hcs = (out.take q).flatMap hcs ++ hcs x ++ (out.drop q).flatMap hcs := by
          rw [hord]; unfold insT; rw [hol, hq, List.flatMap_append, List.flatMap_cons, List.append_assoc]
        rw [e]
        exact own_base ho hbel.size)
      have HPL := Lib.hid (posOf_le x out i)
      obtain ⟨kind, row, grp, left, bad⟩ := x
      simp only [] at hci hgi
      have hbd : decide (bad ≤ 0) = false := decide_eq_false (by omega)
      have C0 := Lib.hid hci.1
      have C1 := Lib.hid hci.2.1
      have C2 := Lib.hid hci.2.2.1
      have C3 := Lib.hid hci.2.2.2
      have c3 := hci.2.2.2
      have HBB : Hid (b < wr.heap.size) := Lib.hid (Nat.lt_of_lt_of_le hb0 (Nat.le_trans hB hbel.size))
      have HIC : Hid (i ≤ c') := Lib.hid (own_cap hown).1
      have hi63 : (c' : Int) ≤ 9223372036854775807 := by have := (own_cap hown).2; unfold maxLen at this; omega
      have HOW := Lib.hid hown
      have HBR := Lib.hid hbel
      have i0 : (0 : Int) ≤ (i : Int) := by omega
      have i1 : (i : Int) < (n : Int) := by omega
      clear hci hgi hc hord hol hog hout hx hro hto hil hown hbel hb0 hr
      go_wp2
      go_loopw [5] (fun u5 wx => ∃ (wi : World) (k : Nat), wi = wx ∧ k ≤ i ∧ u5 = .int .i64 k ∧ Below wr.heap.size wr wi ∧ Hid (posOf ⟨kind, row, grp, left, bad⟩ out i = posOf ⟨kind, row, grp, left, bad⟩ out k)) (fun u5 _ => (intOf u5).toNat)
      case atStart => exact ⟨_, i, rfl, Nat.le_refl _, rfl, by first | exact Below.refl _ _ | exact (Below.refl _ _).drewN _, rfl⟩
      case round =>
        clear c3
        obtain ⟨wi, k, rfl, hki, rfl, hbi0, HPK⟩ := hrel
        rcases Nat.eq_zero_or_pos k with hk0 | hk0
        · have hpos : posOf ⟨kind, row, grp, left, bad⟩ out i = k := by rw [HPK.out, hk0]; rfl
          have hk1 : (k : Int) ≤ 0 := by omega
          have hk2 : decide (0 < (k : Int)) = false := decide_eq_false (by omega)
          clear hk0
          have RDo := (Rd.of_own HOW.out).below hbi0
          have RD1 : Rd wi wr.heap.size 4 A' k ((out.take k).flatMap hcs) := by rw [fm_take]; exact RDo.take (by omega)
          have hbi := hbi0
          have HQI : Hid (k ≤ i) := Lib.hid (by omega)
          have q0 : (0 : Int) ≤ (k : Int) := by omega
          have q1 : (k : Int) ≤ (c' : Int) := by have := HIC.out; omega
          have tk1 : True := trivial
          have m0 := (hbi0.cell (p := ⟨b, off + i * 4, none⟩) HBB.out).trans C0.out
          have m1 := (hbi0.cell (p := ⟨b, off + i * 4 + 1, none⟩) HBB.out).trans C1.out
          have m2 := (hbi0.cell (p := ⟨b, off + i * 4 + 2, none⟩) HBB.out).trans C2.out
          have m3 := (hbi0.cell (p := ⟨b, off + i * 4 + 3, none⟩) HBB.out).trans C3.out
          obtain ⟨A3, hA3⟩ : ∃ A3, (if c' = k then A' else Option.map (fun x : Addr => x.add (k * 4)) (A')) = A3 := ⟨_, rfl⟩
          have hcut := fun (W : World) => run_cutFrom W healthE A' i c' k .i64 HQI.out
          rw [hA3] at hcut
          have HRD3 : Hid (Rd wr wr.heap.size 4 A3 (i - k) ((out.drop k).flatMap hcs)) := Lib.hid (by rw [fm_drop, ← hA3]; exact (Rd.of_own HOW.out).cut HQI.out HIC.out)
          clear RDo hA3
          go_wp2_with (first
            | (at_builtin; have _t := tk1; refine wpList_appR rfl (.tmp 38) (.tmp 41) 79 rfl wr.heap.size 78 _ 4 32 healthE none 0 0 [] A' k c' _ rfl rfl (World.ownsRow_nil _ _ _ _) RD1 (hcs_one _) hbi (by omega) (Nat.le_refl _) hbi.size ?_; intro A1 c1 w1 own1 hb1; simp only [Nat.zero_add, List.nil_append] at own1; simp only [Nat.zero_add]; have n0 := (hb1.cell (p := ⟨b, off + i * 4, none⟩) HBB.out).trans C0.out; have n1 := (hb1.cell (p := ⟨b, off + i * 4 + 1, none⟩) HBB.out).trans C1.out; have n2 := (hb1.cell (p := ⟨b, off + i * 4 + 2, none⟩) HBB.out).trans C2.out; have n3 := (hb1.cell (p := ⟨b, off + i * 4 + 3, none⟩) HBB.out).trans C3.out; clear tk1)
            | (at_builtin; refine wpList_appN rfl (.tmp 43) (.tmp 48) 79 rfl wr.heap.size 78 _ 4 32 healthE A1 k c1 _ [.int .i64 row, .int .i64 grp, .int .i64 left, .int .i64 bad] _ rfl rfl rfl own1 hb1 rfl (by intro u hu; exact hcs_one [⟨0, row, grp, left, bad⟩] u (by simpa [hcs] using hu)) (by omega) (Nat.le_refl _) hb1.size ?_; intro g2 c2 w2 own2 hb2 gr2; have rd3 := HRD3.out.below hb2)
            | (at_builtin; refine wpList_appR rfl (.tmp 50) (.tmp 53) 79 rfl wr.heap.size 78 _ 4 32 healthE (some ⟨g2, 0, none⟩) (k + 1) c2 _ A3 (i - k) (c' - k) _ rfl rfl own2 rd3 (hcs_one _) hb2 (by omega) (Nat.le_refl _) hb2.size ?_; intro A4 c4 w4 own4 hb4)
            | fail)
          go_roundw
          case rel => exact ⟨w4, i + 1, A4, c4, rfl, by omega, by rw [show k + 1 + (i - k) = i + 1 by have := HQI.out; omega], by go_num, HSU.out k (by assumption) w4 A4 c4 own4, HBR.out.trans (hb4.mono HBR.out.size)⟩
          case measure => simp [intOf]; omega
        · obtain ⟨q, rfl⟩ : ∃ q, q = k := ⟨_, rfl⟩
          obtain ⟨k, hkq⟩ : ∃ j, j + 1 = q := ⟨q - 1, by omega⟩
          have hsub : (q : Int) - 1 = (k : Int) := by omega
          have hq0 : (0 : Int) < (q : Int) := by omega
          have HKQ := Lib.hid hkq
          obtain ⟨bo, oo, hAo, hbo, hco⟩ := HRO.out (by omega)
          subst hAo
          have hck := hco k (by omega)
          have HBF0 := HBFX.out (Sc.atK out k) (HOG.out k (by omega))
          obtain ⟨u, hu⟩ : ∃ u, Sc.atK out k = u := ⟨_, rfl⟩
          rw [hu] at hck HBF0
          obtain ⟨lt, hlt'⟩ : ∃ v, Sc.ltR ⟨kind, row, grp, left, bad⟩ u = v := ⟨_, rfl⟩
          have hps : posOf ⟨kind, row, grp, left, bad⟩ out q = if lt then posOf ⟨kind, row, grp, left, bad⟩ out k else q := by rw [← hkq, posOf, hu, hlt']
          rw [hlt'] at HBF0
          have HBF := Lib.hid HBF0
          have HPS := Lib.hid hps
          obtain ⟨kind', row', grp', left', bad'⟩ := u
          simp only [] at hck
          have D0 := Lib.hid hck.1
          have D1 := Lib.hid hck.2.1
          have D2 := Lib.hid hck.2.2.1
          have D3 := Lib.hid hck.2.2.2
          have HBO := Lib.hid hbo
          have HBI := Lib.hid hbi0
          have k0 : (0 : Int) ≤ (k : Int) := by omega
          have k1 : (k : Int) < (i : Int) := by omega
          have ew : IntKind.i64.wrap (k : Int) = (k : Int) := IntWalk.i64_in _ (by omega)
          clear hck hco hps hlt' hu HBF0 hbo hbi0 hkq
          cases lt with
          | true =>
            go_wp2_with fail
            have hv0 : Below wi.heap.size wi wi.drew := (Below.refl _ _).drew
            refine wp_region_held_drew (S := fun W => Below wi.heap.size wi W) (by kernel_rfl) (hv0) (fun hHeld => ?_)
            refine wpAnyH_take (i := 0) (oi := { dst := some 24, op := Op.move (Operand.tmp 0), type := 79, pos := "ref.go:62", after := #[], guard := none }) (v := ?v0_1001) rfl (by kernel_rfl) (by kernel_rfl) (by kernel_rfl) (fun _ _ _ h => h) (Or.inl ⟨by rfl, ?h0_1001⟩) (by assumption) ?r0_1001
            case h0_1001 =>
              intro W hSW
              try dsimp only at hSW
              go_simp
              try with_reducible rfl
            try simp only [Act.put, List.setIfInBounds_toArray, List.set_cons_zero, List.set_cons_succ]
            refine wpAnyH_take (i := 1) (oi := { dst := some 25, op := Op.move (Operand.tmp 4), type := 3, pos := "ref.go:62", after := #[], guard := none }) (v := ?v1_1002) rfl (by kernel_rfl) (by kernel_rfl) (by kernel_rfl) (fun _ _ _ h => h) (Or.inl ⟨by rfl, ?h1_1002⟩) (by assumption) ?r1_1002
            case h1_1002 =>
              intro W hSW
              try dsimp only at hSW
              go_simp
              try with_reducible rfl
            try simp only [Act.put, List.setIfInBounds_toArray, List.set_cons_zero, List.set_cons_succ]
            refine wpAnyH_take (i := 2) (oi := { dst := some 26, op := Op.indexAddr 79 (Operand.tmp 24) (Operand.tmp 25), type := 0, pos := "ref.go:62", after := #[{ on := 0, ground := Ground.data }, { on := 1, ground := Ground.data }], guard := none }) (v := ?v2_1003) rfl (by kernel_rfl) (by kernel_rfl) (by kernel_rfl) (fun _ _ _ h => h) (Or.inl ⟨by rfl, ?h2_1003⟩) (by assumption) ?r2_1003
            case h2_1003 =>
              intro W hSW
              try dsimp only at hSW
              go_simp
              try with_reducible rfl
            try simp only [Act.put, List.setIfInBounds_toArray, List.set_cons_zero, List.set_cons_succ]
            refine wpAnyH_take (i := 3) (oi := { dst := some 27, op := Op.load 78 (Operand.tmp 26), type := 78, pos := "ref.go:62", after := #[{ on := 2, ground := Ground.data }], guard := none }) (v := ?v3_1004) rfl (by kernel_rfl) (by kernel_rfl) (by kernel_rfl) (fun _ _ _ h => h) (Or.inl ⟨by rfl, ?h3_1004⟩) (by assumption) ?r3_1004
            case h3_1004 =>
              intro W hSW
              try dsimp only at hSW
              have hc0 := (hSW.cell (p := ⟨b, off + i * 4, none⟩) (Nat.lt_of_lt_of_le HBB.out HBI.out.size)).trans ((HBI.out.cell (p := ⟨b, off + i * 4, none⟩) HBB.out).trans C0.out)
              have hc1 := (hSW.cell (p := ⟨b, off + i * 4 + 1, none⟩) (Nat.lt_of_lt_of_le HBB.out HBI.out.size)).trans ((HBI.out.cell (p := ⟨b, off + i * 4 + 1, none⟩) HBB.out).trans C1.out)
              have hc2 := (hSW.cell (p := ⟨b, off + i * 4 + 2, none⟩) (Nat.lt_of_lt_of_le HBB.out HBI.out.size)).trans ((HBI.out.cell (p := ⟨b, off + i * 4 + 2, none⟩) HBB.out).trans C2.out)
              have hc3 := (hSW.cell (p := ⟨b, off + i * 4 + 3, none⟩) (Nat.lt_of_lt_of_le HBB.out HBI.out.size)).trans ((HBI.out.cell (p := ⟨b, off + i * 4 + 3, none⟩) HBB.out).trans C3.out)
              go_simp
              try with_reducible rfl
            try simp only [Act.put, List.setIfInBounds_toArray, List.set_cons_zero, List.set_cons_succ]
            refine wpAnyH_take (i := 4) (oi := { dst := some 28, op := Op.move (Operand.tmp 3), type := 79, pos := "ref.go:62", after := #[], guard := none }) (v := ?v4_1005) rfl (by kernel_rfl) (by kernel_rfl) (by kernel_rfl) (fun _ _ _ h => h) (Or.inl ⟨by rfl, ?h4_1005⟩) (by assumption) ?r4_1005
            case h4_1005 =>
              intro W hSW
              try dsimp only at hSW
              go_simp
              try with_reducible rfl
            try simp only [Act.put, List.setIfInBounds_toArray, List.set_cons_zero, List.set_cons_succ]
            refine wpAnyH_take (i := 5) (oi := { dst := some 29, op := Op.move (Operand.tmp 5), type := 3, pos := "ref.go:62", after := #[], guard := none }) (v := ?v5_1006) rfl (by kernel_rfl) (by kernel_rfl) (by kernel_rfl) (fun _ _ _ h => h) (Or.inl ⟨by rfl, ?h5_1006⟩) (by assumption) ?r5_1006
            case h5_1006 =>
              intro W hSW
              try dsimp only at hSW
              go_simp
              try with_reducible rfl
            try simp only [Act.put, List.setIfInBounds_toArray, List.set_cons_zero, List.set_cons_succ]
            refine wpAnyH_take (i := 6) (oi := { dst := some 30, op := Op.binOp BinOp.sub 3 (Operand.tmp 29) (Operand.const (Value.int IntKind.i64 1)) 3, type := 3, pos := "ref.go:62", after := #[{ on := 5, ground := Ground.data }], guard := none }) (v := ?v6_1007) rfl (by kernel_rfl) (by kernel_rfl) (by kernel_rfl) (fun _ _ _ h => h) (Or.inl ⟨by rfl, ?h6_1007⟩) (by assumption) ?r6_1007
            case h6_1007 =>
              intro W hSW
              try dsimp only at hSW
              go_simp
              try with_reducible rfl
            try simp only [Act.put, List.setIfInBounds_toArray, List.set_cons_zero, List.set_cons_succ]
            refine wpAnyH_take (i := 7) (oi := { dst := some 31, op := Op.indexAddr 79 (Operand.tmp 28) (Operand.tmp 30), type := 0, pos := "ref.go:62", after := #[{ on := 4, ground := Ground.data }, { on := 6, ground := Ground.data }], guard := none }) (v := ?v7_1008) rfl (by kernel_rfl) (by kernel_rfl) (by kernel_rfl) (fun _ _ _ h => h) (Or.inl ⟨by rfl, ?h7_1008⟩) (by assumption) ?r7_1008
            case h7_1008 =>
              intro W hSW
              try dsimp only at hSW
              go_simp
              try with_reducible rfl
            try simp only [Act.put, List.setIfInBounds_toArray, List.set_cons_zero, List.set_cons_succ]
            refine wpAnyH_take (i := 8) (oi := { dst := some 32, op := Op.load 78 (Operand.tmp 31), type := 78, pos := "ref.go:62", after := #[{ on := 7, ground := Ground.data }], guard := none }) (v := ?v8_1009) rfl (by kernel_rfl) (by kernel_rfl) (by kernel_rfl) (fun _ _ _ h => h) (Or.inl ⟨by rfl, ?h8_1009⟩) (by assumption) ?r8_1009
            case h8_1009 =>
              intro W hSW
              try dsimp only at hSW
              have hc0 := (hSW.cell (p := ⟨bo, oo + k * 4, none⟩) (Nat.lt_of_lt_of_le HBO.out HBI.out.size)).trans ((HBI.out.cell (p := ⟨bo, oo + k * 4, none⟩) HBO.out).trans D0.out)
              have hc1 := (hSW.cell (p := ⟨bo, oo + k * 4 + 1, none⟩) (Nat.lt_of_lt_of_le HBO.out HBI.out.size)).trans ((HBI.out.cell (p := ⟨bo, oo + k * 4 + 1, none⟩) HBO.out).trans D1.out)
              have hc2 := (hSW.cell (p := ⟨bo, oo + k * 4 + 2, none⟩) (Nat.lt_of_lt_of_le HBO.out HBI.out.size)).trans ((HBI.out.cell (p := ⟨bo, oo + k * 4 + 2, none⟩) HBO.out).trans D2.out)
              have hc3 := (hSW.cell (p := ⟨bo, oo + k * 4 + 3, none⟩) (Nat.lt_of_lt_of_le HBO.out HBI.out.size)).trans ((HBI.out.cell (p := ⟨bo, oo + k * 4 + 3, none⟩) HBO.out).trans D3.out)
              go_simp
              try with_reducible rfl
            try simp only [Act.put, List.setIfInBounds_toArray, List.set_cons_zero, List.set_cons_succ]
            refine wpAnyH_ready (rs := [9]) (by kernel_rfl) (by simp) ?_
            refine AllReadyH.cons (o := { dst := some 33, op := Op.call { callee := Callee.value (Operand.func 46), args := #[Operand.tmp 27, Operand.tmp 32], argTypes := #[78, 78] }, type := 4, pos := "ref.go:62", after := #[{ on := 3, ground := Ground.data }, { on := 8, ground := Ground.data }], guard := none }) rfl (fun K hK => ?_) AllReadyH.nil
            go_simp
            refine (HBF.out _).mono ?_
            rintro e w1 ⟨rfl, b1⟩
            have hv1 : Below wi.heap.size wi w1 := hv0.trans (b1.mono hv0.size)
            go_wp2_with fail
            refine hK.out _ _ (hv1) (fun hHeld => ?_)
            clear hK K
            try simp only [Act.put, List.setIfInBounds_toArray, List.set_cons_zero, List.set_cons_succ]
            refine wpAnyH_take (i := 10) (oi := { dst := some 6, op := Op.assign (Operand.tmp 33), type := 4, pos := "ref.go:62", after := #[{ on := 9, ground := Ground.data }, { on := 9, ground := Ground.chain }, { on := 0, ground := Ground.phase }, { on := 1, ground := Ground.phase }, { on := 2, ground := Ground.phase }, { on := 3, ground := Ground.phase }, { on := 4, ground := Ground.phase }, { on := 5, ground := Ground.phase }, { on := 6, ground := Ground.phase }, { on := 7, ground := Ground.phase }, { on := 8, ground := Ground.phase }, { on := 9, ground := Ground.phase }], guard := none }) (v := ?v10_1010) rfl (by kernel_rfl) (by kernel_rfl) (by kernel_rfl) (fun _ _ _ h => h) (Or.inl ⟨by rfl, ?h10_1010⟩) (by assumption) ?r10_1010
            case h10_1010 =>
              intro W hSW
              try dsimp only at hSW
              go_simp
              try with_reducible rfl
            try simp only [Act.put, List.setIfInBounds_toArray, List.set_cons_zero, List.set_cons_succ]
            refine wpAnyH_done (by kernel_rfl) ?_ _
            go_wp2
            go_roundw
            case rel => exact ⟨_, k, rfl, by omega, by go_num, HBI.out.trans (hv1.mono HBI.out.size), by show _ = _; rw [HPK.out, HPS.out]; rfl⟩
            case measure => simp [intOf] <;> omega
          | false =>
            have hpos : posOf ⟨kind, row, grp, left, bad⟩ out i = q := by rw [HPK.out, HPS.out]; rfl
            go_wp2_with fail
            have hv0 : Below wi.heap.size wi wi.drew := (Below.refl _ _).drew
            refine wp_region_held_drew (S := fun W => Below wi.heap.size wi W) (by kernel_rfl) (hv0) (fun hHeld => ?_)
            refine wpAnyH_take (i := 0) (oi := { dst := some 24, op := Op.move (Operand.tmp 0), type := 79, pos := "ref.go:62", after := #[], guard := none }) (v := ?v0_2001) rfl (by kernel_rfl) (by kernel_rfl) (by kernel_rfl) (fun _ _ _ h => h) (Or.inl ⟨by rfl, ?h0_2001⟩) (by assumption) ?r0_2001
            case h0_2001 =>
              intro W hSW
              try dsimp only at hSW
              go_simp
              try with_reducible rfl
            try simp only [Act.put, List.setIfInBounds_toArray, List.set_cons_zero, List.set_cons_succ]
            refine wpAnyH_take (i := 1) (oi := { dst := some 25, op := Op.move (Operand.tmp 4), type := 3, pos := "ref.go:62", after := #[], guard := none }) (v := ?v1_2002) rfl (by kernel_rfl) (by kernel_rfl) (by kernel_rfl) (fun _ _ _ h => h) (Or.inl ⟨by rfl, ?h1_2002⟩) (by assumption) ?r1_2002
            case h1_2002 =>
              intro W hSW
              try dsimp only at hSW
              go_simp
              try with_reducible rfl
            try simp only [Act.put, List.setIfInBounds_toArray, List.set_cons_zero, List.set_cons_succ]
            refine wpAnyH_take (i := 2) (oi := { dst := some 26, op := Op.indexAddr 79 (Operand.tmp 24) (Operand.tmp 25), type := 0, pos := "ref.go:62", after := #[{ on := 0, ground := Ground.data }, { on := 1, ground := Ground.data }], guard := none }) (v := ?v2_2003) rfl (by kernel_rfl) (by kernel_rfl) (by kernel_rfl) (fun _ _ _ h => h) (Or.inl ⟨by rfl, ?h2_2003⟩) (by assumption) ?r2_2003
            case h2_2003 =>
              intro W hSW
              try dsimp only at hSW
              go_simp
              try with_reducible rfl
            try simp only [Act.put, List.setIfInBounds_toArray, List.set_cons_zero, List.set_cons_succ]
            refine wpAnyH_take (i := 3) (oi := { dst := some 27, op := Op.load 78 (Operand.tmp 26), type := 78, pos := "ref.go:62", after := #[{ on := 2, ground := Ground.data }], guard := none }) (v := ?v3_2004) rfl (by kernel_rfl) (by kernel_rfl) (by kernel_rfl) (fun _ _ _ h => h) (Or.inl ⟨by rfl, ?h3_2004⟩) (by assumption) ?r3_2004
            case h3_2004 =>
              intro W hSW
              try dsimp only at hSW
              have hc0 := (hSW.cell (p := ⟨b, off + i * 4, none⟩) (Nat.lt_of_lt_of_le HBB.out HBI.out.size)).trans ((HBI.out.cell (p := ⟨b, off + i * 4, none⟩) HBB.out).trans C0.out)
              have hc1 := (hSW.cell (p := ⟨b, off + i * 4 + 1, none⟩) (Nat.lt_of_lt_of_le HBB.out HBI.out.size)).trans ((HBI.out.cell (p := ⟨b, off + i * 4 + 1, none⟩) HBB.out).trans C1.out)
              have hc2 := (hSW.cell (p := ⟨b, off + i * 4 + 2, none⟩) (Nat.lt_of_lt_of_le HBB.out HBI.out.size)).trans ((HBI.out.cell (p := ⟨b, off + i * 4 + 2, none⟩) HBB.out).trans C2.out)
              have hc3 := (hSW.cell (p := ⟨b, off + i * 4 + 3, none⟩) (Nat.lt_of_lt_of_le HBB.out HBI.out.size)).trans ((HBI.out.cell (p := ⟨b, off + i * 4 + 3, none⟩) HBB.out).trans C3.out)
              go_simp
              try with_reducible rfl
            try simp only [Act.put, List.setIfInBounds_toArray, List.set_cons_zero, List.set_cons_succ]
            refine wpAnyH_take (i := 4) (oi := { dst := some 28, op := Op.move (Operand.tmp 3), type := 79, pos := "ref.go:62", after := #[], guard := none }) (v := ?v4_2005) rfl (by kernel_rfl) (by kernel_rfl) (by kernel_rfl) (fun _ _ _ h => h) (Or.inl ⟨by rfl, ?h4_2005⟩) (by assumption) ?r4_2005
            case h4_2005 =>
              intro W hSW
              try dsimp only at hSW
              go_simp
              try with_reducible rfl
            try simp only [Act.put, List.setIfInBounds_toArray, List.set_cons_zero, List.set_cons_succ]
            refine wpAnyH_take (i := 5) (oi := { dst := some 29, op := Op.move (Operand.tmp 5), type := 3, pos := "ref.go:62", after := #[], guard := none }) (v := ?v5_2006) rfl (by kernel_rfl) (by kernel_rfl) (by kernel_rfl) (fun _ _ _ h => h) (Or.inl ⟨by rfl, ?h5_2006⟩) (by assumption) ?r5_2006
            case h5_2006 =>
              intro W hSW
              try dsimp only at hSW
              go_simp
              try with_reducible rfl
            try simp only [Act.put, List.setIfInBounds_toArray, List.set_cons_zero, List.set_cons_succ]
            refine wpAnyH_take (i := 6) (oi := { dst := some 30, op := Op.binOp BinOp.sub 3 (Operand.tmp 29) (Operand.const (Value.int IntKind.i64 1)) 3, type := 3, pos := "ref.go:62", after := #[{ on := 5, ground := Ground.data }], guard := none }) (v := ?v6_2007) rfl (by kernel_rfl) (by kernel_rfl) (by kernel_rfl) (fun _ _ _ h => h) (Or.inl ⟨by rfl, ?h6_2007⟩) (by assumption) ?r6_2007
            case h6_2007 =>
              intro W hSW
              try dsimp only at hSW
              go_simp
              try with_reducible rfl
            try simp only [Act.put, List.setIfInBounds_toArray, List.set_cons_zero, List.set_cons_succ]
            refine wpAnyH_take (i := 7) (oi := { dst := some 31, op := Op.indexAddr 79 (Operand.tmp 28) (Operand.tmp 30), type := 0, pos := "ref.go:62", after := #[{ on := 4, ground := Ground.data }, { on := 6, ground := Ground.data }], guard := none }) (v := ?v7_2008) rfl (by kernel_rfl) (by kernel_rfl) (by kernel_rfl) (fun _ _ _ h => h) (Or.inl ⟨by rfl, ?h7_2008⟩) (by assumption) ?r7_2008
            case h7_2008 =>
              intro W hSW
              try dsimp only at hSW
              go_simp
              try with_reducible rfl
            try simp only [Act.put, List.setIfInBounds_toArray, List.set_cons_zero, List.set_cons_succ]
            refine wpAnyH_take (i := 8) (oi := { dst := some 32, op := Op.load 78 (Operand.tmp 31), type := 78, pos := "ref.go:62", after := #[{ on := 7, ground := Ground.data }], guard := none }) (v := ?v8_2009) rfl (by kernel_rfl) (by kernel_rfl) (by kernel_rfl) (fun _ _ _ h => h) (Or.inl ⟨by rfl, ?h8_2009⟩) (by assumption) ?r8_2009
            case h8_2009 =>
              intro W hSW
              try dsimp only at hSW
              have hc0 := (hSW.cell (p := ⟨bo, oo + k * 4, none⟩) (Nat.lt_of_lt_of_le HBO.out HBI.out.size)).trans ((HBI.out.cell (p := ⟨bo, oo + k * 4, none⟩) HBO.out).trans D0.out)
              have hc1 := (hSW.cell (p := ⟨bo, oo + k * 4 + 1, none⟩) (Nat.lt_of_lt_of_le HBO.out HBI.out.size)).trans ((HBI.out.cell (p := ⟨bo, oo + k * 4 + 1, none⟩) HBO.out).trans D1.out)
              have hc2 := (hSW.cell (p := ⟨bo, oo + k * 4 + 2, none⟩) (Nat.lt_of_lt_of_le HBO.out HBI.out.size)).trans ((HBI.out.cell (p := ⟨bo, oo + k * 4 + 2, none⟩) HBO.out).trans D2.out)
              have hc3 := (hSW.cell (p := ⟨bo, oo + k * 4 + 3, none⟩) (Nat.lt_of_lt_of_le HBO.out HBI.out.size)).trans ((HBI.out.cell (p := ⟨bo, oo + k * 4 + 3, none⟩) HBO.out).trans D3.out)
              go_simp
              try with_reducible rfl
            try simp only [Act.put, List.setIfInBounds_toArray, List.set_cons_zero, List.set_cons_succ]
            refine wpAnyH_ready (rs := [9]) (by kernel_rfl) (by simp) ?_
            refine AllReadyH.cons (o := { dst := some 33, op := Op.call { callee := Callee.value (Operand.func 46), args := #[Operand.tmp 27, Operand.tmp 32], argTypes := #[78, 78] }, type := 4, pos := "ref.go:62", after := #[{ on := 3, ground := Ground.data }, { on := 8, ground := Ground.data }], guard := none }) rfl (fun K hK => ?_) AllReadyH.nil
            go_simp
            refine (HBF.out _).mono ?_
            rintro e w1 ⟨rfl, b1⟩
            have hv1 : Below wi.heap.size wi w1 := hv0.trans (b1.mono hv0.size)
            go_wp2_with fail
            refine hK.out _ _ (hv1) (fun hHeld => ?_)
            clear hK K
            try simp only [Act.put, List.setIfInBounds_toArray, List.set_cons_zero, List.set_cons_succ]
            refine wpAnyH_take (i := 10) (oi := { dst := some 6, op := Op.assign (Operand.tmp 33), type := 4, pos := "ref.go:62", after := #[{ on := 9, ground := Ground.data }, { on := 9, ground := Ground.chain }, { on := 0, ground := Ground.phase }, { on := 1, ground := Ground.phase }, { on := 2, ground := Ground.phase }, { on := 3, ground := Ground.phase }, { on := 4, ground := Ground.phase }, { on := 5, ground := Ground.phase }, { on := 6, ground := Ground.phase }, { on := 7, ground := Ground.phase }, { on := 8, ground := Ground.phase }, { on := 9, ground := Ground.phase }], guard := none }) (v := ?v10_2010) rfl (by kernel_rfl) (by kernel_rfl) (by kernel_rfl) (fun _ _ _ h => h) (Or.inl ⟨by rfl, ?h10_2010⟩) (by assumption) ?r10_2010
            case h10_2010 =>
              intro W hSW
              try dsimp only at hSW
              go_simp
              try with_reducible rfl
            try simp only [Act.put, List.setIfInBounds_toArray, List.set_cons_zero, List.set_cons_succ]
            refine wpAnyH_done (by kernel_rfl) ?_ _
            have hbz := HBI.out.trans (hv1.mono HBI.out.size)
            clear hsub
            have RDo := (Rd.of_own HOW.out).below hbz
            have RD1 : Rd w1 wr.heap.size 4 (some ⟨bo, oo, none⟩) q ((out.take q).flatMap hcs) := by rw [fm_take]; exact RDo.take (by omega)
            have hbi := hbz
            have HQI : Hid (q ≤ i) := Lib.hid (by omega)
            have q0 : (0 : Int) ≤ (q : Int) := by omega
            have q1 : (q : Int) ≤ (c' : Int) := by have := HIC.out; omega
            have tk1 : True := trivial
            have m0 := (hbz.cell (p := ⟨b, off + i * 4, none⟩) HBB.out).trans C0.out
            have m1 := (hbz.cell (p := ⟨b, off + i * 4 + 1, none⟩) HBB.out).trans C1.out
            have m2 := (hbz.cell (p := ⟨b, off + i * 4 + 2, none⟩) HBB.out).trans C2.out
            have m3 := (hbz.cell (p := ⟨b, off + i * 4 + 3, none⟩) HBB.out).trans C3.out
            obtain ⟨A3, hA3⟩ : ∃ A3, (if c' = q then (some ⟨bo, oo, none⟩) else Option.map (fun x : Addr => x.add (q * 4)) ((some ⟨bo, oo, none⟩))) = A3 := ⟨_, rfl⟩
            have hcut := fun (W : World) => run_cutFrom W healthE (some ⟨bo, oo, none⟩) i c' q .i64 HQI.out
            rw [hA3] at hcut
            have HRD3 : Hid (Rd wr wr.heap.size 4 A3 (i - q) ((out.drop q).flatMap hcs)) := Lib.hid (by rw [fm_drop, ← hA3]; exact (Rd.of_own HOW.out).cut HQI.out HIC.out)
            clear RDo hA3
            go_wp2_with (first
              | (at_builtin; have _t := tk1; refine wpList_appR rfl (.tmp 38) (.tmp 41) 79 rfl wr.heap.size 78 _ 4 32 healthE none 0 0 [] (some ⟨bo, oo, none⟩) q c' _ rfl rfl (World.ownsRow_nil _ _ _ _) RD1 (hcs_one _) hbi (by omega) (Nat.le_refl _) hbi.size ?_; intro A1 c1 w1 own1 hb1; simp only [Nat.zero_add, List.nil_append] at own1; simp only [Nat.zero_add]; have n0 := (hb1.cell (p := ⟨b, off + i * 4, none⟩) HBB.out).trans C0.out; have n1 := (hb1.cell (p := ⟨b, off + i * 4 + 1, none⟩) HBB.out).trans C1.out; have n2 := (hb1.cell (p := ⟨b, off + i * 4 + 2, none⟩) HBB.out).trans C2.out; have n3 := (hb1.cell (p := ⟨b, off + i * 4 + 3, none⟩) HBB.out).trans C3.out; clear tk1)
              | (at_builtin; refine wpList_appN rfl (.tmp 43) (.tmp 48) 79 rfl wr.heap.size 78 _ 4 32 healthE A1 q c1 _ [.int .i64 row, .int .i64 grp, .int .i64 left, .int .i64 bad] _ rfl rfl rfl own1 hb1 rfl (by intro u hu; exact hcs_one [⟨0, row, grp, left, bad⟩] u (by simpa [hcs] using hu)) (by omega) (Nat.le_refl _) hb1.size ?_; intro g2 c2 w2 own2 hb2 gr2; have rd3 := HRD3.out.below hb2)
              | (at_builtin; refine wpList_appR rfl (.tmp 50) (.tmp 53) 79 rfl wr.heap.size 78 _ 4 32 healthE (some ⟨g2, 0, none⟩) (q + 1) c2 _ A3 (i - q) (c' - q) _ rfl rfl own2 rd3 (hcs_one _) hb2 (by omega) (Nat.le_refl _) hb2.size ?_; intro A4 c4 w4 own4 hb4)
              | fail)
            go_roundw
            case rel => exact ⟨w4, i + 1, A4, c4, rfl, by omega, by rw [show q + 1 + (i - q) = i + 1 by have := HQI.out; omega], by go_num, HSU.out q (by assumption) w4 A4 c4 own4, HBR.out.trans (hb4.mono HBR.out.size)⟩
            case measure => simp [intOf]; omega
    · obtain rfl : i = n := by omega
      have HE : Hid (l.take i = l) := Lib.hid (List.take_of_length_le (by rw [HL.out]; omega))
      have hcap := (own_cap hown).1
      go_wp2
      go_ret
      exact ⟨A', c', rfl, by have := Rd.of_own hown; rwa [HE.out] at this, hcap, hbel⟩
end Go.Proofs.Ytfihdenapjmaeaa
