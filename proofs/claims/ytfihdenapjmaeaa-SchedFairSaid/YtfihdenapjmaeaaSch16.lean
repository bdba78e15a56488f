/- The reference's Same and Valid (layer 37), and the law's copy of the tasks. Conditions: at most 1000 tasks. -/
import Derived.Test.YtfihdenapjmaeaaSch14
namespace Go.Proofs.Ytfihdenapjmaeaa
set_option linter.unusedVariables false
set_option linter.unusedSimpArgs false
open Go.RowKit
theorem take_succ_eq {α : Type} {xs ys : List α} {k : Nat} (hx : k < xs.length) (hy : k < ys.length) (h : xs.take k = ys.take k) (e : xs[k] = ys[k]) : xs.take (k + 1) = ys.take (k + 1) := by
  rw [List.take_succ_eq_append_getElem hx, List.take_succ_eq_append_getElem hy, h, e]
theorem ne_of_get {α : Type} {xs ys : List α} {k : Nat} (hx : k < xs.length) (hy : k < ys.length) (e : xs[k] ≠ ys[k]) : xs ≠ ys := by
  intro h; subst h; exact e rfl
theorem eq_of_take {α : Type} {xs ys : List α} {k : Nat} (h : xs.take k = ys.take k) (h1 : xs.length ≤ k) (h2 : ys.length ≤ k) : xs = ys := by
  rwa [List.take_of_length_le h1, List.take_of_length_le h2] at h

theorem ex_drew2 (w : World) (a b : Nat) : ∃ n, (w.drewN a).drewN b = w.drewN n := ⟨a + b, by rw [World.drewN_drewN]⟩
set_option maxHeartbeats 400000 in
theorem same37_any (A B : Option Addr) (ca cb : Nat) (xs ys : List Int) (w : World) (hL : xs.length ≤ maxLen) (B1 B2 : Nat)
   (ha : Rd w B1 1 A xs.length (ivs xs)) (hb : Rd w B2 1 B ys.length (ivs ys)) :
    Calls Try.prog 20 #[.slice A xs.length ca, .slice B ys.length cb] w fun e w' => e = .returned (.bool (decide (xs = ys))) ∧ ∃ n, w' = w.drewN n := by
  unfold maxLen at hL
  by_cases hlen : xs.length = ys.length
  · have hne : ((xs.length : Int) != ys.length) = false := by rw [bne_eq_false_iff_eq]; omega
    have HL := Lib.hid hlen; clear hlen
    go_enter Try.func20, Try.ntmps20
    go_wp2
    go_loopw [5] (fun i wr => ∃ k n : Nat, k ≤ xs.length ∧ i = .int .i64 k ∧ wr = w.drewN n ∧ Hid (xs.take k = ys.take k)) (fun i _ => xs.length - (intOf i).toNat)
    case atStart => exact ⟨0, 0, Nat.zero_le _, rfl, rfl, by simp [Hid]⟩
    case round =>
      obtain ⟨k, n, hk, rfl, rfl, HT⟩ := hrel
      by_cases hlt : k < xs.length
      · have hky : k < ys.length := by have := HL.out; omega
        obtain ⟨ba, oa, rfl, _, h1⟩ := ha.get hlt
        obtain ⟨bb, ob, rfl, _, h2⟩ := hb.get hky
        clear ha hb
        by_cases hxy : (xs[k] != ys[k]) = true
        · have HN := Lib.hid (ne_of_get hlt hky (by simpa using hxy))
          go_wp2
          go_quiet (fail)
          go_wp2
          go_ret
          exact ⟨ret_bool (decide_eq_false HN.out).symm, ex_drew2 _ _ _⟩
        · have hxy : (xs[k] != ys[k]) = false := by simpa using hxy
          have HN := Lib.hid (take_succ_eq hlt hky HT.out (by simpa using hxy))
          go_wp2
          go_quiet (fail)
          go_wp2
          go_roundw
          case rel => exact ⟨k + 1, _, by omega, by go_num, rfl, HN⟩
          case measure => simp [intOf] <;> omega
      · go_wp2
        go_ret
        exact ⟨ret_bool (decide_eq_true (eq_of_take HT.out (by omega) (by have := HL.out; omega))).symm, n, rfl⟩
  · have hne : ((xs.length : Int) != ys.length) = true := by rw [bne_iff_ne]; omega
    have HL := Lib.hid hlen; clear hlen
    go_enter Try.func20, Try.ntmps20
    go_wp2
    go_ret
    exact ⟨ret_bool (decide_eq_false fun h => HL.out (by rw [h])).symm, 0, rfl⟩

theorem same37_len (A B : Option Addr) (ca cb la lb : Nat) (xs ys : List Int) (w : World) (hla : xs.length = la) (hlb : ys.length = lb) (hL : la ≤ maxLen) (B1 B2 : Nat) (ha : Rd w B1 1 A la (ivs xs)) (hb : Rd w B2 1 B lb (ivs ys)) (S : Bool) (hS : decide (xs = ys) = S) :
    Calls Try.prog 20 #[.slice A la ca, .slice B lb cb] w fun e w' => e = .returned (.bool S) ∧ ∃ n, w' = w.drewN n := by
  subst hla hlb hS
  exact same37_any A B ca cb xs ys w hL B1 B2 ha hb
theorem same37_b (A B : Option Addr) (ca cb la lb : Nat) (xs ys : List Int) (w : World) (hla : xs.length = la) (hlb : ys.length = lb) (hL : la ≤ maxLen) (B1 B2 : Nat) (ha : Rd w B1 1 A la (ivs xs)) (hb : Rd w B2 1 B lb (ivs ys)) (S : Bool) (hS : decide (xs = ys) = S) :
    Calls Try.prog 20 #[.slice A la ca, .slice B lb cb] w fun e w' => e = .returned (.bool S) ∧ Below w.heap.size w w' :=
  (same37_len A B ca cb la lb xs ys w hla hlb hL B1 B2 ha hb S hS).mono fun _ _ ⟨he, n, hn⟩ => ⟨he, by rw [hn]; exact below_of_drewN _ _ _⟩
theorem refValid_any (A : Option Addr) (n c : Nat) (l : List Int) (hl : l.length = n) (B : Nat) (w : World) (hr : Rd w B 1 A n (ivs l)) :
    Calls Try.prog 15 #[.slice A n c] w fun e w' => e = .returned (.bool (vldB l)) ∧ w' = w := by
  by_cases h5 : n = 5
  · subst h5
    have HV := Lib.hid (show vldB l = !l.any badC by unfold vldB; rw [decide_eq_true hl]; rfl)
    have HL := Lib.hid hl
    clear hl
    go_enter Try.func15, Try.ntmps15
    go_wp2
    go_loop [3] (fun u => ∃ k : Nat, k ≤ 5 ∧ u = .int .i64 k ∧ Hid (∀ x ∈ l.take k, badC x = false)) (fun u => 5 - (intOf u).toNat)
    case atStart => exact ⟨0, Nat.zero_le _, rfl, by intro x hx; simp at hx⟩
    case round =>
      obtain ⟨k, hk, rfl, HB⟩ := hrel
      by_cases hlt : k < 5
      · have hkl : k < l.length := by rw [HL.out]; exact hlt
        obtain ⟨b, off, rfl, _, h1⟩ := hr.get hkl
        obtain ⟨v, hv⟩ : ∃ v, l[k] = v := ⟨_, rfl⟩
        rw [hv] at h1
        have hmem : v ∈ l := by rw [← hv]; exact List.getElem_mem hkl
        have HM := Lib.hid hmem
        have HT : Hid (l.take (k + 1) = l.take k ++ [v]) := Lib.hid (by rw [List.take_succ_eq_append_getElem hkl, hv])
        have hlt' : (k : Int) < 5 := by omega
        clear hr hv hmem hkl
        by_cases hlo : v < -1000
        · have d1 : decide (v < -1000) = true := decide_eq_true hlo
          have HF : Hid (vldB l = false) := Lib.hid (by rw [HV.out]; have : l.any badC = true := List.any_eq_true.2 ⟨v, HM.out, by unfold badC; exact decide_eq_true (Or.inl hlo)⟩; rw [this]; rfl)
          go_wp2
          go_ret
          exact ⟨ret_bool HF.out.symm, rfl⟩
        · have d1 : decide (v < -1000) = false := decide_eq_false hlo
          by_cases hhi : 1000 < v
          · have HF : Hid (vldB l = false) := Lib.hid (by rw [HV.out]; have : l.any badC = true := List.any_eq_true.2 ⟨v, HM.out, by unfold badC; exact decide_eq_true (Or.inr hhi)⟩; rw [this]; rfl)
            go_wp2
            go_ret
            exact ⟨ret_bool HF.out.symm, rfl⟩
          · have HI : Hid (∀ x ∈ l.take (k + 1), badC x = false) := Lib.hid (by
              intro x hx
              rw [HT.out] at hx
              simp only [List.mem_append, List.mem_singleton] at hx
              rcases hx with hx | rfl
              · exact HB.out x hx
              · unfold badC; exact decide_eq_false (by omega))
            go_wp2
            go_round
            case rel => exact ⟨k + 1, by omega, by go_num, HI⟩
            case measure => simp [intOf]; omega
      · have HF : Hid (vldB l = true) := Lib.hid (by
          rw [HV.out]
          have : l.any badC = false := by rw [List.any_eq_false]; intro x hx; have := HB.out x (by rw [List.take_of_length_le (by rw [HL.out]; omega)]; exact hx); simp [this]
          rw [this]; rfl)
        have hge : (5 : Int) ≤ (k : Int) := by omega
        go_wp2
        go_ret
        exact ⟨ret_bool HF.out.symm, rfl⟩
  · have hd : ((n : Int) != 5) = true := by rw [bne_iff_ne]; omega
    have HV := Lib.hid (show vldB l = false by unfold vldB; rw [decide_eq_false (by omega)]; rfl)
    clear hr hl h5
    go_enter Try.func15, Try.ntmps15
    go_wp2
    go_ret
    exact ⟨ret_bool HV.out.symm, rfl⟩
theorem taskE : ElemT Try.prog 30 58 (.agg #[.int .i64 0, .int .i64 0, .int .i64 0, .int .i64 0, .int .i64 0]) 5 40 := ⟨Try.underlying30, by kernel_rfl, rfl, by decide, by decide⟩
theorem tcs_one (t : Sc.Tk) : ∀ u ∈ tcs t, u.oneCell' = true := by
  intro u hu
  simp only [tcs, List.mem_cons, List.not_mem_nil, or_false] at hu
  rcases hu with rfl | rfl | rfl | rfl | rfl <;> rfl
set_option maxRecDepth 100000 in
set_option maxHeartbeats 1600000 in
theorem own_any (A : Option Addr) (n c : Nat) (L : List Sc.Tk) (hL : L.length = n) (hn : n ≤ 1000) (B : Nat) (w : World) (hr : Rd w B 5 A n (L.flatMap tcs)) (hB : B ≤ w.heap.size) :
    Calls Try.prog 12 #[.slice A n c] w fun e w' => ∃ A' c', e = .returned (.slice A' n c') ∧ w'.ownsRow w.heap.size 58 5 (.slice A' n c') n (L.flatMap tcs) ∧ Below w.heap.size w w' := by
  have HL := Lib.hid hL
  clear hL
  go_enter Try.func12, Try.ntmps12
  go_wp2
  go_loopw [3, 8] (fun u3 u8 wx => ∃ (wr : World) (j : Nat) (A' : Option Addr) (c' : Nat), wr = wx ∧ j ≤ n ∧ u3 = .slice A' j c' ∧ u8 = .int .i64 j ∧ wr.ownsRow w.heap.size 58 5 (.slice A' j c') j ((L.take j).flatMap tcs) ∧ Below w.heap.size w wr) (fun _ u8 _ => n - (intOf u8).toNat)
  case atStart => exact ⟨w, 0, none, 0, rfl, Nat.zero_le _, rfl, rfl, World.ownsRow_nil _ _ _ _, Below.refl _ _⟩
  case round =>
    obtain ⟨wr, j, A', c', rfl, hj, rfl, rfl, hown, hbel⟩ := hrel
    by_cases hlt : j < n
    · have hjl : j < L.length := by rw [HL.out]; exact hlt
      obtain ⟨b, off, rfl, hb0, hc⟩ := (hr.below (hbel.mono hB)).tk HL.out (by omega)
      have hcj := hc j hlt
      have hto : (L.take (j + 1)).flatMap tcs = (L.take j).flatMap tcs ++ tcs (Sc.atK L j) := by rw [List.take_succ_eq_append_getElem hjl, List.flatMap_append]; simp [Sc.atK, List.getD, hjl]
      obtain ⟨t, ht⟩ : ∃ t, Sc.atK L j = t := ⟨_, rfl⟩
      rw [ht] at hcj hto
      obtain ⟨kind, row, grp, left, bad⟩ := t
      simp only [] at hcj
      obtain ⟨c0, c1, c2, c3, c4⟩ := hcj
      have HTO := Lib.hid hto
      have HOW := Lib.hid hown
      have HBE := Lib.hid hbel
      have i0 : (0 : Int) ≤ (j : Int) := by omega
      have i1 : (j : Int) < (n : Int) := by omega
      clear hc hto ht hown hbel hr hb0 hjl
      go_upto_region 5 with fail
      obtain ⟨w5, hw5⟩ : ∃ w5, wr.alloc (.cells #[.int .i64 kind, .int .i64 row, .int .i64 grp, .int .i64 left, .int .i64 bad] 49) = w5 := ⟨_, rfl⟩
      have hR := IsRow.new wr 49 (tcs ⟨kind, row, grp, left, bad⟩)
      have own5 : w5.ownsRow w.heap.size 58 5 (.slice A' j c') j ((L.take j).flatMap tcs) := by rw [← hw5]; exact HOW.out.alloc _
      have hb5 : Below w.heap.size w w5 := by rw [← hw5]; exact HBE.out.alloc HBE.out.size _
      have hR5 : IsRow w5 wr.heap.size 49 (tcs ⟨kind, row, grp, left, bad⟩) := by rw [← hw5]; exact hR
      rw [hw5]
      have d0 : w5.cell? ⟨wr.heap.size, 0, none⟩ = some (.int .i64 kind) := hR5.cell 0
      have d1 : w5.cell? ⟨wr.heap.size, 1, none⟩ = some (.int .i64 row) := hR5.cell 1
      have d2 : w5.cell? ⟨wr.heap.size, 2, none⟩ = some (.int .i64 grp) := hR5.cell 2
      have d3 : w5.cell? ⟨wr.heap.size, 3, none⟩ = some (.int .i64 left) := hR5.cell 3
      have d4 : w5.cell? ⟨wr.heap.size, 4, none⟩ = some (.int .i64 bad) := hR5.cell 4
      clear hw5 hR hR5 c0 c1 c2 c3 c4
      go_wp2_with (at_builtin; refine wpList_appN rfl (.tmp 12) (.tmp 22) 30 rfl w.heap.size 58 _ 5 40 taskE A' j c' _ (tcs ⟨kind, row, grp, left, bad⟩) _ rfl rfl rfl own5 hb5 rfl (tcs_one _) (by omega) (Nat.le_refl _) hb5.size ?_; intro g2 c2 w2 own2 hb2 _)
      go_roundw
      case rel => exact ⟨w2, j + 1, some ⟨g2, 0, none⟩, c2, rfl, by omega, rfl, by go_num, by rw [HTO.out]; exact own2, hb2⟩
      case measure => simp [intOf]; omega
    · obtain rfl : j = n := by omega
      have HT : Hid (L.take j = L) := Lib.hid (List.take_of_length_le (by rw [HL.out]; omega))
      go_wp2
      go_ret
      exact ⟨A', c', rfl, by rw [HT.out] at hown; exact hown, hbel⟩
end Go.Proofs.Ytfihdenapjmaeaa
