/- The reference's Put as a whole, its Clone, and the comparison of two lists of entries. -/
import Derived.Test.YtnehbcopbioenaaIRef2
import Derived.Test.YtnehbcopbioenaaRefSame
import Derived.Laws.StructEq
import Derived.Deep.RegionHeld3
namespace Go.Proofs.Ytnehbcopbioenaa
set_option linter.unusedVariables false
set_option linter.unusedSimpArgs false
open Go.RowKit Go.ChangeMaps

theorem refPut_any (p ch : Int) (hc1 : 1 ≤ ch) (hc2 : ch ≤ 65536) (br : Nat) (cap : Int) (L : List (Int × Int)) (hlen : L.length ≤ 1099511627776) (hcap : 1 ≤ cap) (w : World) (h : RefAt w br cap L) :
    Calls Try.prog 23 #[.pointer (some ⟨br, 0, none⟩), .int .u32 p, .int .i64 ch] w fun e W' => e = .returned (.tuple #[.int .i64 (lput cap L p ch).2, .int .i64 0]) ∧ RefAt W' br cap (lput cap L p ch).1 ∧ Keep (fun k => k = br) w W' := by
  by_cases hm : ch ∉ L.map (·.2) ∧ (L.length : Int) = cap
  · rw [lput, if_pos hm]; exact refPut_full p ch hc1 hc2 br cap L hlen hcap hm.1 hm.2 w h
  · rw [lput, if_neg hm]; exact refPut_room p ch hc1 hc2 br cap L hlen hm w h

theorem refClone_any (br : Nat) (cap : Int) (L : List (Int × Int)) (hlen : L.length ≤ 1099511627776) (w : World) (h : RefAt w br cap L) :
    Calls Try.prog 21 #[.pointer (some ⟨br, 0, none⟩)] w fun e W' => ∃ br', e = .returned (.pointer (some ⟨br', 0, none⟩)) ∧ RefAt W' br' cap L ∧ w.heap.size ≤ br' ∧ Below w.heap.size w W' := by
  have hblt := h.lt
  obtain ⟨A, c, hb, hr⟩ := h
  obtain ⟨hc0, hc1⟩ := refCells hb
  have hc0' : w.drew.cell? ⟨br, 0, none⟩ = some (.int .i64 cap) := hc0
  have H : Hid (RefAt w.drew br cap L) := ⟨A, c, hb, own_drewN hr 1⟩
  clear hb hr hc0 hc1
  go_enter Try.func21, Try.ntmps21
  go_wp2_with fail
  go_region_held3 (fun w' => w'.cell? ⟨br, 0, none⟩ = some (.int .i64 cap)) (first | assumption | exact hc4) (first
    | (go_at_call 25; refine (refAll_any hlen H.out).mono ?_; rintro e w1 ⟨A1, c1, rfl, own1, b1⟩; have hc3 : w1.cell? ⟨br, 0, none⟩ = some (.int .i64 cap) := (b1.cell (p := ⟨br, 0, none⟩) hblt).trans hc0'; have hc4 : (w1.alloc (.cells #[.int .i64 cap, .slice A1 L.length c1] 56)).cell? ⟨br, 0, none⟩ = some (.int .i64 cap) := (World.cell?_alloc_lt w1 _ ⟨br, 0, none⟩ (Nat.lt_of_lt_of_le hblt b1.size)).trans hc3))
  go_wp2_with fail
  go_ret
  have hb1 : Below w.heap.size w w1 := below_l_drew b1
  exact ⟨w1.heap.size, rfl, ⟨A1, c1, heap_alloc_new _ _, own_base (own1.alloc _) (Nat.zero_le _)⟩, hb1.size, hb1.alloc hb1.size _⟩

theorem fieldsEntry : (Try.prog.fieldsOf 39).toList = [{ name := "Print", type := 32, offset := 0, embedded := false, tag := "", pkgPath := "", byteOffset := 0 }, { name := "Chunk", type := 3, offset := 1, embedded := false, tag := "", pkgPath := "", byteOffset := 8 }] := by kernel_rfl
theorem entry_neq (a b c d : Int) (w : World) : (binOp .neq 39 (.agg #[.int .u32 a, .int .i64 b]) (.agg #[.int .u32 c, .int .i64 d])).run Try.prog w = .ok (.bool (!(a == c && b == d))) w := by
  have p1 : ∀ w : World, (part 32 #[Value.int .u32 a, .int .i64 b] 0).run Try.prog w = .ok (.int .u32 a) w := fun _ => by kernel_rfl
  have p2 : ∀ w : World, (part 32 #[Value.int .u32 c, .int .i64 d] 0).run Try.prog w = .ok (.int .u32 c) w := fun _ => by kernel_rfl
  have p3 : ∀ w : World, (part 3 #[Value.int .u32 a, .int .i64 b] 1).run Try.prog w = .ok (.int .i64 b) w := fun _ => by kernel_rfl
  have p4 : ∀ w : World, (part 3 #[Value.int .u32 c, .int .i64 d] 1).run Try.prog w = .ok (.int .i64 d) w := fun _ => by kernel_rfl
  rw [run_neq_struct, run_equalIn_agg w 9999 39 _ _ (by kernel_rfl) (by kernel_rfl), fieldsEntry]
  simp [Op.eqFields, p1, p2, p3, p4, run_equalIn_int _ _ 32 _ _ _ _ Try.underlying32, run_equalIn_int _ _ 3 _ _ _ _ Try.underlying3]
  by_cases h : a = c <;> by_cases h2 : b = d <;> simp [h, h2]

theorem ev_ne {x y : Int × Int} (h : (!(x.1 == y.1 && x.2 == y.2)) = true) : x ≠ y := by rintro rfl; simp at h
theorem ev_eq {x y : Int × Int} (h : (!(x.1 == y.1 && x.2 == y.2)) = false) : x = y := by
  simp at h
  exact Prod.ext h.1 h.2

set_option maxHeartbeats 800000 in
theorem refSame_any (A B : Option Addr) (ca cb : Nat) (xs ys : List (Int × Int)) (w : World) (hL : xs.length ≤ maxLen) (B1 B2 : Nat)
   (ha : Rd w B1 2 A xs.length (evs xs)) (hb : Rd w B2 2 B ys.length (evs ys)) :
    Calls Try.prog 12 #[.slice A xs.length ca, .slice B ys.length cb] w fun e w' => e = .returned (.bool (decide (xs = ys))) ∧ ∃ n, w' = w.drewN n := by
  unfold maxLen at hL
  by_cases hlen : xs.length = ys.length
  · have hne : ((xs.length : Int) != ys.length) = false := by rw [bne_eq_false_iff_eq]; omega
    have HL := Lib.hid hlen; clear hlen
    go_enter Try.func12, Try.ntmps12
    go_wp2
    go_loopw [5] (fun i wr => ∃ k n : Nat, k ≤ xs.length ∧ i = .int .i64 k ∧ wr = w.drewN n ∧ Hid (xs.take k = ys.take k)) (fun i _ => xs.length - (intOf i).toNat)
    case atStart => exact ⟨0, 0, Nat.zero_le _, rfl, rfl, by simp [Hid]⟩
    case round =>
      obtain ⟨k, n, hk, rfl, rfl, HT⟩ := hrel
      by_cases hlt : k < xs.length
      · have hky : k < ys.length := by have := HL.out; omega
        obtain ⟨ba, oa, rfl, _, h1, h1'⟩ := ev_cells ha hlt hlt
        obtain ⟨bb, ob, rfl, _, h2, h2'⟩ := ev_cells hb hky hky
        clear ha hb
        have hq := entry_neq xs[k].1 xs[k].2 ys[k].1 ys[k].2
        obtain ⟨T, hT⟩ : ∃ T, (!(xs[k].1 == ys[k].1 && xs[k].2 == ys[k].2)) = T := ⟨_, rfl⟩
        rw [hT] at hq
        have HTT := Lib.hid hT
        clear hT
        have hk0 : (0 : Int) ≤ k := by omega
        have hk1 : (k : Int) < xs.length := by omega
        have hk2 : (k : Int) < ys.length := by omega
        cases T with
        | true =>
          have HN := Lib.hid (ne_of_get hlt hky (ev_ne HTT.out))
          go_wp2
          go_quiet (fail)
          go_wp2
          go_ret
          exact ⟨ret_bool (decide_eq_false HN.out).symm, ex_drew2 _ _ _⟩
        | false =>
          have HN := Lib.hid (take_succ_eq hlt hky HT.out (ev_eq HTT.out))
          go_wp2
          go_quiet (fail)
          go_wp2
          go_roundw
          case rel => exact ⟨k + 1, _, by omega, by go_num, rfl, HN⟩
          case measure => simp [intOf] <;> omega
      · go_wp2
        go_ret
        exact ⟨ret_bool (decide_eq_true (eq_of_take HT.out (by omega) (by have := HL.out; omega))).symm, n, rfl⟩
  · have hne : ((xs.length : Int) != ys.length) = true := by rw [bne_iff_ne]; omega
    have HL := Lib.hid hlen; clear hlen
    go_enter Try.func12, Try.ntmps12
    go_wp2
    go_ret
    exact ⟨ret_bool (decide_eq_false fun h => HL.out (by rw [h])).symm, 0, rfl⟩
theorem refSame_len (A B : Option Addr) (ca cb la lb : Nat) (xs ys : List (Int × Int)) (w : World) (hla : xs.length = la) (hlb : ys.length = lb) (hL : la ≤ maxLen) (B1 B2 : Nat) (ha : Rd w B1 2 A la (evs xs)) (hb : Rd w B2 2 B lb (evs ys)) (S : Bool) (hS : decide (xs = ys) = S) :
    Calls Try.prog 12 #[.slice A la ca, .slice B lb cb] w fun e w' => e = .returned (.bool S) ∧ ∃ n, w' = w.drewN n := by
  subst hla hlb hS
  exact refSame_any A B ca cb xs ys w hL B1 B2 ha hb
end Go.Proofs.Ytnehbcopbioenaa
