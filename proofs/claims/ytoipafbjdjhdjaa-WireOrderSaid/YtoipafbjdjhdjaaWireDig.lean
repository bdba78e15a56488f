/- Walks of layer 1's functions on lists of digests, the program's and the reference's, and the reference's encoder of a list of integers. Conditions: lengths below 2^40; each digest has 16 bytes. -/
import Derived.Test.YtoipafbjdjhdjaaWireDec2
namespace Go.Proofs.Ytoipafbjdjhdjaa
set_option linter.unusedVariables false
set_option linter.unusedSimpArgs false
open Go.RowKit
/-- the cells of a list of digests -/
abbrev dvs (l : List (List UInt8)) : List Value := l.flatMap bvs
def D16 (l : List (List UInt8)) : Prop := ∀ d ∈ l, d.length = 16
theorem D16.cells {l : List (List UInt8)} (h : D16 l) : ∀ d ∈ l, (bvs d).length = 16 := fun d hd => by rw [List.length_map]; exact h d hd
theorem dig_size : (Try.prog.info? 51).map (·.size) = some 16 := by kernel_rfl

theorem bvs_size16 {x : List UInt8} (h : x.length = 16) : (bvs x).toArray.size = 16 := by simp [h]
theorem wpList_store_newN {P : Program} {w0 : World} {ops : Array Oper} {rest : List Oper} {o : Oper} {a : Act} {Q : Exit → Act → World → Prop} (hgd : o.guard = none) (ty : TypeId) (x y : Operand) (ho : o.op = .store ty x y) (n : Nat) (c c' : Array Value)
    (hx : a.eval x = .pointer (some ⟨w0.heap.size, 0, none⟩)) (hy : a.eval y = .agg c') (hi : (P.info? ty).map (·.size) = some n) (hc : c.size = n) (hc' : c'.size = n) (h1 : c'.all (·.oneCell') = true)
    (h : wpList P ops Q rest (a.put o.dst undef) (w0.alloc (.cells c' ty))) : wpList P ops Q (o :: rest) a (w0.alloc (.cells c ty)) :=
  wpList_store_new hgd ty x y ho c c' hx hy (by rw [hi, hc']) (by rw [hc, hc']) h1 h

set_option maxHeartbeats 800000 in
theorem wireDigests_any (A : Option Addr) (c : Nat) (l : List (List UInt8)) (hl : l.length ≤ 1099511627776) (hr : D16 l) (w : World) (ha : Rd w w.heap.size 16 A l.length (dvs l)) :
    Calls Try.prog 19 #[.slice A l.length c] w fun e w' => ∃ A c, e = .returned (.slice A (Wire.encD l).length c) ∧
      w'.ownsRow w.heap.size 5 1 (.slice A (Wire.encD l).length c) (Wire.encD l).length (bvs (Wire.encD l)) ∧ Below w.heap.size w w' := by
  have h9 := Wire.enc_length_le l.length
  have HR := Lib.hid hr; clear hr
  go_enter Try.func19, Try.ntmps19
  go_wp2_with (go_at_call 13; refine (wireInt_any _ (by omega) (by omega) _).mono ?_; rintro e w1 ⟨A1, c1, rfl, hown1, hb1⟩)
  go_loopw [3, 11] (fun u3 u11 wr => ∃ (k n : Nat) (A : Option Addr) (c : Nat), k ≤ l.length ∧ u11 = .int .i64 k ∧ u3 = .slice A n c ∧ Hid (n = (Wire.enc l.length ++ (l.take k).flatten).length) ∧ n ≤ 9 + 16 * k ∧
     wr.ownsRow w.heap.size 5 1 (.slice A n c) n (bvs (Wire.enc l.length ++ (l.take k).flatten)) ∧ Below w.heap.size w wr) (fun _ u _ => l.length - (intOf u).toNat)
  case atStart => exact ⟨0, _, A1, c1, by omega, rfl, rfl, by simp [Hid], by omega, by simpa using hown1, hb1⟩
  case round =>
    obtain ⟨k, n, A2, c2, hk, rfl, rfl, HN, hn9, hown2, hb2⟩ := hrel
    by_cases hlt : k < l.length
    · obtain ⟨bb, ob, rfl, hbb, hc⟩ := (ha.below hb2).elem HR.out.cells hlt hlt
      obtain ⟨x, hx⟩ : ∃ x, x = l[k] := ⟨_, rfl⟩
      have HX : Hid (x.length = 16) := by rw [hx]; exact HR.out _ (List.getElem_mem hlt)
      have HS : Hid ((l.take (k + 1)).flatten = (l.take k).flatten ++ x) := by show _ = _; rw [List.take_succ_eq_append_getElem hlt, List.flatten_append, hx]; simp
      rw [← hx] at hc
      clear hx
      have HC := Lib.hid hc
      clear hc
      go_wp2_with (first
        | (with_reducible refine wpList_load_mid rfl 51 (.tmp 13) rfl bb (ob + k * 16) rfl (bvs x) _ HC.out Try.underlying51 rfl (by rw [dig_size, List.length_map, HX.out]) ?_)
        | (with_reducible refine wpList_store_newN rfl 51 (.tmp 5) (.tmp 14) rfl 16 _ (bvs x).toArray rfl rfl dig_size rfl (bvs_size16 HX.out) (all_oneCell_toArray (bvs_one x)) ?_)
        | (at_builtin; refine wpList_appR rfl (.tmp 15) (.tmp 16) 26 rfl w.heap.size 5 _ 1 1 bytesE A2 n c2 _ (some ⟨wr.heap.size, 0, none⟩) 16 16 (bvs x) rfl rfl (hown2.alloc _) (Rd.new wr (bvs x) 51 16 (by rw [List.length_map, HX.out])) (bvs_one _) (hb2.alloc hb2.size _) (by omega) (Nat.le_refl _) (by have := hb2.size; simp; omega) ?_; intro A4 c4 w4 hown4 hb4))
      go_roundw
      case rel =>
        refine ⟨k + 1, n + 16, A4, c4, by omega, by go_num, rfl, ?_, by omega, ?_, hb4⟩
        · show _ = _
          rw [HS.out, HN.out, ← List.append_assoc, List.length_append (bs := x), HX.out]
        · rw [HS.out, ← List.append_assoc, ← bvs_append]
          exact hown4
      case measure => simp [intOf] <;> omega
    · have HK : Hid (l.take k = l) := List.take_of_length_le (by omega)
      go_wp2
      go_ret
      have e1 : Wire.enc l.length ++ (l.take k).flatten = Wire.encD l := by rw [HK.out]; rfl
      have e2 := HN.out
      rw [e1] at hown2 e2
      subst e2
      exact ⟨A2, c2, rfl, hown2, hb2⟩

set_option maxHeartbeats 1600000 in
theorem refDigests_any (A : Option Addr) (c : Nat) (l : List (List UInt8)) (hl : l.length ≤ 1099511627776) (hr : D16 l) (w : World) (ha : Rd w w.heap.size 16 A l.length (dvs l)) :
    Calls Try.prog 20 #[.slice A l.length c] w fun e w' => ∃ A c, e = .returned (.slice A (Wire.encD l).length c) ∧
      w'.ownsRow w.heap.size 5 1 (.slice A (Wire.encD l).length c) (Wire.encD l).length (bvs (Wire.encD l)) ∧ Below w.heap.size w w' := by
  have h9 := Wire.enc_length_le l.length
  have HR := Lib.hid hr; clear hr
  go_enter Try.func20, Try.ntmps20
  go_wp2_with (go_at_call 14; refine (refInt_any _ (by omega) (by omega) _).mono ?_; rintro e w1 ⟨A1, c1, rfl, hown1, hb1⟩)
  go_loopw [3, 4, 5] (fun u3 u4 _ wr => ∃ (k n : Nat) (A : Option Addr) (c : Nat), k ≤ l.length ∧ u4 = .int .i64 k ∧ u3 = .slice A n c ∧ Hid (n = (Wire.enc l.length ++ (l.take k).flatten).length) ∧ n ≤ 9 + 16 * k ∧
     wr.ownsRow w.heap.size 5 1 (.slice A n c) n (bvs (Wire.enc l.length ++ (l.take k).flatten)) ∧ Below w.heap.size w wr) (fun _ u _ _ => l.length - (intOf u).toNat)
  case atStart => exact ⟨0, _, A1, c1, by omega, rfl, rfl, by simp [Hid], by omega, by simpa using hown1, hb1⟩
  case round =>
    obtain ⟨k, n, A2, c2, hk, rfl, rfl, HN, hn9, hown2, hb2⟩ := hrel
    by_cases hlt : k < l.length
    · obtain ⟨wo, hwo⟩ : ∃ wo, wo = wr := ⟨_, rfl⟩
      subst hwo
      obtain ⟨bb, ob, rfl, hbb, hc⟩ := ha.elem HR.out.cells hlt hlt
      obtain ⟨x, hx⟩ : ∃ x, x = l[k] := ⟨_, rfl⟩
      have HX : Hid (x.length = 16) := by rw [hx]; exact HR.out _ (List.getElem_mem hlt)
      have HS : Hid ((l.take (k + 1)).flatten = (l.take k).flatten ++ x) := by show _ = _; rw [List.take_succ_eq_append_getElem hlt, List.flatten_append, hx]; simp
      rw [← hx] at hc
      clear hx
      have HC := Lib.hid hc
      clear hc
      go_wp2
      go_loopw [3, 5] (fun u3 u5 wr => ∃ (i : Nat) (A : Option Addr) (c : Nat), i ≤ 16 ∧ u5 = .int .i64 i ∧ u3 = .slice A (n + i) c ∧
         wr.ownsRow w.heap.size 5 1 (.slice A (n + i) c) (n + i) (bvs (Wire.enc l.length ++ (l.take k).flatten ++ x.take i)) ∧ Below w.heap.size w wr) (fun _ u _ => 16 - (intOf u).toNat)
      case atStart => exact ⟨0, A2, c2, by omega, rfl, rfl, by simpa using hown2, hb2⟩
      case round =>
        obtain ⟨i, A3, c3, hi, rfl, rfl, hown3, hb3⟩ := hrel
        by_cases hi16 : i < 16
        · have hcell : wr.cell? ⟨bb, ob + k * 16 + i, none⟩ = some (.int .u8 ((x[i]'(by have := HX.out; omega)).toNat : Int)) :=
            (hb3.cell (p := ⟨bb, ob + k * 16 + i, none⟩) hbb).trans (HC.out i _ (by rw [List.getElem?_map, List.getElem?_eq_getElem (by have := HX.out; omega)]; rfl))
          have HT : Hid (x.take (i + 1) = x.take i ++ [x[i]'(by have := HX.out; omega)]) := List.take_succ_eq_append_getElem (by have := HX.out; omega)
          obtain ⟨y, hy⟩ : ∃ y, y = x[i]'(by have := HX.out; omega) := ⟨_, rfl⟩
          rw [← hy] at hcell HT
          clear hy
          go_wp2_with (at_builtin; refine wpList_app1 rfl (.tmp 19) (.tmp 26) 26 rfl w.heap.size 5 _ 1 bytesE A3 (n + i) c3 _ _ rfl rfl hown3 hb3 rfl (by omega) (Nat.le_refl _) hb3.size ?_; intro g c4 w4 hown4 hb4 _)
          go_roundw
          case rel =>
            refine ⟨i + 1, some ⟨g, 0, none⟩, c4, by omega, by go_num, rfl, ?_, hb4⟩
            rw [HT.out, ← List.append_assoc, ← bvs_snoc _ y rfl]
            exact hown4
          case measure => simp [intOf] <;> omega
        · obtain rfl : i = 16 := by omega
          have HT : Hid (x.take 16 = x) := List.take_of_length_le (by rw [HX.out]; omega)
          go_wp2
          go_roundw
          case rel =>
            refine ⟨k + 1, n + 16, A3, c3, by omega, by go_num, rfl, ?_, by omega, ?_, hb3⟩
            · show _ = _
              rw [HS.out, HN.out, ← List.append_assoc, List.length_append (bs := x), HX.out]
            · rw [HS.out, ← List.append_assoc]
              have := hown3
              rwa [HT.out] at this
          case measure => simp [intOf] <;> omega
    · have HK : Hid (l.take k = l) := List.take_of_length_le (by omega)
      go_wp2
      go_ret
      have e1 : Wire.enc l.length ++ (l.take k).flatten = Wire.encD l := by rw [HK.out]; rfl
      have e2 := HN.out
      rw [e1] at hown2 e2
      subst e2
      exact ⟨A2, c2, rfl, hown2, hb2⟩
end Go.Proofs.Ytoipafbjdjhdjaa
