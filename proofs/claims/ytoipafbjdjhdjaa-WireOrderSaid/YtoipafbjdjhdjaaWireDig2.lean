/- Walks of layer 1: the reference encoder of integer lists; the decoders of lists of digests. Conditions: lengths below 2^40, digests of 16 bytes. -/
import Derived.Test.YtoipafbjdjhdjaaWireDig
import Derived.Laws.Cover3
namespace Go.Proofs.Ytoipafbjdjhdjaa
set_option linter.unusedVariables false
set_option linter.unusedSimpArgs false
open Go.RowKit
set_option maxHeartbeats 800000 in
theorem refInts_any (A : Option Addr) (c : Nat) (l : List Int) (hl : l.length ≤ 1099511627776) (hr : I64s l) (w : World) (ha : Rd w w.heap.size 1 A l.length (ivs l)) :
    Calls Try.prog 18 #[.slice A l.length c] w fun e w' => ∃ A c, e = .returned (.slice A (Wire.encI l).length c) ∧
      w'.ownsRow w.heap.size 5 1 (.slice A (Wire.encI l).length c) (Wire.encI l).length (bvs (Wire.encI l)) ∧ Below w.heap.size w w' := by
  have h9 := Wire.enc_length_le l.length
  have HR := Lib.hid hr; clear hr
  go_enter Try.func18, Try.ntmps18
  go_wp2_with (go_at_call 14; refine (refInt_any _ (by omega) (by omega) _).mono ?_; rintro e w1 ⟨A1, c1, rfl, hown1, hb1⟩)
  go_loopw [3, 4] (fun u3 u4 wr => ∃ (k n : Nat) (A : Option Addr) (c : Nat), k ≤ l.length ∧ u4 = .int .i64 k ∧ u3 = .slice A n c ∧ Hid (n = (Wire.enc l.length ++ (l.take k).flatMap Wire.enc).length) ∧ n ≤ 9 + 9 * l.length ∧
     wr.ownsRow w.heap.size 5 1 (.slice A n c) n (bvs (Wire.enc l.length ++ (l.take k).flatMap Wire.enc)) ∧ Below w.heap.size w wr) (fun _ u _ => l.length - (intOf u).toNat)
  case atStart => exact ⟨0, _, A1, c1, by omega, rfl, rfl, by simp [Hid], by omega, by simpa using hown1, hb1⟩
  case round =>
    obtain ⟨k, n, A2, c2, hk, rfl, rfl, HN, hn9, hown2, hb2⟩ := hrel
    by_cases hlt : k < l.length
    · obtain ⟨bb, ob, rfl, _, hc⟩ := (ha.below hb2).get hlt
      obtain ⟨x, hx⟩ : ∃ x, x = l[k] := ⟨_, rfl⟩
      have hx1 := HR.out.get hlt
      have HS : Hid ((l.take (k + 1)).flatMap Wire.enc = (l.take k).flatMap Wire.enc ++ Wire.enc x) := by rw [hx]; exact Wire.flat_snoc hlt
      rw [← hx] at hc hx1
      clear hx
      have h9x := Wire.enc_length_le x
      have h9k := Wire.flat_take_len l (k + 1)
      go_wp2_with (first
        | (go_at_call 14; refine (refInt_any x hx1.1 hx1.2 _).mono ?_; rintro e w3 ⟨A3, c3, rfl, hown3, hb3⟩)
        | (at_builtin; refine wpList_appR rfl (.tmp 14) (.tmp 19) 26 rfl w.heap.size 5 _ 1 1 bytesE A2 n c2 _ A3 _ c3 _ rfl rfl (own_below hown2 hb3) (Rd.of_own hown3) (bvs_one _) (hb2.trans (hb3.mono hb2.size)) (by omega) (Nat.le_refl _) (Nat.le_trans hb2.size hb3.size) ?_; intro A4 c4 w4 hown4 hb4))
      go_roundw
      case rel =>
        refine ⟨k + 1, n + (Wire.enc x).length, A4, c4, by omega, by go_num, rfl, ?_, ?_, ?_, hb4⟩
        · show _ = _
          rw [HS.out, HN.out, ← List.append_assoc, List.length_append (bs := Wire.enc x)]
        · have h1 := HN.out
          have h2 := congrArg List.length HS.out
          simp only [List.length_append] at h1 h2
          omega
        · rw [HS.out, ← List.append_assoc, ← bvs_append]
          exact hown4
      case measure => simp [intOf] <;> omega
    · have HK : Hid (l.take k = l) := List.take_of_length_le (by omega)
      go_wp2
      go_ret
      have e1 : Wire.enc l.length ++ (l.take k).flatMap Wire.enc = Wire.encI l := by rw [HK.out]; rfl
      have e2 := HN.out
      rw [e1] at hown2 e2
      subst e2
      exact ⟨A2, c2, rfl, hown2, hb2⟩

namespace Wire
theorem chunks_snoc (i : Nat) (l : List UInt8) : chunks (i + 1) l = chunks i l ++ [(l.drop (16 * i)).take 16] := by
  induction i generalizing l with
  | zero => simp [chunks]
  | succ i ih =>
    rw [chunks, ih, chunks, List.drop_drop]
    have e : 16 + 16 * i = 16 * (i + 1) := by omega
    rw [e]; rfl
theorem chunks_len (i : Nat) (l : List UInt8) : (chunks i l).length = i := by
  induction i generalizing l with
  | zero => rfl
  | succ i ih => simp [chunks, ih]
end Wire
theorem fold_lay {α : Type} (l : List α) : ∀ (Z : Array α) (k : Nat), k + l.length = Z.size → (l.zipIdx k).foldl (fun cs x => cs.setIfInBounds x.snd x.fst) Z = (Z.toList.take k ++ l).toArray := by
  induction l with
  | nil =>
    intro Z k h
    simp only [List.length_nil, Nat.add_zero] at h
    apply Array.ext'
    simp only [List.zipIdx_nil, List.foldl_nil, List.append_nil]
    rw [List.take_of_length_le (by simp [h])]
  | cons x l ih =>
    intro Z k h
    simp only [List.length_cons] at h
    rw [List.zipIdx_cons, List.foldl_cons, ih _ _ (by simp; omega)]
    apply Array.ext'
    simp only [Array.toList_setIfInBounds]
    rw [List.take_succ_eq_append_getElem (by simp; omega), List.take_set_of_le (by omega)]
    simp
theorem fold_dig {x : List UInt8} (h : x.length = 16) : (bvs x).zipIdx.foldl (fun cs x => cs.setIfInBounds x.snd x.fst) #[Value.int .u8 0, .int .u8 0, .int .u8 0, .int .u8 0, .int .u8 0, .int .u8 0, .int .u8 0, .int .u8 0, .int .u8 0, .int .u8 0, .int .u8 0, .int .u8 0, .int .u8 0, .int .u8 0, .int .u8 0, .int .u8 0] = (bvs x).toArray := by
  have := fold_lay (bvs x) #[Value.int .u8 0, .int .u8 0, .int .u8 0, .int .u8 0, .int .u8 0, .int .u8 0, .int .u8 0, .int .u8 0, .int .u8 0, .int .u8 0, .int .u8 0, .int .u8 0, .int .u8 0, .int .u8 0, .int .u8 0, .int .u8 0] 0 (by simp [h])
  rw [this]; simp
theorem digsE : ElemT Try.prog 23 51 (.agg #[.int .u8 0, .int .u8 0, .int .u8 0, .int .u8 0, .int .u8 0, .int .u8 0, .int .u8 0, .int .u8 0, .int .u8 0, .int .u8 0, .int .u8 0, .int .u8 0, .int .u8 0, .int .u8 0, .int .u8 0, .int .u8 0]) 16 16 :=
  ⟨Try.underlying23, by kernel_rfl, rfl, by decide, by decide⟩

set_option maxHeartbeats 1600000 in
theorem wireGetDigests_any (A : Option Addr) (c : Nat) (b : List UInt8) (w : World) (hr : Rd w w.heap.size 1 A b.length (bvs b)) (hL : b.length ≤ 1099511627776) (hc : b.length ≤ c) (hcm : c ≤ maxLen)
    (l : List (List UInt8)) (v : Nat) (er : Int) (hd : Wire.decD b = (l, v, er)) :
    Calls Try.prog 28 #[.slice A b.length c] w fun e w' => ∃ A' c', e = .returned (.tuple #[.slice A' l.length c', .int .i64 v, .int .i64 er]) ∧
      w'.ownsRow w.heap.size 51 16 (.slice A' l.length c') l.length (dvs l) ∧ Below w.heap.size w w' := by
  obtain ⟨k, u, e0, hd0⟩ : ∃ k u e, Wire.cnt 16 b = (k, u, e) := ⟨_, _, _, rfl⟩
  have HC := Lib.hid hd0
  by_cases he : e0 = 0
  · subst he
    have hdb := Wire.decD_ok hd0
    rw [hd] at hdb
    simp only [Prod.mk.injEq] at hdb
    obtain ⟨hl, hv, rfl⟩ := hdb
    have HL := Lib.hid hl
    have HV := Lib.hid hv
    obtain ⟨_, hk, hu1, hu9, hul, hk63, _⟩ := Wire.cnt_ok hd0
    clear hd hd0 hl hv
    have harr : ∀ (w : World) (a : Option Addr) (cap : Nat), (Instr.arrayAt 51 (.slice a 16 cap)).run Try.prog w = .ok (.pointer a) w :=
      fun w a cap => run_arrayAt w 51 5 16 a 16 cap Try.underlying51 (Nat.le_refl _)
    go_enter Try.func28, Try.ntmps28
    go_wp2_with (go_at_call 32; refine (wireCount_any A c b _ _ hr hL hc hcm 16 (by omega) (by omega) k u 0 HC.out).mono ?_; rintro e w1 ⟨⟨x, y, rfl, hxy⟩, rfl⟩; (obtain ⟨rfl, rfl⟩ : x = k ∧ y = u := hxy rfl))
    go_loopw [6, 8, 19] (fun u6 u8 u19 wr => ∃ (i at_ : Nat) (A' : Option Addr) (c' : Nat), i ≤ k ∧ u19 = .int .i64 i ∧ u6 = .int .i64 at_ ∧ at_ = u + 16 * i ∧ u8 = .slice A' i c' ∧
       wr.ownsRow w.heap.size 51 16 (.slice A' i c') i (dvs (Wire.chunks i (b.drop u))) ∧ Below w.heap.size w wr) (fun _ _ u _ => k - (intOf u).toNat)
    case atStart => exact ⟨0, u, none, 0, by omega, rfl, rfl, by omega, rfl, World.ownsRow_nil _ _ _ _, Below.refl _ _⟩
    case round =>
      obtain ⟨i, at_, A', c', hi, rfl, rfl, hat, rfl, hown, hbel⟩ := hrel
      have HAT := Lib.hid hat
      by_cases hik : i < k
      · have hat2 : at_ + 16 ≤ b.length := by omega
        have hat3 : at_ ≤ 1099511627776 := by omega
        obtain ⟨x, hx⟩ : ∃ x, x = (b.drop at_).take 16 := ⟨_, rfl⟩
        have HX : Hid (x.length = 16) := by show _ = _; rw [hx, List.length_take, List.length_drop]; omega
        have HS : Hid (Wire.chunks (i + 1) (b.drop u) = Wire.chunks i (b.drop u) ++ [x]) := by
          show _ = _
          rw [Wire.chunks_snoc, List.drop_drop, ← hat, hx]
        have HXX := Lib.hid hx
        obtain ⟨bb, ob, rfl, hbb, hcell⟩ := hr.2 (by omega)
        have HC2 : Hid (wr.rangeAt bb (ob + at_) (bvs x)) := by
          intro j v hv
          rw [hx, List.getElem?_map, List.getElem?_take, List.getElem?_drop] at hv
          split at hv
          · have e : ob + at_ + j = ob + (at_ + j) := by omega
            rw [e]
            exact (hbel.cell (p := ⟨bb, ob + (at_ + j), none⟩) hbb).trans (hcell _ v (by rw [List.getElem?_map]; exact hv))
          · cases hv
        clear hat hx hcell
        have hx16 : x.length = 16 := HX.out
        go_wp2_with (first
          | (with_reducible refine wpList_load_mid rfl 51 (.tmp 27) rfl bb (ob + at_) rfl (bvs x) _ HC2.out Try.underlying51 rfl (by rw [dig_size, List.length_map, HX.out]) ?_)
          | (at_builtin; refine wpList_appN rfl (.tmp 21) (.tmp 29) 23 rfl w.heap.size 51 _ 16 16 digsE A' i c' _ (bvs x) _ (fold_dig HX.out) rfl rfl hown hbel (by rw [List.length_map, HX.out]) (bvs_one x) (by omega) (Nat.le_refl _) hbel.size ?_; intro g c4 w4 hown4 hbel4 _))
        go_roundw
        case rel =>
          refine ⟨i + 1, at_ + 16, some ⟨g, 0, none⟩, c4, by omega, by go_num, by go_num, by have := HAT.out; omega, rfl, ?_, hbel4⟩
          rw [HS.out]
          simpa [dvs] using hown4
        case measure => simp [intOf] <;> omega
      · obtain rfl : i = k := by omega
        go_wp2
        go_ret3
        have e1 := HL.out
        have e2 := HV.out
        subst e1 e2
        rw [Wire.chunks_len, ← HAT.out]
        exact ⟨A', c', rfl, hown, hbel⟩
  · have hdb := Wire.decD_err hd0 he
    rw [hd] at hdb
    simp only [Prod.mk.injEq] at hdb
    obtain ⟨rfl, rfl, rfl⟩ := hdb
    have he0 : (er != 0) = true := by rw [bne_iff_ne]; exact he
    clear hd hd0 he
    go_enter Try.func28, Try.ntmps28
    go_wp2_with (go_at_call 32; refine (wireCount_any A c b _ _ hr hL hc hcm 16 (by omega) (by omega) k u er HC.out).mono ?_; rintro e w1 ⟨⟨x, y, rfl, hxy⟩, rfl⟩)
    go_ret3
    exact ⟨none, 0, rfl, World.ownsRow_nil _ _ _ _, Below.refl _ _⟩
/-- a digest of which the first i bytes are laid -/
def lay (i : Nat) (x : List UInt8) : Array Value := (bvs (x.take i) ++ List.replicate (16 - i) (Value.int .u8 0)).toArray
theorem lay_zero {i : Nat} {x : List UInt8} (hi : i < 16) (hx : x.length = 16) : (lay i x)[i]? = some (.int .u8 0) := by
  simp only [lay, List.getElem?_toArray]
  rw [List.getElem?_append_right (by simp; omega)]
  simp [List.getElem?_replicate]; omega
theorem lay_step {i : Nat} {x : List UInt8} (hi : i < 16) (hx : x.length = 16) : (lay i x).setIfInBounds i (.int .u8 ((x[i]'(by omega)).toNat : Int)) = lay (i + 1) x := by
  have e : 16 - i = (16 - (i + 1)) + 1 := by omega
  simp only [lay, List.setIfInBounds_toArray]
  rw [List.set_append_right _ _ (by simp; omega), List.take_succ_eq_append_getElem (by omega)]
  have hl : (bvs (x.take i)).length = i := by simp; omega
  rw [hl, Nat.sub_self, e, List.replicate_succ, List.set_cons_zero, ← bvs_append, List.append_assoc]
  rfl
theorem lay_end {x : List UInt8} (hx : x.length = 16) : lay 16 x = (bvs x).toArray := by
  simp [lay, List.take_of_length_le (show x.length ≤ 16 by omega)]

set_option maxHeartbeats 1600000 in
theorem refGetDigests_any (A : Option Addr) (c : Nat) (b : List UInt8) (w : World) (hr : Rd w w.heap.size 1 A b.length (bvs b)) (hL : b.length ≤ 1099511627776) (hc : b.length ≤ c) (hcm : c ≤ maxLen)
    (l : List (List UInt8)) (v : Nat) (er : Int) (hd : Wire.decD b = (l, v, er)) :
    Calls Try.prog 29 #[.slice A b.length c] w fun e w' => ∃ A' c', e = .returned (.tuple #[.slice A' l.length c', .int .i64 v, .int .i64 er]) ∧
      w'.ownsRow w.heap.size 51 16 (.slice A' l.length c') l.length (dvs l) ∧ Below w.heap.size w w' := by
  obtain ⟨k, u, e0, hd0⟩ : ∃ k u e, Wire.cnt 16 b = (k, u, e) := ⟨_, _, _, rfl⟩
  have HC := Lib.hid hd0
  by_cases he : e0 = 0
  · subst he
    have hdb := Wire.decD_ok hd0
    rw [hd] at hdb
    simp only [Prod.mk.injEq] at hdb
    obtain ⟨hl, hv, rfl⟩ := hdb
    have HL := Lib.hid hl
    have HV := Lib.hid hv
    obtain ⟨_, hk, hu1, hu9, hul, hk63, _⟩ := Wire.cnt_ok hd0
    clear hd hd0 hl hv
    go_enter Try.func29, Try.ntmps29
    go_wp2_with (go_at_call 33; refine (refCount_any A c b _ _ (Nat.le_refl _) hr hL hc hcm 16 (by omega) (by omega) k u 0 HC.out).mono ?_; rintro e w1 ⟨rfl, hb1⟩)
    go_loopw [6, 8, 9, 10, 11] (fun u6 u8 u19 _ _ wr => ∃ (i at_ : Nat) (A' : Option Addr) (c' : Nat), i ≤ k ∧ u19 = .int .i64 i ∧ u6 = .int .i64 at_ ∧ at_ = u + 16 * i ∧ u8 = .slice A' i c' ∧
       wr.ownsRow w.heap.size 51 16 (.slice A' i c') i (dvs (Wire.chunks i (b.drop u))) ∧ Below w.heap.size w wr) (fun _ _ u _ _ _ => k - (intOf u).toNat)
    case atStart => exact ⟨0, u, none, 0, by omega, rfl, rfl, by omega, rfl, World.ownsRow_nil _ _ _ _, hb1⟩
    case round =>
      obtain ⟨i, at_, A', c', hi, rfl, rfl, hat, rfl, hown, hbel⟩ := hrel
      have HAT := Lib.hid hat
      by_cases hik : i < k
      · have hat2 : at_ + 16 ≤ b.length := by omega
        have hat3 : at_ ≤ 1099511627776 := by omega
        obtain ⟨x, hx⟩ : ∃ x, x = (b.drop at_).take 16 := ⟨_, rfl⟩
        have HX : Hid (x.length = 16) := by show _ = _; rw [hx, List.length_take, List.length_drop]; omega
        have HS : Hid (Wire.chunks (i + 1) (b.drop u) = Wire.chunks i (b.drop u) ++ [x]) := by
          show _ = _
          rw [Wire.chunks_snoc, List.drop_drop, ← hat, hx]
        have HXX := Lib.hid hx
        obtain ⟨bb, ob, rfl, hbb, hcell⟩ := hr.2 (by omega)
        have HC2 : Hid (∀ j (hj : j < x.length), w.cell? ⟨bb, ob + (at_ + j), none⟩ = some (.int .u8 ((x[j]).toNat : Int))) := by
          intro j hj
          refine hcell _ _ ?_
          have h16 := HX.out
          have h1 : at_ + j < b.length := by omega
          have h2 : x[j] = b[at_ + j] := by simp [hx]
          rw [List.getElem?_map, List.getElem?_eq_getElem h1, h2]; rfl
        clear hat hx hcell
        have hx16 : x.length = 16 := HX.out
        obtain ⟨wo, hwo⟩ : ∃ wo, wo = wr := ⟨_, rfl⟩
        subst hwo
        have hblk0 : (wo.alloc (.cells #[Value.int .u8 0, .int .u8 0, .int .u8 0, .int .u8 0, .int .u8 0, .int .u8 0, .int .u8 0, .int .u8 0, .int .u8 0, .int .u8 0, .int .u8 0, .int .u8 0, .int .u8 0, .int .u8 0, .int .u8 0, .int .u8 0] 51)).heap[wo.heap.size]? = some (.cells (lay 0 x) 51 (0, 0)) := heap_alloc_new _ _
        have HB0 := Lib.hid hblk0
        clear hblk0
        obtain ⟨g0, hg0⟩ : ∃ g0, g0 = wo.heap.size := ⟨_, rfl⟩
        have HG0 := Lib.hid hg0
        clear hg0
        go_wp2
        rw [← HG0.out]
        go_loopw [11] (fun u11 wr => ∃ i2 : Nat, i2 ≤ 16 ∧ u11 = .int .i64 i2 ∧ Hid (wr.heap[g0]? = some (.cells (lay i2 x) 51 (0, 0))) ∧ Below g0 wo wr ∧ g0 < wr.heap.size) (fun u _ => 16 - (intOf u).toNat)
        case atStart => exact ⟨0, by omega, rfl, by rw [HG0.out]; exact HB0, by rw [HG0.out]; exact (Below.refl _ _).alloc (Nat.le_refl _) _, by rw [HG0.out]; simp⟩
        case round =>
          obtain ⟨i2, hi2, rfl, HBK, hbo, hgl⟩ := hrel
          have hgw : w.heap.size ≤ g0 := by rw [HG0.out]; exact hbel.size
          by_cases hi16 : i2 < 16
          · have hcellx : wr.cell? ⟨bb, ob + (at_ + i2), none⟩ = some (.int .u8 ((x[i2]'(by omega)).toNat : Int)) :=
              (hbo.cell (p := ⟨bb, ob + (at_ + i2), none⟩) (by show bb < g0; omega)).trans ((hbel.cell (p := ⟨bb, ob + (at_ + i2), none⟩) hbb).trans (HC2.out i2 (by omega)))
            obtain ⟨y, hy⟩ : ∃ y, y = x[i2]'(by omega) := ⟨_, rfl⟩
            have HY := Lib.hid hy
            rw [← hy] at hcellx
            clear hy
            have hcelld : wr.cell? ⟨g0, i2, none⟩ = some (.int .u8 0) := by rw [cell_of_row _ _ _ _ _ _ HBK.out]; exact lay_zero hi16 hx16
            have hfz : wr.frozen? ⟨g0, i2, none⟩ = false := frozen_of_row _ _ _ _ _ HBK.out
            go_wp2
            go_roundw
            case rel =>
              refine ⟨i2 + 1, by omega, by go_num, ?_, hbo.setCell (p := ⟨g0, i2, none⟩) (Nat.le_refl _) _, by simpa [World.setCell] using hgl⟩
              show _ = _
              rw [heap_setCell_same _ _ _ _ _ _ HBK.out, HY.out, lay_step hi16 hx16]
            case measure => simp [intOf] <;> omega
          · obtain rfl : i2 = 16 := by omega
            have HB16 : Hid (wr.heap[g0]? = some (.cells (bvs x).toArray 51 (0, 0))) := by rw [← lay_end hx16]; exact HBK
            have hbo2 : Below wo.heap.size wo wr := by rw [← HG0.out]; exact hbo
            have HBO := Lib.hid (hbel.trans (hbo2.mono hbel.size))
            have HOW := Lib.hid (own_below hown hbo2)
            go_wp2_with (first
              | (with_reducible refine wpList_load_row rfl 51 (.tmp 10) rfl g0 rfl 51 (bvs x).toArray (0, 0) _ HB16.out Try.underlying51 rfl (by rw [dig_size, bvs_size16 HX.out]) ?_)
              | (at_builtin; refine wpList_appN rfl (.tmp 38) (.tmp 40) 23 rfl w.heap.size 51 _ 16 16 digsE A' i c' _ (bvs x) _ (fold_dig HX.out) rfl rfl HOW.out HBO.out (by rw [List.length_map, HX.out]) (bvs_one x) (by omega) (Nat.le_refl _) HBO.out.size ?_; intro g c4 w4 hown4 hbel4 _))
            go_roundw
            case rel =>
              refine ⟨i + 1, at_ + 16, some ⟨g, 0, none⟩, c4, by omega, by go_num, by go_num, by have := HAT.out; omega, rfl, ?_, hbel4⟩
              rw [HS.out]
              simpa [dvs] using hown4
            case measure => simp [intOf] <;> omega
      · obtain rfl : i = k := by omega
        go_wp2
        go_ret3
        have e1 := HL.out
        have e2 := HV.out
        subst e1 e2
        rw [Wire.chunks_len, ← HAT.out]
        exact ⟨A', c', rfl, hown, hbel⟩
  · have hdb := Wire.decD_err hd0 he
    rw [hd] at hdb
    simp only [Prod.mk.injEq] at hdb
    obtain ⟨rfl, rfl, rfl⟩ := hdb
    have he0 : (er != 0) = true := by rw [bne_iff_ne]; exact he
    clear hd hd0 he
    go_enter Try.func29, Try.ntmps29
    go_wp2_with (go_at_call 33; refine (refCount_any A c b _ _ (Nat.le_refl _) hr hL hc hcm 16 (by omega) (by omega) k u er HC.out).mono ?_; rintro e w1 ⟨rfl, hb1⟩)
    go_ret3
    exact ⟨none, 0, rfl, World.ownsRow_nil _ _ _ _, hb1⟩
end Go.Proofs.Ytoipafbjdjhdjaa
