/- Walks of layer 1's decoders of byte strings and lists of integers, the program's and the reference's. Conditions: the slice reads as a list of at most 2^40 bytes. -/
import Derived.Test.YtkjomnakolhdcaaDoorWireDec
namespace Go.Proofs.YtkjomnakolhdcaaDoor
set_option linter.unusedVariables false
set_option linter.unusedSimpArgs false
open Go.RowKit
theorem intsE : ElemT Tryd.prog 29 3 (.int .i64 0) 1 8 := ⟨Tryd.underlying29, by kernel_rfl, rfl, by decide, by decide⟩
theorem refGetInt_len (A : Option Addr) (c n0 : Nat) (b : List UInt8) (w : World) (B : Nat) (hB : B ≤ w.heap.size) (hn0 : b.length = n0) (hr : Rd w B 1 A n0 (bvs b)) (hL : n0 ≤ 1099511627776) (hc : n0 ≤ c) (hcm : c ≤ maxLen)
    (n : Int) (u : Nat) (er : Int) (hd : Wire.dec b = (n, u, er)) :
    Calls Tryd.prog 86 #[.slice A n0 c] w fun e w' => e = .returned (.tuple #[.int .i64 n, .int .i64 u, .int .i64 er]) ∧ Below w.heap.size w w' := by
  subst hn0; exact refGetInt_any A c b w B hB hr hL hc hcm n u er hd
theorem wireGetInt_len (A : Option Addr) (c n0 : Nat) (b : List UInt8) (w : World) (B : Nat) (hn0 : b.length = n0) (hr : Rd w B 1 A n0 (bvs b)) (hL : n0 ≤ 1099511627776) (hc : n0 ≤ c) (hcm : c ≤ maxLen)
    (n : Int) (u : Nat) (er : Int) (hd : Wire.dec b = (n, u, er)) :
    Calls Tryd.prog 80 #[.slice A n0 c] w fun e w' => e = .returned (.tuple #[.int .i64 n, .int .i64 u, .int .i64 er]) ∧ w = w' := by
  subst hn0; exact wireGetInt_any A c b w B hr hL hc hcm n u er hd
set_option maxHeartbeats 1600000 in
theorem refGetInts_any (A : Option Addr) (c : Nat) (b : List UInt8) (w : World) (hr : Rd w w.heap.size 1 A b.length (bvs b)) (hL : b.length ≤ 1099511627776) (hc : b.length ≤ c) (hcm : c ≤ maxLen)
    (l : List Int) (v : Nat) (er : Int) (hd : Wire.decI b = (l, v, er)) :
    Calls Tryd.prog 82 #[.slice A b.length c] w fun e w' => ∃ A' c', e = .returned (.tuple #[.slice A' l.length c', .int .i64 v, .int .i64 er]) ∧
      w'.ownsRow w.heap.size 3 1 (.slice A' l.length c') l.length (ivs l) ∧ Below w.heap.size w w' := by
  obtain ⟨k, u, e0, hd0⟩ : ∃ k u e, Wire.cnt 1 b = (k, u, e) := ⟨_, _, _, rfl⟩
  have HC := Lib.hid hd0
  by_cases he : e0 = 0
  · subst he
    have HS : Hid (Wire.fin [] u (Wire.decN k (b.drop u)) = (l, v, er)) := by show _ = _; rw [← Wire.decI_start hd0, hd]
    obtain ⟨_, hk, hu1, hu9, hul, hk63, _⟩ := Wire.cnt_ok hd0
    clear hd hd0
    rw [Nat.mul_one] at hk
    go_enter Tryd.func82, Tryd.ntmps82
    go_wp2_with (go_at_call 93; refine (refCount_any A c b _ _ (Nat.le_refl _) hr hL hc hcm 1 (by omega) (by omega) k u 0 HC.out).mono ?_; rintro e w1 ⟨rfl, hb1⟩)
    go_loopw [6, 8, 9] (fun u6 u8 u9 wr => ∃ (i at_ : Nat) (A' : Option Addr) (c' : Nat) (acc : List Int), i ≤ k ∧ at_ ≤ b.length ∧ u9 = .int .i64 i ∧ u6 = .int .i64 at_ ∧ u8 = .slice A' acc.length c' ∧ acc.length ≤ i ∧
       wr.ownsRow w.heap.size 3 1 (.slice A' acc.length c') acc.length (ivs acc) ∧ Below w.heap.size w wr ∧ Hid (Wire.fin acc at_ (Wire.decN (k - i) (b.drop at_)) = (l, v, er))) (fun _ _ u9 _ => k - (intOf u9).toNat)
    case atStart => exact ⟨0, u, none, 0, [], by omega, by omega, rfl, rfl, rfl, by simp, World.ownsRow_nil _ _ _ _, hb1, HS⟩
    case round =>
      obtain ⟨i, at_, A', c', acc, hi, hat, rfl, rfl, rfl, hacc, hown, hbel, HI⟩ := hrel
      by_cases hik : i < k
      · obtain ⟨x, u1, e1, hd1⟩ : ∃ x u e, Wire.dec (b.drop at_) = (x, u, e) := ⟨_, _, _, rfl⟩
        have HD1 := Lib.hid hd1
        have hlen : (b.drop at_).length = b.length - at_ := List.length_drop
        have HLen := Lib.hid hlen
        have hki : k - i = (k - i - 1) + 1 := by omega
        rw [hki] at HI
        clear hki
        by_cases he1 : e1 = 0
        · subst he1
          obtain ⟨_, _, hu1', hu9', hul', _⟩ := Wire.dec_ok hd1
          rw [hlen] at hul'
          have HI2 : Hid (Wire.fin (acc ++ [x]) (at_ + u1) (Wire.decN (k - i - 1) (b.drop (at_ + u1))) = (l, v, er)) := by show _ = _; rw [← Wire.fin_step hd1, HI.out]
          clear hd1 hlen
          go_wp2_with (first
            | (with_reducible refine wpList_cutFrom rfl (.tmp 28) (.tmp 29) 58 rfl _ _ 1 1 bytesE A b.length c rfl at_ .i64 _ rfl rfl hat hc (hr.below hbel) ?_; intro A2 hr2)
            | (go_at_call 86; refine (refGetInt_len A2 (c - at_) (b.length - at_) (b.drop at_) _ _ (Nat.le_trans (Nat.le_refl _) hbel.size) HLen.out (by simpa [bvs, List.map_drop] using hr2) (by omega) (by omega) (by omega) x u1 0 HD1.out).mono ?_; rintro e w3 ⟨rfl, hb3⟩)
            | (at_builtin; refine wpList_app1 rfl (.tmp 38) (.tmp 40) 29 rfl w.heap.size 3 _ 8 intsE A' acc.length c' _ _ rfl rfl (own_below hown hb3) (hbel.trans (hb3.mono hbel.size)) rfl (by omega) (Nat.le_refl _) (Nat.le_trans hbel.size hb3.size) ?_; intro g c4 w4 hown4 hbel4 _))
          go_roundw
          case rel =>
            refine ⟨i + 1, at_ + u1, some ⟨g, 0, none⟩, c4, acc ++ [x], by omega, by omega, by go_num, by go_num, by simp, by simp; omega, ?_, hbel4, ?_⟩
            · rw [← ivs_snoc acc x rfl]; simpa using hown4
            · rw [Nat.sub_add_eq]; exact HI2
          case measure => simp [intOf] <;> omega
        · have HI2 : Hid (([], 0, e1) = (l, v, er)) := by show _ = _; rw [← Wire.fin_stop hd1 he1, HI.out]
          have he0 : (e1 != 0) = true := by rw [bne_iff_ne]; exact he1
          clear hd1 hlen he1
          go_wp2_with (first
            | (with_reducible refine wpList_cutFrom rfl (.tmp 28) (.tmp 29) 58 rfl _ _ 1 1 bytesE A b.length c rfl at_ .i64 _ rfl rfl hat hc (hr.below hbel) ?_; intro A2 hr2)
            | (go_at_call 86; refine (refGetInt_len A2 (c - at_) (b.length - at_) (b.drop at_) _ _ (Nat.le_trans (Nat.le_refl _) hbel.size) HLen.out (by simpa [bvs, List.map_drop] using hr2) (by omega) (by omega) (by omega) x u1 e1 HD1.out).mono ?_; rintro e w3 ⟨rfl, hb3⟩))
          go_ret3
          have := HI2.out
          simp only [Prod.mk.injEq] at this
          obtain ⟨rfl, rfl, rfl⟩ := this
          exact ⟨none, 0, rfl, World.ownsRow_nil _ _ _ _, hbel.trans (hb3.mono hbel.size)⟩
      · obtain rfl : i = k := by omega
        go_wp2
        go_ret3
        have := HI.out
        rw [Nat.sub_self, Wire.fin_end] at this
        simp only [Prod.mk.injEq] at this
        obtain ⟨rfl, rfl, rfl⟩ := this
        exact ⟨A', c', rfl, hown, hbel⟩
  · have hdb := Wire.decI_err hd0 he
    rw [hd] at hdb
    simp only [Prod.mk.injEq] at hdb
    obtain ⟨rfl, rfl, rfl⟩ := hdb
    have he0 : (er != 0) = true := by rw [bne_iff_ne]; exact he
    clear hd hd0 he
    go_enter Tryd.func82, Tryd.ntmps82
    go_wp2_with (go_at_call 93; refine (refCount_any A c b _ _ (Nat.le_refl _) hr hL hc hcm 1 (by omega) (by omega) k u er HC.out).mono ?_; rintro e w1 ⟨rfl, hb1⟩)
    go_ret3
    exact ⟨none, 0, rfl, World.ownsRow_nil _ _ _ _, hb1⟩
set_option maxHeartbeats 800000 in
/-- the closure that 'reader' hands back: it decodes the next integer and moves its position on -/
theorem wireReader_next (b1 b2 : Nat) (hne : b1 ≠ b2) (A : Option Addr) (c : Nat) (b : List UInt8) (at_ : Nat) (w : World) (B : Nat) (hr : Rd w B 1 A b.length (bvs b)) (hL : b.length ≤ 1099511627776) (hc : b.length ≤ c) (hcm : c ≤ maxLen)
    (hat : at_ ≤ b.length) (h1 : w.cell? ⟨b1, 0, none⟩ = some (.slice A b.length c)) (h2 : w.cell? ⟨b2, 0, none⟩ = some (.int .i64 at_)) (hf : w.frozen? ⟨b2, 0, none⟩ = false)
    (x : Int) (u : Nat) (er : Int) (hd : Wire.dec (b.drop at_) = (x, u, er)) :
    Calls Tryd.prog 101 #[.pointer (some ⟨b1, 0, none⟩), .pointer (some ⟨b2, 0, none⟩)] w fun e w' =>
      e = .returned (.tuple #[.int .i64 x, .int .i64 (at_ + u : Nat), .int .i64 er]) ∧ ∃ n, w' = (w.setCell ⟨b2, 0, none⟩ (.int .i64 (at_ + u : Nat))).drewN n := by
  have HLen : Hid ((b.drop at_).length = b.length - at_) := List.length_drop
  have HD := Lib.hid hd
  have hu : u ≤ 9 := by
    rcases Wire.dec_err hd with rfl | ⟨_, _, rfl⟩
    · have := Wire.dec_ok hd; omega
    · omega
  clear hd
  go_enter Tryd.func101, Tryd.ntmps101
  go_wp2_with (first
    | (with_reducible refine wpList_cutFrom rfl (.tmp 9) (.tmp 10) 58 rfl _ _ 1 1 bytesE A b.length c rfl at_ .i64 _ rfl rfl hat hc hr ?_; intro A2 hr2)
    | (go_at_call 80; refine (wireGetInt_len A2 (c - at_) (b.length - at_) (b.drop at_) _ _ HLen.out (by simpa [bvs, List.map_drop] using hr2) (by omega) (by omega) (by omega) x u er HD.out).mono ?_; rintro e w3 ⟨rfl, rfl⟩))
  go_quiet (fail)
  go_wp2
  go_ret3
  exact ⟨rfl, _, rfl⟩

theorem wireReader_any (A : Option Addr) (n c : Nat) (u : Int) (w : World) :
    Calls Tryd.prog 92 #[.slice A n c, .int .i64 u] w fun e w' => e = .returned (.func (.func 101) #[] #[.pointer (some ⟨w.heap.size, 0, none⟩), .pointer (some ⟨w.heap.size + 1, 0, none⟩)]) ∧
      (w.alloc (.cells #[.slice A n c] 58)).alloc (.cells #[.int .i64 u] 3) = w' := by
  go_enter Tryd.func92, Tryd.ntmps92
  go_wp2
  go_ret
  exact ⟨rfl, rfl⟩

set_option maxHeartbeats 1600000 in
theorem wireGetInts_any (A : Option Addr) (c : Nat) (b : List UInt8) (w : World) (hr : Rd w w.heap.size 1 A b.length (bvs b)) (hL : b.length ≤ 1099511627776) (hc : b.length ≤ c) (hcm : c ≤ maxLen)
    (l : List Int) (v : Nat) (er : Int) (hd : Wire.decI b = (l, v, er)) :
    Calls Tryd.prog 78 #[.slice A b.length c] w fun e w' => ∃ A' c', e = .returned (.tuple #[.slice A' l.length c', .int .i64 v, .int .i64 er]) ∧
      w'.ownsRow w.heap.size 3 1 (.slice A' l.length c') l.length (ivs l) ∧ Below w.heap.size w w' := by
  obtain ⟨k, u, e0, hd0⟩ : ∃ k u e, Wire.cnt 1 b = (k, u, e) := ⟨_, _, _, rfl⟩
  have HC := Lib.hid hd0
  by_cases he : e0 = 0
  · subst he
    have HS : Hid (Wire.fin [] u (Wire.decN k (b.drop u)) = (l, v, er)) := by show _ = _; rw [← Wire.decI_start hd0, hd]
    obtain ⟨_, hk, hu1, hu9, hul, hk63, _⟩ := Wire.cnt_ok hd0
    clear hd hd0
    rw [Nat.mul_one] at hk
    have h1 : ((w.alloc (.cells #[.slice A b.length c] 58)).alloc (.cells #[.int .i64 u] 3)).cell? ⟨w.heap.size, 0, none⟩ = some (.slice A b.length c) := by
      rw [World.cell?_alloc_lt _ _ _ (by simp), cell_of_row _ _ _ _ _ _ (heap_alloc_new w _)]; rfl
    have h2 : ((w.alloc (.cells #[.slice A b.length c] 58)).alloc (.cells #[.int .i64 u] 3)).heap[w.heap.size + 1]? = some (.cells #[.int .i64 u] 3) := heap_alloc2_new w _ _
    have H1 := Lib.hid h1
    have H2 := Lib.hid h2
    clear h1 h2
    obtain ⟨B0, hB0⟩ : ∃ B0, B0 = w.heap.size := ⟨_, rfl⟩
    have HB0 := Lib.hid hB0
    clear hB0
    go_enter Tryd.func78, Tryd.ntmps78
    go_wp2_with (first
      | (go_at_call 91; refine (wireCount_any A c b _ _ hr hL hc hcm 1 (by omega) (by omega) k u 0 HC.out).mono ?_; rintro e w1 ⟨⟨x, y, rfl, hxy⟩, rfl⟩; (obtain ⟨rfl, rfl⟩ : x = k ∧ y = u := hxy rfl))
      | (go_at_call 92; refine (wireReader_any A b.length c u _).mono ?_; rintro e w1 ⟨rfl, hw1⟩; have HW1 := Lib.hid hw1; clear hw1))
    have hbw : Below B0 w w1 := by rw [← HW1.out, HB0.out]; exact ((Below.refl _ _).alloc (Nat.le_refl _) _).alloc (by simp) _
    have hsz : w1.heap.size = B0 + 2 := by rw [← HW1.out, HB0.out]; simp
    have HSZ := Lib.hid hsz
    clear hsz
    have hc1 : w1.cell? ⟨B0, 0, none⟩ = some (.slice A b.length c) := by rw [HB0.out, ← HW1.out]; exact H1.out
    have hc2 : w1.heap[B0 + 1]? = some (.cells #[.int .i64 u] 3) := by rw [HB0.out, ← HW1.out]; exact H2.out
    have HC1 := Lib.hid hc1
    have HC2 := Lib.hid hc2
    clear hc1 hc2 H1 H2
    rw [← HB0.out]
    rw [← HB0.out] at hr
    go_loopw [6, 9, 26] (fun u6 u9 u26 wr => ∃ (i at_ : Nat) (A' : Option Addr) (c' : Nat) (acc : List Int), i ≤ k ∧ at_ ≤ b.length ∧ u26 = .int .i64 i ∧ u6 = .int .i64 at_ ∧ u9 = .slice A' acc.length c' ∧ acc.length ≤ i ∧
       wr.ownsRow (B0 + 2) 3 1 (.slice A' acc.length c') acc.length (ivs acc) ∧ Below B0 w wr ∧ B0 + 2 ≤ wr.heap.size ∧ Hid (wr.cell? ⟨B0, 0, none⟩ = some (.slice A b.length c)) ∧ Hid (wr.heap[B0 + 1]? = some (.cells #[.int .i64 at_] 3)) ∧
       Hid (Wire.fin acc at_ (Wire.decN (k - i) (b.drop at_)) = (l, v, er))) (fun _ _ u26 _ => k - (intOf u26).toNat)
    case atStart => exact ⟨0, u, none, 0, [], by omega, by omega, rfl, rfl, rfl, by simp, World.ownsRow_nil _ _ _ _, hbw, by have := HSZ.out; omega, HC1, HC2, HS⟩
    case round =>
      clear HC1 HC2 hbw
      obtain ⟨i, at_, A', c', acc, hi, hat, rfl, rfl, rfl, hacc, hown, hbel, hsz, HC1, HC2, HI⟩ := hrel
      by_cases hik : i < k
      · obtain ⟨x, u1, e1, hd1⟩ : ∃ x u e, Wire.dec (b.drop at_) = (x, u, e) := ⟨_, _, _, rfl⟩
        have HD1 := Lib.hid hd1
        have hlen : (b.drop at_).length = b.length - at_ := List.length_drop
        have hki : k - i = (k - i - 1) + 1 := by omega
        rw [hki] at HI
        clear hki
        have HN : Hid (∀ n, ((wr.setCell ⟨B0 + 1, 0, none⟩ (.int .i64 (at_ + u1 : Nat))).drewN n).heap[B0 + 1]? = some (.cells #[.int .i64 (at_ + u1 : Nat)] 3) ∧
           ((wr.setCell ⟨B0 + 1, 0, none⟩ (.int .i64 (at_ + u1 : Nat))).drewN n).cell? ⟨B0, 0, none⟩ = some (.slice A b.length c)) := by
          intro n
          refine ⟨heap_setCell_same wr (B0 + 1) 0 #[.int .i64 at_] 3 _ HC2.out, ?_⟩
          have := World.cell?_setCell_other wr ⟨B0 + 1, 0, none⟩ ⟨B0, 0, none⟩ (.int .i64 (at_ + u1 : Nat)) (by intro h; injection h; omega)
          exact this.trans HC1.out
        by_cases he1 : e1 = 0
        · subst he1
          obtain ⟨_, _, hu1', hu9', hul', _⟩ := Wire.dec_ok hd1
          rw [hlen] at hul'
          have HI2 : Hid (Wire.fin (acc ++ [x]) (at_ + u1) (Wire.decN (k - i - 1) (b.drop (at_ + u1))) = (l, v, er)) := by show _ = _; rw [← Wire.fin_step hd1, HI.out]
          clear hd1 hlen
          go_wp2_with (first
            | (go_at_call 101; refine (wireReader_next B0 (B0 + 1) (by omega) A c b at_ _ B0 (hr.below hbel) hL hc hcm hat HC1.out (by rw [cell_of_row _ _ _ _ _ _ HC2.out]; rfl) (frozen_of_row _ _ _ _ _ HC2.out) x u1 0 HD1.out).mono ?_; rintro e w3 ⟨rfl, n3, hw3⟩; have HW3 := Lib.hid hw3; clear hw3; have hbb : Below B0 w w3 := (by rw [HW3.out]; exact below_drewN (hbel.setCell (p := ⟨B0 + 1, 0, none⟩) (by show B0 ≤ B0 + 1; omega) _) _); have hs3 : B0 + 2 ≤ w3.heap.size := (by rw [HW3.out]; simpa [World.setCell] using hsz); have hown3 : w3.ownsRow (B0 + 2) 3 1 (.slice A' acc.length c') acc.length (ivs acc) := (by rw [HW3.out]; exact own_drewN (ownsRow_setCell_below hown (a := ⟨B0 + 1, 0, none⟩) (by show B0 + 1 < B0 + 2; omega) _) _))
            | (at_builtin; refine wpList_app1 rfl (.tmp 37) (.tmp 39) 29 rfl (B0 + 2) 3 _ 8 intsE A' acc.length c' _ _ rfl rfl hown3 (Below.refl (B0 + 2) w3) rfl (by omega) (Nat.le_refl _) hs3 ?_; intro g c4 w4 hown4 hbel4 _))
          go_roundw
          case rel =>
            refine ⟨i + 1, at_ + u1, some ⟨g, 0, none⟩, c4, acc ++ [x], by omega, by omega, by go_num, by go_num, by simp, by simp; omega, ?_, hbb.trans (hbel4.mono (by omega)), Nat.le_trans hs3 hbel4.size, ?_, ?_, ?_⟩
            · rw [← ivs_snoc acc x rfl]; simpa using hown4
            · exact (hbel4.cell (p := ⟨B0, 0, none⟩) (by show B0 < B0 + 2; omega)).trans (by rw [HW3.out]; exact (HN.out n3).2)
            · exact (hbel4.block (B0 + 1) (by omega)).trans (by rw [HW3.out]; exact (HN.out n3).1)
            · rw [Nat.sub_add_eq]; exact HI2
          case measure => simp [intOf] <;> omega
        · have HI2 : Hid (([], 0, e1) = (l, v, er)) := by show _ = _; rw [← Wire.fin_stop hd1 he1, HI.out]
          have he0 : (e1 != 0) = true := by rw [bne_iff_ne]; exact he1
          clear hd1 hlen he1
          go_wp2_with (go_at_call 101; refine (wireReader_next B0 (B0 + 1) (by omega) A c b at_ _ B0 (hr.below hbel) hL hc hcm hat HC1.out (by rw [cell_of_row _ _ _ _ _ _ HC2.out]; rfl) (frozen_of_row _ _ _ _ _ HC2.out) x u1 e1 HD1.out).mono ?_; rintro e w3 ⟨rfl, n3, hw3⟩; have HW3 := Lib.hid hw3; clear hw3; have hbb : Below B0 w w3 := (by rw [HW3.out]; exact below_drewN (hbel.setCell (p := ⟨B0 + 1, 0, none⟩) (by show B0 ≤ B0 + 1; omega) _) _))
          go_ret3
          have := HI2.out
          simp only [Prod.mk.injEq] at this
          obtain ⟨rfl, rfl, rfl⟩ := this
          rw [← HB0.out]; exact ⟨none, 0, rfl, World.ownsRow_nil _ _ _ _, hbb⟩
      · obtain rfl : i = k := by omega
        go_wp2
        go_ret3
        have := HI.out
        rw [Nat.sub_self, Wire.fin_end] at this
        simp only [Prod.mk.injEq] at this
        obtain ⟨rfl, rfl, rfl⟩ := this
        rw [← HB0.out]; exact ⟨A', c', rfl, own_base hown (by omega), hbel⟩
  · have hdb := Wire.decI_err hd0 he
    rw [hd] at hdb
    simp only [Prod.mk.injEq] at hdb
    obtain ⟨rfl, rfl, rfl⟩ := hdb
    have he0 : (er != 0) = true := by rw [bne_iff_ne]; exact he
    clear hd hd0 he
    go_enter Tryd.func78, Tryd.ntmps78
    go_wp2_with (go_at_call 91; refine (wireCount_any A c b _ _ hr hL hc hcm 1 (by omega) (by omega) k u er HC.out).mono ?_; rintro e w1 ⟨⟨x, y, rfl, hxy⟩, rfl⟩)
    go_ret3
    exact ⟨none, 0, rfl, World.ownsRow_nil _ _ _ _, Below.refl _ _⟩
end Go.Proofs.YtkjomnakolhdcaaDoor
