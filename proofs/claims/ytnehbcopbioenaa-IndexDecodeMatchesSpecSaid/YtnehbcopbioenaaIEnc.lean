/- The index's Encode, the program's and the reference's. -/
import Derived.Test.YtnehbcopbioenaaIRef3
import Derived.Test.YtnehbcopbioenaaIDecP
import Derived.Test.YtnehbcopbioenaaWireInt
import Derived.Test.YtnehbcopbioenaaRefInt
import Derived.Deep.RegionWith
namespace Go.Proofs.Ytnehbcopbioenaa
set_option linter.unusedVariables false
set_option linter.unusedSimpArgs false
open Go.RowKit Go.ChangeMaps Go.Shelf

theorem wInt_len (n : Int) (h1 : -9223372036854775808 ≤ n) (h2 : n ≤ 9223372036854775807) (E : List UInt8) (hE : Wire.enc n = E) (k : Nat) (hk : E.length = k) (w : World) :
    Calls Try.prog 36 #[.int .i64 n] w fun e w' => ∃ A c, e = .returned (.slice A k c) ∧ w'.ownsRow w.heap.size 5 1 (.slice A k c) k (bvs E) ∧ Below w.heap.size w w' := by
  subst hE hk; exact wireInt_any n h1 h2 w
theorem rInt_len (n : Int) (h1 : -9223372036854775808 ≤ n) (h2 : n ≤ 9223372036854775807) (E : List UInt8) (hE : Wire.enc n = E) (k : Nat) (hk : E.length = k) (w : World) :
    Calls Try.prog 38 #[.int .i64 n] w fun e w' => ∃ A c, e = .returned (.slice A k c) ∧ w'.ownsRow w.heap.size 5 1 (.slice A k c) k (bvs E) ∧ Below w.heap.size w w' := by
  subst hE hk; exact refInt_any n h1 h2 w
theorem bvs_append (a b : List UInt8) : bvs a ++ bvs b = bvs (a ++ b) := by simp
theorem flat_encE_le (L : List (Int × Int)) : (L.flatMap encE).length ≤ 18 * L.length := by
  induction L with
  | nil => simp
  | cons e L ih =>
    have a1 := Wire.enc_length_le e.1
    have a2 := Wire.enc_length_le e.2
    simp only [List.flatMap_cons, List.length_append, encE, List.length_cons]
    omega

theorem own_empty (w : World) (e : TypeId) (base size : Nat) (hb : base ≤ w.heap.size) : (w.alloc (.cells #[] e)).ownsRow base e size (.slice (some ⟨w.heap.size, 0, none⟩) 0 0) 0 [] :=
  ⟨by simp, .inr ⟨w.heap.size, 0, #[], rfl, hb, heap_alloc_new w _, Nat.le_refl _, by unfold maxLen; omega, by simp, by simp⟩⟩
theorem encE_snoc {L : List (Int × Int)} {k : Nat} (h : k < L.length) (E : List UInt8) : E ++ (L.take (k + 1)).flatMap encE = (E ++ (L.take k).flatMap encE) ++ Wire.enc L[k].1 ++ Wire.enc L[k].2 := by
  rw [List.take_succ_eq_append_getElem h, List.flatMap_append]
  simp only [List.flatMap_cons, List.flatMap_nil, encE, List.append_nil, List.append_assoc]

set_option maxHeartbeats 1600000 in
theorem refEncode_any (br : Nat) (cap : Int) (L : List (Int × Int)) (hcap1 : 1 ≤ cap) (hcap2 : cap ≤ 4096) (hI : Inv cap L) (w : World) (h : RefAt w br cap L) :
    Calls Try.prog 32 #[.pointer (some ⟨br, 0, none⟩)] w fun e W' => ∃ A c, e = .returned (.slice A (encX cap L).length c) ∧ W'.ownsRow w.heap.size 5 1 (.slice A (encX cap L).length c) (encX cap L).length (bvs (encX cap L)) ∧ Below w.heap.size w W' := by
  have hblt := h.lt
  have hl := hI.len
  obtain ⟨A, c, hb, hr⟩ := h
  obtain ⟨hc0, hc1⟩ := refCells hb
  have rd := Rd.of_own hr
  have HI := Lib.hid hI
  obtain ⟨n, hn⟩ : ∃ n, L.length = n := ⟨_, rfl⟩
  rw [hn] at hc1 rd hl
  have HN := Lib.hid hn
  clear hb hr hI hn
  obtain ⟨E1, hE1⟩ : ∃ E, Wire.enc cap = E := ⟨_, rfl⟩
  obtain ⟨E2, hE2⟩ : ∃ E, Wire.enc (n : Int) = E := ⟨_, rfl⟩
  have q1 := Wire.enc_length_le cap
  have q2 := Wire.enc_length_le n
  rw [hE1] at q1
  rw [hE2] at q2
  obtain ⟨e1, he1⟩ : ∃ e, E1.length = e := ⟨_, rfl⟩
  obtain ⟨e2, he2⟩ : ∃ e, E2.length = e := ⟨_, rfl⟩
  rw [he1] at q1
  rw [he2] at q2
  have H1 := Lib.hid hE1; have H2 := Lib.hid hE2; have G1 := Lib.hid he1; have G2 := Lib.hid he2
  clear hE1 hE2 he1 he2
  go_enter Try.func32, Try.ntmps32
  go_wp2_with fail
  have own0 := own_empty w 5 w.heap.size 1 (Nat.le_refl _)
  have b0 : Below w.heap.size w (w.alloc (.cells #[] 5)) := (Below.refl _ w).alloc (Nat.le_refl _) _
  refine (rInt_len cap (by omega) (by omega) E1 H1.out e1 G1.out _).mono ?_
  rintro e w1 ⟨A1, c1, rfl, ow1, b1⟩
  have own0' := own_below own0 b1
  have b1' := b0.trans (b1.mono b0.size)
  have rd1 := Rd.of_own ow1
  have hd1 : w1.cell? ⟨br, 1, none⟩ = some (.slice A n c) := (b1'.cell (p := ⟨br, 1, none⟩) hblt).trans hc1
  clear own0 b0 b1 ow1 hc0
  go_wp2_with (at_builtin; refine wpList_appR rfl (.tmp 5) (.tmp 10) 57 rfl w.heap.size 5 _ 1 1 bytesE (some ⟨w.heap.size, 0, none⟩) 0 0 [] A1 e1 c1 (bvs E1) rfl rfl own0' rd1 (bvs_one _) b1' (by omega) (Nat.le_refl _) b1'.size ?_; intro A2 c2 w2 own2 b2; have hd2 : w2.cell? ⟨br, 1, none⟩ = some (.slice A n c) := (b2.cell (p := ⟨br, 1, none⟩) hblt).trans hc1)
  refine (rInt_len n (by omega) (by omega) E2 H2.out e2 G2.out _).mono ?_
  rintro e w3 ⟨A3, c3, rfl, ow3, b3⟩
  have own2' := own_below own2 b3
  have b3' := b2.trans (b3.mono b2.size)
  have rd3 := Rd.of_own ow3
  simp only [Nat.zero_add, List.nil_append] at own2'
  clear own2 b2 b3 ow3 hd1 hd2 own0' rd1 b1'
  go_wp2_with (at_builtin; refine wpList_appR rfl (.tmp 12) (.tmp 18) 57 rfl w.heap.size 5 _ 1 1 bytesE A2 e1 c2 _ A3 e2 c3 (bvs E2) rfl rfl own2' rd3 (bvs_one _) b3' (by omega) (Nat.le_refl _) b3'.size ?_; intro A4 c4 w4 own4 b4)
  simp only [bvs_append] at own4
  go_loopw [3, 4] (fun u3 u4 wr => ∃ (k : Nat) (A' : Option Addr) (c' m : Nat), k ≤ n ∧ u4 = .int .i64 k ∧ u3 = .slice A' m c' ∧ Hid (m = (E1 ++ E2 ++ (L.take k).flatMap encE).length) ∧ m ≤ 18 + 18 * k ∧ wr.ownsRow w.heap.size 5 1 (.slice A' m c') m (bvs (E1 ++ E2 ++ (L.take k).flatMap encE)) ∧ Below w.heap.size w wr)
    (fun _ u _ => n - (intOf u).toNat)
  case atStart => exact ⟨0, A4, c4, e1 + e2, by omega, rfl, rfl, by simp [Hid, G1.out, G2.out], by omega, by simpa using own4, b4⟩
  case round =>
    clear own4 b4 own2' b3' rd3
    obtain ⟨k, A', c', m, hk, rfl, rfl, HM, hm18, own, hbel⟩ := hrel
    have hd1 : wr.cell? ⟨br, 1, none⟩ = some (.slice A n c) := (hbel.cell (p := ⟨br, 1, none⟩) hblt).trans hc1
    by_cases hlt : k < n
    · have hkl : k < L.length := by rw [HN.out]; exact hlt
      obtain ⟨b, off, rfl, hb, hcp, hcc⟩ := ev_cells (rd.below hbel) hkl hlt
      have HT := Lib.hid (encE_snoc hkl (E1 ++ E2))
      have hp := HI.out.print L[k] (List.getElem_mem hkl)
      have hch := HI.out.chunk L[k] (List.getElem_mem hkl)
      obtain ⟨x, hx⟩ : ∃ x, L[k] = x := ⟨_, rfl⟩
      rw [hx] at hcp hcc HT hp hch
      clear hx
      obtain ⟨p, ch⟩ := x
      simp only at hcp hcc hp hch HT
      obtain ⟨F1, hF1⟩ : ∃ E, Wire.enc p = E := ⟨_, rfl⟩
      obtain ⟨F2, hF2⟩ : ∃ E, Wire.enc ch = E := ⟨_, rfl⟩
      have r1 := Wire.enc_length_le p
      have r2 := Wire.enc_length_le ch
      rw [hF1] at r1 HT
      rw [hF2] at r2 HT
      obtain ⟨f1, hf1⟩ : ∃ e, F1.length = e := ⟨_, rfl⟩
      obtain ⟨f2, hf2⟩ : ∃ e, F2.length = e := ⟨_, rfl⟩
      rw [hf1] at r1
      rw [hf2] at r2
      have HF1 := Lib.hid hF1; have HF2 := Lib.hid hF2; have GF1 := Lib.hid hf1; have GF2 := Lib.hid hf2
      clear hF1 hF2 hf1 hf2
      have hk0 : (0 : Int) ≤ k := by omega
      have hk1 : (k : Int) < n := by omega
      have hkn := hl
      go_wp2_with fail
      refine (rInt_len p (by omega) (by omega) F1 HF1.out f1 GF1.out _).mono ?_
      rintro e w5 ⟨A5, c5, rfl, ow5, b5⟩
      have own' := own_below own b5
      have b5' := hbel.trans (b5.mono hbel.size)
      have rd5 := Rd.of_own ow5
      clear own ow5 b5
      go_wp2_with (at_builtin; refine wpList_appR rfl (.tmp 29) (.tmp 39) 57 rfl w.heap.size 5 _ 1 1 bytesE A' m c' _ A5 f1 c5 (bvs F1) rfl rfl own' rd5 (bvs_one _) b5' (by omega) (Nat.le_refl _) b5'.size ?_; intro A6 c6 w6 own6 b6; have he1 : w6.cell? ⟨br, 1, none⟩ = some (.slice (some ⟨b, off, none⟩) n c) := (b6.cell (p := ⟨br, 1, none⟩) hblt).trans hc1; have he2 : w6.cell? ⟨b, off + k * 2 + 1, none⟩ = some (.int .i64 ch) := (b6.cell (p := ⟨b, off + k * 2 + 1, none⟩) hb).trans ((hbel.cell (p := ⟨b, off + k * 2 + 1, none⟩) hb).symm.trans hcc))
      refine (rInt_len ch (by omega) (by omega) F2 HF2.out f2 GF2.out _).mono ?_
      rintro e w7 ⟨A7, c7, rfl, ow7, b7⟩
      have own6' := own_below own6 b7
      have b7' := b6.trans (b7.mono b6.size)
      have rd7 := Rd.of_own ow7
      clear own6 ow7 b7 b6 own' rd5 b5'
      go_wp2_with (at_builtin; refine wpList_appR rfl (.tmp 41) (.tmp 50) 57 rfl w.heap.size 5 _ 1 1 bytesE A6 (m + f1) c6 _ A7 f2 c7 (bvs F2) rfl rfl own6' rd7 (bvs_one _) b7' (by omega) (Nat.le_refl _) b7'.size ?_; intro A8 c8 w8 own8 b8)
      simp only [bvs_append] at own8
      go_roundw
      case rel =>
        refine ⟨k + 1, A8, c8, m + f1 + f2, by omega, by go_num, rfl, ?_, by omega, ?_, b8⟩
        · show _ = _
          rw [HT.out, List.length_append, List.length_append, ← HM.out, GF1.out, GF2.out]
        · rw [HT.out]; exact own8
      case measure => simp [intOf]; omega
    · have HK : Hid (L.take k = L) := List.take_of_length_le (by rw [HN.out]; omega)
      have hk1 : ¬ (k : Int) < n := by omega
      go_wp2
      go_ret
      have h1 := HM.out
      rw [HK.out] at own h1
      have e0 : E1 ++ E2 ++ L.flatMap encE = encX cap L := by unfold encX; rw [H1.out, HN.out, H2.out]
      rw [e0] at own h1
      subst h1
      exact ⟨A', c', rfl, own, hbel⟩
end Go.Proofs.Ytnehbcopbioenaa
