/- The law ChunksClone. Conditions: none beside the arguments' form. -/
import Derived.Test.YtcicfneekmbamaaCLawC
namespace Go.Proofs.Ytcicfneekmbamaa
set_option linter.unusedVariables false
set_option linter.unusedSimpArgs false
open Go.RowKit
/-- two tables that share nothing but references -/
def Two (w0 w : World) (a : Nat) (l : List Chk.Ck) (a' : Nat) (l' : List Chk.Ck) : Prop :=
  ∃ F S F' S' : Nat → Prop, (∃ t, TAt w F S a t l) ∧ (∃ t, TAt w F' S' a' t l') ∧ (∀ b, (F b ∨ S b) ∨ (F' b ∨ S' b) → w0.heap.size ≤ b ∧ b < w.heap.size) ∧ (∀ b, S b → ¬ S' b) ∧ (∀ b, F b → ¬ S' b) ∧ (∀ b, F' b → ¬ S b) ∧ Below w0.heap.size w0 w
section
variable {w0 w w' : World} {a a' : Nat} {l l' m : List Chk.Ck}
theorem Two.swap (h : Two w0 w a l a' l') : Two w0 w a' l' a l := by
  obtain ⟨F, S, F', S', h1, h2, h3, h4, h5, h6, h7⟩ := h
  exact ⟨F', S', F, S, h2, h1, fun b e => h3 b e.symm, fun b e e2 => h4 b e2 e, h6, h5, h7⟩
theorem Two.below (h : Two w0 w a l a' l') (hb : Below w.heap.size w w') : Two w0 w' a l a' l' := by
  obtain ⟨F, S, F', S', ⟨t, h1⟩, ⟨t', h2⟩, h3, h4, h5, h6, h7⟩ := h
  exact ⟨F, S, F', S', ⟨t, h1.below hb⟩, ⟨t', h2.below hb⟩, fun b e => ⟨(h3 b e).1, Nat.lt_of_lt_of_le (h3 b e).2 hb.size⟩, h4, h5, h6, h7.trans (hb.mono h7.size)⟩
theorem Two.b (h : Two w0 w a l a' l') : Below w0.heap.size w0 w := by obtain ⟨F, S, F', S', _, _, _, _, _, _, h7⟩ := h; exact h7
theorem Two.left (h : Two w0 w a l a' l') : TabG w0 w a l (fun _ => False) := by
  obtain ⟨F, S, F', S', h1, h2, h3, h4, h5, h6, h7⟩ := h
  exact ⟨F, S, h1, fun b e => h3 b (.inl e), h7, fun _ e => e.elim⟩
theorem Two.do_ (h : Two w0 w a l a' l') (o : Chk.Op) (hp : Chk.inR o.pr 4294967296) :
    Calls Try.prog 28 #[.pointer (some ⟨a, 0, none⟩), opV o] w fun e w' => e = .returned (.tuple #[.int .i64 (Chk.step l o).2.1, .int .i64 (Chk.step l o).2.2]) ∧ Two w0 w' a (Chk.step l o).1 a' l' := by
  obtain ⟨F, S, F', S', ⟨t, h1⟩, ⟨t', h2⟩, h3, h4, h5, h6, h7⟩ := h
  refine (do_any h1 (fun b e => (h3 b (.inl e)).2) o hp).mono ?_
  rintro e w' ⟨he, Fn, Sn, ht, hk, hb, hS, hF⟩
  have hs := h7.size
  refine ⟨he, Fn, Sn, F', S', ht, ⟨t', h2.keep hk (fun b e e2 => h4 b e2 e) h6⟩, fun b e => ?_, fun b e e2 => ?_, fun b e e2 => ?_, fun b e e2 => ?_, Below.then_keep h7 hk (fun b e => (h3 b (.inl (.inr e))).1) (Nat.le_refl _)⟩
  · rcases e with (e | e) | e
    · refine ⟨?_, hb b (.inl e)⟩
      rcases hF b e with h | h
      · exact (h3 b (.inl (.inl h))).1
      · omega
    · refine ⟨?_, hb b (.inr e)⟩
      rcases hS b e with h | h
      · exact (h3 b (.inl (.inr h))).1
      · omega
    · exact ⟨(h3 b (.inr e)).1, Nat.lt_of_lt_of_le (h3 b (.inr e)).2 hk.size⟩
  · rcases hS b e with h | h
    · exact h4 b h e2
    · have := (h3 b (.inr (.inr e2))).2; omega
  · rcases hF b e with h | h
    · exact h5 b h e2
    · have := (h3 b (.inr (.inr e2))).2; omega
  · rcases hS b e2 with h | h
    · exact h6 b e h
    · have := (h3 b (.inr (.inl e))).2; omega
theorem TabNew.clone (h : TabNew w0 w a l) : Calls Try.prog 35 #[.pointer (some ⟨a, 0, none⟩)] w fun e w' => ∃ a', e = .returned (.pointer (some ⟨a', 0, none⟩)) ∧ Two w0 w' a l a' l := by
  obtain ⟨F, S, ⟨t, ht⟩, h2, h3⟩ := h
  refine (clone_any ht fun b e => (h2 b e).2).mono ?_
  rintro e w' ⟨a', S', he, ht', hb, hS⟩
  have hs := h3.size
  refine ⟨a', he, F, S, F, S', ⟨t, ht.below hb⟩, ht', fun b e => ?_, fun b e e2 => ?_, fun b e e2 => ?_, fun b e => ht.fs b e, h3.trans (hb.mono h3.size)⟩
  · have hs' := hb.size
    rcases e with e | e | e
    · exact ⟨(h2 b e).1, Nat.lt_of_lt_of_le (h2 b e).2 hs'⟩
    · exact ⟨(h2 b (.inl e)).1, Nat.lt_of_lt_of_le (h2 b (.inl e)).2 hs'⟩
    · exact ⟨by have := (hS b e).1; omega, (hS b e).2⟩
  · have h1 := (hS b e2).1
    have h4 := (h2 b (.inr e)).2
    omega
  · have h1 := (hS b e2).1
    have h4 := (h2 b (.inl e)).2
    omega
end
set_option maxRecDepth 100000 in
set_option maxHeartbeats 3200000 in
theorem clone_long (A : Option Addr) (n c : Nat) (B : Option Addr) (m d : Nat) (w : World) (hn : 120 < n) :
    Calls Try.prog 8 #[.slice A n c, .slice B m d] w fun e w' => e = .returned (.bool true) ∧ Below w.heap.size w w' := by
  have HSN := Lib.hid sanity_any
  have HBU := Lib.hid (build_long A n c w hn)
  clear hn
  go_enter Try.func8, Try.ntmps8
  go_wp2_with (first
    | (go_at_call 11; refine HBU.out.mono ?_; rintro e w1 ⟨rfl, b1⟩)
    | (go_at_call 12; refine (HSN.out _).mono ?_; rintro e w2 ⟨rfl, b2⟩))
  go_ret
  exact ⟨rfl, b1.trans (b2.mono b1.size)⟩
set_option maxRecDepth 100000 in
set_option maxHeartbeats 3200000 in
theorem clone_long2 (A : Option Addr) (n c : Nat) (B : Option Addr) (m d : Nat) (ops : List Chk.Op) (w : World) (hn : n ≤ 120) (hm : 120 < m) (h : OpsAt w A n ops) :
    Calls Try.prog 8 #[.slice A n c, .slice B m d] w fun e w' => e = .returned (.bool true) ∧ Below w.heap.size w w' := by
  have HSN := Lib.hid sanity_any
  have HBU := Lib.hid (build_any A n c ops w hn h)
  have e1 : (120 : Int) < (m : Int) := by omega
  clear hn hm h
  go_enter Try.func8, Try.ntmps8
  go_wp2_with (first
    | (go_at_call 11; refine HBU.out.mono ?_; rintro e w1 ⟨a, rfl, h1⟩; have b1 := h1.g.b; clear h1)
    | (go_at_call 12; refine (HSN.out _).mono ?_; rintro e w2 ⟨rfl, b2⟩))
  go_ret
  exact ⟨rfl, b1.trans (b2.mono b1.size)⟩
set_option maxRecDepth 100000 in
set_option maxHeartbeats 6400000 in
theorem lawClone (A : Option Addr) (n c : Nat) (ops : List Chk.Op) (hl : ops.length = n) (hnc : n ≤ c) (hc : c ≤ 140737488355328) (hok : ∀ o ∈ ops, OpOk o) (A2 : Option Addr) (n2 c2 : Nat) (ops2 : List Chk.Op) (hl2 : ops2.length = n2) (hnc2 : n2 ≤ c2) (hc2 : c2 ≤ 140737488355328) (hok2 : ∀ o ∈ ops2, OpOk o) (w : World) (hr : Rd w w.heap.size 9 A n (ops.flatMap opL)) (hr2 : Rd w w.heap.size 9 A2 n2 (ops2.flatMap opL)) :
    Calls Try.prog 8 #[.slice A n c, .slice A2 n2 c2] w fun e w' => e = .returned (.bool true) ∧ Below w.heap.size w w' := by
  by_cases hn : 120 < n
  · exact clone_long A n c A2 n2 c2 w hn
  have hops : OpsAt w A n ops := ⟨hr, hl, fun o ho => (hok o ho).2.2.2.2.2⟩
  by_cases hm : 120 < n2
  · exact clone_long2 A n c A2 n2 c2 ops w (by omega) hm hops
  have HSN := Lib.hid sanity_any
  have HBU := Lib.hid (build_any A n c ops w (by omega) hops)
  have HO : Hid (OpsAt w A2 n2 ops2) := Lib.hid ⟨hr2, hl2, fun o ho => (hok2 o ho).2.2.2.2.2⟩
  have e0 : ¬ (120 : Int) < (n2 : Int) := by omega
  have hm1 : n2 ≤ 120 := by omega
  obtain ⟨l, hll⟩ : ∃ l, Chk.run [] ops = l := ⟨_, rfl⟩
  rw [hll] at HBU
  obtain ⟨X, hX⟩ : ∃ X, Chk.encT l = X := ⟨_, rfl⟩
  obtain ⟨nX, hnX⟩ : ∃ nX, X.length = nX := ⟨_, rfl⟩
  obtain ⟨sX, hsX⟩ : ∃ sX : ByteArray, ⟨X.toArray⟩ = sX := ⟨_, rfl⟩
  have HX := Lib.hid hX
  have HNX := Lib.hid (And.intro hnX hsX)
  have HCV : Hid (∀ (W : World) (A : Option Addr) (c : Nat), W.ownsRow 0 5 1 (.slice A nX c) nX (bvs X) → (convert 70 9 (.slice A nX c)).run Try.prog W = .ok (.string sX) W) := Lib.hid (fun W A c h => by
    have := run_toS (P := Try.prog) W 70 9 5 Try.underlying70 Try.underlying5 Try.underlying9 A nX c W.heap.size X (Rd.of_own h)
    rwa [hsX] at this)
  obtain ⟨l2, hl2'⟩ : ∃ l2, Chk.run l ops2 = l2 := ⟨_, rfl⟩
  obtain ⟨Y, hY⟩ : ∃ Y, Chk.encT l2 = Y := ⟨_, rfl⟩
  obtain ⟨nY, hnY⟩ : ∃ nY, Y.length = nY := ⟨_, rfl⟩
  obtain ⟨sY, hsY⟩ : ∃ sY : ByteArray, ⟨Y.toArray⟩ = sY := ⟨_, rfl⟩
  have HL2 := Lib.hid hl2'
  have HY := Lib.hid hY
  have HNY := Lib.hid (And.intro hnY hsY)
  have HCW : Hid (∀ (W : World) (A : Option Addr) (c : Nat), W.ownsRow 0 5 1 (.slice A nY c) nY (bvs Y) → (convert 70 9 (.slice A nY c)).run Try.prog W = .ok (.string sY) W) := Lib.hid (fun W A c h => by
    have := run_toS (P := Try.prog) W 70 9 5 Try.underlying70 Try.underlying5 Try.underlying9 A nY c W.heap.size Y (Rd.of_own h)
    rwa [hsY] at this)
  clear hr hl hok hn hc hr2 hl2 hok2 hm hc2 hops hll hX hnX hsX hl2' hY hnY hsY
  go_enter Try.func8, Try.ntmps8
  go_upto_region 4 with (go_at_call 11; refine HBU.out.mono ?_; rintro e w1 ⟨a, rfl, h1⟩; have H1 := Lib.hid h1; clear h1)
  go_upto_region 7 with (go_at_call 35; refine H1.out.clone.mono ?_; rintro e w2 ⟨a', rfl, h2⟩; have H2 := Lib.hid h2; clear h2)
  go_upto_region 8 with (go_at_call 36; refine ((H2.out.left).encode_ X HX.out).mono ?_; rintro e w3 ⟨A3, c3, rfl, ownw3, b3⟩; rw [HNX.out.1] at ownw3 ⊢; have cvw3 := HCV.out w3 A3 c3 (own_base ownw3 (Nat.zero_le _)); clear ownw3)
  have H3 := Lib.hid (H2.out.below b3)
  clear b3 cvw3 H2 H1
  go_upto_region 10 with (go_at_call 36; refine ((H3.out.swap.left).encode_ X HX.out).mono ?_; rintro e w4 ⟨A4, c4, rfl, ownw4, b4⟩; rw [HNX.out.1] at ownw4 ⊢; have cvw4 := HCV.out w4 A4 c4 (own_base ownw4 (Nat.zero_le _)); clear ownw4)
  have H4 := Lib.hid (H3.out.below b4)
  clear b4 cvw4 H3
  go_wp2_with fail
  go_loopw [41] (fun u wx => ∃ (wr : World) (j : Nat), wr = wx ∧ j ≤ n2 ∧ u = .int .i64 (j : Int) ∧ Hid (Two w wr a l a' (Chk.run l (ops2.take j)))) (fun u _ => n2 - (intOf u).toNat)
  case atStart => exact ⟨_, 0, rfl, Nat.zero_le _, rfl, Lib.hid H4.out⟩
  case round =>
    obtain ⟨wr, j, rfl, hj, rfl, HTJ⟩ := hrel
    by_cases hlt : j < n2
    · have hjl : j < ops2.length := by rw [HO.out.len]; exact hlt
      have hbr := HTJ.out.b
      obtain ⟨b, off, rfl, hbb, hrg⟩ := HO.out.rd.elem (f := opL) (fun _ _ => rfl) hjl hlt
      have hpr := HO.out.pr ops2[j] (List.getElem_mem hjl)
      have hst := run_take hjl l
      obtain ⟨o, ho⟩ : ∃ o, ops2[j] = o := ⟨_, rfl⟩
      rw [ho] at hrg hpr hst
      have hrw : wr.rangeAt b (off + j * 9) (opL o) := fun q u hq => (hbr.cell (p := ⟨b, off + j * 9 + q, none⟩) hbb).trans (hrg q u hq)
      have HDO := Lib.hid (fun (W : World) (hW : Below wr.heap.size wr W) => (HTJ.out.below hW).swap.do_ o hpr)
      rw [← hst] at HDO
      obtain ⟨os, hos⟩ : ∃ os, opL o = os := ⟨_, rfl⟩
      have HOV : Hid (opV o = .agg os.toArray) := Lib.hid (by rw [← hos]; rfl)
      rw [HOV.out] at HDO
      rw [hos] at hrw
      have HLN := Lib.hid (show os.length = 9 by rw [← hos]; rfl)
      have HON := Lib.hid (show os.all (·.oneCell') = true by rw [← hos]; rfl)
      have e1 : (0 : Int) ≤ (j : Int) := by omega
      have e2 : (j : Int) < (n2 : Int) := by omega
      clear hjl hbr hbb hrg hpr hst ho hos
      go_upto_region 13 with (first
        | (refine wpList_load_mid rfl _ (.tmp 43) rfl b (off + j * 9) rfl os _ hrw Try.underlying37 rfl (by rw [HLN.out]; exact sizeOp) ?_)
        | (refine wpList_allocRow rfl _ rfl _ infoOp ?_; intro w13 rz3 b13 z3; clear z3)
        | (refine wpList_storeRow rfl _ (.tmp 10) (.tmp 44) rfl (l' := os) rz3 rfl rfl (by rw [HLN.out]; exact sizeOp) (by rw [HLN.out]; rfl) HON.out ?_; intro w14 rz4 g4 z4; clear z4))
      have hb4 : Below wr.heap.size wr w14 := b13.grown g4 b13.size (fun i hi => by have := Option.some.inj hi; omega)
      obtain ⟨b6, hb6⟩ : ∃ y, wr.heap.size = y := ⟨_, rfl⟩
      rw [hb6] at rz4 ⊢
      have hr4 : w14.rangeAt b6 0 os := fun q u hu => by rw [Nat.zero_add, rz4.cell]; exact hu
      have HD4 := Lib.hid (HDO.out w14 hb4)
      clear rz3 b13 g4 hrw hb4 hb6 rz4
      try simp only [Act.put, List.setIfInBounds_toArray, List.set_cons_zero, List.set_cons_succ]
      go_wp2_with (first
        | (refine wpList_load_mid rfl _ (.tmp 10) rfl b6 0 rfl os _ hr4 Try.underlying37 rfl (by rw [HLN.out]; exact sizeOp) ?_)
        | (go_at_call 28; refine HD4.out.mono ?_; rintro e w15 ⟨rfl, h5⟩; have HT5 := Lib.hid h5.swap; clear h5))
      go_roundw
      case rel => exact ⟨_, j + 1, rfl, by omega, by go_num, HT5⟩
      case measure => simp [intOf]; omega
    · obtain rfl : j = n2 := by omega
      have hE : Chk.run l (ops2.take j) = l2 := by rw [List.take_of_length_le (by rw [HO.out.len]; exact Nat.le_refl _)]; exact HL2.out
      rw [hE] at HTJ
      clear hE
      go_upto_region 17 with (go_at_call 36; refine ((HTJ.out.left).encode_ X HX.out).mono ?_; rintro e w5 ⟨A5, c5, rfl, ownw5, b5⟩; rw [HNX.out.1] at ownw5 ⊢; have cvw5 := HCV.out w5 A5 c5 (own_base ownw5 (Nat.zero_le _)); clear ownw5)
      have H5 := Lib.hid (HTJ.out.below b5)
      clear b5 cvw5 HTJ
      go_upto_region 18 with (go_at_call 36; refine ((H5.out.swap.left).encode_ Y HY.out).mono ?_; rintro e w6 ⟨A6, c6, rfl, ownw6, b6⟩; rw [HNY.out.1] at ownw6 ⊢; have cvw6 := HCW.out w6 A6 c6 (own_base ownw6 (Nat.zero_le _)); clear ownw6)
      have H6 := Lib.hid (H5.out.below b6)
      clear b6 cvw6 H5
      go_wp2_with fail
      go_loopw [59] (fun u wx => ∃ (wr : World) (i : Nat), wr = wx ∧ i ≤ j ∧ u = .int .i64 (i : Int) ∧ Hid (Two w wr a (Chk.run l (ops2.take i)) a' l2)) (fun u _ => j - (intOf u).toNat)
      case atStart => exact ⟨_, 0, rfl, Nat.zero_le _, rfl, Lib.hid H6.out⟩
      case round =>
        obtain ⟨wr, i, rfl, hj, rfl, HTJ⟩ := hrel
        by_cases hlt : i < j
        · have hjl : i < ops2.length := by rw [HO.out.len]; exact hlt
          have hbr := HTJ.out.b
          obtain ⟨b, off, rfl, hbb, hrg⟩ := HO.out.rd.elem (f := opL) (fun _ _ => rfl) hjl hlt
          have hpr := HO.out.pr ops2[i] (List.getElem_mem hjl)
          have hst := run_take hjl l
          obtain ⟨o, ho⟩ : ∃ o, ops2[i] = o := ⟨_, rfl⟩
          rw [ho] at hrg hpr hst
          have hrw : wr.rangeAt b (off + i * 9) (opL o) := fun q u hq => (hbr.cell (p := ⟨b, off + i * 9 + q, none⟩) hbb).trans (hrg q u hq)
          have HDO := Lib.hid (fun (W : World) (hW : Below wr.heap.size wr W) => (HTJ.out.below hW).do_ o hpr)
          rw [← hst] at HDO
          obtain ⟨os, hos⟩ : ∃ os, opL o = os := ⟨_, rfl⟩
          have HOV : Hid (opV o = .agg os.toArray) := Lib.hid (by rw [← hos]; rfl)
          rw [HOV.out] at HDO
          rw [hos] at hrw
          have HLN := Lib.hid (show os.length = 9 by rw [← hos]; rfl)
          have HON := Lib.hid (show os.all (·.oneCell') = true by rw [← hos]; rfl)
          have e1 : (0 : Int) ≤ (i : Int) := by omega
          have e2 : (i : Int) < (j : Int) := by omega
          clear hjl hbr hbb hrg hpr hst ho hos
          go_upto_region 21 with (first
            | (refine wpList_load_mid rfl _ (.tmp 61) rfl b (off + i * 9) rfl os _ hrw Try.underlying37 rfl (by rw [HLN.out]; exact sizeOp) ?_)
            | (refine wpList_allocRow rfl _ rfl _ infoOp ?_; intro w13 rz3 b13 z3; clear z3)
            | (refine wpList_storeRow rfl _ (.tmp 13) (.tmp 62) rfl (l' := os) rz3 rfl rfl (by rw [HLN.out]; exact sizeOp) (by rw [HLN.out]; rfl) HON.out ?_; intro w14 rz4 g4 z4; clear z4))
          have hb4 : Below wr.heap.size wr w14 := b13.grown g4 b13.size (fun i hi => by have := Option.some.inj hi; omega)
          obtain ⟨b6, hb6⟩ : ∃ y, wr.heap.size = y := ⟨_, rfl⟩
          rw [hb6] at rz4 ⊢
          have hr4 : w14.rangeAt b6 0 os := fun q u hu => by rw [Nat.zero_add, rz4.cell]; exact hu
          have HD4 := Lib.hid (HDO.out w14 hb4)
          clear rz3 b13 g4 hrw hb4 hb6 rz4
          try simp only [Act.put, List.setIfInBounds_toArray, List.set_cons_zero, List.set_cons_succ]
          go_wp2_with (first
            | (refine wpList_load_mid rfl _ (.tmp 13) rfl b6 0 rfl os _ hr4 Try.underlying37 rfl (by rw [HLN.out]; exact sizeOp) ?_)
            | (go_at_call 28; refine HD4.out.mono ?_; rintro e w15 ⟨rfl, h5⟩; have HT5 := Lib.hid h5; clear h5))
          go_roundw
          case rel => exact ⟨_, i + 1, rfl, by omega, by go_num, HT5⟩
          case measure => simp [intOf]; omega
        · obtain rfl : i = j := by omega
          have hE : Chk.run l (ops2.take i) = l2 := by rw [List.take_of_length_le (by rw [HO.out.len]; exact Nat.le_refl _)]; exact HL2.out
          rw [hE] at HTJ
          clear hE
          go_wp2_with (first
            | (go_at_call 12; refine (HSN.out _).mono ?_; rintro e w7 ⟨rfl, b7⟩)
            | (have tok := b8; go_at_call 36; refine (((HTJ.out.below (b7.trans (b8.mono b7.size))).left).encode_ Y HY.out).mono ?_; rintro e w9 ⟨A9, c9, rfl, ownw9, b9⟩; rw [HNY.out.1] at ownw9 ⊢; have cvw9 := HCW.out w9 A9 c9 (own_base ownw9 (Nat.zero_le _)); clear ownw9)
            | (go_at_call 36; refine (((HTJ.out.below b7).swap.left).encode_ Y HY.out).mono ?_; rintro e w8 ⟨A8, c8, rfl, ownw8, b8⟩; rw [HNY.out.1] at ownw8 ⊢; have cvw8 := HCW.out w8 A8 c8 (own_base ownw8 (Nat.zero_le _)); clear ownw8))
          go_ret
          have hb := HTJ.out.b
          have q8 := b7.trans (b8.mono b7.size)
          have q9 := q8.trans (b9.mono q8.size)
          exact ⟨rfl, hb.trans (q9.mono hb.size)⟩
end Go.Proofs.Ytcicfneekmbamaa
