/- The reference's table: Unrefer. Conditions: the table is kept. -/
import Derived.Test.YtcicfneekmbamaaChkRE
namespace Go.Proofs.Ytcicfneekmbamaa
set_option linter.unusedVariables false
set_option linter.unusedSimpArgs false
open Go.RowKit
theorem crs_one (D : List CR) : ∀ u ∈ crs D, u.oneCell' = true := by
  intro u hu
  obtain ⟨x, _, hx⟩ := List.mem_flatMap.1 hu
  exact ckCells_one x.c _ rfl u hx
/-- a table whose row of chunks is new -/
theorem RAt.fresh {w W : World} {F F' S : Nat → Prop} {a : Nat} {t : RM} {l l2 : List Chk.Ck} (h : RAt w F S a t l) (hb : ∀ b, F b ∨ S b → b < w.heap.size) {A2 : Option Addr} {n2 c2 : Nat} {D2 : List CR} (hrow : IsRow W a 34 [.slice A2 n2 c2]) (ho : W.ownsRow w.heap.size 45 23 (.slice A2 n2 c2) n2 (crs D2)) (hd : D2.map CR.c = l2) (hi : Chk.Inv l2)
    (hok : ∀ x ∈ D2, CRok W F' x) (hF : ∀ b, F' b → F b ∨ (w.heap.size ≤ b ∧ b < W.heap.size ∧ ∀ p, A2 = some p → p.block ≠ b)) (hk : Keep S w W) : ROp w F S a l2 W := by
  have hA : ∀ p, A2 = some p → w.heap.size ≤ p.block ∧ p.block < W.heap.size := fun p hp => by
    rcases ho.2 with h0 | ⟨g, cap, cur, hv, hg, hh, r⟩
    · injection h0.1 with h1; rw [hp] at h1; cases h1
    · injection hv with h1; rw [hp] at h1; have := Option.some.inj h1; subst p; exact ⟨hg, (Array.getElem?_eq_some_iff.1 hh).1⟩
  have haw : a < w.heap.size := h.row.lt
  have hs := hk.size
  refine ⟨F', fun b => b = a ∨ ∃ p, A2 = some p ∧ p.block = b, ⟨⟨A2, n2, c2, D2⟩, hrow, own_base ho (Nat.zero_le _), hd, hok, .inl rfl, fun g hg => .inr ⟨g, hg, rfl⟩, fun g hg e => ?_, fun b hf e => ?_, hi⟩, hk, fun b e => ?_, fun b e => ?_, fun b e => ?_⟩
  · have := (hA g hg).1; omega
  · rcases e with rfl | ⟨p, hp, rfl⟩
    · rcases hF _ hf with h1 | h1
      · exact h.fs _ h1 h.sa
      · omega
    · rcases hF _ hf with h1 | h1
      · have h2 := hb _ (.inl h1); have h3 := (hA p hp).1; omega
      · exact h1.2.2 p hp rfl
  · rcases e with e | rfl | ⟨p, hp, rfl⟩
    · rcases hF b e with h1 | h1
      · have := hb b (.inl h1); omega
      · exact h1.2.1
    · omega
    · exact (hA p hp).2
  · rcases e with rfl | ⟨p, hp, rfl⟩
    · exact .inl h.sa
    · exact .inr (hA p hp).1
  · rcases hF b e with h1 | h1
    · exact .inl h1
    · exact .inr h1.1
/-- a cell of a chunk is written: what the rest of the row reads as -/
theorem RAt.split {w W5 : World} {F S : Nat → Prop} {a : Nat} {t : RM} {l : List Chk.Ck} (h : RAt w F S a t l) {g k : Nat} (hA : t.A = some ⟨g, 0, none⟩) (hk : k < t.n) (hB : Below w.heap.size w W5) (v u0 : Value) (hu : W5.cell? ⟨g, k * 23 + 22, none⟩ = some u0) :
    Rd (W5.setCell ⟨g, k * 23 + 22, none⟩ v) W5.heap.size 23 (some ⟨g, 0, none⟩) k (crs (t.D.take k)) ∧
    Rd (W5.setCell ⟨g, k * 23 + 22, none⟩ v) W5.heap.size 23 (if t.c = k + 1 then some ⟨g, 0, none⟩ else (some (⟨g, 0, none⟩ : Addr)).map (·.add ((k + 1) * 23))) (t.n - (k + 1)) (crs (t.D.drop (k + 1))) ∧
    IsRow (W5.setCell ⟨g, k * 23 + 22, none⟩ v) a 34 [.slice (some ⟨g, 0, none⟩) t.n t.c] ∧ (W5.setCell ⟨g, k * 23 + 22, none⟩ v).cell? ⟨g, k * 23 + 22, none⟩ = some v ∧ Keep S w (W5.setCell ⟨g, k * 23 + 22, none⟩ v) ∧ (W5.setCell ⟨g, k * 23 + 22, none⟩ v).heap.size = W5.heap.size := by
  have h5 := h.below hB
  have ho5 := h5.own
  rw [hA] at ho5
  have hl : (crs t.D).length = t.D.length * 23 := flatMap_len h.dl
  have hD := h.len.2
  have os := own_set ho5 (j := k * 23 + 22) (by rw [hl, hD]; omega) v
  have hsz : (W5.setCell ⟨g, k * 23 + 22, none⟩ v).heap.size = W5.heap.size := by simp [World.setCell]
  have rd := Rd.of_own os
  rw [hsz] at rd
  have r1 := rd.take (k := k) (by omega)
  have r2 := rd.cut (k := k + 1) (cap := t.c) hk h.cap.1
  rw [List.take_set_of_le (by omega), flat_take h.dl] at r1
  rw [List.drop_set_of_lt (by omega), flat_drop h.dl] at r2
  have hrow := h5.row
  rw [hA] at hrow
  exact ⟨r1, r2, hrow.setOther (p := ⟨g, k * 23 + 22, none⟩) (show g ≠ a from h.ag _ hA) _, World.cell?_setCell_same' _ _ _ (by rw [hu]; rfl), (Keep.of_below hB).setCell (a := ⟨g, k * 23 + 22, none⟩) (.inl (show S g from h.sg _ hA)) _, hsz⟩
def RUn (w : World) (F S : Nat → Prop) (a : Nat) (R : List Chk.Ck × Int × Int) (e : Ending) (w' : World) : Prop := e = .returned (.tuple #[.bool (decide (R.2.1 = 1)), .int .i64 R.2.2]) ∧ ROp w F S a R.1 w'
set_option maxRecDepth 100000 in
set_option maxHeartbeats 6400000 in
theorem runrefer_any {w : World} {F S : Nat → Prop} {a : Nat} {t : RM} {l : List Chk.Ck} (h : RAt w F S a t l) (hb : ∀ b, F b ∨ S b → b < w.heap.size) (id tn n : Int) :
    Calls Try.prog 45 #[.pointer (some ⟨a, 0, none⟩), .int .i64 id, .int .i64 tn, .int .i64 n] w (RUn w F S a (Chk.unrefer l id tn n)) := by
  have HF := Lib.hid (rfind_any h id _ rfl)
  have HTN := Lib.hid (fun W s hs => rtenant_any tn W s hs)
  cases hp : Chk.pos (Chk.ids l) id with
  | none =>
    have e : Chk.unrefer l id tn n = (l, 0, 12) := by unfold Chk.unrefer; rw [hp]
    rw [Chk.posI_none hp] at HF
    rw [e]
    have HE := Lib.hid (ROp.same h hb (Below.refl _ _))
    clear h hp e hb HTN
    go_enter Try.func45, Try.ntmps45
    go_wp2_with (go_at_call 50; refine HF.out.mono ?_; rintro e w1 ⟨rfl, hw1⟩; obtain rfl := hw1.symm)
    go_ret2
    exact ⟨rfl, HE.out⟩
  | some k =>
    rw [Chk.posI_some hp] at HF
    have e3 : ¬ (k : Int) < 0 := by omega
    have hbad : ¬ (Chk.tenant tn ∧ 1 ≤ n ∧ n ≤ Chk.most) → Chk.unrefer l id tn n = (l, 0, 1) := fun hh => by unfold Chk.unrefer; rw [hp]; show ite _ _ _ = _; rw [if_pos hh]
    have HE := Lib.hid (ROp.same h hb (Below.refl _ _))
    have hmost : Chk.most = 2147483647 := rfl
    rcases args_cases tn n with hs | ⟨hs, h1⟩ | ⟨hs, h1, h2⟩ | ⟨hten, hs, h1, h2⟩
    · have e := hbad (fun hh => by rw [decide_eq_true hh.1] at hs; cases hs)
      have HT2 := Lib.hid (fun W => HTN.out W _ hs)
      rw [e]
      clear h hp e hb HTN hbad hs hmost
      go_enter Try.func45, Try.ntmps45
      go_wp2_with (first
        | (go_at_call 77; refine (HT2.out _).mono ?_; rintro e w2 ⟨rfl, hw2⟩; obtain rfl := hw2.symm)
        | (go_at_call 50; refine HF.out.mono ?_; rintro e w1 ⟨rfl, hw1⟩; obtain rfl := hw1.symm))
      go_ret2
      exact ⟨rfl, HE.out⟩
    · have e := hbad (fun hh => by omega)
      have HT2 := Lib.hid (fun W => HTN.out W _ hs)
      rw [e]
      clear h hp e hb HTN hbad hs hmost
      go_enter Try.func45, Try.ntmps45
      go_wp2_with (first
        | (go_at_call 77; refine (HT2.out _).mono ?_; rintro e w2 ⟨rfl, hw2⟩; obtain rfl := hw2.symm)
        | (go_at_call 50; refine HF.out.mono ?_; rintro e w1 ⟨rfl, hw1⟩; obtain rfl := hw1.symm))
      go_ret2
      exact ⟨rfl, HE.out⟩
    · have e := hbad (fun hh => by omega)
      have HT2 := Lib.hid (fun W => HTN.out W _ hs)
      have n1 : ¬ n < 1 := by omega
      rw [e]
      clear h hp e hb HTN hbad hs hmost
      go_enter Try.func45, Try.ntmps45
      go_wp2_with (first
        | (go_at_call 77; refine (HT2.out _).mono ?_; rintro e w2 ⟨rfl, hw2⟩; obtain rfl := hw2.symm)
        | (go_at_call 50; refine HF.out.mono ?_; rintro e w1 ⟨rfl, hw1⟩; obtain rfl := hw1.symm))
      go_ret2
      exact ⟨rfl, HE.out⟩
    · clear hbad
      have HT2 := Lib.hid (fun W => HTN.out W _ hs)
      have hk := (Chk.pos_lt hp).1
      have hkn : k < t.n := by rw [← h.len.1]; exact hk
      obtain ⟨g, x, hA, hg, hx, hn, hok, hck, hrg⟩ := h.at hkn
      have hmx := h.max
      have htot := hck.refs.tot
      have hheld := Chk.held_le hck.refs.pos hck.refs.up tn
      have hheld0 := Chk.held_nonneg hck.refs.pos tn
      have hlen16 := refs_len hck.refs
      have e1 : (0 : Int) ≤ (k : Int) := by omega
      have e2 : (k : Int) < (t.n : Int) := by omega
      have n1 : ¬ n < 1 := by omega
      have n2 : ¬ 2147483647 < n := by omega
      have hd := h.dl x (List.mem_of_getElem? hx)
      have hcc : ∀ W, Below w.heap.size w W → W.cell? ⟨a, 0, none⟩ = some (.slice (some ⟨g, 0, none⟩) t.n t.c) ∧ W.cell? ⟨g, k * 23 + 22, none⟩ = some (.slice x.A x.n x.k) ∧ W.frozen? ⟨g, k * 23 + 22, none⟩ = false ∧ W.rangeAt g (k * 23) x.cells := fun W hW => by
        have c0 := h.rd hW
        rw [hA] at c0
        exact ⟨c0, (hW.cell (p := ⟨g, k * 23 + 22, none⟩) hg).trans (ck_cells hck.dg hrg).2.2.2.2.2.2, (h.below hW).frz hA _, fun q v hv => (hW.cell (p := ⟨g, k * 23 + q, none⟩) hg).trans (hrg q v hv)⟩
      have HHE := Lib.hid (fun (W : World) (hW : Below w.heap.size w W) cs hcs v hv => rheld_any x.c hck.dg x.A x.n x.k hok.n (by have := hok.n; omega) w.heap.size W (hok.rd.below hW) hW.size tn cs hcs v hv)
      have HWI := Lib.hid (fun (W : World) (hW : Below w.heap.size w W) (m : Int) => rwith_any x.A x.n x.k x.c.refs hok.n (by have := hok.n; omega) W ((hok.rd.below hW).more hW.size) tn m)
      obtain ⟨H0, hH0⟩ : ∃ H0, Chk.held x.c.refs tn = H0 := ⟨_, rfl⟩
      rw [hH0] at hheld hheld0
      have ew : IntKind.i64.wrap (H0 - n) = H0 - n := IntWalk.i64_in _ (by omega)
      obtain ⟨cs, hcs⟩ : ∃ cs, x.cells = cs := ⟨_, rfl⟩
      have HCL : Hid (cs.length = 23) := Lib.hid (by rw [← hcs]; exact hd)
      rw [hcs] at hcc
      have HCC := Lib.hid hcc
      have HHH := Lib.hid (fun W hW => HHE.out W hW cs hcs H0 hH0)
      obtain ⟨c0, k22, _, rg⟩ := hcc w (Below.refl _ _)
      by_cases hover : H0 < n
      · have e : Chk.unrefer l id tn n = (l, 0, 12) := by
          unfold Chk.unrefer; rw [hp]; show ite _ _ _ = _
          rw [if_neg (fun hh => hh ⟨hten, h1, by omega⟩), hn, hH0, if_pos hover]
        rw [e]
        have e4 : H0 - n < 0 := by omega
        have HE2 := Lib.hid (fun W hW => ROp.same h hb (w' := W) hW)
        clear h hp e hb HTN hs hmost hten hk hkn hA hg hx hn hok hck hrg htot hheld hheld0 hlen16 hcc hH0 hd hcs k22 hover
        go_enter Try.func45, Try.ntmps45
        go_wp2_with (first
          | (go_at_call 77; refine (HT2.out _).mono ?_; rintro e w2 ⟨rfl, hw2⟩; obtain rfl := hw2.symm)
          | (refine wpList_load_mid rfl _ (.tmp 34) rfl g (k * 23) rfl cs _ rg Try.underlying45 rfl (by rw [HCL.out]; exact sizeCk) ?_)
          | (go_at_call 53; refine (HHH.out _ (Below.refl _ _)).mono ?_; rintro e w3 ⟨rfl, b3⟩)
          | (go_at_call 50; refine HF.out.mono ?_; rintro e w1 ⟨rfl, hw1⟩; obtain rfl := hw1.symm))
        go_ret2
        exact ⟨rfl, HE2.out _ b3⟩
      · have hu : Chk.unrefer l id tn n = if Chk.withR x.c.refs tn (H0 - n) = [] then (l.eraseIdx k, 1, 0) else (Chk.setRefs l k (Chk.withR x.c.refs tn (H0 - n)), 0, 0) := by
          unfold Chk.unrefer; rw [hp]; show ite _ _ _ = _
          rw [if_neg (fun hh => hh ⟨hten, h1, by omega⟩), hn, hH0, if_neg hover]
        have hrok : Chk.RefsOk (Chk.withR x.c.refs tn (H0 - n)) := Chk.refsOk_with hck.refs hten (by omega) (by rw [hH0, hmost]; omega)
        obtain ⟨rs, hrs⟩ : ∃ rs, Chk.withR x.c.refs tn (H0 - n) = rs := ⟨_, rfl⟩
        have HWW := Lib.hid (fun W hW => HWI.out W hW (H0 - n))
        rw [hrs] at hrok HWW hu
        have e4 : ¬ H0 - n < 0 := by omega
        have hrl := refs_len hrok
        obtain ⟨N, hN⟩ : ∃ N, rs.length = N := ⟨_, rfl⟩
        have HSP := Lib.hid (fun (W : World) (hW : Below w.heap.size w W) (v : Value) => h.split hA hkn hW v _ (hcc W hW).2.1)
        have HRE := Lib.hid (fun (W : World) (A' : Option Addr) (c' : Nat) (hW : Below w.heap.size w W) (ho : W.ownsRow w.heap.size 83 2 (.slice A' rs.length c') rs.length (rfs rs)) (hne : rs ≠ []) => h.refd hb hA hx hk hW ho hrok hne)
        by_cases hrne : rs = []
        · rw [if_pos hrne] at hu
          have hi := h.inv.erase k
          have HFR := Lib.hid (fun (W : World) (A2 : Option Addr) (n2 c2 : Nat) (hrow : IsRow W a 34 [.slice A2 n2 c2]) (ho : W.ownsRow w.heap.size 45 23 (.slice A2 n2 c2) n2 (crs (t.D.take k ++ t.D.drop (k + 1)))) (hkp : Keep S w W) =>
            h.fresh hb hrow ho (l2 := l.eraseIdx k) (F' := F) (by rw [List.map_append, List.map_take, List.map_drop, h.d, List.eraseIdx_eq_take_drop_succ]) hi (fun z hz => (h.ok z (by rcases List.mem_append.1 hz with hz | hz; exact List.mem_of_mem_take hz; exact List.mem_of_mem_drop hz)).keep hkp h.fs) (fun b e => .inl e) hkp)
          have hcap := h.cap
          rw [hu]
          subst hrne
          have hN0 : N = 0 := by rw [← hN]; rfl
          have HSA := Lib.hid h.sa
          clear h hp hu hb HTN hs hmost hten hk hA hg hx hn hok hck hrg htot hheld hheld0 hlen16 hcc hH0 hd hcs hrs hrok HHE HWI HE HRE hover hN hN0 hrl hi
          go_enter Try.func45, Try.ntmps45
          go_upto_region 9 with (first
            | (go_at_call 77; refine (HT2.out _).mono ?_; rintro e w2 ⟨rfl, hw2⟩; obtain rfl := hw2.symm)
            | (refine wpList_load_mid rfl _ (.tmp 34) rfl g (k * 23) rfl cs _ rg Try.underlying45 rfl (by rw [HCL.out]; exact sizeCk) ?_)
            | (go_at_call 53; refine (HHH.out _ (Below.refl _ _)).mono ?_; rintro e w3 ⟨rfl, b3⟩)
            | (go_at_call 50; refine HF.out.mono ?_; rintro e w1 ⟨rfl, hw1⟩; obtain rfl := hw1.symm))
          have HB3 := Lib.hid b3
          clear c0 k22 rg b3 ew
          have hv0 : Below w3.heap.size w3 w3.drew := (Below.refl _ _).drew
          refine wp_region_late (fun W => Below w3.heap.size w3 W) [18] (by kernel_rfl) (hv0) (fun hHeld => ?_)
          refine wpAnyL_take (i := 0) (oi := { dst := some 42, op := Op.move (Operand.tmp 0), type := 31, pos := "ref.go:191", after := #[], guard := none }) (v := ?v0_91) rfl (by kernel_rfl) (by kernel_rfl) (by kernel_rfl) (by kernel_rfl) (fun _ _ _ h => h) (Or.inl ⟨by rfl, ?h0_91⟩) (by assumption) ?r0_91
          case h0_91 =>
            intro W hSW
            try dsimp only at hSW
            go_simp
            try with_reducible rfl
          try simp only [Act.put, List.setIfInBounds_toArray, List.set_cons_zero, List.set_cons_succ]
          refine wpAnyL_take (i := 1) (oi := { dst := some 43, op := Op.nilCheck (Operand.tmp 42), type := 0, pos := "ref.go:191", after := #[{ on := 0, ground := Ground.data }], guard := none }) (v := ?v1_92) rfl (by kernel_rfl) (by kernel_rfl) (by kernel_rfl) (by kernel_rfl) (fun _ _ _ h => h) (Or.inl ⟨by rfl, ?h1_92⟩) (by assumption) ?r1_92
          case h1_92 =>
            intro W hSW
            try dsimp only at hSW
            go_simp
            try with_reducible rfl
          try simp only [Act.put, List.setIfInBounds_toArray, List.set_cons_zero, List.set_cons_succ]
          refine wpAnyL_take (i := 2) (oi := { dst := some 44, op := Op.fieldAddr 34 (Operand.tmp 43) 0, type := 0, pos := "ref.go:191", after := #[{ on := 1, ground := Ground.data }], guard := none }) (v := ?v2_93) rfl (by kernel_rfl) (by kernel_rfl) (by kernel_rfl) (by kernel_rfl) (fun _ _ _ h => h) (Or.inl ⟨by rfl, ?h2_93⟩) (by assumption) ?r2_93
          case h2_93 =>
            intro W hSW
            try dsimp only at hSW
            go_simp
            try with_reducible rfl
          try simp only [Act.put, List.setIfInBounds_toArray, List.set_cons_zero, List.set_cons_succ]
          refine wpAnyL_take (i := 3) (oi := { dst := some 45, op := Op.load 32 (Operand.tmp 44), type := 32, pos := "ref.go:191", after := #[{ on := 2, ground := Ground.data }], guard := none }) (v := ?v3_94) rfl (by kernel_rfl) (by kernel_rfl) (by kernel_rfl) (by kernel_rfl) (fun _ _ _ h => h) (Or.inl ⟨by rfl, ?h3_94⟩) (by assumption) ?r3_94
          case h3_94 =>
            intro W hSW
            try dsimp only at hSW
            have c0 := (HCC.out W (HB3.out.trans (hSW.mono HB3.out.size))).1
            go_simp
            try with_reducible rfl
          try simp only [Act.put, List.setIfInBounds_toArray, List.set_cons_zero, List.set_cons_succ]
          refine wpAnyL_take (i := 4) (oi := { dst := some 46, op := Op.move (Operand.tmp 10), type := 3, pos := "ref.go:191", after := #[], guard := none }) (v := ?v4_95) rfl (by kernel_rfl) (by kernel_rfl) (by kernel_rfl) (by kernel_rfl) (fun _ _ _ h => h) (Or.inl ⟨by rfl, ?h4_95⟩) (by assumption) ?r4_95
          case h4_95 =>
            intro W hSW
            try dsimp only at hSW
            go_simp
            try with_reducible rfl
          try simp only [Act.put, List.setIfInBounds_toArray, List.set_cons_zero, List.set_cons_succ]
          refine wpAnyL_take (i := 5) (oi := { dst := some 47, op := Op.move (Operand.tmp 0), type := 31, pos := "ref.go:191", after := #[], guard := none }) (v := ?v5_96) rfl (by kernel_rfl) (by kernel_rfl) (by kernel_rfl) (by kernel_rfl) (fun _ _ _ h => h) (Or.inl ⟨by rfl, ?h5_96⟩) (by assumption) ?r5_96
          case h5_96 =>
            intro W hSW
            try dsimp only at hSW
            go_simp
            try with_reducible rfl
          try simp only [Act.put, List.setIfInBounds_toArray, List.set_cons_zero, List.set_cons_succ]
          refine wpAnyL_take (i := 6) (oi := { dst := some 48, op := Op.nilCheck (Operand.tmp 47), type := 0, pos := "ref.go:191", after := #[{ on := 5, ground := Ground.data }], guard := none }) (v := ?v6_97) rfl (by kernel_rfl) (by kernel_rfl) (by kernel_rfl) (by kernel_rfl) (fun _ _ _ h => h) (Or.inl ⟨by rfl, ?h6_97⟩) (by assumption) ?r6_97
          case h6_97 =>
            intro W hSW
            try dsimp only at hSW
            go_simp
            try with_reducible rfl
          try simp only [Act.put, List.setIfInBounds_toArray, List.set_cons_zero, List.set_cons_succ]
          refine wpAnyL_take (i := 7) (oi := { dst := some 49, op := Op.fieldAddr 34 (Operand.tmp 48) 0, type := 0, pos := "ref.go:191", after := #[{ on := 6, ground := Ground.data }], guard := none }) (v := ?v7_98) rfl (by kernel_rfl) (by kernel_rfl) (by kernel_rfl) (by kernel_rfl) (fun _ _ _ h => h) (Or.inl ⟨by rfl, ?h7_98⟩) (by assumption) ?r7_98
          case h7_98 =>
            intro W hSW
            try dsimp only at hSW
            go_simp
            try with_reducible rfl
          try simp only [Act.put, List.setIfInBounds_toArray, List.set_cons_zero, List.set_cons_succ]
          refine wpAnyL_take (i := 8) (oi := { dst := some 50, op := Op.load 32 (Operand.tmp 49), type := 32, pos := "ref.go:191", after := #[{ on := 7, ground := Ground.data }], guard := none }) (v := ?v8_99) rfl (by kernel_rfl) (by kernel_rfl) (by kernel_rfl) (by kernel_rfl) (fun _ _ _ h => h) (Or.inl ⟨by rfl, ?h8_99⟩) (by assumption) ?r8_99
          case h8_99 =>
            intro W hSW
            try dsimp only at hSW
            have c0 := (HCC.out W (HB3.out.trans (hSW.mono HB3.out.size))).1
            go_simp
            try with_reducible rfl
          try simp only [Act.put, List.setIfInBounds_toArray, List.set_cons_zero, List.set_cons_succ]
          refine wpAnyL_take (i := 9) (oi := { dst := some 51, op := Op.move (Operand.tmp 10), type := 3, pos := "ref.go:191", after := #[], guard := none }) (v := ?v9_100) rfl (by kernel_rfl) (by kernel_rfl) (by kernel_rfl) (by kernel_rfl) (fun _ _ _ h => h) (Or.inl ⟨by rfl, ?h9_100⟩) (by assumption) ?r9_100
          case h9_100 =>
            intro W hSW
            try dsimp only at hSW
            go_simp
            try with_reducible rfl
          try simp only [Act.put, List.setIfInBounds_toArray, List.set_cons_zero, List.set_cons_succ]
          refine wpAnyL_take (i := 10) (oi := { dst := some 52, op := Op.indexAddr 32 (Operand.tmp 50) (Operand.tmp 51), type := 0, pos := "ref.go:191", after := #[{ on := 8, ground := Ground.data }, { on := 9, ground := Ground.data }], guard := none }) (v := ?v10_101) rfl (by kernel_rfl) (by kernel_rfl) (by kernel_rfl) (by kernel_rfl) (fun _ _ _ h => h) (Or.inl ⟨by rfl, ?h10_101⟩) (by assumption) ?r10_101
          case h10_101 =>
            intro W hSW
            try dsimp only at hSW
            go_simp
            try with_reducible rfl
          try simp only [Act.put, List.setIfInBounds_toArray, List.set_cons_zero, List.set_cons_succ]
          refine wpAnyL_take (i := 11) (oi := { dst := some 53, op := Op.fieldAddr 45 (Operand.tmp 52) 5, type := 0, pos := "ref.go:191", after := #[{ on := 10, ground := Ground.data }], guard := none }) (v := ?v11_102) rfl (by kernel_rfl) (by kernel_rfl) (by kernel_rfl) (by kernel_rfl) (fun _ _ _ h => h) (Or.inl ⟨by rfl, ?h11_102⟩) (by assumption) ?r11_102
          case h11_102 =>
            intro W hSW
            try dsimp only at hSW
            go_simp
            try with_reducible rfl
          try simp only [Act.put, List.setIfInBounds_toArray, List.set_cons_zero, List.set_cons_succ]
          refine wpAnyL_take (i := 12) (oi := { dst := some 54, op := Op.load 43 (Operand.tmp 53), type := 43, pos := "ref.go:191", after := #[{ on := 11, ground := Ground.data }], guard := none }) (v := ?v12_103) rfl (by kernel_rfl) (by kernel_rfl) (by kernel_rfl) (by kernel_rfl) (fun _ _ _ h => h) (Or.inl ⟨by rfl, ?h12_103⟩) (by assumption) ?r12_103
          case h12_103 =>
            intro W hSW
            try dsimp only at hSW
            have k22 := (HCC.out W (HB3.out.trans (hSW.mono HB3.out.size))).2.1
            go_simp
            try with_reducible rfl
          try simp only [Act.put, List.setIfInBounds_toArray, List.set_cons_zero, List.set_cons_succ]
          refine wpAnyL_take (i := 13) (oi := { dst := some 55, op := Op.move (Operand.tmp 2), type := 3, pos := "ref.go:191", after := #[], guard := none }) (v := ?v13_104) rfl (by kernel_rfl) (by kernel_rfl) (by kernel_rfl) (by kernel_rfl) (fun _ _ _ h => h) (Or.inl ⟨by rfl, ?h13_104⟩) (by assumption) ?r13_104
          case h13_104 =>
            intro W hSW
            try dsimp only at hSW
            go_simp
            try with_reducible rfl
          try simp only [Act.put, List.setIfInBounds_toArray, List.set_cons_zero, List.set_cons_succ]
          refine wpAnyL_take (i := 14) (oi := { dst := some 56, op := Op.move (Operand.tmp 11), type := 3, pos := "ref.go:191", after := #[], guard := none }) (v := ?v14_105) rfl (by kernel_rfl) (by kernel_rfl) (by kernel_rfl) (by kernel_rfl) (fun _ _ _ h => h) (Or.inl ⟨by rfl, ?h14_105⟩) (by assumption) ?r14_105
          case h14_105 =>
            intro W hSW
            try dsimp only at hSW
            go_simp
            try with_reducible rfl
          try simp only [Act.put, List.setIfInBounds_toArray, List.set_cons_zero, List.set_cons_succ]
          refine wpAnyL_ready (rs := [15]) (by kernel_rfl) (by simp) ?_
          refine AllReadyL.cons (o := { dst := some 57, op := Op.call { callee := Callee.value (Operand.func 78), args := #[Operand.tmp 54, Operand.tmp 55, Operand.tmp 56], argTypes := #[43, 3, 3] }, type := 43, pos := "ref.go:191", after := #[{ on := 12, ground := Ground.data }, { on := 13, ground := Ground.data }, { on := 14, ground := Ground.data }], guard := none }) rfl (fun K hK => ?_) AllReadyL.nil
          go_simp
          refine (HWW.out _ (HB3.out.trans ((hv0).mono HB3.out.size))).mono ?_
          rintro e w90 ⟨A', c', rfl, own', b90⟩
          have hv90 : Below w3.heap.size w3 w90 := (hv0).trans (b90.mono (hv0).size)
          have HO := Lib.hid (own_base own' (HB3.out.trans ((hv0).mono HB3.out.size)).size)
          have HBW := Lib.hid (HB3.out.trans (hv90.mono HB3.out.size))
          have k22 := (HCC.out w90 HBW.out).2.1
          have f22 := (HCC.out w90 HBW.out).2.2.1
          clear b90 own'
          refine hK.out _ _ (hv90) (fun hHeld => ?_)
          clear hK K
          try simp only [Act.put, List.setIfInBounds_toArray, List.set_cons_zero, List.set_cons_succ]
          refine wpAnyL_take (i := 16) (oi := { dst := some 58, op := Op.indexAddr 32 (Operand.tmp 45) (Operand.tmp 46), type := 0, pos := "ref.go:191", after := #[{ on := 3, ground := Ground.data }, { on := 4, ground := Ground.data }, { on := 0, ground := Ground.phase }, { on := 1, ground := Ground.phase }, { on := 2, ground := Ground.phase }, { on := 3, ground := Ground.phase }, { on := 4, ground := Ground.phase }, { on := 5, ground := Ground.phase }, { on := 6, ground := Ground.phase }, { on := 7, ground := Ground.phase }, { on := 8, ground := Ground.phase }, { on := 9, ground := Ground.phase }, { on := 10, ground := Ground.phase }, { on := 11, ground := Ground.phase }, { on := 12, ground := Ground.phase }, { on := 13, ground := Ground.phase }, { on := 14, ground := Ground.phase }, { on := 15, ground := Ground.phase }], guard := none }) (v := ?v16_106) rfl (by kernel_rfl) (by kernel_rfl) (by kernel_rfl) (by kernel_rfl) (fun _ _ _ h => h) (Or.inl ⟨by rfl, ?h16_106⟩) (by assumption) ?r16_106
          case h16_106 =>
            intro W hSW
            try dsimp only at hSW
            go_simp
            try with_reducible rfl
          try simp only [Act.put, List.setIfInBounds_toArray, List.set_cons_zero, List.set_cons_succ]
          refine wpAnyL_take (i := 17) (oi := { dst := some 59, op := Op.fieldAddr 45 (Operand.tmp 58) 5, type := 0, pos := "ref.go:191", after := #[{ on := 16, ground := Ground.data }, { on := 0, ground := Ground.phase }, { on := 1, ground := Ground.phase }, { on := 2, ground := Ground.phase }, { on := 3, ground := Ground.phase }, { on := 4, ground := Ground.phase }, { on := 5, ground := Ground.phase }, { on := 6, ground := Ground.phase }, { on := 7, ground := Ground.phase }, { on := 8, ground := Ground.phase }, { on := 9, ground := Ground.phase }, { on := 10, ground := Ground.phase }, { on := 11, ground := Ground.phase }, { on := 12, ground := Ground.phase }, { on := 13, ground := Ground.phase }, { on := 14, ground := Ground.phase }, { on := 15, ground := Ground.phase }], guard := none }) (v := ?v17_107) rfl (by kernel_rfl) (by kernel_rfl) (by kernel_rfl) (by kernel_rfl) (fun _ _ _ h => h) (Or.inl ⟨by rfl, ?h17_107⟩) (by assumption) ?r17_107
          case h17_107 =>
            intro W hSW
            try dsimp only at hSW
            go_simp
            try with_reducible rfl
          try simp only [Act.put, List.setIfInBounds_toArray, List.set_cons_zero, List.set_cons_succ]
          refine wpAnyL_ready (rs := [18]) (by kernel_rfl) (by simp) ?_
          refine AllReadyL.late (o := { dst := none, op := Op.store 43 (Operand.tmp 59) (Operand.tmp 57), type := 0, pos := "ref.go:191", after := #[{ on := 17, ground := Ground.data }, { on := 15, ground := Ground.data }, { on := 15, ground := Ground.chain }, { on := 0, ground := Ground.phase }, { on := 1, ground := Ground.phase }, { on := 2, ground := Ground.phase }, { on := 3, ground := Ground.phase }, { on := 4, ground := Ground.phase }, { on := 5, ground := Ground.phase }, { on := 6, ground := Ground.phase }, { on := 7, ground := Ground.phase }, { on := 8, ground := Ground.phase }, { on := 9, ground := Ground.phase }, { on := 10, ground := Ground.phase }, { on := 11, ground := Ground.phase }, { on := 12, ground := Ground.phase }, { on := 13, ground := Ground.phase }, { on := 14, ground := Ground.phase }, { on := 15, ground := Ground.phase }], guard := none }) rfl (by rfl) (fun K hK => ?_) AllReadyL.nil
          go_simp
          have HSQ := Lib.hid (HSP.out w90 HBW.out (.slice A' 0 c'))
          try clear k22 f22 e3
          refine hK.out _ _ ?_
          clear hK K
          try simp only [Act.put, List.setIfInBounds_toArray, List.set_cons_zero, List.set_cons_succ]
          refine wpAnyL_done (by kernel_rfl) ?_ _
          obtain ⟨r1, r2, hrow, k22', hkp, hsz⟩ := HSQ.out
          obtain ⟨w5, hw5⟩ : ∃ y, w90.setCell ⟨g, k * 23 + 22, none⟩ (.slice A' 0 c') = y := ⟨_, rfl⟩
          have hge : w.heap.size ≤ w5.heap.size := by rw [← hw5, hsz]; exact HBW.out.size
          rw [hw5] at r1 r2 hrow k22' hkp hsz
          rw [hw5]
          rw [← hsz] at r1 r2
          have hcut1 := fun W => run_cutHi (P := Try.prog) W chunkT g t.n t.c k .i64 (by omega) (by omega)
          have hcut2 := fun W => run_cutFrom (P := Try.prog) W chunkT (some ⟨g, 0, none⟩) t.n t.c (k + 1) .i64 (by omega)
          obtain ⟨A3, hA3⟩ : ∃ y, (if t.c = k + 1 then some ⟨g, 0, none⟩ else (some (⟨g, 0, none⟩ : Addr)).map (·.add ((k + 1) * 23))) = y := ⟨_, rfl⟩
          simp only [hA3] at hcut2
          rw [hA3] at r2
          push_cast at hcut2
          have ek : IntKind.i64.wrap ((k : Int) + 1) = (k : Int) + 1 := IntWalk.i64_in _ (by omega)
          have ek0 : (0 : Int) ≤ (k : Int) + 1 := by omega
          have c0 := hrow.cell 0
          have HR1 := Lib.hid r1
          have HR2 := Lib.hid r2
          have HRO := Lib.hid hrow
          have HKP := Lib.hid hkp
          have HGE := Lib.hid hge
          have HKN := Lib.hid hkn
          have hmx2 : t.n ≤ 65536 := hmx
          clear r1 r2 hrow hkp hsz hw5 hA3 hge HSQ hcap
          go_upto_region 14 with (at_builtin; refine wpList_appR rfl (.tmp 70) (.tmp 76) 32 rfl w5.heap.size 45 _ 23 88 chunkT none 0 0 [] (some ⟨g, 0, none⟩) k t.c (crs (t.D.take k)) rfl rfl (World.ownsRow_nil _ _ _ _) HR1.out (crs_one _) (Below.refl _ _) (by omega) (Nat.le_refl _) (Nat.le_refl _) ?_; intro A1 c1 w6 own6 b6; simp only [Nat.zero_add, List.nil_append] at own6; simp only [Nat.zero_add]; have HO6 := Lib.hid own6; clear own6)
          have c06 := (HRO.out.below' b6).cell 0
          have HB6 := Lib.hid b6
          clear b6 c0 k22'
          go_wp2_with (at_builtin; refine wpList_appR rfl (.tmp 79) (.tmp 86) 32 rfl w5.heap.size 45 _ 23 88 chunkT A1 k c1 (crs (t.D.take k)) A3 (t.n - (k + 1)) (t.c - (k + 1)) (crs (t.D.drop (k + 1))) rfl rfl HO6.out (HR2.out.below HB6.out) (crs_one _) HB6.out (by omega) (Nat.le_refl _) HB6.out.size ?_; intro A2 c2 w7 own7 b7; have HO7 := Lib.hid own7; have HB7 := Lib.hid b7; have c07 := (HRO.out.below' b7).cell 0; have f07 := (HRO.out.below' b7).frozen 0; clear own7 b7)
          go_ret2
          have row7 := HRO.out.below' HB7.out
          have ha5 := HRO.out.lt
          exact ⟨rfl, HFR.out _ A2 _ c2 (row7.set 0 _) (own_base (own_same2 (show w7.ownsRow w5.heap.size _ 23 _ _ (crs (t.D.take k ++ t.D.drop (k + 1))) by unfold crs; rw [List.flatMap_append]; exact HO7.out) (fun b e1 _ => Below.heap_setCell _ _ _ _ (show b ≠ a by omega))) HGE.out) ((HKP.out.trans (Keep.of_below HB7.out)).setCell (.inl HSA.out) _)⟩
        · rw [if_neg hrne] at hu
          rw [hu]
          have hN0 : 0 < N := by rw [← hN]; exact List.length_pos_iff.2 hrne
          have hNN : (0 : Int) < (N : Int) := by omega
          have HNE := Lib.hid hrne
          have HNL := Lib.hid hN
          clear h hp hu hb HTN hs hmost hten hk hkn hA hg hx hn hok hck hrg htot hheld hheld0 hlen16 hcc hH0 hd hcs hrs hrok hrne HHE HWI HE hover hN hrl
          go_enter Try.func45, Try.ntmps45
          go_upto_region 9 with (first
            | (go_at_call 77; refine (HT2.out _).mono ?_; rintro e w2 ⟨rfl, hw2⟩; obtain rfl := hw2.symm)
            | (refine wpList_load_mid rfl _ (.tmp 34) rfl g (k * 23) rfl cs _ rg Try.underlying45 rfl (by rw [HCL.out]; exact sizeCk) ?_)
            | (go_at_call 53; refine (HHH.out _ (Below.refl _ _)).mono ?_; rintro e w3 ⟨rfl, b3⟩)
            | (go_at_call 50; refine HF.out.mono ?_; rintro e w1 ⟨rfl, hw1⟩; obtain rfl := hw1.symm))
          have HB3 := Lib.hid b3
          clear c0 k22 rg b3 ew
          have hv0 : Below w3.heap.size w3 w3.drew := (Below.refl _ _).drew
          refine wp_region_late (fun W => Below w3.heap.size w3 W) [18] (by kernel_rfl) (hv0) (fun hHeld => ?_)
          refine wpAnyL_take (i := 0) (oi := { dst := some 42, op := Op.move (Operand.tmp 0), type := 31, pos := "ref.go:191", after := #[], guard := none }) (v := ?v0_191) rfl (by kernel_rfl) (by kernel_rfl) (by kernel_rfl) (by kernel_rfl) (fun _ _ _ h => h) (Or.inl ⟨by rfl, ?h0_191⟩) (by assumption) ?r0_191
          case h0_191 =>
            intro W hSW
            try dsimp only at hSW
            go_simp
            try with_reducible rfl
          try simp only [Act.put, List.setIfInBounds_toArray, List.set_cons_zero, List.set_cons_succ]
          refine wpAnyL_take (i := 1) (oi := { dst := some 43, op := Op.nilCheck (Operand.tmp 42), type := 0, pos := "ref.go:191", after := #[{ on := 0, ground := Ground.data }], guard := none }) (v := ?v1_192) rfl (by kernel_rfl) (by kernel_rfl) (by kernel_rfl) (by kernel_rfl) (fun _ _ _ h => h) (Or.inl ⟨by rfl, ?h1_192⟩) (by assumption) ?r1_192
          case h1_192 =>
            intro W hSW
            try dsimp only at hSW
            go_simp
            try with_reducible rfl
          try simp only [Act.put, List.setIfInBounds_toArray, List.set_cons_zero, List.set_cons_succ]
          refine wpAnyL_take (i := 2) (oi := { dst := some 44, op := Op.fieldAddr 34 (Operand.tmp 43) 0, type := 0, pos := "ref.go:191", after := #[{ on := 1, ground := Ground.data }], guard := none }) (v := ?v2_193) rfl (by kernel_rfl) (by kernel_rfl) (by kernel_rfl) (by kernel_rfl) (fun _ _ _ h => h) (Or.inl ⟨by rfl, ?h2_193⟩) (by assumption) ?r2_193
          case h2_193 =>
            intro W hSW
            try dsimp only at hSW
            go_simp
            try with_reducible rfl
          try simp only [Act.put, List.setIfInBounds_toArray, List.set_cons_zero, List.set_cons_succ]
          refine wpAnyL_take (i := 3) (oi := { dst := some 45, op := Op.load 32 (Operand.tmp 44), type := 32, pos := "ref.go:191", after := #[{ on := 2, ground := Ground.data }], guard := none }) (v := ?v3_194) rfl (by kernel_rfl) (by kernel_rfl) (by kernel_rfl) (by kernel_rfl) (fun _ _ _ h => h) (Or.inl ⟨by rfl, ?h3_194⟩) (by assumption) ?r3_194
          case h3_194 =>
            intro W hSW
            try dsimp only at hSW
            have c0 := (HCC.out W (HB3.out.trans (hSW.mono HB3.out.size))).1
            go_simp
            try with_reducible rfl
          try simp only [Act.put, List.setIfInBounds_toArray, List.set_cons_zero, List.set_cons_succ]
          refine wpAnyL_take (i := 4) (oi := { dst := some 46, op := Op.move (Operand.tmp 10), type := 3, pos := "ref.go:191", after := #[], guard := none }) (v := ?v4_195) rfl (by kernel_rfl) (by kernel_rfl) (by kernel_rfl) (by kernel_rfl) (fun _ _ _ h => h) (Or.inl ⟨by rfl, ?h4_195⟩) (by assumption) ?r4_195
          case h4_195 =>
            intro W hSW
            try dsimp only at hSW
            go_simp
            try with_reducible rfl
          try simp only [Act.put, List.setIfInBounds_toArray, List.set_cons_zero, List.set_cons_succ]
          refine wpAnyL_take (i := 5) (oi := { dst := some 47, op := Op.move (Operand.tmp 0), type := 31, pos := "ref.go:191", after := #[], guard := none }) (v := ?v5_196) rfl (by kernel_rfl) (by kernel_rfl) (by kernel_rfl) (by kernel_rfl) (fun _ _ _ h => h) (Or.inl ⟨by rfl, ?h5_196⟩) (by assumption) ?r5_196
          case h5_196 =>
            intro W hSW
            try dsimp only at hSW
            go_simp
            try with_reducible rfl
          try simp only [Act.put, List.setIfInBounds_toArray, List.set_cons_zero, List.set_cons_succ]
          refine wpAnyL_take (i := 6) (oi := { dst := some 48, op := Op.nilCheck (Operand.tmp 47), type := 0, pos := "ref.go:191", after := #[{ on := 5, ground := Ground.data }], guard := none }) (v := ?v6_197) rfl (by kernel_rfl) (by kernel_rfl) (by kernel_rfl) (by kernel_rfl) (fun _ _ _ h => h) (Or.inl ⟨by rfl, ?h6_197⟩) (by assumption) ?r6_197
          case h6_197 =>
            intro W hSW
            try dsimp only at hSW
            go_simp
            try with_reducible rfl
          try simp only [Act.put, List.setIfInBounds_toArray, List.set_cons_zero, List.set_cons_succ]
          refine wpAnyL_take (i := 7) (oi := { dst := some 49, op := Op.fieldAddr 34 (Operand.tmp 48) 0, type := 0, pos := "ref.go:191", after := #[{ on := 6, ground := Ground.data }], guard := none }) (v := ?v7_198) rfl (by kernel_rfl) (by kernel_rfl) (by kernel_rfl) (by kernel_rfl) (fun _ _ _ h => h) (Or.inl ⟨by rfl, ?h7_198⟩) (by assumption) ?r7_198
          case h7_198 =>
            intro W hSW
            try dsimp only at hSW
            go_simp
            try with_reducible rfl
          try simp only [Act.put, List.setIfInBounds_toArray, List.set_cons_zero, List.set_cons_succ]
          refine wpAnyL_take (i := 8) (oi := { dst := some 50, op := Op.load 32 (Operand.tmp 49), type := 32, pos := "ref.go:191", after := #[{ on := 7, ground := Ground.data }], guard := none }) (v := ?v8_199) rfl (by kernel_rfl) (by kernel_rfl) (by kernel_rfl) (by kernel_rfl) (fun _ _ _ h => h) (Or.inl ⟨by rfl, ?h8_199⟩) (by assumption) ?r8_199
          case h8_199 =>
            intro W hSW
            try dsimp only at hSW
            have c0 := (HCC.out W (HB3.out.trans (hSW.mono HB3.out.size))).1
            go_simp
            try with_reducible rfl
          try simp only [Act.put, List.setIfInBounds_toArray, List.set_cons_zero, List.set_cons_succ]
          refine wpAnyL_take (i := 9) (oi := { dst := some 51, op := Op.move (Operand.tmp 10), type := 3, pos := "ref.go:191", after := #[], guard := none }) (v := ?v9_200) rfl (by kernel_rfl) (by kernel_rfl) (by kernel_rfl) (by kernel_rfl) (fun _ _ _ h => h) (Or.inl ⟨by rfl, ?h9_200⟩) (by assumption) ?r9_200
          case h9_200 =>
            intro W hSW
            try dsimp only at hSW
            go_simp
            try with_reducible rfl
          try simp only [Act.put, List.setIfInBounds_toArray, List.set_cons_zero, List.set_cons_succ]
          refine wpAnyL_take (i := 10) (oi := { dst := some 52, op := Op.indexAddr 32 (Operand.tmp 50) (Operand.tmp 51), type := 0, pos := "ref.go:191", after := #[{ on := 8, ground := Ground.data }, { on := 9, ground := Ground.data }], guard := none }) (v := ?v10_201) rfl (by kernel_rfl) (by kernel_rfl) (by kernel_rfl) (by kernel_rfl) (fun _ _ _ h => h) (Or.inl ⟨by rfl, ?h10_201⟩) (by assumption) ?r10_201
          case h10_201 =>
            intro W hSW
            try dsimp only at hSW
            go_simp
            try with_reducible rfl
          try simp only [Act.put, List.setIfInBounds_toArray, List.set_cons_zero, List.set_cons_succ]
          refine wpAnyL_take (i := 11) (oi := { dst := some 53, op := Op.fieldAddr 45 (Operand.tmp 52) 5, type := 0, pos := "ref.go:191", after := #[{ on := 10, ground := Ground.data }], guard := none }) (v := ?v11_202) rfl (by kernel_rfl) (by kernel_rfl) (by kernel_rfl) (by kernel_rfl) (fun _ _ _ h => h) (Or.inl ⟨by rfl, ?h11_202⟩) (by assumption) ?r11_202
          case h11_202 =>
            intro W hSW
            try dsimp only at hSW
            go_simp
            try with_reducible rfl
          try simp only [Act.put, List.setIfInBounds_toArray, List.set_cons_zero, List.set_cons_succ]
          refine wpAnyL_take (i := 12) (oi := { dst := some 54, op := Op.load 43 (Operand.tmp 53), type := 43, pos := "ref.go:191", after := #[{ on := 11, ground := Ground.data }], guard := none }) (v := ?v12_203) rfl (by kernel_rfl) (by kernel_rfl) (by kernel_rfl) (by kernel_rfl) (fun _ _ _ h => h) (Or.inl ⟨by rfl, ?h12_203⟩) (by assumption) ?r12_203
          case h12_203 =>
            intro W hSW
            try dsimp only at hSW
            have k22 := (HCC.out W (HB3.out.trans (hSW.mono HB3.out.size))).2.1
            go_simp
            try with_reducible rfl
          try simp only [Act.put, List.setIfInBounds_toArray, List.set_cons_zero, List.set_cons_succ]
          refine wpAnyL_take (i := 13) (oi := { dst := some 55, op := Op.move (Operand.tmp 2), type := 3, pos := "ref.go:191", after := #[], guard := none }) (v := ?v13_204) rfl (by kernel_rfl) (by kernel_rfl) (by kernel_rfl) (by kernel_rfl) (fun _ _ _ h => h) (Or.inl ⟨by rfl, ?h13_204⟩) (by assumption) ?r13_204
          case h13_204 =>
            intro W hSW
            try dsimp only at hSW
            go_simp
            try with_reducible rfl
          try simp only [Act.put, List.setIfInBounds_toArray, List.set_cons_zero, List.set_cons_succ]
          refine wpAnyL_take (i := 14) (oi := { dst := some 56, op := Op.move (Operand.tmp 11), type := 3, pos := "ref.go:191", after := #[], guard := none }) (v := ?v14_205) rfl (by kernel_rfl) (by kernel_rfl) (by kernel_rfl) (by kernel_rfl) (fun _ _ _ h => h) (Or.inl ⟨by rfl, ?h14_205⟩) (by assumption) ?r14_205
          case h14_205 =>
            intro W hSW
            try dsimp only at hSW
            go_simp
            try with_reducible rfl
          try simp only [Act.put, List.setIfInBounds_toArray, List.set_cons_zero, List.set_cons_succ]
          refine wpAnyL_ready (rs := [15]) (by kernel_rfl) (by simp) ?_
          refine AllReadyL.cons (o := { dst := some 57, op := Op.call { callee := Callee.value (Operand.func 78), args := #[Operand.tmp 54, Operand.tmp 55, Operand.tmp 56], argTypes := #[43, 3, 3] }, type := 43, pos := "ref.go:191", after := #[{ on := 12, ground := Ground.data }, { on := 13, ground := Ground.data }, { on := 14, ground := Ground.data }], guard := none }) rfl (fun K hK => ?_) AllReadyL.nil
          go_simp
          refine (HWW.out _ (HB3.out.trans ((hv0).mono HB3.out.size))).mono ?_
          rintro e w190 ⟨A', c', rfl, own', b190⟩
          have hv190 : Below w3.heap.size w3 w190 := (hv0).trans (b190.mono (hv0).size)
          have HO := Lib.hid (own_base own' (HB3.out.trans ((hv0).mono HB3.out.size)).size)
          have HBW := Lib.hid (HB3.out.trans (hv190.mono HB3.out.size))
          have k22 := (HCC.out w190 HBW.out).2.1
          have f22 := (HCC.out w190 HBW.out).2.2.1
          clear b190 own'
          refine hK.out _ _ (hv190) (fun hHeld => ?_)
          clear hK K
          try simp only [Act.put, List.setIfInBounds_toArray, List.set_cons_zero, List.set_cons_succ]
          refine wpAnyL_take (i := 16) (oi := { dst := some 58, op := Op.indexAddr 32 (Operand.tmp 45) (Operand.tmp 46), type := 0, pos := "ref.go:191", after := #[{ on := 3, ground := Ground.data }, { on := 4, ground := Ground.data }, { on := 0, ground := Ground.phase }, { on := 1, ground := Ground.phase }, { on := 2, ground := Ground.phase }, { on := 3, ground := Ground.phase }, { on := 4, ground := Ground.phase }, { on := 5, ground := Ground.phase }, { on := 6, ground := Ground.phase }, { on := 7, ground := Ground.phase }, { on := 8, ground := Ground.phase }, { on := 9, ground := Ground.phase }, { on := 10, ground := Ground.phase }, { on := 11, ground := Ground.phase }, { on := 12, ground := Ground.phase }, { on := 13, ground := Ground.phase }, { on := 14, ground := Ground.phase }, { on := 15, ground := Ground.phase }], guard := none }) (v := ?v16_206) rfl (by kernel_rfl) (by kernel_rfl) (by kernel_rfl) (by kernel_rfl) (fun _ _ _ h => h) (Or.inl ⟨by rfl, ?h16_206⟩) (by assumption) ?r16_206
          case h16_206 =>
            intro W hSW
            try dsimp only at hSW
            go_simp
            try with_reducible rfl
          try simp only [Act.put, List.setIfInBounds_toArray, List.set_cons_zero, List.set_cons_succ]
          refine wpAnyL_take (i := 17) (oi := { dst := some 59, op := Op.fieldAddr 45 (Operand.tmp 58) 5, type := 0, pos := "ref.go:191", after := #[{ on := 16, ground := Ground.data }, { on := 0, ground := Ground.phase }, { on := 1, ground := Ground.phase }, { on := 2, ground := Ground.phase }, { on := 3, ground := Ground.phase }, { on := 4, ground := Ground.phase }, { on := 5, ground := Ground.phase }, { on := 6, ground := Ground.phase }, { on := 7, ground := Ground.phase }, { on := 8, ground := Ground.phase }, { on := 9, ground := Ground.phase }, { on := 10, ground := Ground.phase }, { on := 11, ground := Ground.phase }, { on := 12, ground := Ground.phase }, { on := 13, ground := Ground.phase }, { on := 14, ground := Ground.phase }, { on := 15, ground := Ground.phase }], guard := none }) (v := ?v17_207) rfl (by kernel_rfl) (by kernel_rfl) (by kernel_rfl) (by kernel_rfl) (fun _ _ _ h => h) (Or.inl ⟨by rfl, ?h17_207⟩) (by assumption) ?r17_207
          case h17_207 =>
            intro W hSW
            try dsimp only at hSW
            go_simp
            try with_reducible rfl
          try simp only [Act.put, List.setIfInBounds_toArray, List.set_cons_zero, List.set_cons_succ]
          refine wpAnyL_ready (rs := [18]) (by kernel_rfl) (by simp) ?_
          refine AllReadyL.late (o := { dst := none, op := Op.store 43 (Operand.tmp 59) (Operand.tmp 57), type := 0, pos := "ref.go:191", after := #[{ on := 17, ground := Ground.data }, { on := 15, ground := Ground.data }, { on := 15, ground := Ground.chain }, { on := 0, ground := Ground.phase }, { on := 1, ground := Ground.phase }, { on := 2, ground := Ground.phase }, { on := 3, ground := Ground.phase }, { on := 4, ground := Ground.phase }, { on := 5, ground := Ground.phase }, { on := 6, ground := Ground.phase }, { on := 7, ground := Ground.phase }, { on := 8, ground := Ground.phase }, { on := 9, ground := Ground.phase }, { on := 10, ground := Ground.phase }, { on := 11, ground := Ground.phase }, { on := 12, ground := Ground.phase }, { on := 13, ground := Ground.phase }, { on := 14, ground := Ground.phase }, { on := 15, ground := Ground.phase }], guard := none }) rfl (by rfl) (fun K hK => ?_) AllReadyL.nil
          go_simp
          have HEX := Lib.hid (HRE.out w190 A' c' HBW.out HO.out HNE.out)
          have HSQ := Lib.hid (HSP.out w190 HBW.out (.slice A' rs.length c'))
          try clear k22 f22 e3
          refine hK.out _ _ ?_
          clear hK K
          try simp only [Act.put, List.setIfInBounds_toArray, List.set_cons_zero, List.set_cons_succ]
          refine wpAnyL_done (by kernel_rfl) ?_ _
          obtain ⟨_, _, hrow, k22', _, _⟩ := HSQ.out
          obtain ⟨w5, hw5⟩ : ∃ y, w190.setCell ⟨g, k * 23 + 22, none⟩ (.slice A' rs.length c') = y := ⟨_, rfl⟩
          rw [hw5] at hrow k22' HEX
          rw [hw5]
          rw [HNL.out] at k22' ⊢
          have c0 := hrow.cell 0
          clear hrow hw5 HSQ HO
          go_wp2_with fail
          go_ret2
          obtain ⟨F', h1, h2, h3, h4⟩ := HEX.out
          exact ⟨rfl, F', S, h1, h2, h3, fun _ h => .inl h, h4⟩
end Go.Proofs.Ytcicfneekmbamaa
