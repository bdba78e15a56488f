/- Joined texts: ColO, ColT. Conditions: as each part says. -/
import Derived.Test.YtihhkcndcgljbaaGreatColKN
namespace Go.Proofs.YtihhkcndcgljbaaGreat
set_option linter.unusedVariables false
set_option linter.unusedSimpArgs false
/-! collect.free: the number of free groups of a row. Conditions: the row is kept. -/
section
open Go.RowKit
section
variable {P : Program} {w : World} {ops : Array Oper} {rest : List Oper} {o : Oper} {a : Act} {Q : Exit → Act → World → Prop}
theorem newVar_one {ty : TypeId} {v : Value} (hc : v.cells = #[v]) (w : World) : Sem.run P (newVar ty v) w = .ok ⟨w.heap.size, 0, none⟩ (w.alloc (.cells [v].toArray ty)) := by
  have h : newVar ty v = newVar ty (.agg #[v]) := by
    have : (Value.agg #[v]).cells = #[v] := rfl
    unfold newVar
    rw [hc, this]
  rw [h]
  simp [newVar, Value.cells, go_sem]
theorem wpList_box1 (hgd : o.guard = none) (ty : TypeId) (x : Operand) (ho : o.op = .box ty x) (v : Value) (hx : a.eval x = v) (hc : v.cells = #[v])
    (h : ∀ w', IsRow w' w.heap.size ty [v] → Below w.heap.size w w' → w'.heap.size = w.heap.size + 1 → wpList P ops Q rest (a.put o.dst (.pointer (some ⟨w.heap.size, 0, none⟩))) w') : wpList P ops Q (o :: rest) a w := by
  refine wpList_plain hgd fun K hK => ?_
  have hn := newVar_one (P := P) (ty := ty) hc w
  unfold Oper.wp execOp
  simp only [ho, hx, Instr.box, Sem.run_bind, Sem.run_pure, Result.andThen_ok, hn]
  exact hK _ _ (h _ (IsRow.new w ty [v]) ((Below.refl _ _).alloc (Nat.le_refl _) _) (by simp))
theorem zero_of_info1 {ty : TypeId} {z : Value} (hz : (P.info? ty).map (fun i => (i.zero, i.size)) = some (some z, 1)) (w : World) : (zeroValue ty).run P w = .ok z w := by
  cases hq : P.info? ty with
  | none => rw [hq] at hz; cases hz
  | some i =>
    rw [hq] at hz
    have h1 : i.zero = some z := by have := Option.some.inj hz; exact congrArg Prod.fst this
    simp [zeroValue, typeInfo, hq, h1, go_sem]
theorem wpList_alloc1 (hgd : o.guard = none) (ty : TypeId) (ho : o.op = .alloc ty) (z : Value) (hz : (P.info? ty).map (fun i => (i.zero, i.size)) = some (some z, 1)) (hc : z.cells = #[z])
    (h : ∀ w', IsRow w' w.heap.size ty [z] → Below w.heap.size w w' → w'.heap.size = w.heap.size + 1 → wpList P ops Q rest (a.put o.dst (.pointer (some ⟨w.heap.size, 0, none⟩))) w') : wpList P ops Q (o :: rest) a w := by
  refine wpList_plain hgd fun K hK => ?_
  unfold Oper.wp execOp
  simp only [ho, Instr.alloc, Sem.run_bind, Sem.run_pure, Result.andThen_ok, zero_of_info1 hz, newVar_one hc]
  exact hK _ _ (h _ (IsRow.new w ty [z]) ((Below.refl _ _).alloc (Nat.le_refl _) _) (by simp))
theorem storeVar_one {ty : TypeId} {ad : Addr} {v : Value} (hc : v.cells = #[v]) : storeVar ty ad v = storeVar ty ad (.agg #[v]) := by
  have : (Value.agg #[v]).cells = #[v] := rfl
  unfold storeVar
  rw [hc, this]
theorem wpList_store1 (hgd : o.guard = none) (ty : TypeId) (x y : Operand) (ho : o.op = .store ty x y) {b t : Nat} {u v : Value} (hr : IsRow w b t [u]) (hx : a.eval x = .pointer (some ⟨b, 0, none⟩))
    (hy : a.eval y = v) (hi : (P.info? ty).map (·.size) = some 1) (hc : v.cells = #[v]) (h1 : v.oneCell' = true)
    (h : ∀ w', IsRow w' b t [v] → w.grownBy w' (some b) → w'.heap.size = w.heap.size → wpList P ops Q rest (a.put o.dst undef) w') : wpList P ops Q (o :: rest) a w := by
  refine wpList_plain hgd fun K hK => ?_
  have hs := run_storeVar_row (P := P) w b t ty [u].toArray [v].toArray hr (by simpa using hi) (by simp) (by simp [h1])
  unfold Oper.wp execOp
  simp only [ho, hx, hy, Instr.storeAt, Instr.sureAddr, Sem.run_bind, Sem.run_pure, Result.andThen_ok, storeVar_one hc]
  have hs' : Sem.run P (storeVar ty ⟨b, 0, none⟩ (.agg #[v])) w = .ok () (w.setRow b [v].toArray) := hs
  simp only [hs', Result.andThen_ok]
  exact hK _ _ (h _ (setRow_heap w b _ _ t _ hr) ⟨rfl, rfl, rfl, by simp [World.setRow], fun k _ hk => setRow_other w b k _ (fun e => hk (by rw [e]))⟩ (by simp [World.setRow]))
end
abbrev isF (bk : Nat) : Value := .func (.func 92) #[] #[.pointer (some ⟨bk, 0, none⟩)]
theorem isF_any (u e c g : Int) (bk : Nat) (w : World) (hk : w.cell? ⟨bk, 0, none⟩ = some (.int .i64 g)) (hkl : bk < w.heap.size) :
    Calls Tryz.prog 92 #[.agg #[.int .i64 u, .int .i64 e, .int .i64 c], .pointer (some ⟨bk, 0, none⟩)] w fun e w' => e = .returned (.bool (u == g)) ∧ Below w.heap.size w w' := by
  have R0 := (IsRow.new w 107 [.int .i64 u, .int .i64 e, .int .i64 c]).cell 0
  dsimp only [List.getElem?_cons_zero] at R0
  have hb0 : Below w.heap.size w (w.alloc (.cells #[.int .i64 u, .int .i64 e, .int .i64 c] 107)) := (Below.refl _ w).alloc (Nat.le_refl _) _
  have hk0 := (hb0.cell (p := ⟨bk, 0, none⟩) hkl).trans hk
  obtain ⟨w0, hw0⟩ : ∃ w0, w.alloc (.cells #[.int .i64 u, .int .i64 e, .int .i64 c] 107) = w0 := ⟨_, rfl⟩
  have hw1 : w.alloc (.cells [Value.int .i64 u, .int .i64 e, .int .i64 c].toArray 107) = w0 := hw0
  rw [hw0] at hb0 hk0
  rw [hw1] at R0
  have HW0 := Lib.hid hw0
  clear hw0 hw1 hk
  go_enter Tryz.func92, Tryz.ntmps92
  go_upto_region 1 with fail
  rw [HW0.out]
  go_wp2_with fail
  go_ret
  exact ⟨rfl, hb0⟩
set_option maxRecDepth 100000 in
set_option maxHeartbeats 1600000 in
theorem indexUf (x : S.RR) (g : Int) (B bk : Nat) (w : World) (hx : x.Ok w B) (hB : B ≤ w.heap.size) (hk : w.cell? ⟨bk, 0, none⟩ = some (.int .i64 g)) (hkl : bk < w.heap.size) :
    Calls Tryz.prog 102 #[x.v, isF bk] w fun e w' => e = .returned (.int .i64 (S.Str.idx x.r.used g)) ∧ Below w.heap.size w w' := by
  obtain ⟨V, hV⟩ : ∃ V, S.Str.idx x.r.used g = V := ⟨_, rfl⟩
  rw [hV]
  have HV := Lib.hid hV
  have HX := Lib.hid hx
  have HK := Lib.hid (And.intro hk hkl)
  have hnc := hx.le
  have hmx := hx.mx
  unfold S.RR.v
  obtain ⟨n, hn⟩ : ∃ n, x.r.used.length = n := ⟨_, rfl⟩
  have HN := Lib.hid hn
  obtain ⟨A, hA⟩ : ∃ A, x.A = A := ⟨_, rfl⟩
  have HA := Lib.hid hA
  rw [hn, hA]
  rw [hn] at hnc hmx
  clear hx hk hkl hV hn hA
  go_enter Tryz.func102, Tryz.ntmps102
  go_wp2_with fail
  go_loopw [8] (fun u wr => ∃ j : Nat, j ≤ n ∧ u = .int .i64 (j : Int) ∧ Hid (∀ i (hi : i < x.r.used.length), i < j → x.r.used[i].g ≠ g) ∧ Hid (Below w.heap.size w wr)) (fun u _ => n - (intOf u).toNat)
  case atStart => exact ⟨0, Nat.zero_le _, rfl, Lib.hid fun i _ hi => absurd hi (Nat.not_lt_zero i), Lib.hid (Below.refl _ _)⟩
  case round =>
    obtain ⟨j, hj, rfl, HI, HB⟩ := hrel
    by_cases hlt : j < n
    · have hju : j < x.r.used.length := by rw [HN.out]; exact hlt
      obtain ⟨b, off, hA, hbb, hrg, -⟩ := (HX.out.below (HB.out.mono hB)).at hju
      have e1 : (0 : Int) ≤ (j : Int) := by omega
      have e2 : (j : Int) < (n : Int) := by omega
      obtain ⟨y, hy⟩ : ∃ y, x.r.used[j] = y := ⟨_, rfl⟩
      rw [hy] at hrg
      obtain ⟨ug, ue, uc⟩ := y
      have HY : Hid (x.r.used[j].g = ug) := Lib.hid (by rw [hy])
      have HC := Lib.hid (isF_any ug ue uc g bk wr ((HB.out.cell (p := ⟨bk, 0, none⟩) HK.out.2).trans HK.out.1) (Nat.lt_of_lt_of_le HK.out.2 HB.out.size))
      obtain rfl : A = some ⟨b, off, none⟩ := HA.out.symm.trans hA
      obtain ⟨q, hq⟩ : ∃ q, (ug == g) = q := ⟨_, rfl⟩
      rw [hq] at HC
      have HQ := Lib.hid hq
      clear hy hA hq
      cases q with
      | true =>
        go_wp2_with (first
          | (refine S.wpList_load_rg rfl _ (.tmp 14) rfl b (off + j * 3) rfl _ _ hrg Tryz.underlying107 rfl S.sizeUs ?_)
          | (go_at_call 92; refine HC.out.mono ?_; rintro e w1 ⟨rfl, b1⟩))
        go_ret
        exact ⟨by rw [← HV.out, S.Str.idx_hit hju (HY.out.trans (by simpa using HQ.out)) (fun i hi => HI.out i (by omega) hi)]; rfl, HB.out.trans (b1.mono HB.out.size)⟩
      | false =>
        go_wp2_with (first
          | (refine S.wpList_load_rg rfl _ (.tmp 14) rfl b (off + j * 3) rfl _ _ hrg Tryz.underlying107 rfl S.sizeUs ?_)
          | (go_at_call 92; refine HC.out.mono ?_; rintro e w1 ⟨rfl, b1⟩))
        go_roundw
        case rel =>
          refine ⟨j + 1, by omega, by go_num, Lib.hid fun i hi hij => ?_, Lib.hid (HB.out.trans (b1.mono HB.out.size))⟩
          rcases Nat.lt_or_ge i j with e | e
          · exact HI.out i hi e
          · obtain rfl : i = j := by omega
            rw [HY.out]; simpa using HQ.out
        case measure => simp [intOf]; omega
    · obtain rfl : j = n := by omega
      go_wp2_with fail
      go_ret
      exact ⟨by rw [← HV.out, S.Str.idx_miss (fun i hi => HI.out i hi (by rw [← HN.out]; exact hi))]; rfl, HB.out⟩

theorem idx_free (l : List S.Str.Us) (g : Int) : decide (0 ≤ S.Str.idx l g) = !decide (S.Str.idx l g = -1) := by
  rcases S.Str.idx_cases l g with h | ⟨k, _, h⟩
  · rw [h]; rfl
  · rw [h]
    have e1 : (0 : Int) ≤ (k : Int) := by omega
    have e2 : ¬ ((k : Int) = -1) := by omega
    simp [e1, e2]
theorem containsUf (x : S.RR) (g : Int) (B bk : Nat) (w : World) (hx : x.Ok w B) (hB : B ≤ w.heap.size) (hk : w.cell? ⟨bk, 0, none⟩ = some (.int .i64 g)) (hkl : bk < w.heap.size) (xv : Value) (hxv : x.v = xv) :
    Calls Tryz.prog 91 #[xv, isF bk] w fun e w' => e = .returned (.bool (!decide (S.Str.idx x.r.used g = -1))) ∧ Below w.heap.size w w' := by
  have HI := Lib.hid (indexUf x g B bk w hx hB hk hkl)
  rw [hxv] at HI
  obtain ⟨q, hq⟩ : ∃ q, (!decide (S.Str.idx x.r.used g = -1)) = q := ⟨_, rfl⟩
  have hi := idx_free x.r.used g
  rw [hq] at hi ⊢
  obtain ⟨V, hV⟩ : ∃ V, S.Str.idx x.r.used g = V := ⟨_, rfl⟩
  rw [hV] at HI hi
  clear hq hV hx hB hk hkl
  go_enter Tryz.func91, Tryz.ntmps91
  go_wp2_with (go_at_call 102; refine HI.out.mono ?_; rintro e w2 ⟨rfl, b2⟩)
  go_ret
  exact ⟨by rw [← hi]; rfl, b2⟩
namespace Col
/-- the number of free groups of a row -/
def frN (us : List S.Str.Us) : Nat → Nat
  | 0 => 0
  | g + 1 => frN us g + (if S.Str.idx us ((g : Nat) : Int) = -1 then 1 else 0)
theorem frN_le (us : List S.Str.Us) : ∀ g, frN us g ≤ g
  | 0 => Nat.le_refl _
  | g + 1 => by have := frN_le us g; rw [frN]; split <;> omega
def frF (c : S.Str.Cfg) (r : S.Str.Rw) : Nat := frN r.used (S.Str.grp c r.width).toNat
theorem grp_bd (c : S.Str.Cfg) (wd : Int) : 0 ≤ S.Str.grp c wd ∧ S.Str.grp c wd ≤ 64 := by
  unfold S.Str.grp
  by_cases h : c.fits wd = true
  · rw [if_pos h]
    unfold S.Str.Cfg.fits S.Str.Cfg.ok at h
    simp only [Bool.and_eq_true, decide_eq_true_eq] at h
    obtain ⟨⟨⟨⟨⟨⟨⟨⟨h1, _⟩, _⟩, h4⟩, _⟩, _⟩, _⟩, h8⟩, h9⟩ := h
    have e1 := S.Str.within_t h1
    have e4 := S.Str.within_t h4
    rw [Int.tdiv_eq_ediv_of_nonneg (by omega)]
    have := Int.ediv_nonneg (a := c.d - c.sp) (b := wd) (by omega) (by omega)
    have := Int.ediv_le_self (a := c.d - c.sp) wd (by omega)
    omega
  · rw [if_neg h]; omega
theorem frF_le (c : S.Str.Cfg) (r : S.Str.Rw) : frF c r ≤ 64 := by
  unfold frF
  have := frN_le r.used (S.Str.grp c r.width).toNat
  have := grp_bd c r.width
  omega
end Col
theorem infoI25 : (Tryz.prog.info? 3).map (fun i => (i.zero, i.size)) = some (some (.int .i64 0), 1) := by kernel_rfl
theorem sizeI25 : (Tryz.prog.info? 3).map (·.size) = some 1 := by kernel_rfl
set_option maxRecDepth 100000 in
set_option maxHeartbeats 1600000 in
theorem free25_any (c : S.Str.Cfg) (x : S.RR) (B : Nat) (w : World) (hx : x.Ok w B) (hB : B ≤ w.heap.size) :
    Calls Tryz.prog 67 #[S.cfV c, .agg (S.rwL x).toArray] w fun e w' => e = .returned (.int .i64 (Col.frF c x.r : Int)) ∧ Below w.heap.size w w' := by
  obtain ⟨cl, hcl⟩ : ∃ cl, S.cfL c = cl := ⟨_, rfl⟩
  have hcv : S.cfV c = .agg cl.toArray := by rw [← hcl]; rfl
  have HLC := Lib.hid (show cl.length = 6 by rw [← hcl]; rfl)
  have HGR := Lib.hid (fun W => S.groups_any c x.r.width W)
  have hgb := Col.grp_bd c x.r.width
  obtain ⟨gn, hgn⟩ : ∃ gn : Nat, S.Str.grp c x.r.width = (gn : Int) := ⟨(S.Str.grp c x.r.width).toNat, by omega⟩
  have HF : Hid (Col.frF c x.r = Col.frN x.r.used gn) := Lib.hid (by unfold Col.frF; rw [hgn]; rfl)
  rw [hgn] at HGR hgb
  rw [HF.out]
  rw [hcv] at HGR ⊢
  obtain ⟨xv, hxv⟩ : ∃ xv, x.v = xv := ⟨_, rfl⟩
  obtain ⟨wd, hwd⟩ : ∃ wd, x.r.width = wd := ⟨_, rfl⟩
  obtain ⟨cd, hcd⟩ : ∃ cd, x.r.code = cd := ⟨_, rfl⟩
  have hrl : S.rwL x = [.int .i64 cd, .int .i64 wd, xv] := by unfold S.rwL; rw [hxv, hwd, hcd]
  rw [hrl]
  rw [hwd] at HGR
  have HX := Lib.hid hx
  have HXV := Lib.hid hxv
  have HHB := Lib.hid hB
  have hgl : gn ≤ 64 := by omega
  have hone : xv.oneCell' = true := by rw [← hxv]; rfl
  clear hcl hcv hgb hgn hwd hcd hrl hx hxv hB
  go_enter Tryz.func67, Tryz.ntmps67
  go_upto_region 2 with (first
    | (have tk := rs2; refine S.wpList_boxRow rfl _ _ rfl [.int .i64 cd, .int .i64 wd, xv] rfl rfl ?_; intro w3 rs3 b3 z3; clear tk; have q2 := rs2.below' b3)
    | (refine S.wpList_boxRow rfl _ _ rfl cl rfl rfl ?_; intro w2 rs2 b2 z2))
  have hb3 := b2.trans (b3.mono b2.size)
  obtain ⟨y2, h2⟩ : ∃ y, w.heap.size = y := ⟨_, rfl⟩
  obtain ⟨y3, h3⟩ : ∃ y, y2 + 1 = y := ⟨_, rfl⟩
  rw [show w2.heap.size = y3 by omega] at rs3
  rw [h2] at q2
  rw [h2, h3]
  have k1 := rs3.cell 1
  have k2 := rs3.cell 2
  dsimp only [List.getElem?_cons_zero, List.getElem?_cons_succ] at k1 k2
  have hr2 : w3.rangeAt y2 0 cl := fun q u hq => by rw [Nat.zero_add, q2.cell]; exact hq
  have HB3 := Lib.hid hb3
  have HK2 := Lib.hid (And.intro rs3.lt k2)
  have HR3 := Lib.hid rs3.lt
  clear rs2 b2 z2 rs3 b3 z3 q2 hb3 h2 h3 k2
  go_upto_region 3 with (first
    | (refine wpList_load_mid rfl _ (.tmp 2) rfl y2 0 rfl cl _ hr2 Tryz.underlying23 rfl (by rw [HLC.out]; exact S.sizeCf) ?_)
    | (go_at_call 90; refine (HGR.out _).mono ?_; rintro e w4 ⟨rfl, b4⟩))
  have HB4 := Lib.hid (HB3.out.trans (b4.mono HB3.out.size))
  have HK4 := Lib.hid (And.intro (Nat.lt_of_lt_of_le HK2.out.1 b4.size) ((b4.cell (p := ⟨y3, 2, none⟩) HK2.out.1).trans HK2.out.2))
  clear b4 hr2 k1 HR3 HK2 HB3
  go_loopw [5, 11] (fun u5 u11 wx => ∃ (wr : World) (j : Nat), wr = wx ∧ j ≤ gn ∧ u11 = .int .i64 (j : Int) ∧ u5 = .int .i64 (Col.frN x.r.used j : Int) ∧ Hid (Below w4.heap.size w4 wr)) (fun _ u11 _ => gn - (intOf u11).toNat)
  case atStart => exact ⟨_, 0, rfl, Nat.zero_le _, rfl, rfl, Lib.hid (Below.refl _ _)⟩
  case round =>
    obtain ⟨wr, j, rfl, hj, rfl, rfl, HBR⟩ := hrel
    obtain ⟨f, hf⟩ : ∃ f, Col.frN x.r.used j = f := ⟨_, rfl⟩
    have hfl : f ≤ j := by rw [← hf]; exact Col.frN_le _ _
    rw [hf]
    by_cases hlt : j < gn
    · have e1 : (0 : Int) ≤ (j : Int) := by omega
      have e2 : (j : Int) < (gn : Int) := by omega
      have HFS : Hid (Col.frN x.r.used (j + 1) = f + (if S.Str.idx x.r.used (j : Int) = -1 then 1 else 0)) := Lib.hid (by rw [Col.frN, hf])
      clear hf
      go_upto_region 5 with (first
        | (refine wpList_alloc1 rfl _ rfl _ infoI25 rfl ?_; intro w5 r5 b5 z5)
        | (refine wpList_store1 rfl _ (.tmp 6) _ rfl r5 rfl rfl sizeI25 rfl rfl ?_; intro w6 r6 g6 z6))
      have hb6 : Below wr.heap.size wr w6 := b5.grown g6 b5.size (fun i hi => by have := Option.some.inj hi; omega)
      obtain ⟨y6, h6⟩ : ∃ y, wr.heap.size = y := ⟨_, rfl⟩
      rw [h6] at r6 ⊢
      have c0 := r6.cell 0
      dsimp only [List.getElem?_cons_zero] at c0
      have HB6 := Lib.hid (HBR.out.trans (hb6.mono HBR.out.size))
      have kx := (HB6.out.cell (p := ⟨y3, 2, none⟩) HK4.out.1).trans HK4.out.2
      have HCN := Lib.hid (containsUf x (j : Int) w.heap.size y6 w6 (((HX.out.more HHB.out).below HB4.out).below (HB6.out.mono HB4.out.size)) (Nat.le_trans HB4.out.size HB6.out.size) c0 r6.lt xv HXV.out)
      clear r5 b5 z5 r6 g6 z6 hb6 h6 c0
      try simp only [Act.put, List.setIfInBounds_toArray, List.set_cons_zero, List.set_cons_succ]
      by_cases hq : S.Str.idx x.r.used (j : Int) = -1
      · have hd : (!decide (S.Str.idx x.r.used (j : Int) = -1)) = false := by simp [hq]
        rw [hd] at HCN
        have hfs := HFS.out
        rw [if_pos hq] at hfs
        have HFS2 := Lib.hid hfs
        clear hd hfs hq
        go_wp2_with (go_at_call 91; refine HCN.out.mono ?_; rintro e w7 ⟨rfl, b7⟩)
        go_roundw
        case rel => exact ⟨_, j + 1, rfl, by omega, by go_num, by rw [HFS2.out]; go_num, Lib.hid (HB6.out.trans (b7.mono HB6.out.size))⟩
        case measure => simp [intOf]; omega
      · have hd : (!decide (S.Str.idx x.r.used (j : Int) = -1)) = true := by simp [hq]
        rw [hd] at HCN
        have hfs := HFS.out
        rw [if_neg hq, Nat.add_zero] at hfs
        have HFS2 := Lib.hid hfs
        clear hd hfs hq
        go_wp2_with (go_at_call 91; refine HCN.out.mono ?_; rintro e w7 ⟨rfl, b7⟩)
        go_roundw
        case rel => exact ⟨_, j + 1, rfl, by omega, by go_num, by rw [HFS2.out]; rfl, Lib.hid (HB6.out.trans (b7.mono HB6.out.size))⟩
        case measure => simp [intOf]; omega
    · obtain rfl : j = gn := by omega
      have HF2 := Lib.hid hf
      clear hf
      go_wp2_with fail
      go_ret
      exact ⟨by rw [HF2.out]; rfl, HB4.out.trans (HBR.out.mono HB4.out.size)⟩
end
/-! collect.Vacate where all rows are of code 0 and a row can be cleared. Conditions: the rows are kept; from 2 to 1000 rows. -/
section
open Go.RowKit
namespace Col
/-- the free groups of the first rows -/
def frS (c : S.Str.Cfg) (rs : List S.Str.Rw) : Nat → Nat
  | 0 => 0
  | k + 1 => frS c rs k + frF c (rs.getD k S.Str.free)
theorem frS_le (c : S.Str.Cfg) (rs : List S.Str.Rw) : ∀ k, frS c rs k ≤ k * 64
  | 0 => Nat.le_refl _
  | k + 1 => by have := frS_le c rs k; have := frF_le c (rs.getD k S.Str.free); rw [frS]; omega
def usN (rs : List S.Str.Rw) (k : Nat) : Int := ((rs.getD k S.Str.free).used.length : Nat)
end Col
def ints (n : Nat) : List Int := (List.range n).map fun (k : Nat) => ((k : Nat) : Int)
theorem ints_len (n : Nat) : (ints n).length = n := by simp [ints]
theorem ints_get (n k : Nat) (h : k < (ints n).length) : (ints n)[k] = (k : Int) := by simp [ints]
theorem ints_snoc (n : Nat) : ivs (ints n) ++ [.int .i64 (n : Int)] = ivs (ints (n + 1)) := by
  unfold ints ivs; rw [List.range_succ]; simp
theorem vac25_any {w : World} {B n cp : Nat} {A : Option Addr} {D : List S.RR} {rs : List S.Str.Rw} (h : S.RowsAt w B A n D rs) (hB : B ≤ w.heap.size) (hnc : n ≤ cp) (bk : Nat) (hbk : w.cell? ⟨bk, 0, none⟩ = some (.slice A n cp)) (k : Nat) (hk : k < n) :
    Calls Tryz.prog 69 #[.int .i64 (k : Int), .pointer (some ⟨bk, 0, none⟩)] w fun e w' => e = .returned (.int .i64 (Col.usN rs k)) ∧ Below w.heap.size w w' := by
  obtain ⟨b, off, x, rfl, hbb, hD, hl, hok, hrg, c0, c1, c2⟩ := h.at hk
  have hu : Col.usN rs k = (x.r.used.length : Int) := by unfold Col.usN; rw [List.getD, hl]; rfl
  obtain ⟨u, hu2⟩ : ∃ u, x.r.used.length = u := ⟨_, rfl⟩
  unfold S.RR.v at c2
  rw [hu2] at c2 hu
  rw [hu]
  have e1 : (0 : Int) ≤ (k : Int) := by omega
  have e2 : (k : Int) < (n : Int) := by omega
  clear h hD hl hok hrg c0 c1 hu hu2 hbb
  go_enter Tryz.func69, Tryz.ntmps69
  go_wp2
  go_ret
  exact ⟨rfl, Below.refl _ _⟩
set_option maxRecDepth 100000 in
set_option maxHeartbeats 3200000 in
theorem vacate25 (c : S.Str.Cfg) {w : World} {B n cp : Nat} {A : Option Addr} {D : List S.RR} {rs : List S.Str.Rw} (h : S.RowsAt w B A n D rs) (hB : B ≤ w.heap.size) (hnc : n ≤ cp) (hc : ∀ r ∈ rs, r.code = 0) (hn2 : 2 ≤ n) (hn3 : n ≤ 1000)
    (r : Nat) (hr : Col.sm (Col.usN rs) none n = some r) (hok : ¬ ((Col.frS c rs n : Int) - (Col.frF c (rs.getD r S.Str.free) : Int) < Col.usN rs r)) :
    Calls Tryz.prog 31 #[S.cfV c, .slice A n cp, .int .i64 0] w fun e w' => e = .returned (.tuple #[.int .i64 (r : Int), .bool true]) ∧ Below w.heap.size w w' := by
  have hrn := (Col.sm_some hr).1
  have HR := Lib.hid hr
  have HOK := Lib.hid hok
  have HH := Lib.hid h
  have HBB := Lib.hid hB
  have HC := Lib.hid hc
  obtain ⟨cd, cr, crw, cs, cl, ci⟩ := c
  obtain ⟨C, hC⟩ : ∃ C : S.Str.Cfg, (⟨cd, cr, crw, cs, cl, ci⟩ : S.Str.Cfg) = C := ⟨_, rfl⟩
  have hcv : S.cfV C = .agg #[.int .i64 cd, .int .i64 cr, .int .i64 crw, .int .i64 cs, .int .i64 cl, .int .i64 ci] := by rw [← hC]; rfl
  rw [hC] at HOK ⊢
  rw [hcv]
  have HFR := Lib.hid (fun (x : S.RR) (W : World) (B' : Nat) (hx : x.Ok W B') (hB : B' ≤ W.heap.size) => free25_any C x B' W hx hB)
  rw [hcv] at HFR
  have HIC := Lib.hid (fun W => isCode_any 0 true (by decide) W)
  clear hr hok h hB hc hC hcv
  go_enter Tryz.func31, Tryz.ntmps31
  go_upto_region 3 with (first
    | (have tk := rs3; refine wpList_box1 rfl _ (.tmp 1) rfl _ rfl rfl ?_; intro w4 rs4 b4 z4; clear tk; have q3 := rs3.below' b4)
    | (refine S.wpList_boxRow rfl _ _ rfl [.int .i64 cd, .int .i64 cr, .int .i64 crw, .int .i64 cs, .int .i64 cl, .int .i64 ci] rfl rfl ?_; intro w3 rs3 b3 z3))
  have hb4 := b3.trans (b4.mono b3.size)
  obtain ⟨y3, h3⟩ : ∃ y, w.heap.size = y := ⟨_, rfl⟩
  obtain ⟨y4, h4⟩ : ∃ y, y3 + 1 = y := ⟨_, rfl⟩
  rw [show w3.heap.size = y4 by omega] at rs4
  rw [h3] at q3
  rw [h3, h4]
  have k4 := rs4.cell 0
  dsimp only [List.getElem?_cons_zero] at k4
  have HB4 := Lib.hid hb4
  have HQ3 := Lib.hid q3
  have HQ4 := Lib.hid rs4
  clear rs3 b3 z3 rs4 b4 z4 q3 hb4 h3 h4
  go_upto_region 4 with fail
  clear k4
  go_loopw [8, 9, 15] (fun u8 u9 u15 wx => ∃ (wr : World) (j : Nat) (A3 : Option Addr) (c3 : Nat), wr = wx ∧ j ≤ n ∧ u15 = .int .i64 (j : Int) ∧ u9 = .int .i64 (Col.frS C rs j : Int) ∧ u8 = .slice A3 j c3 ∧ Hid (wr.ownsRow w4.heap.size 3 1 (.slice A3 j c3) j (ivs (ints j))) ∧ Hid (Below w4.heap.size w4 wr)) (fun _ _ u15 _ => n - (intOf u15).toNat)
  case atStart => exact ⟨_, 0, none, 0, rfl, Nat.zero_le _, rfl, rfl, rfl, Lib.hid (World.ownsRow_nil _ _ _ _), Lib.hid (Below.refl _ _)⟩
  case round =>
    obtain ⟨wr, j, A3, c3, rfl, hj, rfl, rfl, rfl, HO, HBR⟩ := hrel
    obtain ⟨f, hf⟩ : ∃ f, Col.frS C rs j = f := ⟨_, rfl⟩
    have hfl : f ≤ 64000 := by have := Col.frS_le C rs j; omega
    rw [hf]
    by_cases hlt : j < n
    · obtain ⟨b, off, x, rfl, hbb, hD, hl, hxk, hrg, _, _, _⟩ := HH.out.at hlt
      have HBN := Lib.hid (HB4.out.trans (HBR.out.mono HB4.out.size))
      have hrw : wr.rangeAt b (off + j * 3) (S.rwL x) := fun q u hq => (HBN.out.cell (p := ⟨b, off + j * 3 + q, none⟩) (Nat.lt_of_lt_of_le hbb HBB.out)).trans (hrg q u hq)
      have hcode : x.r.code = 0 := HC.out x.r (List.mem_of_getElem? hl)
      have HFS : Hid (Col.frS C rs (j + 1) = f + Col.frF C x.r) := Lib.hid (by rw [Col.frS, hf, List.getD, hl]; rfl)
      obtain ⟨fx, hfx⟩ : ∃ fx, Col.frF C x.r = fx := ⟨_, rfl⟩
      have hfx64 : fx ≤ 64 := by rw [← hfx]; exact Col.frF_le _ _
      have HF1 := Lib.hid (fun (W : World) (hW : Below w4.heap.size w4 W) => HFR.out x W w.heap.size (((hxk.more HBB.out).below HB4.out).below (hW.mono HB4.out.size)) (Nat.le_trans HB4.out.size hW.size))
      rw [hfx] at HF1 HFS
      obtain ⟨xv, hxv⟩ : ∃ xv, x.v = xv := ⟨_, rfl⟩
      obtain ⟨wd, hwd⟩ : ∃ wd, x.r.width = wd := ⟨_, rfl⟩
      have hrl : S.rwL x = [.int .i64 0, .int .i64 wd, xv] := by unfold S.rwL; rw [hxv, hwd, hcode]
      have hone : xv.oneCell' = true := by rw [← hxv]; rfl
      rw [hrl] at hrw HF1
      have HON := Lib.hid (show ([.int .i64 0, .int .i64 wd, xv] : List Value).all (·.oneCell') = true by rw [← hxv]; rfl)
      have e1 : (0 : Int) ≤ (j : Int) := by omega
      have e2 : (j : Int) < (n : Int) := by omega
      have e3 : IntKind.i64.wrap ((f : Int) + (fx : Int)) = (f : Int) + (fx : Int) := IntWalk.i64_in _ (by omega)
      clear hbb hD hl hxk hrg hcode hfx hxv hwd hrl hone hf
      go_upto_region 6 with (first
        | (refine wpList_load_mid rfl _ (.tmp 18) rfl b (off + j * 3) rfl [.int .i64 0, .int .i64 wd, xv] _ hrw Tryz.underlying44 rfl S.sizeRw ?_)
        | (refine wpList_allocRow rfl _ rfl _ S.infoRw ?_; intro w5 rz5 b5 z5; clear z5)
        | (refine wpList_storeRow rfl _ (.tmp 11) (.tmp 19) rfl (l' := [.int .i64 0, .int .i64 wd, xv]) rz5 rfl rfl S.sizeRw rfl HON.out ?_; intro w6 rz6 g6 z6; clear z6))
      have hb6 : Below wr.heap.size wr w6 := b5.grown g6 b5.size (fun i hi => by have := Option.some.inj hi; omega)
      obtain ⟨y11, h11⟩ : ∃ y, wr.heap.size = y := ⟨_, rfl⟩
      rw [h11] at rz6 ⊢
      have HY11 := Lib.hid h11
      have c0 := rz6.cell 0
      dsimp only [List.getElem?_cons_zero] at c0
      have HR6 := Lib.hid rz6
      have HB6 := Lib.hid hb6
      have HO6 := Lib.hid (own_below HO.out hb6)
      clear rz5 b5 g6 hrw hb6 h11 rz6
      try simp only [Act.put, List.setIfInBounds_toArray, List.set_cons_zero, List.set_cons_succ]
      go_upto_region 8 with (first
        | (go_at_call 65; refine (HIC.out _).mono ?_; rintro e w6 ⟨rfl, rfl⟩)
        | (at_builtin; refine wpList_app1 rfl (.tmp 28) (.tmp 30) 47 rfl w4.heap.size 3 _ 8 intsT A3 j c3 (ivs (ints j)) (.int .i64 (j : Int)) rfl rfl HO6.out (HBR.out.trans (HB6.out.mono HBR.out.size)) rfl (by omega) (Nat.le_refl _) (Nat.le_trans HBR.out.size HB6.out.size) ?_; intro g8 c8 w8 own8 b8 hg8))
      rw [ints_snoc] at own8
      have hb8 : Below w6.heap.size w6 w8 ∨ True := .inr trivial
      have HO8 := Lib.hid own8
      have HB8 := Lib.hid b8
      have HR8 := Lib.hid (HR6.out.grown hg8.1 (fun e => by have := HO.out.lt y11 e; have := HY11.out; omega))
      clear own8 b8 hg8 hb8 c0
      have hr3 : w8.rangeAt y3 0 [.int .i64 cd, .int .i64 cr, .int .i64 crw, .int .i64 cs, .int .i64 cl, .int .i64 ci] := fun q u hq => by
        rw [Nat.zero_add, (HQ3.out.below' HB8.out).cell]; exact hq
      have hr11 : w8.rangeAt y11 0 [.int .i64 0, .int .i64 wd, xv] := fun q u hq => by
        rw [Nat.zero_add, (HR8.out).cell]; exact hq
      try simp only [Act.put, List.setIfInBounds_toArray, List.set_cons_zero, List.set_cons_succ]
      go_wp2_with (first
        | (refine wpList_load_mid rfl _ (.tmp 3) rfl y3 0 rfl [.int .i64 cd, .int .i64 cr, .int .i64 crw, .int .i64 cs, .int .i64 cl, .int .i64 ci] _ hr3 Tryz.underlying23 rfl S.sizeCf ?_)
        | (refine wpList_load_mid rfl _ (.tmp 11) rfl y11 0 rfl [.int .i64 0, .int .i64 wd, xv] _ hr11 Tryz.underlying44 rfl S.sizeRw ?_)
        | (go_at_call 67; refine (HF1.out _ HB8.out).mono ?_; rintro e w9 ⟨rfl, b9⟩))
      go_roundw
      case rel => exact ⟨_, j + 1, _, c8, rfl, by omega, by go_num, by rw [HFS.out]; go_num, rfl, Lib.hid (own_below HO8.out b9), Lib.hid (HB8.out.trans (b9.mono HB8.out.size))⟩
      case measure => simp [intOf]; omega
    · obtain rfl : j = n := by omega
      have HFF := Lib.hid hf
      have HRI := Lib.hid (Rd.of_own HO.out)
      have HBN := Lib.hid (HB4.out.trans (HBR.out.mono HB4.out.size))
      have HV := Lib.hid (fun (k : Nat) (hk : k < (ints j).length) (W : World) (hW : Below wr.heap.size wr W) => show Calls Tryz.prog 69 #[.int .i64 (ints j)[k], .pointer (some ⟨y4, 0, none⟩)] W fun e w' => e = .returned (.int .i64 (Col.usN rs k)) ∧ Below W.heap.size W w' from by
        rw [ints_get]
        exact vac25_any (HH.out.below ((HBN.out.trans (hW.mono HBN.out.size)).mono HBB.out)) (Nat.le_trans HBB.out (Nat.le_trans HBN.out.size hW.size)) hnc y4 (((HQ4.out.below' HBR.out).below' hW).cell 0) k (by rw [ints_len] at hk; exact hk))
      have HSM := Lib.hid (smallestIn A3 j c3 (ints j) (ints_len j) (by omega) (Col.usN rs) none wr HRI.out (-1) rfl y4 HV.out)
      rw [HR.out] at HSM
      unfold Col.ix at HSM
      dsimp only at HSM
      obtain ⟨bo, oo, rfl, hob, hoc⟩ := HRI.out.get (f := fun x : Int => Value.int .i64 x) (k := r) (by rw [ints_len]; exact hrn)
      rw [ints_get] at hoc
      obtain ⟨b, off, x, hA, hbb, hD, hl, hxk, hrg, c0, c1, c2⟩ := HH.out.at hrn
      have e0 : ¬ ((j : Int) < 2) := by omega
      have e1 : (0 : Int) ≤ (r : Int) := by omega
      have e2 : (r : Int) < (j : Int) := by omega
      have HOC := Lib.hid (And.intro hob hoc)
      clear hob hoc c0 c1
      go_upto_region 12 with fail
      have k4 := ((HQ4.out.below' HBR.out)).cell 0
      dsimp only [List.getElem?_cons_zero] at k4
      go_upto_region 13 with (go_at_call 68; refine HSM.out.mono ?_; rintro e w9 ⟨rfl, b9⟩; have hoc9 := (b9.cell (p := ⟨bo, oo + r, none⟩) HOC.out.1).trans HOC.out.2)
      have HB9 := Lib.hid (HBN.out.trans (b9.mono HBN.out.size))
      have HQ9 := Lib.hid (And.intro ((HQ3.out.below' HBR.out).below' b9) ((HQ4.out.below' HBR.out).below' b9))
      have hxb := (HB9.out.cell (p := ⟨b, off + r * 3, none⟩) (Nat.lt_of_lt_of_le hbb HBB.out)).trans (hrg 0 _ rfl)
      have hxb1 := (HB9.out.cell (p := ⟨b, off + r * 3 + 1, none⟩) (Nat.lt_of_lt_of_le hbb HBB.out)).trans (hrg 1 _ rfl)
      have hxb2 := (HB9.out.cell (p := ⟨b, off + r * 3 + 2, none⟩) (Nat.lt_of_lt_of_le hbb HBB.out)).trans (hrg 2 _ rfl)
      have HX9 := Lib.hid (And.intro (Nat.lt_of_lt_of_le (Nat.lt_of_lt_of_le hbb HBB.out) HB9.out.size) (And.intro hxb (And.intro hxb1 hxb2)))
      have HF9 := Lib.hid (fun (W : World) (hW : Below w9.heap.size w9 W) => HFR.out x W w.heap.size (((hxk.more HBB.out).below HB9.out).below (hW.mono HB9.out.size)) (Nat.le_trans HB9.out.size hW.size))
      obtain ⟨fx, hfx⟩ : ∃ fx, Col.frF C x.r = fx := ⟨_, rfl⟩
      have hgx : rs.getD r S.Str.free = x.r := by rw [List.getD, hl]; rfl
      have hok := HOK.out
      unfold Col.usN at hok
      rw [hgx, hfx, HFF.out] at hok
      rw [hfx] at HF9
      have hfx64 : fx ≤ 64 := by rw [← hfx]; exact Col.frF_le _ _
      obtain ⟨xu, hxu⟩ : ∃ xu, x.r.used.length = xu := ⟨_, rfl⟩
      obtain ⟨wd, hwd⟩ : ∃ wd, x.r.width = wd := ⟨_, rfl⟩
      obtain ⟨cc, hcc⟩ : ∃ cc, x.r.code = cc := ⟨_, rfl⟩
      have hrl : S.rwL x = [.int .i64 cc, .int .i64 wd, .slice x.A xu x.k] := by unfold S.rwL S.RR.v; rw [hxu, hwd, hcc]
      rw [hrl] at HF9
      unfold S.RR.v at HX9
      rw [hxu, hwd, hcc] at HX9
      rw [hxu] at hok
      obtain ⟨xA, hxA⟩ : ∃ y, x.A = y := ⟨_, rfl⟩
      obtain ⟨xk, hxkk⟩ : ∃ y, x.k = y := ⟨_, rfl⟩
      rw [hxA, hxkk] at HX9 HF9
      have e3 : IntKind.i64.wrap ((f : Int) - (fx : Int)) = (f : Int) - (fx : Int) := IntWalk.i64_in _ (by omega)
      have e4 : decide ((f : Int) - (fx : Int) < (xu : Int)) = false := by rw [decide_eq_false_iff_not]; omega
      subst hA
      clear hxb hxb1 hxb2 hgx hfx hxu hwd hcc hrl hxA hxkk hD hl hxk hrg c2 hbb b9 k4 hoc9 hok
      have hv0 : Below w9.heap.size w9 w9.drew := (Below.refl _ _).drew
      refine wp_region_held_drew (S := fun W => Below w9.heap.size w9 W) (by kernel_rfl) (hv0) (fun hHeld => ?_)
      refine wpAnyH_take (i := 0) (oi := { dst := some 47, op := Op.move (Operand.tmp 9), type := 3, pos := "collect.go:134", after := #[], guard := none }) (v := ?v0_1) rfl (by kernel_rfl) (by kernel_rfl) (by kernel_rfl) (fun _ _ _ h => h) (Or.inl ⟨by rfl, ?h0_1⟩) (by assumption) ?r0_1
      case h0_1 =>
        intro W hSW
        try dsimp only at hSW
        go_simp
        try with_reducible rfl
      try simp only [Act.put, List.setIfInBounds_toArray, List.set_cons_zero, List.set_cons_succ]
      refine wpAnyH_take (i := 1) (oi := { dst := some 48, op := Op.load 23 (Operand.tmp 3), type := 23, pos := "collect.go:134", after := #[], guard := none }) (v := ?v1_2) rfl (by kernel_rfl) (by kernel_rfl) (by kernel_rfl) (fun _ _ _ h => h) (Or.inl ⟨by rfl, ?h1_2⟩) (by assumption) ?r1_2
      case h1_2 =>
        intro W hSW
        try dsimp only at hSW
        have c0 := (hSW.cell (p := ⟨y3, 0, none⟩) HQ9.out.1.lt).trans (HQ9.out.1.cell 0)
        have c1 := (hSW.cell (p := ⟨y3, 1, none⟩) HQ9.out.1.lt).trans (HQ9.out.1.cell 1)
        have c2 := (hSW.cell (p := ⟨y3, 2, none⟩) HQ9.out.1.lt).trans (HQ9.out.1.cell 2)
        have c3 := (hSW.cell (p := ⟨y3, 3, none⟩) HQ9.out.1.lt).trans (HQ9.out.1.cell 3)
        have c4 := (hSW.cell (p := ⟨y3, 4, none⟩) HQ9.out.1.lt).trans (HQ9.out.1.cell 4)
        have c5 := (hSW.cell (p := ⟨y3, 5, none⟩) HQ9.out.1.lt).trans (HQ9.out.1.cell 5)
        dsimp only [List.getElem?_cons_zero, List.getElem?_cons_succ] at c0 c1 c2 c3 c4 c5
        go_simp
        try with_reducible rfl
      try simp only [Act.put, List.setIfInBounds_toArray, List.set_cons_zero, List.set_cons_succ]
      refine wpAnyH_take (i := 2) (oi := { dst := some 49, op := Op.load 25 (Operand.tmp 4), type := 25, pos := "collect.go:134", after := #[], guard := none }) (v := ?v2_3) rfl (by kernel_rfl) (by kernel_rfl) (by kernel_rfl) (fun _ _ _ h => h) (Or.inl ⟨by rfl, ?h2_3⟩) (by assumption) ?r2_3
      case h2_3 =>
        intro W hSW
        try dsimp only at hSW
        have c0 := (hSW.cell (p := ⟨y4, 0, none⟩) HQ9.out.2.lt).trans (HQ9.out.2.cell 0)
        dsimp only [List.getElem?_cons_zero] at c0
        go_simp
        try with_reducible rfl
      try simp only [Act.put, List.setIfInBounds_toArray, List.set_cons_zero, List.set_cons_succ]
      refine wpAnyH_take (i := 3) (oi := { dst := some 50, op := Op.move (Operand.tmp 12), type := 3, pos := "collect.go:134", after := #[], guard := none }) (v := ?v3_4) rfl (by kernel_rfl) (by kernel_rfl) (by kernel_rfl) (fun _ _ _ h => h) (Or.inl ⟨by rfl, ?h3_4⟩) (by assumption) ?r3_4
      case h3_4 =>
        intro W hSW
        try dsimp only at hSW
        go_simp
        try with_reducible rfl
      try simp only [Act.put, List.setIfInBounds_toArray, List.set_cons_zero, List.set_cons_succ]
      refine wpAnyH_take (i := 4) (oi := { dst := some 51, op := Op.indexAddr 25 (Operand.tmp 49) (Operand.tmp 50), type := 0, pos := "collect.go:134", after := #[{ on := 2, ground := Ground.data }, { on := 3, ground := Ground.data }], guard := none }) (v := ?v4_5) rfl (by kernel_rfl) (by kernel_rfl) (by kernel_rfl) (fun _ _ _ h => h) (Or.inl ⟨by rfl, ?h4_5⟩) (by assumption) ?r4_5
      case h4_5 =>
        intro W hSW
        try dsimp only at hSW
        go_simp
        try with_reducible rfl
      try simp only [Act.put, List.setIfInBounds_toArray, List.set_cons_zero, List.set_cons_succ]
      refine wpAnyH_take (i := 5) (oi := { dst := some 52, op := Op.load 44 (Operand.tmp 51), type := 44, pos := "collect.go:134", after := #[{ on := 4, ground := Ground.data }], guard := none }) (v := ?v5_6) rfl (by kernel_rfl) (by kernel_rfl) (by kernel_rfl) (fun _ _ _ h => h) (Or.inl ⟨by rfl, ?h5_6⟩) (by assumption) ?r5_6
      case h5_6 =>
        intro W hSW
        try dsimp only at hSW
        have c0 := (hSW.cell (p := ⟨b, off + r * 3, none⟩) HX9.out.1).trans HX9.out.2.1
        have c1 := (hSW.cell (p := ⟨b, off + r * 3 + 1, none⟩) HX9.out.1).trans HX9.out.2.2.1
        have c2 := (hSW.cell (p := ⟨b, off + r * 3 + 2, none⟩) HX9.out.1).trans HX9.out.2.2.2
        go_simp
        try with_reducible rfl
      try simp only [Act.put, List.setIfInBounds_toArray, List.set_cons_zero, List.set_cons_succ]
      refine wpAnyH_take (i := 8) (oi := { dst := some 55, op := Op.load 25 (Operand.tmp 4), type := 25, pos := "collect.go:134", after := #[], guard := none }) (v := ?v8_7) rfl (by kernel_rfl) (by kernel_rfl) (by kernel_rfl) (fun _ _ _ h => h) (Or.inl ⟨by rfl, ?h8_7⟩) (by assumption) ?r8_7
      case h8_7 =>
        intro W hSW
        try dsimp only at hSW
        have c0 := (hSW.cell (p := ⟨y4, 0, none⟩) HQ9.out.2.lt).trans (HQ9.out.2.cell 0)
        dsimp only [List.getElem?_cons_zero] at c0
        go_simp
        try with_reducible rfl
      try simp only [Act.put, List.setIfInBounds_toArray, List.set_cons_zero, List.set_cons_succ]
      refine wpAnyH_take (i := 9) (oi := { dst := some 56, op := Op.move (Operand.tmp 12), type := 3, pos := "collect.go:134", after := #[], guard := none }) (v := ?v9_8) rfl (by kernel_rfl) (by kernel_rfl) (by kernel_rfl) (fun _ _ _ h => h) (Or.inl ⟨by rfl, ?h9_8⟩) (by assumption) ?r9_8
      case h9_8 =>
        intro W hSW
        try dsimp only at hSW
        go_simp
        try with_reducible rfl
      try simp only [Act.put, List.setIfInBounds_toArray, List.set_cons_zero, List.set_cons_succ]
      refine wpAnyH_take (i := 10) (oi := { dst := some 57, op := Op.indexAddr 25 (Operand.tmp 55) (Operand.tmp 56), type := 0, pos := "collect.go:134", after := #[{ on := 8, ground := Ground.data }, { on := 9, ground := Ground.data }], guard := none }) (v := ?v10_9) rfl (by kernel_rfl) (by kernel_rfl) (by kernel_rfl) (fun _ _ _ h => h) (Or.inl ⟨by rfl, ?h10_9⟩) (by assumption) ?r10_9
      case h10_9 =>
        intro W hSW
        try dsimp only at hSW
        go_simp
        try with_reducible rfl
      try simp only [Act.put, List.setIfInBounds_toArray, List.set_cons_zero, List.set_cons_succ]
      refine wpAnyH_take (i := 11) (oi := { dst := some 58, op := Op.fieldAddr 44 (Operand.tmp 57) 2, type := 0, pos := "collect.go:134", after := #[{ on := 10, ground := Ground.data }], guard := none }) (v := ?v11_10) rfl (by kernel_rfl) (by kernel_rfl) (by kernel_rfl) (fun _ _ _ h => h) (Or.inl ⟨by rfl, ?h11_10⟩) (by assumption) ?r11_10
      case h11_10 =>
        intro W hSW
        try dsimp only at hSW
        go_simp
        try with_reducible rfl
      try simp only [Act.put, List.setIfInBounds_toArray, List.set_cons_zero, List.set_cons_succ]
      refine wpAnyH_take (i := 12) (oi := { dst := some 59, op := Op.load 42 (Operand.tmp 58), type := 42, pos := "collect.go:134", after := #[{ on := 11, ground := Ground.data }], guard := none }) (v := ?v12_11) rfl (by kernel_rfl) (by kernel_rfl) (by kernel_rfl) (fun _ _ _ h => h) (Or.inl ⟨by rfl, ?h12_11⟩) (by assumption) ?r12_11
      case h12_11 =>
        intro W hSW
        try dsimp only at hSW
        have c2 := (hSW.cell (p := ⟨b, off + r * 3 + 2, none⟩) HX9.out.1).trans HX9.out.2.2.2
        go_simp
        try with_reducible rfl
      try simp only [Act.put, List.setIfInBounds_toArray, List.set_cons_zero, List.set_cons_succ]
      refine wpAnyH_take (i := 13) (oi := { dst := some 60, op := Op.call { callee := Callee.builtin Builtin.len, args := #[Operand.tmp 59], argTypes := #[42] }, type := 3, pos := "collect.go:134", after := #[{ on := 12, ground := Ground.data }], guard := none }) (v := ?v13_12) rfl (by kernel_rfl) (by kernel_rfl) (by kernel_rfl) (fun _ _ _ h => h) (Or.inl ⟨by rfl, ?h13_12⟩) (by assumption) ?r13_12
      case h13_12 =>
        intro W hSW
        try dsimp only at hSW
        go_simp
        try with_reducible rfl
      try simp only [Act.put, List.setIfInBounds_toArray, List.set_cons_zero, List.set_cons_succ]
      refine wpAnyH_ready (rs := [6]) (by kernel_rfl) (by simp) ?_
      refine AllReadyH.cons (o := { dst := some 53, op := Op.call { callee := Callee.value (Operand.func 67), args := #[Operand.tmp 48, Operand.tmp 52], argTypes := #[23, 44] }, type := 3, pos := "collect.go:134", after := #[{ on := 1, ground := Ground.data }, { on := 5, ground := Ground.data }], guard := none }) rfl (fun K hK => ?_) AllReadyH.nil
      go_simp
      refine (HF9.out _ hv0).mono ?_
      rintro e w20 ⟨rfl, b20⟩
      have hv20 : Below w9.heap.size w9 w20 := hv0.trans (b20.mono hv0.size)
      clear b20
      refine hK.out _ _ (hv20) (fun hHeld => ?_)
      clear hK K
      try simp only [Act.put, List.setIfInBounds_toArray, List.set_cons_zero, List.set_cons_succ]
      refine wpAnyH_take (i := 7) (oi := { dst := some 54, op := Op.binOp BinOp.sub 3 (Operand.tmp 47) (Operand.tmp 53) 3, type := 3, pos := "collect.go:134", after := #[{ on := 0, ground := Ground.data }, { on := 6, ground := Ground.data }], guard := none }) (v := ?v7_13) rfl (by kernel_rfl) (by kernel_rfl) (by kernel_rfl) (fun _ _ _ h => h) (Or.inl ⟨by rfl, ?h7_13⟩) (by assumption) ?r7_13
      case h7_13 =>
        intro W hSW
        try dsimp only at hSW
        go_simp
        try with_reducible rfl
      try simp only [Act.put, List.setIfInBounds_toArray, List.set_cons_zero, List.set_cons_succ]
      refine wpAnyH_take (i := 14) (oi := { dst := some 61, op := Op.binOp BinOp.lss 3 (Operand.tmp 54) (Operand.tmp 60) 3, type := 4, pos := "collect.go:134", after := #[{ on := 7, ground := Ground.data }, { on := 13, ground := Ground.data }], guard := none }) (v := ?v14_14) rfl (by kernel_rfl) (by kernel_rfl) (by kernel_rfl) (fun _ _ _ h => h) (Or.inl ⟨by rfl, ?h14_14⟩) (by assumption) ?r14_14
      case h14_14 =>
        intro W hSW
        try dsimp only at hSW
        go_simp
        try with_reducible rfl
      try simp only [Act.put, List.setIfInBounds_toArray, List.set_cons_zero, List.set_cons_succ]
      refine wpAnyH_done (by kernel_rfl) ?_ _
      go_wp2_with fail
      go_ret2
      exact ⟨rfl, HB9.out.trans ((hv20).mono HB9.out.size)⟩
end
end Go.Proofs.YtihhkcndcgljbaaGreat
