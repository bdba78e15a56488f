/- The specification's Valid and Same; equality of stripes and of used stripes. Conditions: the rows are kept. -/
import Derived.Test.YtihhkcndcgljbaaGreatStrU
import Derived.Test.YtihhkcndcgljbaaGreatHeld2
namespace Go.Proofs.YtihhkcndcgljbaaGreat.S
set_option linter.unusedVariables false
set_option linter.unusedSimpArgs false
open Go.RowKit
section
theorem part_s0 (w : World) (r g : Int) : (part 3 #[.int .i64 r, .int .i64 g] 0).run Tryz.prog w = .ok (.int .i64 r) w := by kernel_rfl
theorem part_s1 (w : World) (r g : Int) : (part 3 #[.int .i64 r, .int .i64 g] 1).run Tryz.prog w = .ok (.int .i64 g) w := by kernel_rfl
theorem stF : ∃ f0 f1 : Field, Tryz.prog.underlying 35 = some (.struct #[f0, f1]) ∧ (f0.type = 3 ∧ f0.offset = 0 ∧ f0.name ≠ "_") ∧ (f1.type = 3 ∧ f1.offset = 1 ∧ f1.name ≠ "_") :=
  ⟨_, _, Tryz.underlying35, ⟨rfl, rfl, by decide⟩, ⟨rfl, rfl, by decide⟩⟩
theorem run_eq2 {t : TypeId} (d : Nat) (r g r' g' : Int) (w : World) (hF : ∃ f0 f1 : Field, Tryz.prog.underlying t = some (.struct #[f0, f1]) ∧ (f0.type = 3 ∧ f0.offset = 0 ∧ f0.name ≠ "_") ∧ (f1.type = 3 ∧ f1.offset = 1 ∧ f1.name ≠ "_")) (hz : Tryz.prog.stoodInHeld t = false) : (Op.equalIn (d + 2) t (stV r g) (stV r' g')).run Tryz.prog w = .ok (decide (r = r' ∧ g = g')) w := by
  obtain ⟨f0, f1, hu, ⟨a1, a2, a3⟩, ⟨b1, b2, b3⟩⟩ := hF
  have hf : Tryz.prog.fieldsOf t = #[f0, f1] := by unfold Program.fieldsOf; rw [hu]
  unfold stV
  rw [run_equalIn_struct w (d + 1) _ _ _ (by rw [hf]; exact hu) hz, hf]
  simp only [Op.eqFields, a1, a2, b1, b2, ne_eq, a3, b3, not_false_eq_true, if_true, Sem.run_bind, part_s0, part_s1, Result.andThen_ok, run_equalIn_int w d _ .i64 .i64 _ _ Tryz.underlying3, Sem.run_ite, Sem.run_pure]
  by_cases h1 : r = r'
  · by_cases h2 : g = g'
    · subst h1 h2; simp
    · simp [h1, h2]
  · simp [h1]
theorem eql_st (w : World) (r g r' g' : Int) : (binOp .eql 35 (stV r g) (stV r' g')).run Tryz.prog w = .ok (.bool (decide (r = r' ∧ g = g'))) w := by
  have h' := run_eq2 9998 r g r' g' w stF (by kernel_rfl)
  unfold stV at h' ⊢
  rw [run_eql_struct]
  rw [h']; simp [Result.andThen]
end
namespace Str
/-- row i is valid beside those before it -/
def okAt (cf : Cfg) (l : List Rw) (i : Nat) : Bool := right cf (l.getD i free) && (List.range i).all fun k => !decide ((l.getD k free).code = (l.getD i free).code) || decide ((l.getD k free).width = (l.getD i free).width)
def validB (cf : Cfg) (l : List Rw) : Bool := cf.ok && decide ((l.length : Int) = cf.rows) && (List.range l.length).all (okAt cf l)
theorem validB_iff {cf : Cfg} {l : List Rw} : validB cf l = true ↔ Valid cf l := by
  unfold validB
  simp only [Bool.and_eq_true, decide_eq_true_iff, List.all_eq_true, List.mem_range]
  constructor
  · rintro ⟨⟨h1, h2⟩, h3⟩
    refine ⟨h1, h2, fun r hr => ?_, fun r hr s hs e => ?_⟩
    · obtain ⟨i, hi, rfl⟩ := List.getElem_of_mem hr
      have := h3 i hi
      unfold okAt at this
      rw [Bool.and_eq_true, getD_of (List.getElem?_eq_getElem hi)] at this
      exact right_iff.1 this.1
    · obtain ⟨i, hi, rfl⟩ := List.getElem_of_mem hr
      obtain ⟨k, hk, rfl⟩ := List.getElem_of_mem hs
      have key : ∀ (i k : Nat) (hi : i < l.length) (hk : k < l.length), k < i → l[k].code = l[i].code → l[k].width = l[i].width := fun i k hi hk hki e => by
        have := h3 i hi
        unfold okAt at this
        rw [Bool.and_eq_true, List.all_eq_true] at this
        have := this.2 k (List.mem_range.2 hki)
        rw [getD_of (List.getElem?_eq_getElem hi), getD_of (List.getElem?_eq_getElem hk)] at this
        simpa [e] using this
      rcases Nat.lt_trichotomy i k with h | h | h
      · exact key k i hk hi h e
      · subst h; rfl
      · exact (key i k hi hk h e.symm).symm
  · rintro ⟨h1, h2, h3, h4⟩
    refine ⟨⟨h1, h2⟩, fun i hi => ?_⟩
    unfold okAt
    rw [Bool.and_eq_true, List.all_eq_true, getD_of (List.getElem?_eq_getElem hi)]
    refine ⟨right_iff.2 (h3 _ (List.getElem_mem hi)), fun k hk => ?_⟩
    have hk := List.mem_range.1 hk
    have hkl : k < l.length := by omega
    rw [getD_of (List.getElem?_eq_getElem hkl)]
    by_cases e : l[k].code = l[i].code
    · simp [e, h4 _ (List.getElem_mem hkl) _ (List.getElem_mem hi) e]
    · simp [e]
theorem validB_len {cf : Cfg} {l : List Rw} (h : ¬ (cf.ok = true ∧ (l.length : Int) = cf.rows)) : validB cf l = false := by
  unfold validB
  by_cases h1 : cf.ok = true
  · have : ¬ (l.length : Int) = cf.rows := fun e => h ⟨h1, e⟩
    simp [this]
  · simp [h1]
theorem validB_eq {cf : Cfg} {l : List Rw} (h1 : cf.ok = true) (h2 : (l.length : Int) = cf.rows) : validB cf l = (List.range l.length).all (okAt cf l) := by
  unfold validB; simp [h1, h2]
theorem all_no {f : Nat → Bool} {n i : Nat} (hi : i < n) (h : f i = false) : (List.range n).all f = false := by
  cases hc : (List.range n).all f with
  | false => rfl
  | true =>
    rw [List.all_eq_true] at hc
    rw [hc i (List.mem_range.2 hi)] at h; cases h
theorem all_yes {f : Nat → Bool} {n : Nat} (h : ∀ i, i < n → f i = true) : (List.range n).all f = true := by
  rw [List.all_eq_true]; exact fun i hi => h i (List.mem_range.1 hi)
end Str
namespace Str
theorem okAt_of {cf : Cfg} {l : List Rw} {i : Nat} {r : Rw} (h : l[i]? = some r) (h1 : right cf r = true) (h2 : ∀ k, k < i → ∀ s, l[k]? = some s → s.code = r.code → s.width = r.width) : okAt cf l i = true := by
  unfold okAt
  rw [getD_of h, h1, Bool.true_and]
  refine all_yes fun k hk => ?_
  have hk' : k < l.length := by have := (List.getElem?_eq_some_iff.1 h).1; omega
  rw [getD_of (List.getElem?_eq_getElem hk')]
  by_cases e : l[k].code = r.code
  · simp [e, h2 k hk _ (List.getElem?_eq_getElem hk') e]
  · simp [e]
theorem okAt_right {cf : Cfg} {l : List Rw} {i : Nat} {r : Rw} (h : l[i]? = some r) (h1 : right cf r = false) : okAt cf l i = false := by
  unfold okAt
  rw [getD_of h, h1, Bool.false_and]
theorem okAt_pair {cf : Cfg} {l : List Rw} {i k : Nat} {r s : Rw} (h : l[i]? = some r) (hk : k < i) (hs : l[k]? = some s) (e : s.code = r.code) (hw : s.width ≠ r.width) : okAt cf l i = false := by
  unfold okAt
  rw [getD_of h, all_no hk (by rw [getD_of hs]; simp [e, hw]), Bool.and_false]
end Str
set_option maxRecDepth 100000 in
set_option maxHeartbeats 6400000 in
/-- the specification's Valid -/
theorem rvalid_any (cf : Str.Cfg) {w : World} {B n c : Nat} {A : Option Addr} {D : List RR} {l : List Str.Rw} (h : RowsIn w B A n D l) (hB : B ≤ w.heap.size) (hnc : n ≤ c) :
    Calls Tryz.prog 6 #[cfV cf, .slice A n c] w fun e w' => e = .returned (.bool (Str.validB cf l)) ∧ Below w.heap.size w w' := by
  have hmx := h.mx
  have HLN := Lib.hid h.len
  have HR := Lib.hid (h.more hB)
  have HCK := Lib.hid (fun W => rcheck_any cf W)
  have HRC := Lib.hid (fun (x : RR) (W : World) (hx : x.In W W.heap.size) => right_any cf x W.heap.size W hx (Nat.le_refl _))
  have HCV : Hid (cfV cf = .agg (cfL cf).toArray) := Lib.hid rfl
  have HCL : Hid ((cfL cf).length = 6 ∧ (cfL cf)[2]? = some (.int .i64 cf.rows)) := Lib.hid ⟨rfl, rfl⟩
  obtain ⟨f, hf⟩ : ∃ f, Str.okAt cf l = f := ⟨_, rfl⟩
  have HF := Lib.hid hf
  have HV1 := Lib.hid (fun h => Str.validB_len (cf := cf) (l := l) h)
  have HV2 := Lib.hid (fun h1 h2 => (Str.validB_eq (cf := cf) (l := l) h1 h2).trans (by rw [hf]))
  obtain ⟨Z, hZ⟩ : ∃ Z, Str.validB cf l = Z := ⟨_, rfl⟩
  rw [hZ] at HV1 HV2 ⊢
  obtain ⟨O, hO⟩ : ∃ O, cf.ok = O := ⟨_, rfl⟩
  rw [hO] at HV1 HV2 HCK
  obtain ⟨q, hq⟩ : ∃ q : Int, (if O = true then 0 else 1) = q := ⟨_, rfl⟩
  have HQ : Hid ((O = false ∧ q = 1) ∨ (O = true ∧ q = 0)) := Lib.hid (by rw [← hq]; cases O <;> simp)
  rw [hq] at HCK
  obtain ⟨R, hR⟩ : ∃ R, cf.rows = R := ⟨_, rfl⟩
  rw [hR] at HV1 HV2 HCL
  rw [HCV.out] at HCK HRC ⊢
  obtain ⟨cl, hcl⟩ : ∃ y, cfL cf = y := ⟨_, rfl⟩
  rw [hcl] at HCK HRC HCL ⊢
  have HHB := Lib.hid hB
  clear h hB hf hZ hO hcl hR hq
  go_enter Tryz.func6, Tryz.ntmps6
  go_upto_region 1 with (refine wpList_boxRow rfl _ (.tmp 0) rfl cl rfl rfl ?_; intro w1 r1 b1 z1; clear z1; simp only [put_some, List.setIfInBounds_toArray, List.set_cons_succ, List.set_cons_zero])
  have hrg : w1.rangeAt w.heap.size 0 cl := fun j v hv => by rw [Nat.zero_add, r1.cell]; exact hv
  have HCF := Lib.hid r1
  have HB1 := Lib.hid b1
  clear r1 b1
  go_upto_region 2 with (first
    | (refine wpList_load_rg rfl _ (.tmp 2) rfl w.heap.size 0 rfl cl _ hrg Tryz.underlying23 rfl (by rw [HCL.out.1]; exact sizeCf) ?_)
    | (go_at_call 24; refine (HCK.out _).mono ?_; rintro e w2 ⟨rfl, b2⟩))
  have HB2 := Lib.hid (HB1.out.trans (b2.mono HB1.out.size))
  have HB21 := Lib.hid b2
  have k2 : w2.cell? ⟨w.heap.size, 2, none⟩ = some (.int .i64 R) := ((HCF.out.below' b2).cell 2).trans HCL.out.2
  clear hrg b2
  have hq := HQ.out
  rcases hq with ⟨rfl, rfl⟩ | ⟨rfl, rfl⟩
  · have HZ : Hid (Z = false) := Lib.hid (HV1.out (by rintro ⟨h, _⟩; cases h))
    go_wp2_with fail
    go_ret
    exact ⟨by have h := HZ.out; subst h; rfl, HB2.out⟩
  · by_cases hln : (n : Int) = R
    · have HV : Hid (Z = (List.range n).all f) := Lib.hid (by
        have := HV2.out rfl (by rw [HLN.out.2]; exact hln)
        rw [HLN.out.2] at this; exact this)
      have hlb : ((n : Int) != R) = false := by simp [hln]
      clear hln
      go_upto_region 5 with fail
      go_loopw [6, 7, 8] (fun u6 u7 u8 wr => ∃ i : Nat, i ≤ n ∧ u6 = .int .i64 (i : Int) ∧ Hid (∀ j, j < i → f j = true) ∧ Hid (Below w1.heap.size w1 wr)) (fun u6 _ _ _ => n - (intOf u6).toNat)
      case atStart => exact ⟨0, Nat.zero_le _, rfl, Lib.hid (fun j hj => absurd hj (Nat.not_lt_zero j)), HB21⟩
      case round =>
        obtain ⟨i, hi, rfl, HI, HB⟩ := hrel
        by_cases hlt : i < n
        · obtain ⟨b, off, x, rfl, hbb, hxD, hxl, hxi, hrg, c0, c1, -⟩ := (HR.out.below (HB1.out.trans (HB.out.mono HB1.out.size))).at hlt
          have hbw : b < wr.heap.size := Nat.lt_of_lt_of_le hbb (HB1.out.trans (HB.out.mono HB1.out.size)).size
          have HRG : Hid (∀ V, Below wr.heap.size wr V → V.rangeAt b (off + i * 3) (rwL x)) := Lib.hid fun V hV j v hv => (hV.cell (p := ⟨b, off + i * 3 + j, none⟩) hbw).trans (hrg j v hv)
          have HX := Lib.hid (And.intro hxl (hxi.more (Nat.le_trans (Nat.le_refl _) (HB1.out.trans (HB.out.mono HB1.out.size)).size)))
          have HRX : Hid (∀ W, Below wr.heap.size wr W → Calls Tryz.prog 25 #[.agg cl.toArray, .agg (rwL x).toArray] W fun e w' => e = .returned (.bool (Str.right cf x.r)) ∧ Below W.heap.size W w') := Lib.hid fun W hW => HRC.out x W ((HX.out.2.below hW).more hW.size)
          obtain ⟨S1, hS1⟩ : ∃ S, Str.right cf x.r = S := ⟨_, rfl⟩
          rw [hS1] at HRX
          have HS1 := Lib.hid hS1
          have HCC := Lib.hid (fun (V : World) (hV : Below wr.heap.size wr V) => And.intro ((hV.cell (p := ⟨b, off + i * 3, none⟩) hbw).trans c0) ((hV.cell (p := ⟨b, off + i * 3 + 1, none⟩) hbw).trans c1))
          have HBW := Lib.hid hbw
          obtain ⟨xr, hxr⟩ : ∃ r, x.r = r := ⟨_, rfl⟩
          have e1 : (0 : Int) ≤ (i : Int) := by omega
          have e2 : (i : Int) < (n : Int) := by omega
          obtain ⟨rl, hrl⟩ : ∃ y, rwL x = y := ⟨_, rfl⟩
          have HRL : Hid (rl.length = 3) := Lib.hid (by rw [← hrl]; rfl)
          rw [hrl] at HRG HRX
          obtain ⟨xc, hxc⟩ : ∃ y, x.r.code = y := ⟨_, rfl⟩
          obtain ⟨xw, hxw⟩ : ∃ y, x.r.width = y := ⟨_, rfl⟩
          rw [hxc, hxw] at HCC
          have HXC := Lib.hid (And.intro hxc hxw)
          clear hxD hxl hxi hrg c0 c1 hbb hS1 hrl hxr hbw k2 hxc hxw
          go_upto_region 7 with fail
          have hv0 : Below wr.heap.size wr wr.drew := (Below.refl _ _).drew
          refine wp_region_held_drew (S := fun W => Below wr.heap.size wr W) (by kernel_rfl) (hv0) (fun hHeld => ?_)
          refine wpAnyH_take (i := 0) (oi := { dst := some 26, op := Op.load 23 (Operand.tmp 2), type := 23, pos := "ref.go:47", after := #[], guard := none }) (v := .agg cl.toArray) rfl (by kernel_rfl) (by kernel_rfl) (by kernel_rfl) (fun _ _ _ h => h) (yieldsIf_load_mid (by rfl) 23 (.tmp 2) rfl w.heap.size 0 rfl cl _ (fun V hV => fun j v hv => by rw [Nat.zero_add, (HCF.out.below' (HB.out.trans (hV.mono HB.out.size))).cell]; exact hv) Tryz.underlying23 rfl (by rw [HCL.out.1]; exact sizeCf)) (by assumption) ?_
          try simp only [Act.put, List.setIfInBounds_toArray, List.set_cons_zero, List.set_cons_succ]
          refine wpAnyH_take (i := 1) (oi := { dst := some 27, op := Op.move (Operand.tmp 1), type := 25, pos := "ref.go:47", after := #[], guard := none }) (v := ?v1_72) rfl (by kernel_rfl) (by kernel_rfl) (by kernel_rfl) (fun _ _ _ h => h) (Or.inl ⟨by rfl, ?h1_72⟩) (by assumption) ?r1_72
          case h1_72 =>
            intro W hSW
            try dsimp only at hSW
            go_simp
            try with_reducible rfl
          try simp only [Act.put, List.setIfInBounds_toArray, List.set_cons_zero, List.set_cons_succ]
          refine wpAnyH_take (i := 2) (oi := { dst := some 28, op := Op.move (Operand.tmp 6), type := 3, pos := "ref.go:47", after := #[], guard := none }) (v := ?v2_73) rfl (by kernel_rfl) (by kernel_rfl) (by kernel_rfl) (fun _ _ _ h => h) (Or.inl ⟨by rfl, ?h2_73⟩) (by assumption) ?r2_73
          case h2_73 =>
            intro W hSW
            try dsimp only at hSW
            go_simp
            try with_reducible rfl
          try simp only [Act.put, List.setIfInBounds_toArray, List.set_cons_zero, List.set_cons_succ]
          refine wpAnyH_take (i := 3) (oi := { dst := some 29, op := Op.indexAddr 25 (Operand.tmp 27) (Operand.tmp 28), type := 0, pos := "ref.go:47", after := #[{ on := 1, ground := Ground.data }, { on := 2, ground := Ground.data }], guard := none }) (v := ?v3_74) rfl (by kernel_rfl) (by kernel_rfl) (by kernel_rfl) (fun _ _ _ h => h) (Or.inl ⟨by rfl, ?h3_74⟩) (by assumption) ?r3_74
          case h3_74 =>
            intro W hSW
            try dsimp only at hSW
            go_simp
            try with_reducible rfl
          try simp only [Act.put, List.setIfInBounds_toArray, List.set_cons_zero, List.set_cons_succ]
          refine wpAnyH_take (i := 4) (oi := { dst := some 30, op := Op.load 44 (Operand.tmp 29), type := 44, pos := "ref.go:47", after := #[{ on := 3, ground := Ground.data }], guard := none }) (v := .agg rl.toArray) rfl (by kernel_rfl) (by kernel_rfl) (by kernel_rfl) (fun _ _ _ h => h) (yieldsIf_load_mid (by rfl) 44 (.tmp 29) rfl b (off + i * 3) rfl rl _ (fun V hV => HRG.out V hV) Tryz.underlying44 rfl (by rw [HRL.out]; exact sizeRw)) (by assumption) ?_
          try simp only [Act.put, List.setIfInBounds_toArray, List.set_cons_zero, List.set_cons_succ]
          refine wpAnyH_ready (rs := [5]) (by kernel_rfl) (by simp) ?_
          refine AllReadyH.cons (o := { dst := some 31, op := Op.call { callee := Callee.value (Operand.func 25), args := #[Operand.tmp 26, Operand.tmp 30], argTypes := #[23, 44] }, type := 4, pos := "ref.go:47", after := #[{ on := 0, ground := Ground.data }, { on := 4, ground := Ground.data }], guard := none }) rfl (fun K hK => ?_) AllReadyH.nil
          go_simp
          go_at_call 25
          refine (HRX.out wr.drew hv0).mono ?_
          rintro e w30 ⟨rfl, b30⟩
          have hv30 : Below wr.heap.size wr w30 := hv0.trans (b30.mono hv0.size)
          clear b30
          refine hK.out _ _ (hv30) (fun hHeld => ?_)
          clear hK K
          try simp only [Act.put, List.setIfInBounds_toArray, List.set_cons_zero, List.set_cons_succ]
          refine wpAnyH_take (i := 6) (oi := { dst := some 7, op := Op.assign (Operand.tmp 31), type := 4, pos := "ref.go:47", after := #[{ on := 5, ground := Ground.data }, { on := 5, ground := Ground.chain }, { on := 0, ground := Ground.phase }, { on := 1, ground := Ground.phase }, { on := 2, ground := Ground.phase }, { on := 3, ground := Ground.phase }, { on := 4, ground := Ground.phase }, { on := 5, ground := Ground.phase }], guard := none }) (v := ?v6_76) rfl (by kernel_rfl) (by kernel_rfl) (by kernel_rfl) (fun _ _ _ h => h) (Or.inl ⟨by rfl, ?h6_76⟩) (by assumption) ?r6_76
          case h6_76 =>
            intro W hSW
            try dsimp only at hSW
            go_simp
            try with_reducible rfl
          try simp only [Act.put, List.setIfInBounds_toArray, List.set_cons_zero, List.set_cons_succ]
          refine wpAnyH_done (by kernel_rfl) ?_ _
          have HBR := Lib.hid hv30
          have HBN := Lib.hid ((HB1.out.trans (HB.out.mono HB1.out.size)).trans (hv30.mono (HB1.out.trans (HB.out.mono HB1.out.size)).size))
          obtain ⟨wn, hwn⟩ : ∃ y, w30 = y := ⟨_, rfl⟩
          rw [hwn] at HBR HBN ⊢
          clear hv30 hHeld hwn
          cases S1 with
          | false =>
            have HZ : Hid (Z = false) := Lib.hid (by rw [HV.out]; exact Str.all_no hlt (by rw [← HF.out]; exact Str.okAt_right HX.out.1 HS1.out))
            go_wp2_with fail
            go_ret
            exact ⟨by have h := HZ.out; subst h; rfl, HBN.out⟩
          | true =>
            go_upto_region 11 with fail
            obtain ⟨wo, hwo⟩ : ∃ wo, wn = wo := ⟨_, rfl⟩
            rw [hwo] at HBN HBR ⊢
            clear hwo
            go_loopw [8] (fun u8 wx => ∃ (k : Nat), k ≤ i ∧ u8 = .int .i64 (k : Int) ∧ Hid (∀ k', k' < k → ∀ s, l[k']? = some s → s.code = xc → s.width = xw) ∧ Hid (∃ wy, wy = wx ∧ Below wo.heap.size wo wy)) (fun u8 _ => i - (intOf u8).toNat)
            case atStart => exact ⟨0, Nat.zero_le _, rfl, Lib.hid (fun k' hk => absurd hk (Nat.not_lt_zero k')), Lib.hid ⟨_, rfl, Below.refl _ _⟩⟩
            case round =>
              obtain ⟨k, hk, rfl, HP, HBY⟩ := hrel
              obtain ⟨wy, hwy, hby⟩ := HBY.out
              have HBY2 := Lib.hid hby
              have HBV := Lib.hid (HBR.out.trans (hby.mono HBR.out.size))
              obtain ⟨c0, c1⟩ := HCC.out wy HBV.out
              by_cases hkl : k < i
              · obtain ⟨b', off', y, hA', hbb', hyD, hyl, hyi, -, d0, d1, -⟩ := (HR.out.below ((HB1.out.trans (HB.out.mono HB1.out.size)).trans (HBV.out.mono (HB1.out.trans (HB.out.mono HB1.out.size)).size))).at (k := k) (by omega)
                injection hA' with hA'
                injection hA' with hA1 hA2
                subst hA1 hA2
                have HY := Lib.hid hyl
                obtain ⟨yc, hyc⟩ : ∃ v, y.r.code = v := ⟨_, rfl⟩
                obtain ⟨yw, hyw⟩ : ∃ v, y.r.width = v := ⟨_, rfl⟩
                rw [hyc] at d0
                rw [hyw] at d1
                have HYC := Lib.hid (And.intro hyc hyw)
                have e3 : (0 : Int) ≤ (k : Int) := by omega
                have e4 : (k : Int) < (n : Int) := by omega
                rw [hwy] at c0 c1 d0 d1 HBY2 HBV
                clear hyD hyl hyi hbb' hyc hyw hwy hby HBY
                by_cases hc : yc = xc
                · have hcb : (yc == xc) = true := by simp [hc]
                  by_cases hw : yw = xw
                  · have hwb : (yw != xw) = false := by simp [hw]
                    have HN : Hid (∀ k', k' < k + 1 → ∀ s, l[k']? = some s → s.code = xc → s.width = xw) := Lib.hid fun k' hk' s hs he => by
                      rcases Nat.lt_or_ge k' k with h | h
                      · exact HP.out k' h s hs he
                      · obtain rfl : k' = k := by omega
                        obtain rfl : s = y.r := Option.some.inj (hs.symm.trans HY.out)
                        rw [HYC.out.2]; exact hw
                    clear hc hw
                    go_wp2_with fail
                    go_quiet (fail)
                    go_wp2_with fail
                    go_roundw
                    case rel => exact ⟨k + 1, by omega, by go_num, HN, Lib.hid ⟨_, rfl, below_drewN HBY2.out _⟩⟩
                    case measure => simp [intOf]; omega
                  · have hwb : (yw != xw) = true := by simp [hw]
                    have HZ : Hid (Z = false) := Lib.hid (by
                      rw [HV.out]; refine Str.all_no hlt ?_
                      rw [← HF.out]
                      exact Str.okAt_pair HX.out.1 hkl HY.out (by rw [HYC.out.1, HXC.out.1]; exact hc) (by rw [HYC.out.2, HXC.out.2]; exact hw))
                    clear hc hw
                    go_wp2_with fail
                    go_quiet (fail)
                    go_wp2_with fail
                    go_ret
                    exact ⟨by have h := HZ.out; subst h; rfl, below_drewN (HBN.out.trans (HBY2.out.mono HBN.out.size)) _⟩
                · have hcb : (yc == xc) = false := by simp [hc]
                  have HN : Hid (∀ k', k' < k + 1 → ∀ s, l[k']? = some s → s.code = xc → s.width = xw) := Lib.hid fun k' hk' s hs he => by
                    rcases Nat.lt_or_ge k' k with h | h
                    · exact HP.out k' h s hs he
                    · obtain rfl : k' = k := by omega
                      obtain rfl : s = y.r := Option.some.inj (hs.symm.trans HY.out)
                      rw [HYC.out.1] at he; exact absurd he hc
                  clear hc
                  go_wp2_with fail
                  go_quiet (fail)
                  go_wp2_with fail
                  go_roundw
                  case rel => exact ⟨k + 1, by omega, by go_num, HN, Lib.hid ⟨_, rfl, below_drewN HBY2.out _⟩⟩
                  case measure => simp [intOf]; omega
              · obtain rfl : k = i := by omega
                have HNX : Hid (∀ j, j < k + 1 → f j = true) := Lib.hid fun j hj => by
                  rcases Nat.lt_or_ge j k with h | h
                  · exact HI.out j h
                  · obtain rfl : j = k := by omega
                    rw [← HF.out]
                    exact Str.okAt_of HX.out.1 HS1.out (fun k' hk' s hs he => by rw [HXC.out.2]; exact HP.out k' hk' s hs (by rw [he, HXC.out.1]))
                rw [hwy] at HBV HBY2
                clear hwy hby HBY c0 c1
                go_wp2_with fail
                go_roundw
                case rel => exact ⟨k + 1, by omega, by go_num, HNX, Lib.hid (HB.out.trans (HBV.out.mono HB.out.size))⟩
                case measure => simp [intOf]; omega
        · obtain rfl : i = n := by omega
          have HZ : Hid (Z = true) := Lib.hid (by rw [HV.out]; exact Str.all_yes HI.out)
          go_wp2_with fail
          go_ret
          exact ⟨by have h := HZ.out; subst h; rfl, HB1.out.trans (HB.out.mono HB1.out.size)⟩
    · have HZ : Hid (Z = false) := Lib.hid (HV1.out (by rintro ⟨_, h⟩; rw [HLN.out.2] at h; exact hln h))
      have hlb : ((n : Int) != R) = true := by simp [hln]
      clear hln
      go_wp2_with fail
      go_ret
      exact ⟨by have h := HZ.out; subst h; rfl, HB2.out⟩
end Go.Proofs.YtihhkcndcgljbaaGreat.S
