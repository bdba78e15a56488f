/- Charge: Media, the program's and the specification's. Conditions: the rows are kept. -/
import Derived.Test.YtfllkaeaanahmaaGreatChaF
import Derived.Test.YtfllkaeaanahmaaGreatStrF
namespace Go.Proofs.YtfllkaeaanahmaaGreat
set_option linter.unusedVariables false
set_option linter.unusedSimpArgs false
open Go.RowKit
namespace Cha
def busy (rs : List S.Str.Rw) : Nat → Nat
 | 0 => 0
 | k + 1 => busy rs k + if 0 ≤ (rs.getD k S.Str.free).code then 1 else 0
theorem busy_le (rs : List S.Str.Rw) : ∀ k, busy rs k ≤ k
 | 0 => Nat.le_refl 0
 | k + 1 => by
  have := busy_le rs k
  unfold busy
  split <;> omega
def mediaT (cf : S.Str.Cfg) (rs : List S.Str.Rw) : Int := metaT cf + cf.d * (busy rs rs.length : Nat)
theorem busy_held' {rs : List S.Str.Rw} (h : ∀ r ∈ rs, r.code = -1 ∨ 0 ≤ r.code) : ∀ k, k ≤ rs.length → busy rs k + (rs.take k).countP (fun r => decide (r.code = -1)) = k
 | 0, _ => by simp [busy]
 | k + 1, hk => by
  have ih := busy_held' h k (by omega)
  rw [List.take_succ_eq_append_getElem (show k < rs.length by omega), List.countP_append]
  unfold busy
  have e : rs.getD k S.Str.free = rs[k]'(by omega) := by rw [List.getD, List.getElem?_eq_getElem (by omega)]; rfl
  rw [e]
  rcases h (rs[k]'(by omega)) (List.getElem_mem _) with h1 | h1
  ·
   rw [if_neg (by omega), List.countP_singleton, if_pos (by simpa using h1)]; omega
  ·
   rw [if_pos h1, List.countP_singleton, if_neg (by simp; omega)]; omega
theorem busy_held {rs : List S.Str.Rw} (h : ∀ r ∈ rs, r.code = -1 ∨ 0 ≤ r.code) : busy rs rs.length + S.Str.held rs (-1) = rs.length := by
 have := busy_held' h rs.length (Nat.le_refl _)
 rw [List.take_length] at this
 exact this
theorem valid_code {cf : S.Str.Cfg} {rs : List S.Str.Rw} (h : S.Str.Valid cf rs) : ∀ r ∈ rs, r.code = -1 ∨ 0 ≤ r.code := fun r hr => by
 rcases (h.rows r hr).ok with rfl | h
 ·
  exact .inl rfl
 ·
  exact .inr h.1
def mediaV (cf : S.Str.Cfg) (rs : List S.Str.Rw) : Value := if S.Str.validB cf rs = true then .tuple #[.int .i64 (mediaT cf rs), .int .i64 0] else .tuple #[.int .i64 0, .int .i64 1]
theorem cost_range {d : Int} {b m : Nat} (h0 : 0 ≤ d) (h1 : d ≤ 64) (hb : b ≤ m) (hm : m ≤ 4096) : 0 ≤ d * (b : Int) ∧ d * (b : Int) ≤ 262144 :=
 ⟨Int.mul_nonneg h0 (by omega), by
  calc d * (b : Int) ≤ 64 * (b : Int) := Int.mul_le_mul_of_nonneg_right h1 (by omega)
   _ ≤ 262144 := by omega⟩
end Cha
set_option maxRecDepth 100000 in
set_option maxHeartbeats 3200000 in
theorem pmedia_any {w : World} {B m cp : Nat} {A : Option Addr} {D : List S.RR} {rs : List S.Str.Rw} (h : S.RowsIn w B A m D rs) (hB : B ≤ w.heap.size) (hmc : m ≤ cp) (cf : S.Str.Cfg) :
  Calls Tryz.prog 15 #[S.cfV cf, .slice A m cp] w fun e w' => e = .returned (Cha.mediaV cf rs) ∧ Below w.heap.size w w' := by
 obtain ⟨ca, cl, w0, hca, hcl, hw0, hrow, hb0, hs0⟩ := cfg_box cf w
 have hmx := h.mx
 have HVA := Lib.hid (fun (W : World) (hW : Below w.heap.size w W) => S.valid_any cf ((h.more hB).below hW) hW.size hmc)
 have HW := Lib.hid hw0
 have HB := Lib.hid (And.intro hb0 hs0)
 have HR := Lib.hid hrow.1
 have HCL := Lib.hid (And.intro hcl hrow.2)
 unfold Cha.mediaV
 cases hv : S.Str.validB cf rs with
 | false =>
  rw [hv, hca] at HVA
  rw [if_neg (by simp), hca]
  clear h hB hw0 hb0 hs0 hcl hca hmc hrow hv
  go_enter Tryz.func15, Tryz.ntmps15
  go_upto_region 1 with fail
  rw [HW.out]
  have hcr : w0.rangeAt w.heap.size 0 cl := fun q u hq => by rw [Nat.zero_add, HR.out.cell]; exact hq
  go_wp2_with (first
   | (go_at_call 38; refine (HVA.out _ HB.out.1).mono ?_; rintro e w2 ⟨rfl, b2⟩; have HB2 := Lib.hid (HB.out.1.trans (b2.mono HB.out.1.size)); clear b2)
   | (have tok := hcr; refine wpList_load_mid rfl _ (.tmp 2) rfl w.heap.size 0 rfl cl _ hcr Tryz.underlying23 rfl (by rw [HCL.out.2.1]; exact S.sizeCf) ?_; rw [HCL.out.1]; clear tok))
  go_ret2
  exact ⟨rfl, HB2.out⟩
 | true =>
  have hV := S.Str.validB_iff.1 hv
  have hd := S.Str.Cfg.ok_d hV.ok
  have hln := h.len.2
  have hrl := hV.len
  have hra : S.RowsAt w B A m D rs := h.at_ (by omega) (fun r hr => by have := Cha.valid_small hV r hr; omega)
  have hmt := Cha.meta_range hV.ok
  have hbh := Cha.busy_held (Cha.valid_code hV)
  have hbl := Cha.busy_le rs rs.length
  have HFR := Lib.hid (fun (W : World) (hW : Below w.heap.size w W) => S.free_any ((hra.more hB).below hW) hW.size hmc)
  have HMT := Lib.hid (fun W => pmeta_any cf hV.ok W)
  rw [hv, hca] at HVA
  rw [if_pos rfl]
  rw [hca] at HMT ⊢
  unfold Cha.mediaT
  rw [hln] at hbh hbl ⊢
  obtain ⟨bz, hbz⟩ : ∃ y, Cha.busy rs m = y := ⟨_, rfl⟩
  obtain ⟨hd', hhd⟩ : ∃ y, S.Str.held rs (-1) = y := ⟨_, rfl⟩
  obtain ⟨T, hT⟩ : ∃ y, Cha.metaT cf = y := ⟨_, rfl⟩
  obtain ⟨d, hdd⟩ : ∃ y, cf.d = y := ⟨_, rfl⟩
  rw [hbz] at hbh hbl ⊢
  rw [hhd] at hbh HFR
  rw [hT] at hmt HMT ⊢
  rw [hdd] at hd ⊢
  have hcost := Cha.cost_range (d := d) (b := bz) (m := m) (by omega) hd.1.2 hbl (by omega)
  have HC0 : Hid (cl[0]? = some (.int .i64 d)) := Lib.hid (by rw [← hdd]; exact hrow.2.2.1)
  obtain ⟨y, hy⟩ : ∃ y, d * (bz : Int) = y := ⟨_, rfl⟩
  have f1 : IntKind.i64.wrap ((m : Int) - (hd' : Int)) = (bz : Int) := by rw [show (m : Int) - (hd' : Int) = (bz : Int) by omega]; exact IntWalk.i64_in _ (by omega)
  have f2 : IntKind.i64.wrap (d * (bz : Int)) = y := by rw [hy]; exact IntWalk.i64_in _ (by omega)
  rw [hy] at hcost ⊢
  have f3 : IntKind.i64.wrap (T + y) = T + y := IntWalk.i64_in _ (by omega)
  clear h hB hw0 hb0 hs0 hcl hca hmc hrow hv hV hd hln hrl hra hmt hbh hbl hbz hhd hT hdd hcost hy
  go_enter Tryz.func15, Tryz.ntmps15
  go_upto_region 1 with fail
  rw [HW.out]
  have hcr : w0.rangeAt w.heap.size 0 cl := fun q u hq => by rw [Nat.zero_add, HR.out.cell]; exact hq
  go_upto_region 3 with (first
   | (go_at_call 38; refine (HVA.out _ HB.out.1).mono ?_; rintro e w2 ⟨rfl, b2⟩; have HB2 := Lib.hid (HB.out.1.trans (b2.mono HB.out.1.size)); have HCR2 := Lib.hid (HR.out.below' b2); clear b2)
   | (have tok := hcr; refine wpList_load_mid rfl _ (.tmp 2) rfl w.heap.size 0 rfl cl _ hcr Tryz.underlying23 rfl (by rw [HCL.out.2.1]; exact S.sizeCf) ?_; rw [HCL.out.1]; clear tok))
  clear hcr
  have HFR2 := Lib.hid (fun (W : World) (hW : Below w2.heap.size w2 W) => HFR.out W (HB2.out.trans (hW.mono HB2.out.size)))
  have hv0 : Below w2.heap.size w2 w2.drew := (Below.refl _ _).drew
  refine wp_region_held_drew (S := fun W => Below w2.heap.size w2 W) (by kernel_rfl) (hv0) (fun hHeld => ?_)
  refine wpAnyH_take (i := 0) (oi := { dst := some 10, op := Op.load 23 (Operand.tmp 2), type := 23, pos := "charge.go:37", after := #[], guard := none }) (v := (.agg cl.toArray)) rfl (by kernel_rfl) (by kernel_rfl) (by kernel_rfl) (fun _ _ _ h => h) (yieldsIf_load_mid (by rfl) 23 (.tmp 2) rfl w.heap.size 0 rfl cl _ (fun W hW q v hv => by rw [Nat.zero_add]; exact ((HCR2.out.below' hW).cell q).trans hv) Tryz.underlying23 rfl (by rw [HCL.out.2.1]; exact S.sizeCf)) (by assumption) ?_
  try simp only [PT]
  refine wpAnyH_take (i := 2) (oi := { dst := some 12, op := Op.fieldAddr 23 (Operand.tmp 2) 0, type := 0, pos := "charge.go:37", after := #[], guard := none }) (v := ?v2_2) rfl (by kernel_rfl) (by kernel_rfl) (by kernel_rfl) (fun _ _ _ h => h) (Or.inl ⟨by rfl, ?h2_2⟩) (by assumption) ?r2_2
  case h2_2 =>
   intro W hSW
   try dsimp only at hSW
   go_simp
   try with_reducible rfl
  try simp only [PT]
  refine wpAnyH_take (i := 3) (oi := { dst := some 13, op := Op.load 3 (Operand.tmp 12), type := 3, pos := "charge.go:37", after := #[{ on := 2, ground := Ground.data }], guard := none }) (v := ?v3_3) rfl (by kernel_rfl) (by kernel_rfl) (by kernel_rfl) (fun _ _ _ h => h) (Or.inl ⟨by rfl, ?h3_3⟩) (by assumption) ?r3_3
  case h3_3 =>
   intro W hSW
   try dsimp only at hSW
   have c0 := (hSW.cell (p := ⟨w.heap.size, 0, none⟩) HCR2.out.lt).trans ((HCR2.out.cell 0).trans HC0.out)
   go_simp
   try with_reducible rfl
  try simp only [PT]
  refine wpAnyH_take (i := 4) (oi := { dst := some 14, op := Op.move (Operand.tmp 1), type := 25, pos := "charge.go:37", after := #[], guard := none }) (v := ?v4_4) rfl (by kernel_rfl) (by kernel_rfl) (by kernel_rfl) (fun _ _ _ h => h) (Or.inl ⟨by rfl, ?h4_4⟩) (by assumption) ?r4_4
  case h4_4 =>
   intro W hSW
   try dsimp only at hSW
   go_simp
   try with_reducible rfl
  try simp only [PT]
  refine wpAnyH_take (i := 5) (oi := { dst := some 15, op := Op.call { callee := Callee.builtin Builtin.len, args := #[Operand.tmp 14], argTypes := #[25] }, type := 3, pos := "charge.go:37", after := #[{ on := 4, ground := Ground.data }], guard := none }) (v := ?v5_5) rfl (by kernel_rfl) (by kernel_rfl) (by kernel_rfl) (fun _ _ _ h => h) (Or.inl ⟨by rfl, ?h5_5⟩) (by assumption) ?r5_5
  case h5_5 =>
   intro W hSW
   try dsimp only at hSW
   go_simp
   try with_reducible rfl
  try simp only [PT]
  refine wpAnyH_take (i := 6) (oi := { dst := some 16, op := Op.move (Operand.tmp 1), type := 25, pos := "charge.go:37", after := #[], guard := none }) (v := ?v6_6) rfl (by kernel_rfl) (by kernel_rfl) (by kernel_rfl) (fun _ _ _ h => h) (Or.inl ⟨by rfl, ?h6_6⟩) (by assumption) ?r6_6
  case h6_6 =>
   intro W hSW
   try dsimp only at hSW
   go_simp
   try with_reducible rfl
  try simp only [PT]
  refine wpAnyH_ready (rs := [1]) (by kernel_rfl) (by simp) ?_
  refine AllReadyH.cons (o := { dst := some 11, op := Op.call { callee := Callee.value (Operand.func 43), args := #[Operand.tmp 10], argTypes := #[23] }, type := 3, pos := "charge.go:37", after := #[{ on := 0, ground := Ground.data }], guard := none }) rfl (fun K hK => ?_) AllReadyH.nil
  go_simp
  rw [HCL.out.1]
  refine (HMT.out _).mono ?_
  rintro e w40 ⟨rfl, b40⟩
  have hv40 : Below w2.heap.size w2 w40 := hv0.trans (b40.mono hv0.size)
  clear b40
  refine hK.out _ _ (hv40) (fun hHeld => ?_)
  clear hK K
  try simp only [PT]
  refine wpAnyH_ready (rs := [7]) (by kernel_rfl) (by simp) ?_
  refine AllReadyH.cons (o := { dst := some 17, op := Op.call { callee := Callee.value (Operand.func 44), args := #[Operand.tmp 16], argTypes := #[25] }, type := 3, pos := "charge.go:37", after := #[{ on := 6, ground := Ground.data }, { on := 1, ground := Ground.chain }], guard := none }) rfl (fun K hK => ?_) AllReadyH.nil
  go_simp
  refine (HFR2.out _ hv40).mono ?_
  rintro e w41 ⟨rfl, b41⟩
  have hv41 : Below w2.heap.size w2 w41 := hv40.trans (b41.mono hv40.size)
  clear b41
  refine hK.out _ _ (hv41) (fun hHeld => ?_)
  clear hK K
  try simp only [PT]
  refine wpAnyH_take (i := 8) (oi := { dst := some 18, op := Op.binOp BinOp.sub 3 (Operand.tmp 15) (Operand.tmp 17) 3, type := 3, pos := "charge.go:37", after := #[{ on := 5, ground := Ground.data }, { on := 7, ground := Ground.data }], guard := none }) (v := ?v8_7) rfl (by kernel_rfl) (by kernel_rfl) (by kernel_rfl) (fun _ _ _ h => h) (Or.inl ⟨by rfl, ?h8_7⟩) (by assumption) ?r8_7
  case h8_7 =>
   intro W hSW
   try dsimp only at hSW
   go_simp
   try with_reducible rfl
  try simp only [PT]
  refine wpAnyH_take (i := 9) (oi := { dst := some 19, op := Op.binOp BinOp.mul 3 (Operand.tmp 13) (Operand.tmp 18) 3, type := 3, pos := "charge.go:37", after := #[{ on := 3, ground := Ground.data }, { on := 8, ground := Ground.data }], guard := none }) (v := ?v9_8) rfl (by kernel_rfl) (by kernel_rfl) (by kernel_rfl) (fun _ _ _ h => h) (Or.inl ⟨by rfl, ?h9_8⟩) (by assumption) ?r9_8
  case h9_8 =>
   intro W hSW
   try dsimp only at hSW
   go_simp
   try with_reducible rfl
  try simp only [PT]
  refine wpAnyH_take (i := 10) (oi := { dst := some 20, op := Op.binOp BinOp.add 3 (Operand.tmp 11) (Operand.tmp 19) 3, type := 3, pos := "charge.go:37", after := #[{ on := 1, ground := Ground.data }, { on := 9, ground := Ground.data }], guard := none }) (v := ?v10_9) rfl (by kernel_rfl) (by kernel_rfl) (by kernel_rfl) (fun _ _ _ h => h) (Or.inl ⟨by rfl, ?h10_9⟩) (by assumption) ?r10_9
  case h10_9 =>
   intro W hSW
   try dsimp only at hSW
   go_simp
   try with_reducible rfl
  try simp only [PT]
  refine wpAnyH_take (i := 11) (oi := { dst := some 4, op := Op.assign (Operand.tmp 20), type := 3, pos := "charge.go:37", after := #[{ on := 10, ground := Ground.data }, { on := 7, ground := Ground.chain }, { on := 0, ground := Ground.phase }, { on := 1, ground := Ground.phase }, { on := 2, ground := Ground.phase }, { on := 3, ground := Ground.phase }, { on := 4, ground := Ground.phase }, { on := 5, ground := Ground.phase }, { on := 6, ground := Ground.phase }, { on := 7, ground := Ground.phase }, { on := 8, ground := Ground.phase }, { on := 9, ground := Ground.phase }, { on := 10, ground := Ground.phase }], guard := none }) (v := ?v11_10) rfl (by kernel_rfl) (by kernel_rfl) (by kernel_rfl) (fun _ _ _ h => h) (Or.inl ⟨by rfl, ?h11_10⟩) (by assumption) ?r11_10
  case h11_10 =>
   intro W hSW
   try dsimp only at hSW
   go_simp
   try with_reducible rfl
  try simp only [PT]
  refine wpAnyH_take (i := 12) (oi := { dst := some 5, op := Op.assign (Operand.const (Value.int IntKind.i64 0)), type := 36, pos := "charge.go:37", after := #[{ on := 11, ground := Ground.chain }, { on := 0, ground := Ground.phase }, { on := 1, ground := Ground.phase }, { on := 2, ground := Ground.phase }, { on := 3, ground := Ground.phase }, { on := 4, ground := Ground.phase }, { on := 5, ground := Ground.phase }, { on := 6, ground := Ground.phase }, { on := 7, ground := Ground.phase }, { on := 8, ground := Ground.phase }, { on := 9, ground := Ground.phase }, { on := 10, ground := Ground.phase }, { on := 11, ground := Ground.phase }], guard := none }) (v := ?v12_11) rfl (by kernel_rfl) (by kernel_rfl) (by kernel_rfl) (fun _ _ _ h => h) (Or.inl ⟨by rfl, ?h12_11⟩) (by assumption) ?r12_11
  case h12_11 =>
   intro W hSW
   try dsimp only at hSW
   go_simp
   try with_reducible rfl
  try simp only [PT]
  refine wpAnyH_done (by kernel_rfl) ?_ _
  have HV9 := Lib.hid hv41
  go_wp2_with fail
  go_ret2
  exact ⟨rfl, HB2.out.trans (HV9.out.mono HB2.out.size)⟩
set_option maxRecDepth 100000 in
set_option maxHeartbeats 3200000 in
theorem rmedia_any {w : World} {B m cp : Nat} {A : Option Addr} {D : List S.RR} {rs : List S.Str.Rw} (h : S.RowsIn w B A m D rs) (hB : B ≤ w.heap.size) (hmc : m ≤ cp) (cf : S.Str.Cfg) :
  Calls Tryz.prog 16 #[S.cfV cf, .slice A m cp] w fun e w' => e = .returned (Cha.mediaV cf rs) ∧ Below w.heap.size w w' := by
 obtain ⟨ca, cl, w0, hca, hcl, hw0, hrow, hb0, hs0⟩ := cfg_box cf w
 have hmx := h.mx
 have HVA := Lib.hid (fun (W : World) (hW : Below w.heap.size w W) => S.rvalid_any cf ((h.more hB).below hW) hW.size hmc)
 have HW := Lib.hid hw0
 have HB := Lib.hid (And.intro hb0 hs0)
 have HR := Lib.hid hrow.1
 have HCL := Lib.hid (And.intro hcl hrow.2)
 unfold Cha.mediaV
 cases hv : S.Str.validB cf rs with
 | false =>
  rw [hv, hca] at HVA
  rw [if_neg (by simp), hca]
  clear h hB hw0 hb0 hs0 hcl hca hmc hrow hv
  go_enter Tryz.func16, Tryz.ntmps16
  go_upto_region 1 with fail
  rw [HW.out]
  have hcr : w0.rangeAt w.heap.size 0 cl := fun q u hq => by rw [Nat.zero_add, HR.out.cell]; exact hq
  go_wp2_with (first
   | (go_at_call 41; refine (HVA.out _ HB.out.1).mono ?_; rintro e w2 ⟨rfl, b2⟩; have HB2 := Lib.hid (HB.out.1.trans (b2.mono HB.out.1.size)); clear b2)
   | (have tok := hcr; refine wpList_load_mid rfl _ (.tmp 2) rfl w.heap.size 0 rfl cl _ hcr Tryz.underlying23 rfl (by rw [HCL.out.2.1]; exact S.sizeCf) ?_; rw [HCL.out.1]; clear tok))
  go_ret2
  exact ⟨rfl, HB2.out⟩
 | true =>
  have hV := S.Str.validB_iff.1 hv
  have hd := S.Str.Cfg.ok_d hV.ok
  have hln := h.len.2
  have hrl := hV.len
  have hmt := Cha.meta_range hV.ok
  have HMT := Lib.hid (fun W => rmeta_any cf hV.ok W)
  have HX := Lib.hid (h.more hB)
  have HBZ : Hid (∀ k, k ≤ m → 0 ≤ cf.d * (Cha.busy rs k : Nat) ∧ cf.d * (Cha.busy rs k : Nat) ≤ 262144) := Lib.hid fun k hk => Cha.cost_range (by omega) hd.1.2 (Nat.le_trans (Cha.busy_le rs k) hk) (by omega)
  have HBS : Hid (∀ k, Cha.busy rs (k + 1) = Cha.busy rs k + if 0 ≤ (rs.getD k S.Str.free).code then 1 else 0) := Lib.hid fun _ => rfl
  rw [hv, hca] at HVA
  rw [if_pos rfl]
  rw [hca] at HMT ⊢
  unfold Cha.mediaT
  rw [hln]
  obtain ⟨bz, hbz⟩ : ∃ f : Nat → Nat, Cha.busy rs = f := ⟨_, rfl⟩
  obtain ⟨T, hT⟩ : ∃ y, Cha.metaT cf = y := ⟨_, rfl⟩
  obtain ⟨d, hdd⟩ : ∃ y, cf.d = y := ⟨_, rfl⟩
  have HB0 : Hid (bz 0 = 0) := Lib.hid (by rw [← hbz]; rfl)
  rw [hbz] at HBZ HBS ⊢
  rw [hT] at hmt HMT ⊢
  rw [hdd] at hd HBZ ⊢
  have HC0 : Hid (cl[0]? = some (.int .i64 d)) := Lib.hid (by rw [← hdd]; exact hrow.2.2.1)
  have HDR := Lib.hid hd.1
  have HTR : Hid (0 ≤ T ∧ T ≤ 12582912) := Lib.hid hmt.2.2.2.2.2.2
  have hm64 : m ≤ 4096 := by omega
  clear h hB hw0 hb0 hs0 hcl hca hmc hrow hv hV hd hln hrl hmt hbz hT hdd
  go_enter Tryz.func16, Tryz.ntmps16
  go_upto_region 1 with fail
  rw [HW.out]
  have hcr : w0.rangeAt w.heap.size 0 cl := fun q u hq => by rw [Nat.zero_add, HR.out.cell]; exact hq
  go_upto_region 3 with (first
   | (go_at_call 41; refine (HVA.out _ HB.out.1).mono ?_; rintro e w2 ⟨rfl, b2⟩; have HB2 := Lib.hid (HB.out.1.trans (b2.mono HB.out.1.size)); have HCR2 := Lib.hid (HR.out.below' b2); clear b2)
   | (have tok := hcr; refine wpList_load_mid rfl _ (.tmp 2) rfl w.heap.size 0 rfl cl _ hcr Tryz.underlying23 rfl (by rw [HCL.out.2.1]; exact S.sizeCf) ?_; rw [HCL.out.1]; clear tok))
  clear hcr
  have hcr : w2.rangeAt w.heap.size 0 cl := fun q u hq => by rw [Nat.zero_add, HCR2.out.cell]; exact hq
  go_upto_region 5 with (first
   | (go_at_call 45; refine (HMT.out _).mono ?_; rintro e w3 ⟨rfl, b3⟩; have HB3 := Lib.hid (HB2.out.trans (b3.mono HB2.out.size)); have HCR3 := Lib.hid (HCR2.out.below' b3); clear b3)
   | (have tok := hcr; refine wpList_load_mid rfl _ (.tmp 2) rfl w.heap.size 0 rfl cl _ hcr Tryz.underlying23 rfl (by rw [HCL.out.2.1]; exact S.sizeCf) ?_; rw [HCL.out.1]; clear tok))
  clear hcr
  have k0 : w3.cell? ⟨w.heap.size, 0, none⟩ = some (.int .i64 d) := (HCR3.out.cell 0).trans HC0.out
  go_loop [6, 7] (fun u6 u7 => ∃ k : Nat, k ≤ m ∧ u6 = .int .i64 (T + d * (bz k : Nat)) ∧ u7 = .int .i64 (k : Int)) (fun _ u7 => m - (intOf u7).toNat)
  case atStart => exact ⟨0, Nat.zero_le _, by rw [HB0.out]; simp, rfl⟩
  case round =>
   obtain ⟨k, hk, rfl, rfl⟩ := hrel
   by_cases hlt : k < m
   ·
    obtain ⟨b, off, x, rfl, hbb, hD, hl, hok, hrg, c0, _, _⟩ := HX.out.at hlt
    have hc0 := (HB3.out.cell (p := ⟨b, off + k * 3, none⟩) hbb).trans c0
    have hbs := HBS.out k
    rw [show rs.getD k S.Str.free = x.r by rw [List.getD, hl]; rfl] at hbs
    obtain ⟨cd, hcd⟩ : ∃ y, x.r.code = y := ⟨_, rfl⟩
    rw [hcd] at hbs hc0
    have hr1 := HBZ.out k hk
    have hr2 := HBZ.out (k + 1) (by omega)
    have hdr := HDR.out
    have htr := HTR.out
    obtain ⟨y, hy⟩ : ∃ y, d * (bz k : Int) = y := ⟨_, rfl⟩
    rw [hy] at hr1 ⊢
    have w1 : IntKind.i64.wrap (T + y + d) = T + y + d := IntWalk.i64_in _ (by omega)
    have HY := Lib.hid hy
    have i0 : (0 : Int) ≤ (k : Int) := by omega
    have i1 : (k : Int) < (m : Int) := by omega
    have HBK := Lib.hid hbs
    clear hbb hD hl hok hrg c0 hcd hy hr1 hr2 hdr htr hbs
    by_cases h0 : 0 ≤ cd
    ·
     have HN : Hid (T + y + d = T + d * (bz (k + 1) : Nat)) := Lib.hid (by
      have := HBK.out
      rw [if_pos h0] at this
      rw [this, Int.natCast_add, Int.mul_add, HY.out]
      simp; omega)
     go_wp2_with fail
     go_round
     case rel => exact ⟨k + 1, by omega, by rw [← HN.out], by go_num⟩
     case measure => simp [intOf]; omega
    ·
     have HN : Hid (T + y = T + d * (bz (k + 1) : Nat)) := Lib.hid (by
      have := HBK.out
      rw [if_neg h0] at this
      rw [this, Nat.add_zero, HY.out])
     go_wp2_with fail
     go_round
     case rel => exact ⟨k + 1, by omega, by rw [← HN.out], by go_num⟩
     case measure => simp [intOf]; omega
   ·
    obtain rfl : k = m := by omega
    go_wp2_with fail
    go_ret2
    exact ⟨rfl, HB3.out⟩
end Go.Proofs.YtfllkaeaanahmaaGreat
