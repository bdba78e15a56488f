/- The index's Encode: a range over its entries. -/
import Derived.Test.YtnehbcopbioenaaIEnc
import Derived.Shelf.RegionOpen
import Derived.IntWalk
namespace Go.Proofs.Ytnehbcopbioenaa
set_option linter.unusedVariables false
set_option linter.unusedSimpArgs false
open Go.RowKit Go.ChangeMaps Go.Shelf

attribute [local go_sem] Oper.semAt_some

theorem wpOpIn_round {n : Nat} {P : Program} {l : Nat} {o : Oper} {a : Act} {w : World} {K : Act → World → Prop} {Q : Exit → Act → World → Prop} (hnd : ∀ c, o.op ≠ .defer c) (h : o.wpIn Fence.wide n P a w K Q) : o.wpIn (Fence.wide.inRound l) n P a w K Q := by
  unfold Oper.wpIn at h ⊢
  rw [Oper.semAt_plain _ _ _ hnd] at h ⊢
  refine ⟨h.1, ?_⟩
  have h2 := h.2
  generalize (execOp a.eval o).run P w = r at h2 ⊢
  cases r with
  | ok x w' => cases x <;> exact h2
  | halt x w' => cases x <;> exact h2
theorem wpOpsIn_round {n : Nat} {P : Program} {l : Nat} {ops : Array Oper} {Q : Exit → Act → World → Prop} (hnd : ∀ (i : Nat) (o : Oper) c, ops[i]? = some o → o.op ≠ .defer c) : ∀ (is : List Nat) (a : Act) (w : World), wpOpsIn Fence.wide n P ops Q is a w → wpOpsIn (Fence.wide.inRound l) n P ops Q is a w
  | [], _, _, h => h
  | i :: is, a, w, h => by
    rw [wpOpsIn_cons] at h ⊢
    have h1 := wpOpIn_mono (fun a w => wpOpsIn_round (l := l) hnd is a w) h
    unfold wpOpIn at h1 ⊢
    cases ho : ops[i]? with
    | none => rw [ho] at h1; exact h1
    | some o =>
      rw [ho] at h1
      simp only at h1 ⊢
      split
      · next hw => rw [if_pos hw] at h1; exact wpOpIn_round (fun c => hnd i o c ho) h1
      · next hw => rw [if_neg hw] at h1; exact h1
/-- a region that draws its order, in a round of a range over a function: as outside of one -/
theorem wpIn_region_any_round {n : Nat} {P : Program} {l id : Nat} {ops : Array Oper} {Q : Exit → Act → World → Prop} {a : Act} {w : World} (hm : P.follows .mixedOrders = true) (hnd : ∀ (i : Nat) (o : Oper) c, ops[i]? = some o → o.op ≠ .defer c)
    (h : wpAnyIn Fence.wide n P .any ops Q ops.size (Array.replicate ops.size false) a { w with drawn := w.drawn + 1 }) : (Code.region id ops true).wpIn (Fence.wide.inRound l) n P Q a w :=
  wpIn_region_draw fun t => by
    simp only [Region.schedule, hm, Bool.true_or, if_true]
    exact wpOpsIn_round hnd _ _ _ (wpAnyIn_sound ops.size t _ a _ h)
def isDefer (o : Oper) : Bool := match o.op with | .defer _ => true | _ => false
theorem noDefers (ops : Array Oper) (h : ops.all (fun o => !isDefer o) = true) : ∀ (i : Nat) (o : Oper) c, ops[i]? = some o → o.op ≠ .defer c := by
  intro i o c ho hd
  rw [Array.all_eq_true] at h
  obtain ⟨hi, he⟩ := Array.getElem?_eq_some_iff.1 ho
  have := h i hi
  rw [he] at this
  simp [isDefer, hd] at this

/-- append of a slice that reads as bytes onto a row of bytes of the call's own, inside a fence -/
theorem wpListIn_appB {F : Fence} {nf : Nat} {w : World} {ops : Array Oper} {rest : List Oper} {o : Oper} {a : Act} {Q : Exit → Act → World → Prop} (hgd : o.guard = none) (s x : Operand)
    (ho : o.op = .call { callee := .builtin .append, args := #[s, x], argTypes := #[57, 57] })
    (base : Nat) (A0 : Option Addr) (n c0 : Nat) (xs : List UInt8) (A : Option Addr) (m c : Nat) (news : List UInt8) (hs : a.eval s = .slice A0 n c0) (hx : a.eval x = .slice A m c) (hown : w.ownsRow base 5 1 (.slice A0 n c0) n (bvs xs))
    {B' : Nat} (hr : Rd w B' 1 A m (bvs news)) (hb : n + m ≤ 140737488355328) (hbase : base ≤ w.heap.size)
    (h : ∀ A' c' w', w'.ownsRow base 5 1 (.slice A' (n + m) c') (n + m) (bvs (xs ++ news)) → w.grownBy w' (Value.slice A0 n c0).ownBlock → wpListIn F nf Try.prog ops Q rest (a.put o.dst (.slice A' (n + m) c')) w') : wpListIn F nf Try.prog ops Q (o :: rest) a w := by
  refine wpListIn_plain hgd fun K hK => ?_
  obtain ⟨A', c', w', hrun, h2, h3, _⟩ := run_app (P := Try.prog) w base o.type bytesE A0 n c0 (bvs xs) hown B' A m c (bvs news) hr (bvs_one _) (by omega) (by unfold maxLen; omega) hbase
  unfold Oper.wpIn
  refine ⟨?_, ?_⟩
  · simp [Oper.about, ho, resolve, Target.leads, Sem.run_pure]
  · rw [Oper.semAt_plain F _ _ (by rw [ho]; intro c hc'; cases hc')]
    simp [execOp, ho, resolve, invoke, builtin, hs, hx, hrun, Result.andThen]
    exact hK _ _ (h A' c' w' (by rw [← bvs_append]; exact h2) h3)

theorem own_kept8 {w8 : World} {base B n c : Nat} {A8 : Option Addr} {v : Value} {xs : List Value} (own8 : w8.ownsRow base 5 1 (.slice A8 n c) n xs) (hv : Boxed w8 B 57 v) : (w8.setCell ⟨B, 0, none⟩ (.slice A8 n c)).ownsRow base 5 1 (.slice A8 n c) n xs :=
  own8.kept (grownBy_setCell' w8 B _) (.inr (hv.not_row (by decide) own8).symm)
theorem keeps_below {W W' : World} (h : Below W.heap.size W W') : KeepsOthers W W' := ⟨h.size, fun k o hk _ => (h.block k (Array.getElem?_eq_some_iff.1 hk).1).trans hk⟩
theorem keeps_l_drew {W W' : World} (h : Below W.drew.heap.size W.drew W') : Below W.heap.size W W' := below_l_drew h
theorem keeps_row {W W' : World} {base e size n c : Nat} {A : Option Addr} {xs : List Value} (hg : W.grownBy W' (Value.slice A n c).ownBlock) (h : W.ownsRow base e size (.slice A n c) n xs) : KeepsOthers W W' :=
  KeepsOthers.of_grownBy hg fun j o ej hj => by
    cases A with
    | none => simp [Value.ownBlock] at ej
    | some a =>
      have e1 : a.block = j := by simpa [Value.ownBlock] using ej
      obtain ⟨cs, m, hc⟩ := own_type h a rfl
      rw [e1, hj] at hc
      injection hc with hc
      rw [hc]; rfl
/-- append, where its run is known -/
theorem wpIn_appB {F : Fence} {nf : Nat} {w w' : World} {o : Oper} {a : Act} {K : Act → World → Prop} {Q : Exit → Act → World → Prop} (s x : Operand)
    (ho : o.op = .call { callee := .builtin .append, args := #[s, x], argTypes := #[57, 57] }) {v1 v2 v : Value} (hs : a.eval s = v1) (hx : a.eval x = v2)
    (hrun : (Builtin.append_ #[57, 57] o.type #[v1, v2]).run Try.prog w = .ok v w') (h : K (a.put o.dst v) w') : o.wpIn F nf Try.prog a w K Q := by
  unfold Oper.wpIn
  refine ⟨?_, ?_⟩
  · simp [Oper.about, ho, resolve, Target.leads, Sem.run_pure]
  · rw [Oper.semAt_plain F _ _ (by rw [ho]; intro c hc'; cases hc')]
    simp [execOp, ho, resolve, invoke, builtin, hs, hx, hrun, Result.andThen]
    exact h
abbrev EntOk := { x : Int × Int // (0 ≤ x.1 ∧ x.1 ≤ 4294967295) ∧ 1 ≤ x.2 ∧ x.2 ≤ 65536 }
theorem lift_ok (L : List (Int × Int)) (h1 : ∀ e ∈ L, 0 ≤ e.1 ∧ e.1 ≤ 4294967295) (h2 : ∀ e ∈ L, 1 ≤ e.2 ∧ e.2 ≤ 65536) : ∃ K : List EntOk, K.map (·.val) = L := by
  induction L with
  | nil => exact ⟨[], rfl⟩
  | cons e L ih =>
    obtain ⟨K, hK⟩ := ih (fun x hx => h1 x (by simp [hx])) (fun x hx => h2 x (by simp [hx]))
    exact ⟨⟨e, h1 e (by simp), h2 e (by simp)⟩ :: K, by simp [hK]⟩
/-- the bytes of the entries that have come -/
def encK (E : List UInt8) (pre : List EntOk) : List UInt8 := E ++ (pre.map (·.val)).flatMap encE
theorem encK_snoc (E : List UInt8) (pre : List EntOk) (x : EntOk) : encK E (pre ++ [x]) = (encK E pre ++ Wire.enc x.val.1) ++ Wire.enc x.val.2 := by simp [encK, encE]
theorem encK_len (E : List UInt8) (pre : List EntOk) : (encK E pre).length ≤ E.length + 18 * pre.length := by
  have := flat_encE_le (pre.map (·.val))
  rw [List.length_map] at this
  unfold encK
  rw [List.length_append]
  omega

set_option maxRecDepth 100000 in
set_option maxHeartbeats 4000000 in
theorem encode_any (bx bm : Nat) (s : ISt) (L : List (Int × Int)) (hrep : Rep s L) (hI : Inv s.cap L) (hcap1 : 1 ≤ s.cap) (hcap2 : s.cap ≤ 4096) (w : World) (h : IxAt w bx bm s) :
    Calls Try.prog 30 #[.pointer (some ⟨bx, 0, none⟩)] w fun e W' => ∃ A c, e = .returned (.slice A (encX s.cap L).length c) ∧ W'.ownsRow w.heap.size 5 1 (.slice A (encX s.cap L).length c) (encX s.cap L).length (bvs (encX s.cap L)) ∧ Below w.heap.size w W' := by
  have hlt := h.lt
  have hl := hI.len
  obtain ⟨hc0, _, _, _⟩ := h.cells
  have HR := Lib.hid hrep
  have HI := Lib.hid hI
  have hLN := hrep.2.2.2
  have HLN := Lib.hid hLN
  obtain ⟨E1, hE1⟩ : ∃ E, Wire.enc s.cap = E := ⟨_, rfl⟩
  obtain ⟨E2, hE2⟩ : ∃ E, Wire.enc (s.n : Int) = E := ⟨_, rfl⟩
  have q1 := Wire.enc_length_le s.cap
  have q2 := Wire.enc_length_le s.n
  rw [hE1] at q1
  rw [hE2] at q2
  obtain ⟨e1, he1⟩ : ∃ e, E1.length = e := ⟨_, rfl⟩
  obtain ⟨e2, he2⟩ : ∃ e, E2.length = e := ⟨_, rfl⟩
  rw [he1] at q1
  rw [he2] at q2
  have H1 := Lib.hid hE1; have H2 := Lib.hid hE2; have G1 := Lib.hid he1; have G2 := Lib.hid he2
  have hsn : (s.n : Int) ≤ 4096 := by omega
  clear hrep hI hE1 hE2 he1 he2 hLN
  have HC1 := Lib.hid (fun w => callsIn_wide (n := 5).2 (wInt_len s.cap (by omega) (by omega) E1 H1.out e1 G1.out w))
  have HC2 := Lib.hid (fun w => callsIn_wide (n := 5).2 (wInt_len s.n (by omega) (by omega) E2 H2.out e2 G2.out w))
  refine (callsIn_wide (n := 6)).1 ?_
  refine callsIn_of_wp_marks Try.func30 rfl trivial ?_ rfl
  simp only [Try.ntmps30, List.size_toArray, List.length_cons, List.length_nil, Nat.reduceAdd, Nat.reduceSub, Array.replicate_succ, Array.replicate_zero, List.push_toArray, List.append_toArray, List.nil_append, List.cons_append]
  gi_wp2
  refine ⟨trivial, ?_⟩
  gi_at_call 36
  refine (HC1.out _).mono ?_
  rintro e w1 ⟨A1, c1, rfl, own1, b1⟩
  have h1 := h.below b1 hlt.1 hlt.2
  gi_wp2
  refine ⟨trivial, ?_⟩
  gi_at_call 26
  refine (callsIn_wide.2 (len_any h1)).mono ?_
  rintro e w2 ⟨rfl, rfl⟩
  gi_wp2
  refine ⟨trivial, ?_⟩
  gi_at_call 36
  refine (HC2.out _).mono ?_
  rintro e w3 ⟨A3, c3, rfl, own3, b3⟩
  have own1' := own_below own1 b3
  have rd3 := Rd.of_own own3
  have b3' := b1.trans (b3.mono b1.size)
  have hA1 := own1'.lt
  gi_wp2_with (gi_at_builtin; refine wpListIn_appB rfl (.tmp 10) (.tmp 13) rfl w.heap.size A1 e1 c1 E1 A3 e2 c3 E2 rfl rfl own1' rd3 (by omega) b3'.size ?_; intro A4 c4 w4 own4 hg4)
  have b4 : Below w.heap.size w w4 := b3'.grown hg4 b3'.size fun k hk => (hA1 k hk).1
  have h4 := h.below b4 hlt.1 hlt.2
  refine ⟨trivial, ?_⟩
  gi_at_call 34
  refine (entries_in Fence.wide _ trivial rfl _ _).mono ?_
  rintro e w' ⟨rfl, rfl⟩
  have bO := Boxed.new w4 57 (.slice A4 (e1 + e2) c4)
  have bN := Boxed.new (w4.alloc (.cells #[.slice A4 (e1 + e2) c4] 57)) 24 (.pointer (some ⟨bx, 0, none⟩))
  rw [World.size_alloc] at bN
  have hB0 : Below w.heap.size w ((w4.alloc (.cells #[.slice A4 (e1 + e2) c4] 57)).alloc (.cells #[.pointer (some ⟨bx, 0, none⟩)] 24)) := (b4.alloc b4.size _).alloc (by simp; have := b4.size; omega) _
  have hB4 := b4.size
  have HLL : Hid (L.length = s.n) := HLN.out.symm
  obtain ⟨K, hK⟩ := lift_ok L HI.out.print HI.out.chunk
  have HK0 := Lib.hid hK
  clear hK
  have hKl : K.length ≤ 4096 := by have h1 := congrArg List.length HK0.out; rw [List.length_map, HLL.out] at h1; omega
  clear own1 b1 h1 own3 b3 own1' rd3 b3' hA1 hg4 h4
  gi_wp2
  refine wpIn_rangeFunc_ownG rfl (show 1 ≤ 6 by omega) (gf := 40) (lb := #[.pointer (some ⟨w4.heap.size + 1, 0, none⟩)]) rfl trivial (enters_of Try.func40 (by kernel_rfl) rfl)
    (entries_stopsG (fun x : EntOk => x.val) Fence.wide (6 - 1) trivial rfl (by omega) (w4.heap.size + 1) w.heap.size bx bm s K (by rw [HK0.out]; exact HR.out) (by rw [HK0.out]; exact HI.out.good) _ (by simp; omega) hlt.1 hlt.2 (by simp) bN.cell (h.below hB0 hlt.1 hlt.2)) keepsBox_t (keepsBox_b (by simp; omega) (by simp)) (Below.refl _ _) ?hps
    (fun pre W => ((∃ v, Boxed W w4.heap.size 57 v ∧ W.ownsRow w.heap.size 5 1 v (encK (E1 ++ E2) pre).length (bvs (encK (E1 ++ E2) pre)) ∧ True) ∧ Boxed W (w4.heap.size + 1) 24 (.pointer (some ⟨bx, 0, none⟩))) ∧ Below w.heap.size w W)
    (fun _ _ _ => False)
    (OwnFrom.and (OwnFrom.and (Own.from (holdsRow_own w.heap.size w4.heap.size 57 5 1 (fun pre : List EntOk => (encK (E1 ++ E2) pre).length) (fun pre : List EntOk => bvs (encK (E1 ++ E2) pre)) (fun _ _ => True)) _) (Own.from (boxed_own _ _ (fun _ => .pointer (some ⟨bx, 0, none⟩))) _)) (ownFrom_below (Nat.le_refl _) (by simp; omega)))
    (fun _ _ _ _ _ hs _ _ => hs)
    ⟨⟨⟨_, bO.alloc _, by
      have e0 : encK (E1 ++ E2) [] = E1 ++ E2 := by simp [encK]
      rw [e0, List.length_append, G1.out, G2.out]
      exact (own4.alloc _).alloc _, trivial⟩, bN⟩, hB0⟩
    (fun x => { tmps := #[.pointer (some ⟨bx, 0, none⟩), undef, .slice none 0 0, .pointer (some ⟨w4.heap.size, 0, none⟩), .int .i64 x.val.2, .int .u32 x.val.1, .pointer (some ⟨bx, 0, none⟩), .pointer (some ⟨bx, 0, none⟩), .pointer (some ⟨bx, 0, none⟩), .int .i64 s.cap, .slice A1 e1 c1, .pointer (some ⟨bx, 0, none⟩), .int .i64 s.n, .slice A3 e2 c3, .slice A4 (e1 + e2) c4, .pointer (some ⟨bx, 0, none⟩), .func (.func 40) #[] #[.pointer (some ⟨w4.heap.size + 1, 0, none⟩)], .int .i64 x.val.2, .int .u32 x.val.1, undef, undef, undef, undef, undef, undef, undef, undef, undef], defers := [] }) ?assign ?body ?done ?stop
  case hps => intro x; rfl
  case assign =>
    intro l x W K hK
    gi_wp2
    exact hK
  case body =>
    rintro l pre ⟨⟨p, ch⟩, hp, hch⟩ W ⟨⟨⟨v, hv, hrow, -⟩, hb⟩, hB⟩ hlt
    have hsn1 := encK_snoc (E1 ++ E2) pre ⟨(p, ch), hp, hch⟩
    have hlen := encK_len (E1 ++ E2) pre
    rw [List.length_append, G1.out, G2.out] at hlen
    simp only at hp hch hsn1
    obtain ⟨A0, c0, rfl⟩ := own_slice hrow
    obtain ⟨X, hX⟩ : ∃ X, encK (E1 ++ E2) pre = X := ⟨_, rfl⟩
    rw [hX] at hrow hsn1 hlen
    obtain ⟨m, hm⟩ : ∃ m, X.length = m := ⟨_, rfl⟩
    rw [hX, hm] at hv
    rw [hm] at hrow hlen
    obtain ⟨F1, hF1⟩ : ∃ E, Wire.enc p = E := ⟨_, rfl⟩
    obtain ⟨F2, hF2⟩ : ∃ E, Wire.enc ch = E := ⟨_, rfl⟩
    have r1 := Wire.enc_length_le p
    have r2 := Wire.enc_length_le ch
    rw [hF1] at r1 hsn1
    rw [hF2] at r2 hsn1
    obtain ⟨f1, hf1⟩ : ∃ e, F1.length = e := ⟨_, rfl⟩
    obtain ⟨f2, hf2⟩ : ∃ e, F2.length = e := ⟨_, rfl⟩
    rw [hf1] at r1
    rw [hf2] at r2
    have HSN := Lib.hid hsn1
    have HX := Lib.hid hX; have HM := Lib.hid hm
    have HF1 := Lib.hid hF1; have HF2 := Lib.hid hF2; have GF1 := Lib.hid hf1; have GF2 := Lib.hid hf2
    clear hsn1 hX hm hF1 hF2 hf1 hf2
    have HD1 := Lib.hid (fun (nn : Nat) (w : World) => callsIn_wide (n := nn).2 (wInt_len p (by omega) (by omega) F1 HF1.out f1 GF1.out w))
    have HD2 := Lib.hid (fun (nn : Nat) (w : World) => callsIn_wide (n := nn).2 (wInt_len ch (by omega) (by omega) F2 HF2.out f2 GF2.out w))
    have hc := hv.cell
    have hBs := hB.size
    have hB4s : w4.heap.size < W.heap.size := hv.lt
    gi_wp2
    have hwp : IntKind.i64.wrap p = p := IntWalk.i64_in _ (by omega)
    have hcd : W.drew.cell? ⟨w4.heap.size, 0, none⟩ = some (.slice A0 m c0) := hc
    have hrowd : W.drew.ownsRow w.heap.size 5 1 (.slice A0 m c0) m (bvs X) := hrow
    have hvd : Boxed W.drew w4.heap.size 57 (.slice A0 m c0) := hv
    have hbd : Boxed W.drew (w4.heap.size + 1) 24 (.pointer (some ⟨bx, 0, none⟩)) := hb
    refine wpIn_region_any_round (by kernel_rfl) (noDefers _ (by kernel_rfl)) ?_
    change wpAnyIn _ _ _ _ _ _ _ _ _ (World.drew _)
    refine wpAnyIn_take (i := 1) (oi := { dst := some 20, op := Op.move (Operand.tmp 5), type := 32, pos := "index.go:126", after := #[], guard := none }) (v := ?v1) rfl rfl (by kernel_rfl) (by kernel_rfl) (by kernel_rfl) (fun _ _ _ h => h) ⟨Or.inl ⟨by rfl, ?h1⟩, fun _ => rfl⟩ ?r1
    case h1 =>
      intro w
      go_simp
      try with_reducible rfl
    try simp only [Act.put, List.setIfInBounds_toArray, List.set_cons_zero, List.set_cons_succ]
    refine wpAnyIn_take (i := 2) (oi := { dst := some 21, op := Op.convert 32 3 (Operand.tmp 20), type := 3, pos := "index.go:126", after := #[{ on := 1, ground := Ground.data }], guard := none }) (v := ?v2) rfl rfl (by kernel_rfl) (by kernel_rfl) (by kernel_rfl) (fun _ _ _ h => h) ⟨Or.inl ⟨by rfl, ?h2⟩, fun _ => rfl⟩ ?r2
    case h2 =>
      intro w
      go_simp
      try with_reducible rfl
    try simp only [Act.put, List.setIfInBounds_toArray, List.set_cons_zero, List.set_cons_succ]
    refine wpAnyIn_take (i := 5) (oi := { dst := some 24, op := Op.move (Operand.tmp 4), type := 3, pos := "index.go:126", after := #[], guard := none }) (v := ?v5) rfl rfl (by kernel_rfl) (by kernel_rfl) (by kernel_rfl) (fun _ _ _ h => h) ⟨Or.inl ⟨by rfl, ?h5⟩, fun _ => rfl⟩ ?r5
    case h5 =>
      intro w
      go_simp
      try with_reducible rfl
    try simp only [Act.put, List.setIfInBounds_toArray, List.set_cons_zero, List.set_cons_succ]
    refine wpAnyIn_ready (rs := [0, 3]) (by kernel_rfl) (by simp) ?_
    refine AllReadyIn.cons (o := { dst := some 19, op := Op.load 57 (Operand.tmp 3), type := 57, pos := "index.go:126", after := #[], guard := none }) rfl (fun K hK => ?_) (AllReadyIn.cons (o := { dst := some 22, op := Op.call { callee := Callee.value (Operand.func 36), args := #[Operand.tmp 21], argTypes := #[3] }, type := 57, pos := "index.go:126", after := #[{ on := 2, ground := Ground.data }], guard := none }) rfl (fun K hK => ?_) AllReadyIn.nil)
    · go_simp
      refine hK _ _ ?_
      clear hK K
      try simp only [Act.put, List.setIfInBounds_toArray, List.set_cons_zero, List.set_cons_succ]
      refine wpAnyIn_ready (rs := [3]) (by kernel_rfl) (by simp) ?_
      refine AllReadyIn.cons (o := { dst := some 22, op := Op.call { callee := Callee.value (Operand.func 36), args := #[Operand.tmp 21], argTypes := #[3] }, type := 57, pos := "index.go:126", after := #[{ on := 2, ground := Ground.data }], guard := none }) rfl (fun K hK => ?_) AllReadyIn.nil
      go_simp
      refine ⟨trivial, ?_⟩
      gi_at_call 36
      refine (HD1.out _ _).mono ?_
      rintro e w5 ⟨A5, c5, rfl, own5, b5⟩
      have own0 := own_below hrowd b5
      have hv5 : Boxed w5 w4.heap.size 57 (.slice A0 m c0) := (b5.block _ hvd.lt).trans hvd
      have hb5 : Boxed w5 (w4.heap.size + 1) 24 (.pointer (some ⟨bx, 0, none⟩)) := (b5.block _ hbd.lt).trans hbd
      have hs5 : w.heap.size ≤ w5.heap.size := by have := b5.size; simp at this; omega
      obtain ⟨A6, c6, w6, hrun23, own6, hg6, _⟩ := run_app (P := Try.prog) w5 w.heap.size 57 bytesE A0 m c0 _ own0 _ A5 f1 c5 (bvs F1) (Rd.of_own own5) (bvs_one _) (by omega) (by unfold maxLen; omega) hs5
      have hv6 := hv5.kept hg6 (hv5.not_row (by decide) own0)
      have hb6 := hb5.kept hg6 (hb5.not_row (by decide) own0)
      have hs6 := hg6.size
      have hz0 := hv5.cell
      gi_wp2
      try simp only [Act.put, List.setIfInBounds_toArray, List.set_cons_zero, List.set_cons_succ]
      refine wpAnyIn_ready (rs := [4]) (by kernel_rfl) (by simp) ?_
      refine AllReadyIn.cons (o := { dst := some 23, op := Op.call { callee := Callee.builtin Builtin.append, args := #[Operand.tmp 19, Operand.tmp 22], argTypes := #[57, 57] }, type := 57, pos := "index.go:126", after := #[{ on := 0, ground := Ground.data }, { on := 3, ground := Ground.data }, { on := 3, ground := Ground.chain }], guard := none }) rfl (fun K hK => ?_) AllReadyIn.nil
      rw [if_pos (by rfl)]
      refine wpIn_appB (.tmp 19) (.tmp 22) rfl rfl rfl hrun23 ?_
      refine hK _ _ ?_
      clear hK K
      try simp only [Act.put, List.setIfInBounds_toArray, List.set_cons_zero, List.set_cons_succ]
      refine wpAnyIn_ready (rs := [6]) (by kernel_rfl) (by simp) ?_
      refine AllReadyIn.cons (o := { dst := some 25, op := Op.call { callee := Callee.value (Operand.func 36), args := #[Operand.tmp 24], argTypes := #[3] }, type := 57, pos := "index.go:126", after := #[{ on := 5, ground := Ground.data }, { on := 4, ground := Ground.chain }], guard := none }) rfl (fun K hK => ?_) AllReadyIn.nil
      go_simp
      refine ⟨trivial, ?_⟩
      gi_at_call 36
      refine (HD2.out _ _).mono ?_
      rintro e w7 ⟨A7, c7, rfl, own7, b7⟩
      have own6' := own_below own6 b7
      have hv7 : Boxed w7 w4.heap.size 57 (.slice A0 m c0) := (b7.block _ hv6.lt).trans hv6
      have hb7 : Boxed w7 (w4.heap.size + 1) 24 (.pointer (some ⟨bx, 0, none⟩)) := (b7.block _ hb6.lt).trans hb6
      have hs7 : w.heap.size ≤ w7.heap.size := by have := b7.size; omega
      obtain ⟨A8, c8, w8, hrun26, own8, hg8, _⟩ := run_app (P := Try.prog) w7 w.heap.size 57 bytesE A6 (m + f1) c6 _ own6' _ A7 f2 c7 (bvs F2) (Rd.of_own own7) (bvs_one _) (by omega) (by unfold maxLen; omega) hs7
      have hv8 := hv7.kept hg8 (hv7.not_row (by decide) own6')
      have hb8 := hb7.kept hg8 (hb7.not_row (by decide) own6')
      have hz1 := hv8.cell
      have hz2 := hv8.frozen
      gi_wp2
      try simp only [Act.put, List.setIfInBounds_toArray, List.set_cons_zero, List.set_cons_succ]
      refine wpAnyIn_ready (rs := [7]) (by kernel_rfl) (by simp) ?_
      refine AllReadyIn.cons (o := { dst := some 26, op := Op.call { callee := Callee.builtin Builtin.append, args := #[Operand.tmp 23, Operand.tmp 25], argTypes := #[57, 57] }, type := 57, pos := "index.go:126", after := #[{ on := 4, ground := Ground.data }, { on := 6, ground := Ground.data }, { on := 6, ground := Ground.chain }], guard := none }) rfl (fun K hK => ?_) AllReadyIn.nil
      rw [if_pos (by rfl)]
      refine wpIn_appB (.tmp 23) (.tmp 25) rfl rfl rfl hrun26 ?_
      refine hK _ _ ?_
      clear hK K
      try simp only [Act.put, List.setIfInBounds_toArray, List.set_cons_zero, List.set_cons_succ]
      refine wpAnyIn_ready (rs := [8]) (by kernel_rfl) (by simp) ?_
      refine AllReadyIn.cons (o := { dst := none, op := Op.store 57 (Operand.tmp 3) (Operand.tmp 26), type := 0, pos := "index.go:126", after := #[{ on := 7, ground := Ground.data }, { on := 7, ground := Ground.chain }, { on := 0, ground := Ground.phase }, { on := 1, ground := Ground.phase }, { on := 2, ground := Ground.phase }, { on := 3, ground := Ground.phase }, { on := 4, ground := Ground.phase }, { on := 5, ground := Ground.phase }, { on := 6, ground := Ground.phase }, { on := 7, ground := Ground.phase }], guard := none }) rfl (fun K hK => ?_) AllReadyIn.nil
      go_simp
      refine hK _ _ ?_
      clear hK K
      try simp only [Act.put, List.setIfInBounds_toArray, List.set_cons_zero, List.set_cons_succ]
      refine wpAnyIn_done (by kernel_rfl) ?_ _
      gi_wp2
      have hbk := hb8.other (B' := w4.heap.size) (by omega) (.slice A8 (m + f1 + f2) c8)
      have hown9 := own_kept8 own8 hv8
      have hKO := (((keeps_below (keeps_l_drew b5)).trans (keeps_row hg6 own0)).trans ((keeps_below b7).trans (keeps_row hg8 own6'))).trans (KeepsOthers.setCell w8 ⟨w4.heap.size, 0, none⟩ (.slice A8 (m + f1 + f2) c8))
      have hBW := ((((below_l_drew b5).mono hBs).grown hg6 hs5 (fun k hk => (own0.lt k hk).1)).trans (b7.mono (by omega))).grown hg8 hs7 (fun k hk => (own6'.lt k hk).1)
      have hBW2 := hBW.setCell (p := ⟨w4.heap.size, 0, none⟩) hB4 (.slice A8 (m + f1 + f2) c8)
      have hL9 : (encK (E1 ++ E2) (pre ++ [⟨(p, ch), hp, hch⟩])).length = m + f1 + f2 := by rw [HSN.out, List.length_append, List.length_append, HM.out, GF1.out, GF2.out]
      exact ⟨hKO.from _, ⟨hBW2, Eq.trans hbk (Eq.symm hb)⟩, ⟨⟨_, hv8.set _, by rw [hL9, HSN.out, ← bvs_append, ← bvs_append]; exact hown9, trivial⟩, hbk⟩, hB.trans hBW2⟩
    · go_simp
      refine ⟨trivial, ?_⟩
      gi_at_call 36
      refine (HD1.out _ _).mono ?_
      rintro e w5 ⟨A5, c5, rfl, own5, b5⟩
      have own0 := own_below hrowd b5
      have hv5 : Boxed w5 w4.heap.size 57 (.slice A0 m c0) := (b5.block _ hvd.lt).trans hvd
      have hb5 : Boxed w5 (w4.heap.size + 1) 24 (.pointer (some ⟨bx, 0, none⟩)) := (b5.block _ hbd.lt).trans hbd
      have hs5 : w.heap.size ≤ w5.heap.size := by have := b5.size; simp at this; omega
      obtain ⟨A6, c6, w6, hrun23, own6, hg6, _⟩ := run_app (P := Try.prog) w5 w.heap.size 57 bytesE A0 m c0 _ own0 _ A5 f1 c5 (bvs F1) (Rd.of_own own5) (bvs_one _) (by omega) (by unfold maxLen; omega) hs5
      have hv6 := hv5.kept hg6 (hv5.not_row (by decide) own0)
      have hb6 := hb5.kept hg6 (hb5.not_row (by decide) own0)
      have hs6 := hg6.size
      have hz0 := hv5.cell
      gi_wp2
      try simp only [Act.put, List.setIfInBounds_toArray, List.set_cons_zero, List.set_cons_succ]
      refine wpAnyIn_ready (rs := [0]) (by kernel_rfl) (by simp) ?_
      refine AllReadyIn.cons (o := { dst := some 19, op := Op.load 57 (Operand.tmp 3), type := 57, pos := "index.go:126", after := #[], guard := none }) rfl (fun K hK => ?_) AllReadyIn.nil
      go_simp
      refine hK _ _ ?_
      clear hK K
      try simp only [Act.put, List.setIfInBounds_toArray, List.set_cons_zero, List.set_cons_succ]
      refine wpAnyIn_ready (rs := [4]) (by kernel_rfl) (by simp) ?_
      refine AllReadyIn.cons (o := { dst := some 23, op := Op.call { callee := Callee.builtin Builtin.append, args := #[Operand.tmp 19, Operand.tmp 22], argTypes := #[57, 57] }, type := 57, pos := "index.go:126", after := #[{ on := 0, ground := Ground.data }, { on := 3, ground := Ground.data }, { on := 3, ground := Ground.chain }], guard := none }) rfl (fun K hK => ?_) AllReadyIn.nil
      rw [if_pos (by rfl)]
      refine wpIn_appB (.tmp 19) (.tmp 22) rfl rfl rfl hrun23 ?_
      refine hK _ _ ?_
      clear hK K
      try simp only [Act.put, List.setIfInBounds_toArray, List.set_cons_zero, List.set_cons_succ]
      refine wpAnyIn_ready (rs := [6]) (by kernel_rfl) (by simp) ?_
      refine AllReadyIn.cons (o := { dst := some 25, op := Op.call { callee := Callee.value (Operand.func 36), args := #[Operand.tmp 24], argTypes := #[3] }, type := 57, pos := "index.go:126", after := #[{ on := 5, ground := Ground.data }, { on := 4, ground := Ground.chain }], guard := none }) rfl (fun K hK => ?_) AllReadyIn.nil
      go_simp
      refine ⟨trivial, ?_⟩
      gi_at_call 36
      refine (HD2.out _ _).mono ?_
      rintro e w7 ⟨A7, c7, rfl, own7, b7⟩
      have own6' := own_below own6 b7
      have hv7 : Boxed w7 w4.heap.size 57 (.slice A0 m c0) := (b7.block _ hv6.lt).trans hv6
      have hb7 : Boxed w7 (w4.heap.size + 1) 24 (.pointer (some ⟨bx, 0, none⟩)) := (b7.block _ hb6.lt).trans hb6
      have hs7 : w.heap.size ≤ w7.heap.size := by have := b7.size; omega
      obtain ⟨A8, c8, w8, hrun26, own8, hg8, _⟩ := run_app (P := Try.prog) w7 w.heap.size 57 bytesE A6 (m + f1) c6 _ own6' _ A7 f2 c7 (bvs F2) (Rd.of_own own7) (bvs_one _) (by omega) (by unfold maxLen; omega) hs7
      have hv8 := hv7.kept hg8 (hv7.not_row (by decide) own6')
      have hb8 := hb7.kept hg8 (hb7.not_row (by decide) own6')
      have hz1 := hv8.cell
      have hz2 := hv8.frozen
      gi_wp2
      try simp only [Act.put, List.setIfInBounds_toArray, List.set_cons_zero, List.set_cons_succ]
      refine wpAnyIn_ready (rs := [7]) (by kernel_rfl) (by simp) ?_
      refine AllReadyIn.cons (o := { dst := some 26, op := Op.call { callee := Callee.builtin Builtin.append, args := #[Operand.tmp 23, Operand.tmp 25], argTypes := #[57, 57] }, type := 57, pos := "index.go:126", after := #[{ on := 4, ground := Ground.data }, { on := 6, ground := Ground.data }, { on := 6, ground := Ground.chain }], guard := none }) rfl (fun K hK => ?_) AllReadyIn.nil
      rw [if_pos (by rfl)]
      refine wpIn_appB (.tmp 23) (.tmp 25) rfl rfl rfl hrun26 ?_
      refine hK _ _ ?_
      clear hK K
      try simp only [Act.put, List.setIfInBounds_toArray, List.set_cons_zero, List.set_cons_succ]
      refine wpAnyIn_ready (rs := [8]) (by kernel_rfl) (by simp) ?_
      refine AllReadyIn.cons (o := { dst := none, op := Op.store 57 (Operand.tmp 3) (Operand.tmp 26), type := 0, pos := "index.go:126", after := #[{ on := 7, ground := Ground.data }, { on := 7, ground := Ground.chain }, { on := 0, ground := Ground.phase }, { on := 1, ground := Ground.phase }, { on := 2, ground := Ground.phase }, { on := 3, ground := Ground.phase }, { on := 4, ground := Ground.phase }, { on := 5, ground := Ground.phase }, { on := 6, ground := Ground.phase }, { on := 7, ground := Ground.phase }], guard := none }) rfl (fun K hK => ?_) AllReadyIn.nil
      go_simp
      refine hK _ _ ?_
      clear hK K
      try simp only [Act.put, List.setIfInBounds_toArray, List.set_cons_zero, List.set_cons_succ]
      refine wpAnyIn_done (by kernel_rfl) ?_ _
      gi_wp2
      have hbk := hb8.other (B' := w4.heap.size) (by omega) (.slice A8 (m + f1 + f2) c8)
      have hown9 := own_kept8 own8 hv8
      have hKO := (((keeps_below (keeps_l_drew b5)).trans (keeps_row hg6 own0)).trans ((keeps_below b7).trans (keeps_row hg8 own6'))).trans (KeepsOthers.setCell w8 ⟨w4.heap.size, 0, none⟩ (.slice A8 (m + f1 + f2) c8))
      have hBW := ((((below_l_drew b5).mono hBs).grown hg6 hs5 (fun k hk => (own0.lt k hk).1)).trans (b7.mono (by omega))).grown hg8 hs7 (fun k hk => (own6'.lt k hk).1)
      have hBW2 := hBW.setCell (p := ⟨w4.heap.size, 0, none⟩) hB4 (.slice A8 (m + f1 + f2) c8)
      have hL9 : (encK (E1 ++ E2) (pre ++ [⟨(p, ch), hp, hch⟩])).length = m + f1 + f2 := by rw [HSN.out, List.length_append, List.length_append, HM.out, GF1.out, GF2.out]
      exact ⟨hKO.from _, ⟨hBW2, Eq.trans hbk (Eq.symm hb)⟩, ⟨⟨_, hv8.set _, by rw [hL9, HSN.out, ← bvs_append, ← bvs_append]; exact hown9, trivial⟩, hbk⟩, hB.trans hBW2⟩
  case done =>
    rintro D ys W hD rfl ⟨⟨⟨v, hv, hrow, -⟩, hb⟩, hB⟩ hK
    have hc := hv.cell
    gi_wp2
    refine ⟨by simp, .inl ⟨_, _, rfl, run_takeDeferred hK, ?_⟩⟩
    have h1 := ownsRow_putObj hrow (.deferred none) hK rfl
    obtain ⟨A, c, rfl⟩ := own_slice hrow
    have e0 : encK (E1 ++ E2) ys = encX s.cap L := by unfold encX encK; rw [H1.out, HLL.out, H2.out, HK0.out]
    rw [e0] at h1
    refine ⟨_, results_tmp rfl _ _ _, A, c, by rw [e0]; rfl, h1, hB.trans (belowK_b (w := w) (Nat.le_refl _) W D _ _ (by simp at hD; omega) hK rfl rfl)⟩
  case stop =>
    rintro D c pre W _ _ h _
    exact h.elim
end Go.Proofs.Ytnehbcopbioenaa
