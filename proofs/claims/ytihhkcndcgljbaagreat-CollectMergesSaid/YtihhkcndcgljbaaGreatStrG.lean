/- Stripes: the used stripes of a code. Conditions: the rows are kept. -/
import Derived.Test.YtihhkcndcgljbaaGreatStrF
namespace Go.Proofs.YtihhkcndcgljbaaGreat.S
set_option linter.unusedVariables false
set_option linter.unusedSimpArgs false
open Go.RowKit Go.Shelf

attribute [local go_sem] Oper.semAt_some

theorem isRow_own {β : Type} {w0 : Nat} (B : Nat) (t : TypeId) (f : β → List Value) : OwnFrom w0 (fun s W => IsRow W B t (f s)) := fun s X Y row hs hg hr =>
  hs.grown hg (fun e => by obtain ⟨_, o, ho, hc⟩ := hr B e; rw [show X.heap[B]? = _ from hs] at ho; cases ho; cases hc)
namespace Str
/-- the used stripes of a code from row j on -/
def strs (c : Int) : List Rw → Nat → List (Int × Int)
  | [], _ => []
  | r :: l, j => if r.code = c then r.used.map (fun u => ((j : Int), u.g)) ++ strs c l (j + 1) else strs c l (j + 1)
end Str
def stL (x : Int × Int) : List Value := [.int .i64 x.1, .int .i64 x.2]
abbrev stLs (l : List (Int × Int)) : List Value := l.flatMap stL
theorem stLs_snoc (l : List (Int × Int)) (x : Int × Int) : stLs l ++ [.int .i64 x.1, .int .i64 x.2] = stLs (l ++ [x]) := by simp [stLs, stL]
theorem stL_one (x : Int × Int) : ∀ u ∈ stL x, u.oneCell' = true := by intro u hu; simp only [stL, List.mem_cons, List.not_mem_nil, or_false] at hu; rcases hu with rfl | rfl <;> rfl
def rowP (x : Nat × RR) : List (Int × Int) := x.2.r.used.map (fun u => ((x.1 : Int), u.g))
theorem rowP_get {x : Nat × RR} {j : Nat} (h : j < x.2.r.used.length) : (rowP x)[j]? = some ((x.1 : Int), (x.2.r.used[j]).g) := by
  unfold rowP; rw [List.getElem?_map, List.getElem?_eq_getElem h]; rfl
theorem rowP_len (x : Nat × RR) : (rowP x).length = x.2.r.used.length := by unfold rowP; rw [List.length_map]
def strP {c : Int} {D : List RR} (pre : List (OfT c D)) : List (Int × Int) := pre.flatMap fun x => rowP x.1
theorem strP_snoc {c : Int} {D : List RR} (pre : List (OfT c D)) (x : OfT c D) : strP (pre ++ [x]) = strP pre ++ rowP x.1 := by simp [strP]
theorem strP_len {c : Int} {D : List RR} (hD : ∀ x ∈ D, x.r.used.length ≤ 65536) (pre : List (OfT c D)) : (strP pre).length ≤ pre.length * 65536 := by
  induction pre with
  | nil => simp [strP]
  | cons x pre ih =>
    have h := hD x.1.2 (List.mem_of_getElem? x.2.1)
    show (rowP x.1 ++ strP pre).length ≤ _
    rw [List.length_append, List.length_cons]
    have : (rowP x.1).length = x.1.2.r.used.length := by unfold rowP; simp
    omega
theorem strP_eq (c : Int) (D : List RR) : strP (ofS c D) = Str.strs c (D.map RR.r) 0 := by
  have h : strP (ofS c D) = (ofD c D 0).flatMap rowP := by
    rw [← ofS_val c D, List.flatMap_map]; rfl
  rw [h]
  clear h
  generalize 0 = j
  induction D generalizing j with
  | nil => rfl
  | cons x D ih =>
    unfold ofD
    rw [List.map_cons]
    unfold Str.strs
    by_cases hc : x.r.code = c
    · rw [if_pos hc, if_pos hc, List.flatMap_cons, ih]; rfl
    · rw [if_neg hc, if_neg hc, ih]
theorem infoSt : (Tryz.prog.info? 35).map (fun i => (i.zero, i.size, i.bytes)) = some (some (.agg #[.int .i64 0, .int .i64 0]), 2, 16) := by kernel_rfl
theorem cells_new' (w : World) (us : List Value) (e : TypeId) : ∀ (j : Nat) (u : Value), us[j]? = some u → (w.alloc (.cells us.toArray e)).cell? ((⟨w.heap.size, 0, none⟩ : Addr).add j) = some u := by
  intro j u hu
  rw [Addr.add_lit]
  have h := cell_of_row (w.alloc (.cells us.toArray e)) w.heap.size (0 + j) us.toArray e (0, 0) (heap_alloc_new w _)
  rw [h, Nat.zero_add]
  simpa using hu
/-- the state of the list while it grows -/
structure SI (w : World) (c : Int) (l : List (Int × Int)) (W : World) : Prop where
  row : ∃ v, Boxed W w.heap.size 90 v ∧ W.ownsRow w.heap.size 35 2 v l.length (stLs l)
  box : Boxed W (w.heap.size + 1 + 1) 3 (.int .i64 c)
  bel : Below w.heap.size w W
theorem SI.below {w : World} {c : Int} {l : List (Int × Int)} {W W' : World} (h : SI w c l W) (hb : Below W.heap.size W W') : SI w c l W' := by
  obtain ⟨⟨v, h1, h2⟩, h3, h4⟩ := h
  exact ⟨⟨v, (hb.block _ h1.lt).trans h1, own_below h2 hb⟩, (hb.block _ h3.lt).trans h3, h4.trans (hb.mono h4.size)⟩
theorem si_own (w : World) (c : Int) {β : Type} {B : Nat} (f : β → List (Int × Int)) (hB : w.heap.size ≤ B) : OwnFrom B (fun s W => SI w c (f s) W) := fun s X Y row hs hg hr => by
  obtain ⟨⟨v, h1, h2⟩, h3, h4⟩ := hs
  have hn : ∀ b o t, X.heap[b]? = some (.cells o t (0, 0)) → row ≠ some b := fun b o t hX e => by
    obtain ⟨_, o', ho, hc⟩ := hr b e
    rw [hX] at ho; cases ho; cases hc
  refine ⟨⟨v, h1.kept hg (fun e => hn _ _ _ h1 e.symm), h2.kept hg ?_⟩, h3.kept hg (fun e => hn _ _ _ h3 e.symm), h4.grown hg h4.size (fun k e => by have := (hr k e).1; omega)⟩
  rcases h2.2 with ⟨rfl, _⟩ | ⟨g, cap, cur, rfl, _, hgb, _⟩
  · exact .inl rfl
  · refine .inr fun e' => ?_
    exact hn _ _ _ hgb (e'.symm.trans (by simp [Value.ownBlock]))
theorem keeps_below' {W W' : World} (h : Below W.heap.size W W') : KeepsOthers W W' := ⟨h.size, fun k o hk _ => (h.block k (Array.getElem?_eq_some_iff.1 hk).1).trans hk⟩
theorem run_loadVar1 {P : Program} (w : World) (b : Nat) (ty : TypeId) (v : Value) {d : TypeDesc} (hc : w.cell? ⟨b, 0, none⟩ = some v) (hu : P.underlying ty = some d) (hd : (match d with | .struct _ | .array _ _ => true | _ => false) = false) : (loadVar ty ⟨b, 0, none⟩).run P w = .ok v w := by
  cases d <;> first | contradiction | simp [loadVar, isAgg, go_sem, hu, hc, run_underlying hu]
theorem resultC1 {P : Program} {fn : Func} {p : Tmp} {ty : TypeId} (h : fn.results = #[.cell p ty]) (tmps : Array Value) (w : World) {b : Nat} {v : Value} {d : TypeDesc}
    (hp : tmps.getD p undef = .pointer (some ⟨b, 0, none⟩)) (hc : w.cell? ⟨b, 0, none⟩ = some v) (hu : P.underlying ty = some d) (hd : (match d with | .struct _ | .array _ _ => true | _ => false) = false) :
    (results fn tmps).run P w = .ok v w := by
  have hp' : tmps[p]?.getD undef = .pointer (some ⟨b, 0, none⟩) := by simpa using hp
  simp [results, h, hp', asAddr, run_loadVar1 w b ty v hc hu hd]
set_option maxRecDepth 100000 in
set_option maxHeartbeats 2000000 in
theorem stripes_any {w : World} {B m cp : Nat} {A : Option Addr} {D : List RR} {rs : List Str.Rw} (h : RowsAt w B A m D rs) (hB : B ≤ w.heap.size) (hmc : m ≤ cp) (c : Int) :
    Calls Tryz.prog 66 #[.slice A m cp, .int .i64 c] w fun e W' => ∃ A' c', e = .returned (.slice A' (Str.strs c rs 0).length c') ∧ W'.ownsRow w.heap.size 35 2 (.slice A' (Str.strs c rs 0).length c') (Str.strs c rs 0).length (stLs (Str.strs c rs 0)) ∧ Below w.heap.size w W' := by
  have HR := Lib.hid (h.more hB)
  have HLN : Hid ((ofS c D).length ≤ 65536) := Lib.hid (by have := ofS_len c D; have := ofD_len c D 0; have := h.len.1; have := h.mx; omega)
  have HST : Hid (strP (ofS c D) = Str.strs c rs 0) := Lib.hid (by rw [strP_eq, h.rs])
  clear h hB
  refine (callsIn_wide (n := 6)).1 ?_
  refine callsIn_of_wp_marks Tryz.func66 rfl trivial ?_ rfl
  simp only [Tryz.ntmps66, List.size_toArray, List.length_cons, List.length_nil, Nat.reduceAdd, Nat.reduceSub, Array.replicate_succ, Array.replicate_zero, List.push_toArray, List.append_toArray, List.nil_append, List.cons_append]
  gi_wp2_with (refine ⟨trivial, ?_⟩; gi_at_call 89; refine (of_in Fence.wide _ trivial rfl _ _ _ _ _).mono ?_; rintro e w' ⟨rfl, rfl⟩)
  have bN := Boxed.new w 90 (.slice none 0 0)
  have bR := Boxed.new (w.alloc (.cells #[.slice none 0 0] 90)) 25 (.slice A m cp)
  have bC := Boxed.new ((w.alloc (.cells #[.slice none 0 0] 90)).alloc (.cells #[.slice A m cp] 25)) 3 (.int .i64 c)
  rw [World.size_alloc] at bR
  rw [World.size_alloc, World.size_alloc] at bC
  have hB0 : Below w.heap.size w (((w.alloc (.cells #[.slice none 0 0] 90)).alloc (.cells #[.slice A m cp] 25)).alloc (.cells #[.int .i64 c] 3)) := (((Below.refl _ w).alloc (Nat.le_refl _) _).alloc (by simp) _).alloc (by simp; omega) _
  have hsz : (((w.alloc (.cells #[.slice none 0 0] 90)).alloc (.cells #[.slice A m cp] 25)).alloc (.cells #[.int .i64 c] 3)).heap.size = w.heap.size + 3 := by simp
  have hS0 : SI w c (strP ([] : List (OfT c D))) (((w.alloc (.cells #[.slice none 0 0] 90)).alloc (.cells #[.slice A m cp] 25)).alloc (.cells #[.int .i64 c] 3)) := ⟨⟨_, (bN.alloc _).alloc _, World.ownsRow_nil _ _ _ _⟩, bC, hB0⟩
  have bR2 := bR.alloc (.cells #[.int .i64 c] 3)
  obtain ⟨W0, hW0⟩ : ∃ W0, ((w.alloc (.cells #[.slice none 0 0] 90)).alloc (.cells #[.slice A m cp] 25)).alloc (.cells #[.int .i64 c] 3) = W0 := ⟨_, rfl⟩
  rw [hW0] at bC bR2 hB0 hsz hS0 ⊢
  clear hW0 bR bN
  refine wpIn_rangeFunc_ownH rfl (show 1 ≤ 6 by omega) (gf := 100) (lb := #[.pointer (some ⟨w.heap.size + 1, 0, none⟩), .pointer (some ⟨w.heap.size + 1 + 1, 0, none⟩)]) rfl trivial (enters_of Tryz.func100 (by kernel_rfl) rfl)
    (of_stops Fence.wide (6 - 1) trivial rfl (by omega) (w.heap.size + 1) (w.heap.size + 1 + 1) w.heap.size m cp A D c W0 rs (HR.out.below hB0) hmc (by omega) (by omega) (by omega) bR2.cell bC.cell) keepsBox_t (keepsBox_b (by omega) (by omega)) (Below.refl _ _) ?hps
    (fun pre W => SI w c (strP pre) W)
    (fun _ _ _ => False)
    (si_own w c strP (by omega))
    (fun _ _ _ _ _ hs _ _ => hs)
    hS0
    (fun x a' W => ∃ Bx, w.heap.size + 2 < Bx ∧ IsRow W Bx 44 (rwL x.1.2) ∧ a' = { tmps := #[.slice A m cp, .int .i64 c, undef, undef, .pointer (some ⟨w.heap.size, 0, none⟩), .int .i64 (x.1.1 : Int), .pointer (some ⟨Bx, 0, none⟩), undef, undef, .slice A m cp, .int .i64 c, .func (.func 100) #[] #[.pointer (some ⟨w.heap.size + 1, 0, none⟩), .pointer (some ⟨w.heap.size + 1 + 1, 0, none⟩)], .int .i64 (x.1.1 : Int), .agg (rwL x.1.2).toArray, undef, undef, undef, undef, undef, undef, undef, undef, undef, undef, undef, undef, undef, undef, undef, undef], defers := [] })
    (fun x a' _ X Y row hs hg hr => by obtain ⟨Bx, h1, h2, h3⟩ := hs; exact ⟨Bx, h1, isRow_own (w0 := W0.heap.size) Bx 44 (fun (_ : Unit) => rwL x.1.2) () X Y row h2 hg hr, h3⟩)
    ?assign ?body ?done ?stop
  case hps => intro x; rfl
  case assign =>
    rintro l pre x W K hi hK
    have HX : Hid (List.all (rwL x.1.2) (·.oneCell') = true) := Lib.hid (List.all_eq_true.2 (rwL_one _))
    have HXL : Hid ((rwL x.1.2).length = 3) := Lib.hid rfl
    have HSI := Lib.hid hi
    dsimp only [ofEncs, rowEncs]
    obtain ⟨cs, hcs⟩ : ∃ cs, rwL x.1.2 = cs := ⟨_, rfl⟩
    rw [hcs] at hK HX HXL ⊢
    have HK := Lib.hid hK
    clear hK hi
    gi_wp2_with (first
      | (refine wpListIn_allocRow rfl _ rfl _ infoRw ?_; intro w4 r4 b4 z4; clear z4)
      | (refine wpListIn_storeRow rfl _ (.tmp 6) (.tmp 13) rfl (l' := cs) r4 rfl rfl (by rw [HXL.out]; exact sizeRw) HXL.out.symm HX.out ?_; intro w5 r5 g5 z5 q5; clear z5 q5 r4; have b5 := b4.grown g5 b4.size (fun k e => by have := Option.some.inj e; omega); clear b4 g5))
    exact HK.out _ _ ((keeps_below' b5).from _) ⟨b5.mono HSI.out.bel.size, b5.block _ HSI.out.box.lt⟩ (HSI.out.below b5) ⟨W.heap.size, by have := HSI.out.box.lt; omega, r5, rfl⟩
  case body =>
    rintro l pre x a' W hl ⟨r, hr⟩ hi ⟨Bx, hBx, bX, rfl⟩ hlt
    clear hl hr
    obtain ⟨i0, hin, hz0, hz1, hz2⟩ := info_parts infoSt
    have hok := HR.out.us x.1.2 (List.mem_of_getElem? x.2.1)
    have hmu := hok.mx
    have hle := hok.le
    have HOK := Lib.hid hok
    have HSI := Lib.hid hi
    have HLT := Lib.hid hlt
    have HPL : Hid ((strP pre).length ≤ 65536 * 65536) := Lib.hid (Nat.le_trans (strP_len (fun x hx => (HR.out.us x hx).mx) pre) (Nat.mul_le_mul_right _ (by have := HLN.out; omega)))
    have k2 : W.cell? ⟨Bx, 2, none⟩ = some (.slice x.1.2.A x.1.2.r.used.length x.1.2.k) := bX.cell 2
    obtain ⟨us, hus⟩ : ∃ us, x.1.2.r.used = us := ⟨_, rfl⟩
    obtain ⟨n, hn⟩ : ∃ n, us.length = n := ⟨_, rfl⟩
    obtain ⟨A2, hA2⟩ : ∃ y, x.1.2.A = y := ⟨_, rfl⟩
    obtain ⟨q2, hq2⟩ : ∃ y, x.1.2.k = y := ⟨_, rfl⟩
    rw [hus, hn, hA2, hq2] at k2
    rw [hus, hn] at hmu hle
    rw [hq2] at hle
    have HU := Lib.hid hus
    have HN := Lib.hid hn
    have HA2 := Lib.hid hA2
    obtain ⟨ri, hri⟩ : ∃ y, (x.1.1 : Int) = y := ⟨_, rfl⟩
    have HRI := Lib.hid hri
    rw [hri]
    clear hok hi hlt bX hus hn hA2 hq2 hri
    gi_wp2
    gi_loopw [17] (fun u wr => ∃ j : Nat, j ≤ n ∧ u = .int .i64 (j : Int) ∧ Hid (SI w c (strP pre ++ (rowP x.1).take j) wr) ∧ Hid (KeepsFrom W0.heap.size W wr) ∧ Hid (KeepsBox w.heap.size (w.heap.size + 1 + 1) W wr)) (fun u _ => n - (intOf u).toNat)
    case atStart => exact ⟨0, Nat.zero_le _, rfl, Lib.hid (by rw [List.take_zero, List.append_nil]; exact HSI.out), Lib.hid (KeepsFrom.refl _ _), Lib.hid ⟨Below.refl _ _, rfl⟩⟩
    case round =>
      obtain ⟨j, hj, rfl, HS, HKF, HKB⟩ := hrel
      by_cases hlt : j < n
      · have hju : j < x.1.2.r.used.length := by rw [HU.out, HN.out]; exact hlt
        obtain ⟨d, o2, hA, hd, hrg, -⟩ := (HOK.out.below HS.out.bel).at hju
        obtain rfl : A2 = some ⟨d, o2, none⟩ := HA2.out.symm.trans hA
        obtain ⟨y, hy⟩ : ∃ y, x.1.2.r.used[j] = y := ⟨_, rfl⟩
        rw [hy] at hrg
        have HT : Hid (strP pre ++ (rowP x.1).take (j + 1) = (strP pre ++ (rowP x.1).take j) ++ [(ri, y.g)]) := Lib.hid (by
          rw [List.append_assoc, List.take_add_one, rowP_get hju, hy, HRI.out]; rfl)
        obtain ⟨T, hT⟩ : ∃ T, strP pre ++ (rowP x.1).take j = T := ⟨_, rfl⟩
        have HTL : Hid (T.length ≤ 65536 * 65536 + 65536) := Lib.hid (by rw [← hT, List.length_append]; have h1 := HPL.out; have h2 : ((rowP x.1).take j).length ≤ j := by rw [List.length_take]; omega
                                                                         generalize 65536 * 65536 = Z at *
                                                                         omega)
        rw [hT] at HS HT
        have HSB := Lib.hid (fun (V : World) (hV : Below wr.heap.size wr V) => HS.out.below hV)
        obtain ⟨yg, ye, yc⟩ := y
        have e1 : (0 : Int) ≤ (j : Int) := by omega
        have e2 : (j : Int) < (n : Int) := by omega
        clear hy hA hT hd hju
        gi_wp2_with (first
          | (refine wpListIn_load_rg rfl _ (.tmp 19) rfl d (o2 + j * 3) rfl _ _ hrg Tryz.underlying107 rfl sizeUs ?_)
          | (refine wpListIn_allocRow rfl _ rfl _ infoUs ?_; intro w4 r4 b4 z4; clear z4)
          | (refine wpListIn_storeRow rfl _ (.tmp 8) (.tmp 20) rfl (l' := [.int .i64 yg, .int .i64 ye, .int .i64 yc]) r4 rfl rfl sizeUs rfl rfl ?_; intro w5 r5 g5 z5 q5; clear z5 q5 r4; have b5 := b4.grown g5 b4.size (fun k e => by have := Option.some.inj e; omega); clear b4 g5; have kg := r5.cell 0; dsimp only [List.getElem?_cons_zero] at kg; obtain ⟨⟨v, hv, hrow⟩, hbx, hbel⟩ := HSB.out w5 b5; have hc := hv.cell)
          | (gi_at_builtin; refine wpListIn_append_own _ rfl _ _ 90 rfl w.heap.size 35 i0 (.agg #[.int .i64 0, .int .i64 0]) 2 16 Tryz.underlying90 hin hz0 hz1 hz2 rfl (by decide) _ _ _ rfl (hrow.alloc _) ⟨w5.heap.size, 0, none⟩ 1 1 [.int .i64 ri, .int .i64 yg] rfl rfl (cells_new' _ _ _) (stL_one (ri, yg)) (by have := HTL.out; unfold maxLen; omega) (by have := HTL.out; omega) (by have := hbel.size; simp; omega) ?_; intro v' w6 hown' hgrow _; obtain ⟨g', cap', rfl⟩ := ownsRow_succ hown'; have hbk := (hbx.alloc _).kept hgrow (hbx.not_row (by decide) hrow); obtain ⟨hv1, hv2, hr2, hk2, hb2⟩ := hv.appended (by decide) hrow hbel.size (Nat.le_refl _) hown' hgrow; have hc1 := hv1.cell; have hf1 := hv1.frozen))
        have hbk2 := hbk.other (B' := w.heap.size) (by omega) (.slice (some ⟨g', 0, none⟩) (T.length + 1) cap')
        go_roundw
        case rel =>
          refine ⟨j + 1, by omega, by go_num, Lib.hid ?_, Lib.hid (HKF.out.trans (((keeps_below' b5).trans hk2).from _)), Lib.hid (keepsBox_t HKB.out ⟨(b5.mono HS.out.bel.size).trans hb2, Eq.trans hbk2 (Eq.symm HS.out.box)⟩)⟩
          rw [HT.out]
          exact ⟨⟨_, hv2, by rw [← stLs_snoc, List.length_append]; exact hr2⟩, hbk2, hbel.trans hb2⟩
        case measure => simp [intOf]; omega
      · obtain rfl : j = n := by omega
        gi_wp2
        exact ⟨HKF.out, HKB.out, by show SI w c (strP (pre ++ [x])) wr; rw [strP_snoc]; have := HS.out; rw [List.take_of_length_le (by rw [rowP_len, HU.out, HN.out]; exact Nat.le_refl _)] at this; exact this⟩
  case done =>
    rintro D' ys W hD rfl hi hK
    rw [HST.out] at hi
    obtain ⟨⟨v, hv, hrow⟩, hbx, hbel⟩ := hi
    obtain ⟨A', c', rfl⟩ := own_slice hrow
    have hc := hv.cell
    have hf := hv.frozen
    gi_wp2
    have hv2 := hv.set (.slice A' (Str.strs c rs 0).length c')
    have hr2 : (W.setCell ⟨w.heap.size, 0, none⟩ (.slice A' (Str.strs c rs 0).length c')).ownsRow w.heap.size 35 2 (.slice A' (Str.strs c rs 0).length c') (Str.strs c rs 0).length (stLs (Str.strs c rs 0)) := hrow.kept (grownBy_setCell' W w.heap.size _) (.inr (hv.not_row (by decide) hrow).symm)
    have hb2 : Below w.heap.size w (W.setCell ⟨w.heap.size, 0, none⟩ (.slice A' (Str.strs c rs 0).length c')) := hbel.setCell (p := ⟨w.heap.size, 0, none⟩) (Nat.le_refl _) _
    have hK2 : (W.setCell ⟨w.heap.size, 0, none⟩ (.slice A' (Str.strs c rs 0).length c')).heap[D']? = some (.deferred (some [])) := (KeepsOthers.setCell W _ _).same D' _ hK rfl
    generalize W.setCell ⟨w.heap.size, 0, none⟩ (.slice A' (Str.strs c rs 0).length c') = V at *
    refine ⟨by simp, .inl ⟨_, _, rfl, run_takeDeferred hK2, ?_⟩⟩
    have h1 := ownsRow_putObj hr2 (.deferred none) hK2 rfl
    have h2 : Boxed (V.putObj D' (.deferred none)) w.heap.size 90 (.slice A' (Str.strs c rs 0).length c') := boxed_own _ _ (fun _ : Unit => Value.slice A' (Str.strs c rs 0).length c') () V _ (some D') hv2 (grownBy_putObj' V D' _) (fun r e => by cases e; exact ⟨_, hK2, rfl⟩)
    exact ⟨_, resultC1 rfl _ _ rfl h2.cell Tryz.underlying90 rfl, A', c', rfl, h1, hb2.trans (belowK_b (w := w) (Nat.le_refl _) V D' _ _ (by omega) hK2 rfl rfl)⟩
  case stop =>
    rintro D' c' pre W _ _ h _
    exact h.elim
end Go.Proofs.YtihhkcndcgljbaaGreat.S
