/- Allocate with good arguments. Conditions: the rows are kept. -/
import Derived.Test.YtcmgnjdhjnclkaaStrO2
namespace Go.Proofs.Ytcmgnjdhjnclkaa.S
set_option linter.unusedVariables false
set_option linter.unusedSimpArgs false
open Go.RowKit Go.Shelf

attribute [local go_sem] Oper.semAt_some

set_option maxRecDepth 100000 in
set_option maxHeartbeats 16000000 in
theorem alloc_ok {w : World} {B n c : Nat} {A : Option Addr} {D : List RR} {l : List Str.Rw} (h : RowsAt w B A n D l) (hB : B ≤ w.heap.size) (hnc : n ≤ c) (cf : Str.Cfg) (code width ge gc : Int) (hok : Str.argsOk cf code width) (hsm : ∀ r ∈ l, r.used.length ≤ 60000) :
    Calls Try.prog 9 #[cfV cf, .slice A n c, .int .i64 code, .int .i64 width, gnV ge gc] w (AlcRes w n l (Str.grp cf width) code width ge gc) := by
  have HR := Lib.hid (h.more hB)
  have HSM := Lib.hid hsm
  have hmx := h.mx
  have HLN := Lib.hid h.len
  have HG := Lib.hid (fun W => groups_any cf width W)
  have HCP := Lib.hid (fun (W : World) (hW : Below w.heap.size w W) => copied_any (c := c) ((h.below (hW.mono hB))) (Nat.le_trans hB hW.size))
  obtain ⟨h1, h2, h3, h4, h5⟩ := hok
  obtain ⟨G, hG⟩ : ∃ G, Str.grp cf width = G := ⟨_, rfl⟩
  rw [hG] at HG h5 ⊢
  have HCV : Hid (cfV cf = .agg (cfL cf).toArray) := Lib.hid rfl
  have HCL : Hid ((cfL cf).length = 6) := Lib.hid rfl
  rw [HCV.out] at HG
  rw [HCV.out]
  obtain ⟨cl, hcl⟩ : ∃ y, cfL cf = y := ⟨_, rfl⟩
  rw [hcl] at HG HCL ⊢
  clear h hB hG HCV hcl hsm
  have d1 : decide (code < 0) = false := decide_eq_false (by omega)
  have d2 : decide (code ≥ 8) = false := decide_eq_false (by omega)
  have d3 : decide (width < 1) = false := decide_eq_false (by omega)
  have d4 : decide (width > 32) = false := decide_eq_false (by omega)
  unfold gnV
  refine (callsIn_wide (n := 12)).1 ?_
  refine callsIn_of_wp_marks Try.func9 rfl trivial ?_ rfl
  simp only [Try.ntmps9, List.size_toArray, List.length_cons, List.length_nil, Nat.reduceAdd, Nat.reduceSub, Array.replicate_succ, Array.replicate_zero, List.push_toArray, List.append_toArray, List.nil_append, List.cons_append]
  refine wpIn_wide.2 ?_
  go_upto_region 1 with (first
    | (refine wpList_boxRow rfl _ (.tmp 0) rfl cl rfl rfl ?_; intro w1 r1 b1 z1; simp only [put_some, List.setIfInBounds_toArray, List.set_cons_succ, List.set_cons_zero])
    | (refine wpList_box1 rfl _ (.tmp 2) rfl _ rfl rfl ?_; intro w2 r2 b2 z2; simp only [put_some, List.setIfInBounds_toArray, List.set_cons_succ, List.set_cons_zero])
    | (refine wpList_box1 rfl _ (.tmp 3) rfl _ rfl rfl ?_; intro w3 r3 b3 z3; simp only [put_some, List.setIfInBounds_toArray, List.set_cons_succ, List.set_cons_zero])
    | (refine wpList_boxRow rfl _ (.tmp 4) rfl [.int .i64 ge, .int .i64 gc] rfl rfl ?_; intro w4 r4 b4 z4; simp only [put_some, List.setIfInBounds_toArray, List.set_cons_succ, List.set_cons_zero])
    | (refine wpList_alloc1 rfl _ rfl _ infoRows rfl ?_; intro w5 r5 b5 z5; simp only [put_some, List.setIfInBounds_toArray, List.set_cons_succ, List.set_cons_zero])
    | (refine wpList_allocRow rfl _ rfl _ infoSt' ?_; intro w6 r6 b6 z6; simp only [put_some, List.setIfInBounds_toArray, List.set_cons_succ, List.set_cons_zero])
    | (refine wpList_alloc1 rfl _ rfl _ infoErrno rfl ?_; intro w7 r7 b7 z7; simp only [put_some, List.setIfInBounds_toArray, List.set_cons_succ, List.set_cons_zero]))
  obtain ⟨ab, e1, e2, e3, e4, e5, e6⟩ := AB.first r1 b1 z1 r2 b2 z2 r3 b3 z3 r4 b4 z4 r5 b5 z5 r6 b6 z6 r7 b7
  rw [e1, e2, e3, e4, e5, e6]
  clear r1 r2 r3 r4 r5 r6 r7 b1 b2 b3 b4 b5 b6 b7 z1 z2 z3 z4 z5 z6 z7 e1 e2 e3 e4 e5 e6
  have k2 := ab.co.cell 0
  have k3 := ab.wi.cell 0
  dsimp only [List.getElem?_cons_zero] at k2 k3
  have HA := Lib.hid ab
  have hrg : w7.rangeAt w.heap.size 0 cl := fun j v hv => by rw [Nat.zero_add, ab.cf.cell]; exact hv
  clear ab
  go_wp2_with (first
    | (refine wpList_load_rg rfl _ (.tmp 5) rfl w.heap.size 0 rfl cl _ hrg Try.underlying23 rfl (by rw [HCL.out]; exact sizeCf) ?_)
    | (go_at_call 15; refine (HG.out _).mono ?_; rintro e w8 ⟨rfl, b8⟩; have HA8 := Lib.hid (HA.out.below b8); have k28 := HA8.out.co.cell 0; dsimp only [List.getElem?_cons_zero] at k28)
    | (go_at_call 23; refine ((callsIn_wide (n := 12)).1 (of_in Fence.wide _ trivial rfl _ _ _ _ _)).mono ?_; rintro e w9 ⟨rfl, rfl⟩))
  have HB8 := Lib.hid HA8.out.bel
  have bR := (Boxed.new w8 25 (.slice A n c)).alloc (.cells #[.int .i64 code] 3)
  have bC := Boxed.new (w8.alloc (.cells #[.slice A n c] 25)) 3 (.int .i64 code)
  rw [World.size_alloc] at bC
  have hB0 : Below w8.heap.size w8 ((w8.alloc (.cells #[.slice A n c] 25)).alloc (.cells #[.int .i64 code] 3)) := ((Below.refl _ w8).alloc (Nat.le_refl _) _).alloc (by simp) _
  have hsz : ((w8.alloc (.cells #[.slice A n c] 25)).alloc (.cells #[.int .i64 code] 3)).heap.size = w8.heap.size + 2 := by simp
  obtain ⟨W0, hW0⟩ : ∃ W0, (w8.alloc (.cells #[.slice A n c] 25)).alloc (.cells #[.int .i64 code] 3) = W0 := ⟨_, rfl⟩
  rw [hW0] at bR bC hB0 hsz ⊢
  have HA0 := Lib.hid (HA8.out.below hB0)
  have hR0 : RowsAt W0 w8.heap.size A n D l := (HR.out.below HA0.out.bel).more HA8.out.bel.size
  clear hW0 k28 b8 k2 k3 hrg HA
  refine (wpIn_wide (n := 12)).1 ?_
  refine wpIn_rangeFunc_ownH rfl (show 1 ≤ 12 by omega) (gf := 34) (lb := #[.pointer (some ⟨w8.heap.size, 0, none⟩), .pointer (some ⟨w8.heap.size + 1, 0, none⟩)]) rfl trivial (enters_of Try.func34 (by kernel_rfl) rfl)
    (of_stops Fence.wide (12 - 1) trivial rfl (by omega) w8.heap.size (w8.heap.size + 1) w8.heap.size n c A D code W0 l hR0 hnc (by omega) (by omega) (by omega) bR.cell bC.cell) keepsBox_t (keepsBox_b (by omega) (by omega)) (Below.refl _ _) ?hps
    (fun pre W => Below W0.heap.size W0 W ∧ (∀ x ∈ pre, x.1.2.r.width = width))
    (fun cd _ W => cd = .ret ∧ AFin w n l G code width ge gc W)
    (OwnFrom.and (ownFrom_below (Nat.le_refl _) (Nat.le_refl _)) (ownFrom_pure _ _))
    (fun cd => OwnFrom.and (ownFrom_pure _ _) (aFin_own w n l G code width ge gc (by have := HB8.out.size; omega)))
    ⟨Below.refl _ _, fun x hx => by cases hx⟩
    (fun x a' W => ∃ Bx, IsRow W Bx 59 (rwL x.1.2) ∧ a' = { tmps := #[.agg cl.toArray, .slice A n c, .int .i64 code, .int .i64 width, .agg #[.int .i64 ge, .int .i64 gc], .pointer (some ⟨w.heap.size, 0, none⟩), undef, .pointer (some ⟨w.heap.size + 1, 0, none⟩), .pointer (some ⟨w.heap.size + 2, 0, none⟩), .pointer (some ⟨w.heap.size + 3, 0, none⟩), .pointer (some ⟨w.heap.size + 4, 0, none⟩), .pointer (some ⟨w.heap.size + 5, 0, none⟩), .pointer (some ⟨w.heap.size + 6, 0, none⟩), undef, .pointer (some ⟨Bx, 0, none⟩), undef, undef, undef, undef, undef, undef, .int .i64 code, .bool false, .bool false, .int .i64 code, .bool false, .bool false, .bool false, .int .i64 width, .bool false, .bool false, .bool false, .int .i64 width, .bool false, .bool false, .bool false, .agg cl.toArray, .int .i64 width, .int .i64 G, .bool false, .bool false, undef, .slice A n c, .int .i64 code, .func (.func 34) #[] #[.pointer (some ⟨w8.heap.size, 0, none⟩), .pointer (some ⟨w8.heap.size + 1, 0, none⟩)], .int .i64 (x.1.1 : Int), .agg (rwL x.1.2).toArray, undef, undef, undef, undef, undef, undef, undef, undef, undef, undef, undef, undef, undef, undef, undef, undef, undef, undef, undef, undef, undef, undef, undef, undef, undef, undef, undef, undef, undef, undef, undef, undef, undef, undef, undef, undef, undef, undef, undef, undef, undef, undef, undef, undef, undef, undef, undef, undef, undef, undef, undef, undef, undef, undef, undef, undef, undef, undef, undef, undef, undef, undef, undef, undef, undef, undef, undef, undef, undef, undef, undef, undef, undef], defers := [] })
    (fun x a' _ X Y row hs hg hr => by obtain ⟨Bx, h1, h2⟩ := hs; exact ⟨Bx, isRow_own (w0 := W0.heap.size) Bx 59 (fun (_ : Unit) => rwL x.1.2) () X Y row h1 hg hr, h2⟩)
    ?assign ?body ?done ?stop
  case hps => intro x; rfl
  case assign =>
    rintro l' pre x W K hi hK
    have HX : Hid (List.all (rwL x.1.2) (·.oneCell') = true) := Lib.hid (List.all_eq_true.2 (rwL_one _))
    have HXL : Hid ((rwL x.1.2).length = 3) := Lib.hid rfl
    have HI := Lib.hid hi
    have HSZ := Lib.hid hsz
    dsimp only [ofEncs, rowEncs]
    obtain ⟨cs, hcs⟩ : ∃ cs, rwL x.1.2 = cs := ⟨_, rfl⟩
    rw [hcs] at hK HX HXL ⊢
    have HK := Lib.hid hK
    clear hK hi bR bC hB0 hsz hR0
    gi_wp2_with (first
      | (refine wpListIn_allocRow rfl _ rfl _ infoRw ?_; intro w14 r14 b14 z14; clear z14)
      | (refine wpListIn_storeRow rfl _ (.tmp 14) (.tmp 46) rfl (l' := cs) r14 (by simp [Act.eval, Act.put]) (by simp [Act.eval, Act.put]) (by rw [HXL.out]; exact sizeRw) HXL.out.symm HX.out ?_; intro w15 r15 g15 z15 q15; clear z15 q15 r14; have b15 := b14.grown g15 b14.size (fun k e => by have := Option.some.inj e; omega); clear b14 g15))
    have hle := HI.out.1.size
    exact HK.out _ _ ((keeps_below' b15).from _) ⟨b15.mono (by have := HSZ.out; omega), b15.block _ (by have := HSZ.out; omega)⟩ ⟨HI.out.1.trans (b15.mono hle), HI.out.2⟩ ⟨W.heap.size, r15, by simp [Act.put, hcs]⟩
  case body =>
    rintro l' pre x a' W hl ⟨r, hr⟩ ⟨hbW, hpre⟩ ⟨Bx, bX, rfl⟩ hlt
    clear hl hr hlt bR bC hR0
    have HI := Lib.hid (And.intro hbW hpre)
    have HAW := Lib.hid (HA0.out.below hbW)
    have kx : W.cell? ⟨Bx, 1, none⟩ = some (.int .i64 x.1.2.r.width) := bX.cell 1
    have kw : W.cell? ⟨w.heap.size + 2, 0, none⟩ = some (.int .i64 width) := HAW.out.wi.cell 0
    have HXM := Lib.hid (And.intro (List.mem_of_getElem? x.2.1) x.2.2)
    obtain ⟨xw, hxw⟩ : ∃ y, x.1.2.r.width = y := ⟨_, rfl⟩
    have HXW := Lib.hid hxw
    rw [hxw] at kx
    clear hbW hpre bX hxw hB0
    by_cases hw : xw = width
    · have hwb : (xw != width) = false := by simp [hw]
      have HWW := Lib.hid hw
      clear hw
      gi_wp2
      exact ⟨KeepsFrom.refl _ _, ⟨Below.refl _ _, rfl⟩, HI.out.1, fun y hy => by
        rcases List.mem_append.1 hy with hy | hy
        · exact HI.out.2 y hy
        · obtain rfl := List.mem_singleton.1 hy
          exact HXW.out.trans HWW.out⟩
    · have hwb : (xw != width) = true := by simp [hw]
      have HWW := Lib.hid hw
      have R5 := HAW.out.rs
      clear hw
      gi_wp2_with (first
        | (refine wpListIn_store1 rfl _ (.tmp 10) _ rfl R5 rfl rfl size1Rows rfl rfl ?_; intro w19 r19 g19 z19 q19; simp only [put_none]; have HB := Lib.hid (HAW.out.set_rs r19 g19); have R6 := HB.out.st)
        | (refine wpListIn_storeRow rfl _ (.tmp 11) (.tmp 51) rfl (l' := zSt) R6 rfl rfl sizeSt rfl rfl ?_; intro w20 r20 g20 z20 q20; simp only [put_none]; have HC := Lib.hid (HB.out.set_st r20 g20); have R7 := HC.out.er)
        | (refine wpListIn_store1 rfl _ (.tmp 12) _ rfl R7 rfl rfl size1Errno rfl rfl ?_; intro w21 r21 g21 z21 q21; simp only [put_none]; have HD := Lib.hid (HC.out.set_er r21 g21)))
      exact ⟨((q19.trans q20).trans q21).from _, rfl, cl, _, _, _, HD.out, rfl, .inl ⟨rfl, rfl, rfl, fun hwo => HWW.out (HXW.out.symm.trans (hwo x.1.2.r (by rw [← HR.out.rs]; exact List.mem_map_of_mem HXM.out.1) HXM.out.2))⟩⟩
  case stop =>
    rintro D1 cd pre W hD _ ⟨rfl, hfin⟩ hK
    have hfin' := aFin_own (β := Unit) w n l G code width ge gc (Nat.le_refl w.heap.size) () W _ (some D1) hfin (grownBy_putObj' W D1 (.deferred none)) (fun r e => by cases e; exact ⟨by have := HB8.out.size; omega, _, hK, rfl⟩)
    obtain ⟨cl', v, st, er, hab, hst, hout⟩ := hfin'
    gi_wp2
    refine ⟨by simp, .inl ⟨_, _, rfl, run_takeDeferred hK, ?_⟩⟩
    exact ⟨_, resultC3 rfl _ _ rfl rfl rfl (hab.rs.cell 0) hab.st (hab.er.cell 0) Try.underlying25 rfl Try.underlying29 (by rw [hst]; exact sizeSt) Try.underlying33 rfl, v, st, er, rfl, hout, hab.bel⟩
  case done =>
    rintro D1 ys wq hD rfl ⟨hbW, hpre⟩ hK
    have HAW := Lib.hid (HA0.out.below hbW)
    have HD1 := Lib.hid (And.intro hK (show w.heap.size < D1 by have := HB8.out.size; omega))
    have HWO : Hid (Str.widthOk l code width) := Lib.hid (fun r hr hc => by
      rw [← HR.out.rs] at hr
      obtain ⟨x, hx, rfl⟩ := List.mem_map.1 hr
      obtain ⟨i, hi⟩ := List.getElem?_of_mem hx
      have : (i, x) ∈ ofD code D 0 := by have := ofD_in D 0 hi hc; rwa [Nat.zero_add] at this
      rw [← ofS_val code D] at this
      obtain ⟨y, hy, e⟩ := List.mem_map.1 this
      have := hpre y hy
      rw [e] at this
      exact this)
    clear hbW hpre hK bR bC hB0 hsz hR0 hD HA8 HA0 HB8
    dsimp only
    go_upto_region 7 with fail
    go_cut [15, 16] from 52 to 56 (fun u15 u16 wx => ∃ b15 b16 A' c' E, u15 = .pointer (some ⟨b15, 0, none⟩) ∧ u16 = .pointer (some ⟨b16, 0, none⟩) ∧ Hid (AMid w cl code width [.int .i64 ge, .int .i64 gc] b15 b16 n c' A' E l G wx ∧ Below wq.heap.size wq wx))
    case first =>
      refine wp_noPanic ?_
      have hv0 : Below wq.heap.size wq wq.drew := (Below.refl _ _).drew
      refine wp_region_held_drew (S := fun W => Below wq.heap.size wq W) (by kernel_rfl) (hv0) (fun hHeld => ?_)
      refine wpAnyH_take (i := 0) (oi := { dst := some 52, op := Op.move (Operand.tmp 1), type := 25, pos := "stripes.go:84", after := #[], guard := none }) (v := ?v0_701) rfl (by kernel_rfl) (by kernel_rfl) (by kernel_rfl) (fun _ _ _ h => h) (Or.inl ⟨by rfl, ?h0_701⟩) (by assumption) ?r0_701
      case h0_701 =>
        intro W hSW
        try dsimp only at hSW
        go_simp
        try with_reducible rfl
      try simp only [Act.put, List.setIfInBounds_toArray, List.set_cons_zero, List.set_cons_succ]
      refine wpAnyH_take (i := 2) (oi := { dst := some 54, op := Op.load 23 (Operand.tmp 5), type := 23, pos := "stripes.go:84", after := #[], guard := none }) (v := .agg cl.toArray) rfl (by kernel_rfl) (by kernel_rfl) (by kernel_rfl) (fun _ _ _ h => h) (yieldsIf_load_mid (by rfl) 23 (.tmp 5) rfl w.heap.size 0 rfl cl _ (fun V hV => fun j v hv => by rw [Nat.zero_add, (HAW.out.below hV).cf.cell]; exact hv) Try.underlying23 rfl (by rw [HCL.out]; exact sizeCf)) (by assumption) ?_
      try simp only [Act.put, List.setIfInBounds_toArray, List.set_cons_zero, List.set_cons_succ]
      refine wpAnyH_take (i := 3) (oi := { dst := some 55, op := Op.load 3 (Operand.tmp 8), type := 3, pos := "stripes.go:84", after := #[], guard := none }) (v := ?v3_703) rfl (by kernel_rfl) (by kernel_rfl) (by kernel_rfl) (fun _ _ _ h => h) (Or.inl ⟨by rfl, ?h3_703⟩) (by assumption) ?r3_703
      case h3_703 =>
        intro W hSW
        try dsimp only at hSW
        have k3 : (fun V : World => V.cell? ⟨w.heap.size + 2, 0, none⟩) W = some (.int .i64 width) := (HAW.out.below hSW).wi.cell 0
        dsimp only at k3
        go_simp
        try with_reducible rfl
      try simp only [Act.put, List.setIfInBounds_toArray, List.set_cons_zero, List.set_cons_succ]
      refine wpAnyH_ready (rs := [1, 5, 6]) (by kernel_rfl) (by simp) ?_
      refine AllReadyH.cons (o := { dst := some 53, op := Op.call { callee := Callee.value (Operand.func 24), args := #[Operand.tmp 52], argTypes := #[25] }, type := 25, pos := "stripes.go:84", after := #[{ on := 0, ground := Ground.data }], guard := none }) rfl (fun K hK => ?_) ?_
      · skip
        go_simp
        go_at_call 24
        refine (HCP.out wq.drew (HAW.out.bel.trans (hv0.mono HAW.out.bel.size))).mono ?_
        rintro e w30 ⟨A', c', E, rfl, o30, b30⟩
        have hv30 : Below wq.heap.size wq w30 := hv0.trans (b30.mono hv0.size)
        have oc := o30.base hv0.size
        clear o30
        try have r15 := r15.below' b30
        try have r16 := r16.below' b30
        clear b30
        refine hK.out _ _ (hv30) (fun hHeld => ?_)
        clear hK K
        try simp only [Act.put, List.setIfInBounds_toArray, List.set_cons_zero, List.set_cons_succ]
        refine wpAnyH_ready (rs := [4, 5, 6]) (by kernel_rfl) (by simp) ?_
        refine AllReadyH.cons (o := { dst := some 56, op := Op.call { callee := Callee.value (Operand.func 15), args := #[Operand.tmp 54, Operand.tmp 55], argTypes := #[23, 3] }, type := 3, pos := "stripes.go:84", after := #[{ on := 2, ground := Ground.data }, { on := 3, ground := Ground.data }, { on := 1, ground := Ground.chain }], guard := none }) rfl (fun K hK => ?_) ?_
        · skip
          go_simp
          go_at_call 15
          refine (HG.out w30).mono ?_
          rintro e w31 ⟨rfl, b31⟩
          have hv31 : Below wq.heap.size wq w31 := hv30.trans (b31.mono hv30.size)
          try have r15 := r15.below' b31
          try have r16 := r16.below' b31
          try have oc := oc.below b31
          clear b31
          refine hK.out _ _ (hv31) (fun hHeld => ?_)
          clear hK K
          try simp only [Act.put, List.setIfInBounds_toArray, List.set_cons_zero, List.set_cons_succ]
          refine wpAnyH_ready (rs := [5, 6]) (by kernel_rfl) (by simp) ?_
          refine AllReadyH.cons (o := { dst := some 15, op := Op.alloc 25, type := 0, pos := "stripes.go:84", after := #[], guard := none }) rfl (fun K hK => ?_) ?_
          · skip
            rw [if_pos (by rfl)]
            refine wpO_alloc1 _ rfl _ infoRows rfl ?_
            intro w32 r15 b32 z32
            clear z32
            have h15 := hv31.size
            obtain ⟨b15, hb15⟩ : ∃ y, w31.heap.size = y := ⟨_, rfl⟩
            rw [hb15] at r15 h15 ⊢
            have hv32 : Below wq.heap.size wq w32 := hv31.trans (b32.mono hv31.size)
            try have r16 := r16.below' b32
            try have oc := oc.below b32
            clear b32 hb15
            refine hK.out _ _ (hv32) (fun hHeld => ?_)
            clear hK K
            try simp only [Act.put, List.setIfInBounds_toArray, List.set_cons_zero, List.set_cons_succ]
            refine wpAnyH_ready (rs := [6]) (by kernel_rfl) (by simp) ?_
            refine AllReadyH.cons (o := { dst := some 16, op := Op.alloc 3, type := 0, pos := "stripes.go:84", after := #[], guard := none }) rfl (fun K hK => ?_) AllReadyH.nil
            rw [if_pos (by rfl)]
            refine wpO_alloc1 _ rfl _ infoIntZ rfl ?_
            intro w33 r16 b33 z33
            clear z33
            have h16 := hv32.size
            obtain ⟨b16, hb16⟩ : ∃ y, w32.heap.size = y := ⟨_, rfl⟩
            rw [hb16] at r16 h16 ⊢
            have hv33 : Below wq.heap.size wq w33 := hv32.trans (b33.mono hv32.size)
            try have r15 := r15.below' b33
            try have oc := oc.below b33
            clear b33 hb16
            refine hK.out _ _ (hv33) (fun hHeld => ?_)
            clear hK K
            try simp only [Act.put, List.setIfInBounds_toArray, List.set_cons_zero, List.set_cons_succ]
            refine wpAnyH_ready (rs := [7]) (by kernel_rfl) (by simp) ?_
            refine AllReadyH.cons (o := { dst := none, op := Op.store 25 (Operand.tmp 15) (Operand.tmp 53), type := 0, pos := "stripes.go:84", after := #[{ on := 5, ground := Ground.data }, { on := 1, ground := Ground.data }, { on := 4, ground := Ground.chain }, { on := 0, ground := Ground.phase }, { on := 1, ground := Ground.phase }, { on := 2, ground := Ground.textOnly Departure.lateStores }, { on := 3, ground := Ground.textOnly Departure.lateStores }, { on := 4, ground := Ground.textOnly Departure.lateStoresUnsure }, { on := 5, ground := Ground.phase }, { on := 6, ground := Ground.phase }], guard := none }) rfl (fun K hK => ?_) AllReadyH.nil
            rw [if_pos (by rfl)]
            refine wpO_store1 _ (.tmp 15) (.tmp 53) rfl r15 rfl rfl size1Rows rfl rfl ?_
            intro w34 s15 g15 z34
            clear z34
            have hp7 := hv33
            have hv34 : Below wq.heap.size wq w34 := hv33.grown g15 hv33.size (fun k e => by have := Option.some.inj e; omega)
            have r16' := r16.grown g15 (by intro e; exact isRow_ne r15 r16 (by decide) (Option.some.inj e))
            refine hK.out _ _ (hv34) (fun hHeld => ?_)
            clear hK K
            try simp only [Act.put, List.setIfInBounds_toArray, List.set_cons_zero, List.set_cons_succ]
            refine wpAnyH_ready (rs := [8]) (by kernel_rfl) (by simp) ?_
            refine AllReadyH.cons (o := { dst := none, op := Op.store 3 (Operand.tmp 16) (Operand.tmp 56), type := 0, pos := "stripes.go:84", after := #[{ on := 6, ground := Ground.data }, { on := 4, ground := Ground.data }, { on := 7, ground := Ground.chain }, { on := 0, ground := Ground.phase }, { on := 1, ground := Ground.phase }, { on := 2, ground := Ground.phase }, { on := 3, ground := Ground.phase }, { on := 4, ground := Ground.phase }, { on := 5, ground := Ground.phase }, { on := 6, ground := Ground.phase }, { on := 7, ground := Ground.phase }], guard := none }) rfl (fun K hK => ?_) AllReadyH.nil
            rw [if_pos (by rfl)]
            refine wpO_store1 _ (.tmp 16) (.tmp 56) rfl r16' rfl rfl size1Int rfl rfl ?_
            intro w35 s16 g16 z35
            clear z35
            obtain ⟨hmid, hv35⟩ := AMid.made HAW.out hp7 h15 h16 r15 r16 oc s15 g15 s16 g16
            refine hK.out _ _ (hv35) (fun hHeld => ?_)
            clear hK K
            try simp only [Act.put, List.setIfInBounds_toArray, List.set_cons_zero, List.set_cons_succ]
            refine wpAnyH_done (by kernel_rfl) ?_ _
            have HM := Lib.hid (And.intro hmid hv35)
            clear hmid hv35 hp7 h15 h16 r15 r16 r16' oc s15 g15 s16 g16 hHeld
            dsimp only [noPanic]
            go_wp2_with fail
            go_meet
            exact ⟨_, _, _, _, _, rfl, rfl, HM⟩
          · skip
            refine AllReadyH.cons (o := { dst := some 16, op := Op.alloc 3, type := 0, pos := "stripes.go:84", after := #[], guard := none }) rfl (fun K hK => ?_) AllReadyH.nil
            rw [if_pos (by rfl)]
            refine wpO_alloc1 _ rfl _ infoIntZ rfl ?_
            intro w32 r16 b32 z32
            clear z32
            have h16 := hv31.size
            obtain ⟨b16, hb16⟩ : ∃ y, w31.heap.size = y := ⟨_, rfl⟩
            rw [hb16] at r16 h16 ⊢
            have hv32 : Below wq.heap.size wq w32 := hv31.trans (b32.mono hv31.size)
            try have r15 := r15.below' b32
            try have oc := oc.below b32
            clear b32 hb16
            refine hK.out _ _ (hv32) (fun hHeld => ?_)
            clear hK K
            try simp only [Act.put, List.setIfInBounds_toArray, List.set_cons_zero, List.set_cons_succ]
            refine wpAnyH_ready (rs := [5]) (by kernel_rfl) (by simp) ?_
            refine AllReadyH.cons (o := { dst := some 15, op := Op.alloc 25, type := 0, pos := "stripes.go:84", after := #[], guard := none }) rfl (fun K hK => ?_) AllReadyH.nil
            rw [if_pos (by rfl)]
            refine wpO_alloc1 _ rfl _ infoRows rfl ?_
            intro w33 r15 b33 z33
            clear z33
            have h15 := hv32.size
            obtain ⟨b15, hb15⟩ : ∃ y, w32.heap.size = y := ⟨_, rfl⟩
            rw [hb15] at r15 h15 ⊢
            have hv33 : Below wq.heap.size wq w33 := hv32.trans (b33.mono hv32.size)
            try have r16 := r16.below' b33
            try have oc := oc.below b33
            clear b33 hb15
            refine hK.out _ _ (hv33) (fun hHeld => ?_)
            clear hK K
            try simp only [Act.put, List.setIfInBounds_toArray, List.set_cons_zero, List.set_cons_succ]
            refine wpAnyH_ready (rs := [7]) (by kernel_rfl) (by simp) ?_
            refine AllReadyH.cons (o := { dst := none, op := Op.store 25 (Operand.tmp 15) (Operand.tmp 53), type := 0, pos := "stripes.go:84", after := #[{ on := 5, ground := Ground.data }, { on := 1, ground := Ground.data }, { on := 4, ground := Ground.chain }, { on := 0, ground := Ground.phase }, { on := 1, ground := Ground.phase }, { on := 2, ground := Ground.textOnly Departure.lateStores }, { on := 3, ground := Ground.textOnly Departure.lateStores }, { on := 4, ground := Ground.textOnly Departure.lateStoresUnsure }, { on := 5, ground := Ground.phase }, { on := 6, ground := Ground.phase }], guard := none }) rfl (fun K hK => ?_) AllReadyH.nil
            rw [if_pos (by rfl)]
            refine wpO_store1 _ (.tmp 15) (.tmp 53) rfl r15 rfl rfl size1Rows rfl rfl ?_
            intro w34 s15 g15 z34
            clear z34
            have hp7 := hv33
            have hv34 : Below wq.heap.size wq w34 := hv33.grown g15 hv33.size (fun k e => by have := Option.some.inj e; omega)
            have r16' := r16.grown g15 (by intro e; exact isRow_ne r15 r16 (by decide) (Option.some.inj e))
            refine hK.out _ _ (hv34) (fun hHeld => ?_)
            clear hK K
            try simp only [Act.put, List.setIfInBounds_toArray, List.set_cons_zero, List.set_cons_succ]
            refine wpAnyH_ready (rs := [8]) (by kernel_rfl) (by simp) ?_
            refine AllReadyH.cons (o := { dst := none, op := Op.store 3 (Operand.tmp 16) (Operand.tmp 56), type := 0, pos := "stripes.go:84", after := #[{ on := 6, ground := Ground.data }, { on := 4, ground := Ground.data }, { on := 7, ground := Ground.chain }, { on := 0, ground := Ground.phase }, { on := 1, ground := Ground.phase }, { on := 2, ground := Ground.phase }, { on := 3, ground := Ground.phase }, { on := 4, ground := Ground.phase }, { on := 5, ground := Ground.phase }, { on := 6, ground := Ground.phase }, { on := 7, ground := Ground.phase }], guard := none }) rfl (fun K hK => ?_) AllReadyH.nil
            rw [if_pos (by rfl)]
            refine wpO_store1 _ (.tmp 16) (.tmp 56) rfl r16' rfl rfl size1Int rfl rfl ?_
            intro w35 s16 g16 z35
            clear z35
            obtain ⟨hmid, hv35⟩ := AMid.made HAW.out hp7 h15 h16 r15 r16 oc s15 g15 s16 g16
            refine hK.out _ _ (hv35) (fun hHeld => ?_)
            clear hK K
            try simp only [Act.put, List.setIfInBounds_toArray, List.set_cons_zero, List.set_cons_succ]
            refine wpAnyH_done (by kernel_rfl) ?_ _
            have HM := Lib.hid (And.intro hmid hv35)
            clear hmid hv35 hp7 h15 h16 r15 r16 r16' oc s15 g15 s16 g16 hHeld
            dsimp only [noPanic]
            go_wp2_with fail
            go_meet
            exact ⟨_, _, _, _, _, rfl, rfl, HM⟩
        · skip
          refine AllReadyH.cons (o := { dst := some 15, op := Op.alloc 25, type := 0, pos := "stripes.go:84", after := #[], guard := none }) rfl (fun K hK => ?_) ?_
          · skip
            rw [if_pos (by rfl)]
            refine wpO_alloc1 _ rfl _ infoRows rfl ?_
            intro w31 r15 b31 z31
            clear z31
            have h15 := hv30.size
            obtain ⟨b15, hb15⟩ : ∃ y, w30.heap.size = y := ⟨_, rfl⟩
            rw [hb15] at r15 h15 ⊢
            have hv31 : Below wq.heap.size wq w31 := hv30.trans (b31.mono hv30.size)
            try have r16 := r16.below' b31
            try have oc := oc.below b31
            clear b31 hb15
            refine hK.out _ _ (hv31) (fun hHeld => ?_)
            clear hK K
            try simp only [Act.put, List.setIfInBounds_toArray, List.set_cons_zero, List.set_cons_succ]
            refine wpAnyH_ready (rs := [4, 6]) (by kernel_rfl) (by simp) ?_
            refine AllReadyH.cons (o := { dst := some 56, op := Op.call { callee := Callee.value (Operand.func 15), args := #[Operand.tmp 54, Operand.tmp 55], argTypes := #[23, 3] }, type := 3, pos := "stripes.go:84", after := #[{ on := 2, ground := Ground.data }, { on := 3, ground := Ground.data }, { on := 1, ground := Ground.chain }], guard := none }) rfl (fun K hK => ?_) ?_
            · skip
              go_simp
              go_at_call 15
              refine (HG.out w31).mono ?_
              rintro e w32 ⟨rfl, b32⟩
              have hv32 : Below wq.heap.size wq w32 := hv31.trans (b32.mono hv31.size)
              try have r15 := r15.below' b32
              try have r16 := r16.below' b32
              try have oc := oc.below b32
              clear b32
              refine hK.out _ _ (hv32) (fun hHeld => ?_)
              clear hK K
              try simp only [Act.put, List.setIfInBounds_toArray, List.set_cons_zero, List.set_cons_succ]
              refine wpAnyH_ready (rs := [6]) (by kernel_rfl) (by simp) ?_
              refine AllReadyH.cons (o := { dst := some 16, op := Op.alloc 3, type := 0, pos := "stripes.go:84", after := #[], guard := none }) rfl (fun K hK => ?_) AllReadyH.nil
              rw [if_pos (by rfl)]
              refine wpO_alloc1 _ rfl _ infoIntZ rfl ?_
              intro w33 r16 b33 z33
              clear z33
              have h16 := hv32.size
              obtain ⟨b16, hb16⟩ : ∃ y, w32.heap.size = y := ⟨_, rfl⟩
              rw [hb16] at r16 h16 ⊢
              have hv33 : Below wq.heap.size wq w33 := hv32.trans (b33.mono hv32.size)
              try have r15 := r15.below' b33
              try have oc := oc.below b33
              clear b33 hb16
              refine hK.out _ _ (hv33) (fun hHeld => ?_)
              clear hK K
              try simp only [Act.put, List.setIfInBounds_toArray, List.set_cons_zero, List.set_cons_succ]
              refine wpAnyH_ready (rs := [7]) (by kernel_rfl) (by simp) ?_
              refine AllReadyH.cons (o := { dst := none, op := Op.store 25 (Operand.tmp 15) (Operand.tmp 53), type := 0, pos := "stripes.go:84", after := #[{ on := 5, ground := Ground.data }, { on := 1, ground := Ground.data }, { on := 4, ground := Ground.chain }, { on := 0, ground := Ground.phase }, { on := 1, ground := Ground.phase }, { on := 2, ground := Ground.textOnly Departure.lateStores }, { on := 3, ground := Ground.textOnly Departure.lateStores }, { on := 4, ground := Ground.textOnly Departure.lateStoresUnsure }, { on := 5, ground := Ground.phase }, { on := 6, ground := Ground.phase }], guard := none }) rfl (fun K hK => ?_) AllReadyH.nil
              rw [if_pos (by rfl)]
              refine wpO_store1 _ (.tmp 15) (.tmp 53) rfl r15 rfl rfl size1Rows rfl rfl ?_
              intro w34 s15 g15 z34
              clear z34
              have hp7 := hv33
              have hv34 : Below wq.heap.size wq w34 := hv33.grown g15 hv33.size (fun k e => by have := Option.some.inj e; omega)
              have r16' := r16.grown g15 (by intro e; exact isRow_ne r15 r16 (by decide) (Option.some.inj e))
              refine hK.out _ _ (hv34) (fun hHeld => ?_)
              clear hK K
              try simp only [Act.put, List.setIfInBounds_toArray, List.set_cons_zero, List.set_cons_succ]
              refine wpAnyH_ready (rs := [8]) (by kernel_rfl) (by simp) ?_
              refine AllReadyH.cons (o := { dst := none, op := Op.store 3 (Operand.tmp 16) (Operand.tmp 56), type := 0, pos := "stripes.go:84", after := #[{ on := 6, ground := Ground.data }, { on := 4, ground := Ground.data }, { on := 7, ground := Ground.chain }, { on := 0, ground := Ground.phase }, { on := 1, ground := Ground.phase }, { on := 2, ground := Ground.phase }, { on := 3, ground := Ground.phase }, { on := 4, ground := Ground.phase }, { on := 5, ground := Ground.phase }, { on := 6, ground := Ground.phase }, { on := 7, ground := Ground.phase }], guard := none }) rfl (fun K hK => ?_) AllReadyH.nil
              rw [if_pos (by rfl)]
              refine wpO_store1 _ (.tmp 16) (.tmp 56) rfl r16' rfl rfl size1Int rfl rfl ?_
              intro w35 s16 g16 z35
              clear z35
              obtain ⟨hmid, hv35⟩ := AMid.made HAW.out hp7 h15 h16 r15 r16 oc s15 g15 s16 g16
              refine hK.out _ _ (hv35) (fun hHeld => ?_)
              clear hK K
              try simp only [Act.put, List.setIfInBounds_toArray, List.set_cons_zero, List.set_cons_succ]
              refine wpAnyH_done (by kernel_rfl) ?_ _
              have HM := Lib.hid (And.intro hmid hv35)
              clear hmid hv35 hp7 h15 h16 r15 r16 r16' oc s15 g15 s16 g16 hHeld
              dsimp only [noPanic]
              go_wp2_with fail
              go_meet
              exact ⟨_, _, _, _, _, rfl, rfl, HM⟩
            · skip
              refine AllReadyH.cons (o := { dst := some 16, op := Op.alloc 3, type := 0, pos := "stripes.go:84", after := #[], guard := none }) rfl (fun K hK => ?_) AllReadyH.nil
              rw [if_pos (by rfl)]
              refine wpO_alloc1 _ rfl _ infoIntZ rfl ?_
              intro w32 r16 b32 z32
              clear z32
              have h16 := hv31.size
              obtain ⟨b16, hb16⟩ : ∃ y, w31.heap.size = y := ⟨_, rfl⟩
              rw [hb16] at r16 h16 ⊢
              have hv32 : Below wq.heap.size wq w32 := hv31.trans (b32.mono hv31.size)
              try have r15 := r15.below' b32
              try have oc := oc.below b32
              clear b32 hb16
              refine hK.out _ _ (hv32) (fun hHeld => ?_)
              clear hK K
              try simp only [Act.put, List.setIfInBounds_toArray, List.set_cons_zero, List.set_cons_succ]
              refine wpAnyH_ready (rs := [4]) (by kernel_rfl) (by simp) ?_
              refine AllReadyH.cons (o := { dst := some 56, op := Op.call { callee := Callee.value (Operand.func 15), args := #[Operand.tmp 54, Operand.tmp 55], argTypes := #[23, 3] }, type := 3, pos := "stripes.go:84", after := #[{ on := 2, ground := Ground.data }, { on := 3, ground := Ground.data }, { on := 1, ground := Ground.chain }], guard := none }) rfl (fun K hK => ?_) AllReadyH.nil
              go_simp
              go_at_call 15
              refine (HG.out w32).mono ?_
              rintro e w33 ⟨rfl, b33⟩
              have hv33 : Below wq.heap.size wq w33 := hv32.trans (b33.mono hv32.size)
              try have r15 := r15.below' b33
              try have r16 := r16.below' b33
              try have oc := oc.below b33
              clear b33
              refine hK.out _ _ (hv33) (fun hHeld => ?_)
              clear hK K
              try simp only [Act.put, List.setIfInBounds_toArray, List.set_cons_zero, List.set_cons_succ]
              refine wpAnyH_ready (rs := [7]) (by kernel_rfl) (by simp) ?_
              refine AllReadyH.cons (o := { dst := none, op := Op.store 25 (Operand.tmp 15) (Operand.tmp 53), type := 0, pos := "stripes.go:84", after := #[{ on := 5, ground := Ground.data }, { on := 1, ground := Ground.data }, { on := 4, ground := Ground.chain }, { on := 0, ground := Ground.phase }, { on := 1, ground := Ground.phase }, { on := 2, ground := Ground.textOnly Departure.lateStores }, { on := 3, ground := Ground.textOnly Departure.lateStores }, { on := 4, ground := Ground.textOnly Departure.lateStoresUnsure }, { on := 5, ground := Ground.phase }, { on := 6, ground := Ground.phase }], guard := none }) rfl (fun K hK => ?_) AllReadyH.nil
              rw [if_pos (by rfl)]
              refine wpO_store1 _ (.tmp 15) (.tmp 53) rfl r15 rfl rfl size1Rows rfl rfl ?_
              intro w34 s15 g15 z34
              clear z34
              have hp7 := hv33
              have hv34 : Below wq.heap.size wq w34 := hv33.grown g15 hv33.size (fun k e => by have := Option.some.inj e; omega)
              have r16' := r16.grown g15 (by intro e; exact isRow_ne r15 r16 (by decide) (Option.some.inj e))
              refine hK.out _ _ (hv34) (fun hHeld => ?_)
              clear hK K
              try simp only [Act.put, List.setIfInBounds_toArray, List.set_cons_zero, List.set_cons_succ]
              refine wpAnyH_ready (rs := [8]) (by kernel_rfl) (by simp) ?_
              refine AllReadyH.cons (o := { dst := none, op := Op.store 3 (Operand.tmp 16) (Operand.tmp 56), type := 0, pos := "stripes.go:84", after := #[{ on := 6, ground := Ground.data }, { on := 4, ground := Ground.data }, { on := 7, ground := Ground.chain }, { on := 0, ground := Ground.phase }, { on := 1, ground := Ground.phase }, { on := 2, ground := Ground.phase }, { on := 3, ground := Ground.phase }, { on := 4, ground := Ground.phase }, { on := 5, ground := Ground.phase }, { on := 6, ground := Ground.phase }, { on := 7, ground := Ground.phase }], guard := none }) rfl (fun K hK => ?_) AllReadyH.nil
              rw [if_pos (by rfl)]
              refine wpO_store1 _ (.tmp 16) (.tmp 56) rfl r16' rfl rfl size1Int rfl rfl ?_
              intro w35 s16 g16 z35
              clear z35
              obtain ⟨hmid, hv35⟩ := AMid.made HAW.out hp7 h15 h16 r15 r16 oc s15 g15 s16 g16
              refine hK.out _ _ (hv35) (fun hHeld => ?_)
              clear hK K
              try simp only [Act.put, List.setIfInBounds_toArray, List.set_cons_zero, List.set_cons_succ]
              refine wpAnyH_done (by kernel_rfl) ?_ _
              have HM := Lib.hid (And.intro hmid hv35)
              clear hmid hv35 hp7 h15 h16 r15 r16 r16' oc s15 g15 s16 g16 hHeld
              dsimp only [noPanic]
              go_wp2_with fail
              go_meet
              exact ⟨_, _, _, _, _, rfl, rfl, HM⟩
          · skip
            refine AllReadyH.cons (o := { dst := some 16, op := Op.alloc 3, type := 0, pos := "stripes.go:84", after := #[], guard := none }) rfl (fun K hK => ?_) AllReadyH.nil
            rw [if_pos (by rfl)]
            refine wpO_alloc1 _ rfl _ infoIntZ rfl ?_
            intro w31 r16 b31 z31
            clear z31
            have h16 := hv30.size
            obtain ⟨b16, hb16⟩ : ∃ y, w30.heap.size = y := ⟨_, rfl⟩
            rw [hb16] at r16 h16 ⊢
            have hv31 : Below wq.heap.size wq w31 := hv30.trans (b31.mono hv30.size)
            try have r15 := r15.below' b31
            try have oc := oc.below b31
            clear b31 hb16
            refine hK.out _ _ (hv31) (fun hHeld => ?_)
            clear hK K
            try simp only [Act.put, List.setIfInBounds_toArray, List.set_cons_zero, List.set_cons_succ]
            refine wpAnyH_ready (rs := [4, 5]) (by kernel_rfl) (by simp) ?_
            refine AllReadyH.cons (o := { dst := some 56, op := Op.call { callee := Callee.value (Operand.func 15), args := #[Operand.tmp 54, Operand.tmp 55], argTypes := #[23, 3] }, type := 3, pos := "stripes.go:84", after := #[{ on := 2, ground := Ground.data }, { on := 3, ground := Ground.data }, { on := 1, ground := Ground.chain }], guard := none }) rfl (fun K hK => ?_) ?_
            · skip
              go_simp
              go_at_call 15
              refine (HG.out w31).mono ?_
              rintro e w32 ⟨rfl, b32⟩
              have hv32 : Below wq.heap.size wq w32 := hv31.trans (b32.mono hv31.size)
              try have r15 := r15.below' b32
              try have r16 := r16.below' b32
              try have oc := oc.below b32
              clear b32
              refine hK.out _ _ (hv32) (fun hHeld => ?_)
              clear hK K
              try simp only [Act.put, List.setIfInBounds_toArray, List.set_cons_zero, List.set_cons_succ]
              refine wpAnyH_ready (rs := [5]) (by kernel_rfl) (by simp) ?_
              refine AllReadyH.cons (o := { dst := some 15, op := Op.alloc 25, type := 0, pos := "stripes.go:84", after := #[], guard := none }) rfl (fun K hK => ?_) AllReadyH.nil
              rw [if_pos (by rfl)]
              refine wpO_alloc1 _ rfl _ infoRows rfl ?_
              intro w33 r15 b33 z33
              clear z33
              have h15 := hv32.size
              obtain ⟨b15, hb15⟩ : ∃ y, w32.heap.size = y := ⟨_, rfl⟩
              rw [hb15] at r15 h15 ⊢
              have hv33 : Below wq.heap.size wq w33 := hv32.trans (b33.mono hv32.size)
              try have r16 := r16.below' b33
              try have oc := oc.below b33
              clear b33 hb15
              refine hK.out _ _ (hv33) (fun hHeld => ?_)
              clear hK K
              try simp only [Act.put, List.setIfInBounds_toArray, List.set_cons_zero, List.set_cons_succ]
              refine wpAnyH_ready (rs := [7]) (by kernel_rfl) (by simp) ?_
              refine AllReadyH.cons (o := { dst := none, op := Op.store 25 (Operand.tmp 15) (Operand.tmp 53), type := 0, pos := "stripes.go:84", after := #[{ on := 5, ground := Ground.data }, { on := 1, ground := Ground.data }, { on := 4, ground := Ground.chain }, { on := 0, ground := Ground.phase }, { on := 1, ground := Ground.phase }, { on := 2, ground := Ground.textOnly Departure.lateStores }, { on := 3, ground := Ground.textOnly Departure.lateStores }, { on := 4, ground := Ground.textOnly Departure.lateStoresUnsure }, { on := 5, ground := Ground.phase }, { on := 6, ground := Ground.phase }], guard := none }) rfl (fun K hK => ?_) AllReadyH.nil
              rw [if_pos (by rfl)]
              refine wpO_store1 _ (.tmp 15) (.tmp 53) rfl r15 rfl rfl size1Rows rfl rfl ?_
              intro w34 s15 g15 z34
              clear z34
              have hp7 := hv33
              have hv34 : Below wq.heap.size wq w34 := hv33.grown g15 hv33.size (fun k e => by have := Option.some.inj e; omega)
              have r16' := r16.grown g15 (by intro e; exact isRow_ne r15 r16 (by decide) (Option.some.inj e))
              refine hK.out _ _ (hv34) (fun hHeld => ?_)
              clear hK K
              try simp only [Act.put, List.setIfInBounds_toArray, List.set_cons_zero, List.set_cons_succ]
              refine wpAnyH_ready (rs := [8]) (by kernel_rfl) (by simp) ?_
              refine AllReadyH.cons (o := { dst := none, op := Op.store 3 (Operand.tmp 16) (Operand.tmp 56), type := 0, pos := "stripes.go:84", after := #[{ on := 6, ground := Ground.data }, { on := 4, ground := Ground.data }, { on := 7, ground := Ground.chain }, { on := 0, ground := Ground.phase }, { on := 1, ground := Ground.phase }, { on := 2, ground := Ground.phase }, { on := 3, ground := Ground.phase }, { on := 4, ground := Ground.phase }, { on := 5, ground := Ground.phase }, { on := 6, ground := Ground.phase }, { on := 7, ground := Ground.phase }], guard := none }) rfl (fun K hK => ?_) AllReadyH.nil
              rw [if_pos (by rfl)]
              refine wpO_store1 _ (.tmp 16) (.tmp 56) rfl r16' rfl rfl size1Int rfl rfl ?_
              intro w35 s16 g16 z35
              clear z35
              obtain ⟨hmid, hv35⟩ := AMid.made HAW.out hp7 h15 h16 r15 r16 oc s15 g15 s16 g16
              refine hK.out _ _ (hv35) (fun hHeld => ?_)
              clear hK K
              try simp only [Act.put, List.setIfInBounds_toArray, List.set_cons_zero, List.set_cons_succ]
              refine wpAnyH_done (by kernel_rfl) ?_ _
              have HM := Lib.hid (And.intro hmid hv35)
              clear hmid hv35 hp7 h15 h16 r15 r16 r16' oc s15 g15 s16 g16 hHeld
              dsimp only [noPanic]
              go_wp2_with fail
              go_meet
              exact ⟨_, _, _, _, _, rfl, rfl, HM⟩
            · skip
              refine AllReadyH.cons (o := { dst := some 15, op := Op.alloc 25, type := 0, pos := "stripes.go:84", after := #[], guard := none }) rfl (fun K hK => ?_) AllReadyH.nil
              rw [if_pos (by rfl)]
              refine wpO_alloc1 _ rfl _ infoRows rfl ?_
              intro w32 r15 b32 z32
              clear z32
              have h15 := hv31.size
              obtain ⟨b15, hb15⟩ : ∃ y, w31.heap.size = y := ⟨_, rfl⟩
              rw [hb15] at r15 h15 ⊢
              have hv32 : Below wq.heap.size wq w32 := hv31.trans (b32.mono hv31.size)
              try have r16 := r16.below' b32
              try have oc := oc.below b32
              clear b32 hb15
              refine hK.out _ _ (hv32) (fun hHeld => ?_)
              clear hK K
              try simp only [Act.put, List.setIfInBounds_toArray, List.set_cons_zero, List.set_cons_succ]
              refine wpAnyH_ready (rs := [4]) (by kernel_rfl) (by simp) ?_
              refine AllReadyH.cons (o := { dst := some 56, op := Op.call { callee := Callee.value (Operand.func 15), args := #[Operand.tmp 54, Operand.tmp 55], argTypes := #[23, 3] }, type := 3, pos := "stripes.go:84", after := #[{ on := 2, ground := Ground.data }, { on := 3, ground := Ground.data }, { on := 1, ground := Ground.chain }], guard := none }) rfl (fun K hK => ?_) AllReadyH.nil
              go_simp
              go_at_call 15
              refine (HG.out w32).mono ?_
              rintro e w33 ⟨rfl, b33⟩
              have hv33 : Below wq.heap.size wq w33 := hv32.trans (b33.mono hv32.size)
              try have r15 := r15.below' b33
              try have r16 := r16.below' b33
              try have oc := oc.below b33
              clear b33
              refine hK.out _ _ (hv33) (fun hHeld => ?_)
              clear hK K
              try simp only [Act.put, List.setIfInBounds_toArray, List.set_cons_zero, List.set_cons_succ]
              refine wpAnyH_ready (rs := [7]) (by kernel_rfl) (by simp) ?_
              refine AllReadyH.cons (o := { dst := none, op := Op.store 25 (Operand.tmp 15) (Operand.tmp 53), type := 0, pos := "stripes.go:84", after := #[{ on := 5, ground := Ground.data }, { on := 1, ground := Ground.data }, { on := 4, ground := Ground.chain }, { on := 0, ground := Ground.phase }, { on := 1, ground := Ground.phase }, { on := 2, ground := Ground.textOnly Departure.lateStores }, { on := 3, ground := Ground.textOnly Departure.lateStores }, { on := 4, ground := Ground.textOnly Departure.lateStoresUnsure }, { on := 5, ground := Ground.phase }, { on := 6, ground := Ground.phase }], guard := none }) rfl (fun K hK => ?_) AllReadyH.nil
              rw [if_pos (by rfl)]
              refine wpO_store1 _ (.tmp 15) (.tmp 53) rfl r15 rfl rfl size1Rows rfl rfl ?_
              intro w34 s15 g15 z34
              clear z34
              have hp7 := hv33
              have hv34 : Below wq.heap.size wq w34 := hv33.grown g15 hv33.size (fun k e => by have := Option.some.inj e; omega)
              have r16' := r16.grown g15 (by intro e; exact isRow_ne r15 r16 (by decide) (Option.some.inj e))
              refine hK.out _ _ (hv34) (fun hHeld => ?_)
              clear hK K
              try simp only [Act.put, List.setIfInBounds_toArray, List.set_cons_zero, List.set_cons_succ]
              refine wpAnyH_ready (rs := [8]) (by kernel_rfl) (by simp) ?_
              refine AllReadyH.cons (o := { dst := none, op := Op.store 3 (Operand.tmp 16) (Operand.tmp 56), type := 0, pos := "stripes.go:84", after := #[{ on := 6, ground := Ground.data }, { on := 4, ground := Ground.data }, { on := 7, ground := Ground.chain }, { on := 0, ground := Ground.phase }, { on := 1, ground := Ground.phase }, { on := 2, ground := Ground.phase }, { on := 3, ground := Ground.phase }, { on := 4, ground := Ground.phase }, { on := 5, ground := Ground.phase }, { on := 6, ground := Ground.phase }, { on := 7, ground := Ground.phase }], guard := none }) rfl (fun K hK => ?_) AllReadyH.nil
              rw [if_pos (by rfl)]
              refine wpO_store1 _ (.tmp 16) (.tmp 56) rfl r16' rfl rfl size1Int rfl rfl ?_
              intro w35 s16 g16 z35
              clear z35
              obtain ⟨hmid, hv35⟩ := AMid.made HAW.out hp7 h15 h16 r15 r16 oc s15 g15 s16 g16
              refine hK.out _ _ (hv35) (fun hHeld => ?_)
              clear hK K
              try simp only [Act.put, List.setIfInBounds_toArray, List.set_cons_zero, List.set_cons_succ]
              refine wpAnyH_done (by kernel_rfl) ?_ _
              have HM := Lib.hid (And.intro hmid hv35)
              clear hmid hv35 hp7 h15 h16 r15 r16 r16' oc s15 g15 s16 g16 hHeld
              dsimp only [noPanic]
              go_wp2_with fail
              go_meet
              exact ⟨_, _, _, _, _, rfl, rfl, HM⟩
      · skip
        refine AllReadyH.cons (o := { dst := some 15, op := Op.alloc 25, type := 0, pos := "stripes.go:84", after := #[], guard := none }) rfl (fun K hK => ?_) ?_
        · skip
          rw [if_pos (by rfl)]
          refine wpO_alloc1 _ rfl _ infoRows rfl ?_
          intro w30 r15 b30 z30
          clear z30
          have h15 := hv0.size
          obtain ⟨b15, hb15⟩ : ∃ y, wq.drew.heap.size = y := ⟨_, rfl⟩
          rw [hb15] at r15 h15 ⊢
          have hv30 : Below wq.heap.size wq w30 := hv0.trans (b30.mono hv0.size)
          try have r16 := r16.below' b30
          try have oc := oc.below b30
          clear b30 hb15
          refine hK.out _ _ (hv30) (fun hHeld => ?_)
          clear hK K
          try simp only [Act.put, List.setIfInBounds_toArray, List.set_cons_zero, List.set_cons_succ]
          refine wpAnyH_ready (rs := [1, 6]) (by kernel_rfl) (by simp) ?_
          refine AllReadyH.cons (o := { dst := some 53, op := Op.call { callee := Callee.value (Operand.func 24), args := #[Operand.tmp 52], argTypes := #[25] }, type := 25, pos := "stripes.go:84", after := #[{ on := 0, ground := Ground.data }], guard := none }) rfl (fun K hK => ?_) ?_
          · skip
            go_simp
            go_at_call 24
            refine (HCP.out w30 (HAW.out.bel.trans (hv30.mono HAW.out.bel.size))).mono ?_
            rintro e w31 ⟨A', c', E, rfl, o31, b31⟩
            have hv31 : Below wq.heap.size wq w31 := hv30.trans (b31.mono hv30.size)
            have oc := o31.base hv30.size
            clear o31
            try have r15 := r15.below' b31
            try have r16 := r16.below' b31
            clear b31
            refine hK.out _ _ (hv31) (fun hHeld => ?_)
            clear hK K
            try simp only [Act.put, List.setIfInBounds_toArray, List.set_cons_zero, List.set_cons_succ]
            refine wpAnyH_ready (rs := [4, 6]) (by kernel_rfl) (by simp) ?_
            refine AllReadyH.cons (o := { dst := some 56, op := Op.call { callee := Callee.value (Operand.func 15), args := #[Operand.tmp 54, Operand.tmp 55], argTypes := #[23, 3] }, type := 3, pos := "stripes.go:84", after := #[{ on := 2, ground := Ground.data }, { on := 3, ground := Ground.data }, { on := 1, ground := Ground.chain }], guard := none }) rfl (fun K hK => ?_) ?_
            · skip
              go_simp
              go_at_call 15
              refine (HG.out w31).mono ?_
              rintro e w32 ⟨rfl, b32⟩
              have hv32 : Below wq.heap.size wq w32 := hv31.trans (b32.mono hv31.size)
              try have r15 := r15.below' b32
              try have r16 := r16.below' b32
              try have oc := oc.below b32
              clear b32
              refine hK.out _ _ (hv32) (fun hHeld => ?_)
              clear hK K
              try simp only [Act.put, List.setIfInBounds_toArray, List.set_cons_zero, List.set_cons_succ]
              refine wpAnyH_ready (rs := [6]) (by kernel_rfl) (by simp) ?_
              refine AllReadyH.cons (o := { dst := some 16, op := Op.alloc 3, type := 0, pos := "stripes.go:84", after := #[], guard := none }) rfl (fun K hK => ?_) AllReadyH.nil
              rw [if_pos (by rfl)]
              refine wpO_alloc1 _ rfl _ infoIntZ rfl ?_
              intro w33 r16 b33 z33
              clear z33
              have h16 := hv32.size
              obtain ⟨b16, hb16⟩ : ∃ y, w32.heap.size = y := ⟨_, rfl⟩
              rw [hb16] at r16 h16 ⊢
              have hv33 : Below wq.heap.size wq w33 := hv32.trans (b33.mono hv32.size)
              try have r15 := r15.below' b33
              try have oc := oc.below b33
              clear b33 hb16
              refine hK.out _ _ (hv33) (fun hHeld => ?_)
              clear hK K
              try simp only [Act.put, List.setIfInBounds_toArray, List.set_cons_zero, List.set_cons_succ]
              refine wpAnyH_ready (rs := [7]) (by kernel_rfl) (by simp) ?_
              refine AllReadyH.cons (o := { dst := none, op := Op.store 25 (Operand.tmp 15) (Operand.tmp 53), type := 0, pos := "stripes.go:84", after := #[{ on := 5, ground := Ground.data }, { on := 1, ground := Ground.data }, { on := 4, ground := Ground.chain }, { on := 0, ground := Ground.phase }, { on := 1, ground := Ground.phase }, { on := 2, ground := Ground.textOnly Departure.lateStores }, { on := 3, ground := Ground.textOnly Departure.lateStores }, { on := 4, ground := Ground.textOnly Departure.lateStoresUnsure }, { on := 5, ground := Ground.phase }, { on := 6, ground := Ground.phase }], guard := none }) rfl (fun K hK => ?_) AllReadyH.nil
              rw [if_pos (by rfl)]
              refine wpO_store1 _ (.tmp 15) (.tmp 53) rfl r15 rfl rfl size1Rows rfl rfl ?_
              intro w34 s15 g15 z34
              clear z34
              have hp7 := hv33
              have hv34 : Below wq.heap.size wq w34 := hv33.grown g15 hv33.size (fun k e => by have := Option.some.inj e; omega)
              have r16' := r16.grown g15 (by intro e; exact isRow_ne r15 r16 (by decide) (Option.some.inj e))
              refine hK.out _ _ (hv34) (fun hHeld => ?_)
              clear hK K
              try simp only [Act.put, List.setIfInBounds_toArray, List.set_cons_zero, List.set_cons_succ]
              refine wpAnyH_ready (rs := [8]) (by kernel_rfl) (by simp) ?_
              refine AllReadyH.cons (o := { dst := none, op := Op.store 3 (Operand.tmp 16) (Operand.tmp 56), type := 0, pos := "stripes.go:84", after := #[{ on := 6, ground := Ground.data }, { on := 4, ground := Ground.data }, { on := 7, ground := Ground.chain }, { on := 0, ground := Ground.phase }, { on := 1, ground := Ground.phase }, { on := 2, ground := Ground.phase }, { on := 3, ground := Ground.phase }, { on := 4, ground := Ground.phase }, { on := 5, ground := Ground.phase }, { on := 6, ground := Ground.phase }, { on := 7, ground := Ground.phase }], guard := none }) rfl (fun K hK => ?_) AllReadyH.nil
              rw [if_pos (by rfl)]
              refine wpO_store1 _ (.tmp 16) (.tmp 56) rfl r16' rfl rfl size1Int rfl rfl ?_
              intro w35 s16 g16 z35
              clear z35
              obtain ⟨hmid, hv35⟩ := AMid.made HAW.out hp7 h15 h16 r15 r16 oc s15 g15 s16 g16
              refine hK.out _ _ (hv35) (fun hHeld => ?_)
              clear hK K
              try simp only [Act.put, List.setIfInBounds_toArray, List.set_cons_zero, List.set_cons_succ]
              refine wpAnyH_done (by kernel_rfl) ?_ _
              have HM := Lib.hid (And.intro hmid hv35)
              clear hmid hv35 hp7 h15 h16 r15 r16 r16' oc s15 g15 s16 g16 hHeld
              dsimp only [noPanic]
              go_wp2_with fail
              go_meet
              exact ⟨_, _, _, _, _, rfl, rfl, HM⟩
            · skip
              refine AllReadyH.cons (o := { dst := some 16, op := Op.alloc 3, type := 0, pos := "stripes.go:84", after := #[], guard := none }) rfl (fun K hK => ?_) AllReadyH.nil
              rw [if_pos (by rfl)]
              refine wpO_alloc1 _ rfl _ infoIntZ rfl ?_
              intro w32 r16 b32 z32
              clear z32
              have h16 := hv31.size
              obtain ⟨b16, hb16⟩ : ∃ y, w31.heap.size = y := ⟨_, rfl⟩
              rw [hb16] at r16 h16 ⊢
              have hv32 : Below wq.heap.size wq w32 := hv31.trans (b32.mono hv31.size)
              try have r15 := r15.below' b32
              try have oc := oc.below b32
              clear b32 hb16
              refine hK.out _ _ (hv32) (fun hHeld => ?_)
              clear hK K
              try simp only [Act.put, List.setIfInBounds_toArray, List.set_cons_zero, List.set_cons_succ]
              refine wpAnyH_ready (rs := [4]) (by kernel_rfl) (by simp) ?_
              refine AllReadyH.cons (o := { dst := some 56, op := Op.call { callee := Callee.value (Operand.func 15), args := #[Operand.tmp 54, Operand.tmp 55], argTypes := #[23, 3] }, type := 3, pos := "stripes.go:84", after := #[{ on := 2, ground := Ground.data }, { on := 3, ground := Ground.data }, { on := 1, ground := Ground.chain }], guard := none }) rfl (fun K hK => ?_) AllReadyH.nil
              go_simp
              go_at_call 15
              refine (HG.out w32).mono ?_
              rintro e w33 ⟨rfl, b33⟩
              have hv33 : Below wq.heap.size wq w33 := hv32.trans (b33.mono hv32.size)
              try have r15 := r15.below' b33
              try have r16 := r16.below' b33
              try have oc := oc.below b33
              clear b33
              refine hK.out _ _ (hv33) (fun hHeld => ?_)
              clear hK K
              try simp only [Act.put, List.setIfInBounds_toArray, List.set_cons_zero, List.set_cons_succ]
              refine wpAnyH_ready (rs := [7]) (by kernel_rfl) (by simp) ?_
              refine AllReadyH.cons (o := { dst := none, op := Op.store 25 (Operand.tmp 15) (Operand.tmp 53), type := 0, pos := "stripes.go:84", after := #[{ on := 5, ground := Ground.data }, { on := 1, ground := Ground.data }, { on := 4, ground := Ground.chain }, { on := 0, ground := Ground.phase }, { on := 1, ground := Ground.phase }, { on := 2, ground := Ground.textOnly Departure.lateStores }, { on := 3, ground := Ground.textOnly Departure.lateStores }, { on := 4, ground := Ground.textOnly Departure.lateStoresUnsure }, { on := 5, ground := Ground.phase }, { on := 6, ground := Ground.phase }], guard := none }) rfl (fun K hK => ?_) AllReadyH.nil
              rw [if_pos (by rfl)]
              refine wpO_store1 _ (.tmp 15) (.tmp 53) rfl r15 rfl rfl size1Rows rfl rfl ?_
              intro w34 s15 g15 z34
              clear z34
              have hp7 := hv33
              have hv34 : Below wq.heap.size wq w34 := hv33.grown g15 hv33.size (fun k e => by have := Option.some.inj e; omega)
              have r16' := r16.grown g15 (by intro e; exact isRow_ne r15 r16 (by decide) (Option.some.inj e))
              refine hK.out _ _ (hv34) (fun hHeld => ?_)
              clear hK K
              try simp only [Act.put, List.setIfInBounds_toArray, List.set_cons_zero, List.set_cons_succ]
              refine wpAnyH_ready (rs := [8]) (by kernel_rfl) (by simp) ?_
              refine AllReadyH.cons (o := { dst := none, op := Op.store 3 (Operand.tmp 16) (Operand.tmp 56), type := 0, pos := "stripes.go:84", after := #[{ on := 6, ground := Ground.data }, { on := 4, ground := Ground.data }, { on := 7, ground := Ground.chain }, { on := 0, ground := Ground.phase }, { on := 1, ground := Ground.phase }, { on := 2, ground := Ground.phase }, { on := 3, ground := Ground.phase }, { on := 4, ground := Ground.phase }, { on := 5, ground := Ground.phase }, { on := 6, ground := Ground.phase }, { on := 7, ground := Ground.phase }], guard := none }) rfl (fun K hK => ?_) AllReadyH.nil
              rw [if_pos (by rfl)]
              refine wpO_store1 _ (.tmp 16) (.tmp 56) rfl r16' rfl rfl size1Int rfl rfl ?_
              intro w35 s16 g16 z35
              clear z35
              obtain ⟨hmid, hv35⟩ := AMid.made HAW.out hp7 h15 h16 r15 r16 oc s15 g15 s16 g16
              refine hK.out _ _ (hv35) (fun hHeld => ?_)
              clear hK K
              try simp only [Act.put, List.setIfInBounds_toArray, List.set_cons_zero, List.set_cons_succ]
              refine wpAnyH_done (by kernel_rfl) ?_ _
              have HM := Lib.hid (And.intro hmid hv35)
              clear hmid hv35 hp7 h15 h16 r15 r16 r16' oc s15 g15 s16 g16 hHeld
              dsimp only [noPanic]
              go_wp2_with fail
              go_meet
              exact ⟨_, _, _, _, _, rfl, rfl, HM⟩
          · skip
            refine AllReadyH.cons (o := { dst := some 16, op := Op.alloc 3, type := 0, pos := "stripes.go:84", after := #[], guard := none }) rfl (fun K hK => ?_) AllReadyH.nil
            rw [if_pos (by rfl)]
            refine wpO_alloc1 _ rfl _ infoIntZ rfl ?_
            intro w31 r16 b31 z31
            clear z31
            have h16 := hv30.size
            obtain ⟨b16, hb16⟩ : ∃ y, w30.heap.size = y := ⟨_, rfl⟩
            rw [hb16] at r16 h16 ⊢
            have hv31 : Below wq.heap.size wq w31 := hv30.trans (b31.mono hv30.size)
            try have r15 := r15.below' b31
            try have oc := oc.below b31
            clear b31 hb16
            refine hK.out _ _ (hv31) (fun hHeld => ?_)
            clear hK K
            try simp only [Act.put, List.setIfInBounds_toArray, List.set_cons_zero, List.set_cons_succ]
            refine wpAnyH_ready (rs := [1]) (by kernel_rfl) (by simp) ?_
            refine AllReadyH.cons (o := { dst := some 53, op := Op.call { callee := Callee.value (Operand.func 24), args := #[Operand.tmp 52], argTypes := #[25] }, type := 25, pos := "stripes.go:84", after := #[{ on := 0, ground := Ground.data }], guard := none }) rfl (fun K hK => ?_) AllReadyH.nil
            go_simp
            go_at_call 24
            refine (HCP.out w31 (HAW.out.bel.trans (hv31.mono HAW.out.bel.size))).mono ?_
            rintro e w32 ⟨A', c', E, rfl, o32, b32⟩
            have hv32 : Below wq.heap.size wq w32 := hv31.trans (b32.mono hv31.size)
            have oc := o32.base hv31.size
            clear o32
            try have r15 := r15.below' b32
            try have r16 := r16.below' b32
            clear b32
            refine hK.out _ _ (hv32) (fun hHeld => ?_)
            clear hK K
            try simp only [Act.put, List.setIfInBounds_toArray, List.set_cons_zero, List.set_cons_succ]
            refine wpAnyH_ready (rs := [4]) (by kernel_rfl) (by simp) ?_
            refine AllReadyH.cons (o := { dst := some 56, op := Op.call { callee := Callee.value (Operand.func 15), args := #[Operand.tmp 54, Operand.tmp 55], argTypes := #[23, 3] }, type := 3, pos := "stripes.go:84", after := #[{ on := 2, ground := Ground.data }, { on := 3, ground := Ground.data }, { on := 1, ground := Ground.chain }], guard := none }) rfl (fun K hK => ?_) AllReadyH.nil
            go_simp
            go_at_call 15
            refine (HG.out w32).mono ?_
            rintro e w33 ⟨rfl, b33⟩
            have hv33 : Below wq.heap.size wq w33 := hv32.trans (b33.mono hv32.size)
            try have r15 := r15.below' b33
            try have r16 := r16.below' b33
            try have oc := oc.below b33
            clear b33
            refine hK.out _ _ (hv33) (fun hHeld => ?_)
            clear hK K
            try simp only [Act.put, List.setIfInBounds_toArray, List.set_cons_zero, List.set_cons_succ]
            refine wpAnyH_ready (rs := [7]) (by kernel_rfl) (by simp) ?_
            refine AllReadyH.cons (o := { dst := none, op := Op.store 25 (Operand.tmp 15) (Operand.tmp 53), type := 0, pos := "stripes.go:84", after := #[{ on := 5, ground := Ground.data }, { on := 1, ground := Ground.data }, { on := 4, ground := Ground.chain }, { on := 0, ground := Ground.phase }, { on := 1, ground := Ground.phase }, { on := 2, ground := Ground.textOnly Departure.lateStores }, { on := 3, ground := Ground.textOnly Departure.lateStores }, { on := 4, ground := Ground.textOnly Departure.lateStoresUnsure }, { on := 5, ground := Ground.phase }, { on := 6, ground := Ground.phase }], guard := none }) rfl (fun K hK => ?_) AllReadyH.nil
            rw [if_pos (by rfl)]
            refine wpO_store1 _ (.tmp 15) (.tmp 53) rfl r15 rfl rfl size1Rows rfl rfl ?_
            intro w34 s15 g15 z34
            clear z34
            have hp7 := hv33
            have hv34 : Below wq.heap.size wq w34 := hv33.grown g15 hv33.size (fun k e => by have := Option.some.inj e; omega)
            have r16' := r16.grown g15 (by intro e; exact isRow_ne r15 r16 (by decide) (Option.some.inj e))
            refine hK.out _ _ (hv34) (fun hHeld => ?_)
            clear hK K
            try simp only [Act.put, List.setIfInBounds_toArray, List.set_cons_zero, List.set_cons_succ]
            refine wpAnyH_ready (rs := [8]) (by kernel_rfl) (by simp) ?_
            refine AllReadyH.cons (o := { dst := none, op := Op.store 3 (Operand.tmp 16) (Operand.tmp 56), type := 0, pos := "stripes.go:84", after := #[{ on := 6, ground := Ground.data }, { on := 4, ground := Ground.data }, { on := 7, ground := Ground.chain }, { on := 0, ground := Ground.phase }, { on := 1, ground := Ground.phase }, { on := 2, ground := Ground.phase }, { on := 3, ground := Ground.phase }, { on := 4, ground := Ground.phase }, { on := 5, ground := Ground.phase }, { on := 6, ground := Ground.phase }, { on := 7, ground := Ground.phase }], guard := none }) rfl (fun K hK => ?_) AllReadyH.nil
            rw [if_pos (by rfl)]
            refine wpO_store1 _ (.tmp 16) (.tmp 56) rfl r16' rfl rfl size1Int rfl rfl ?_
            intro w35 s16 g16 z35
            clear z35
            obtain ⟨hmid, hv35⟩ := AMid.made HAW.out hp7 h15 h16 r15 r16 oc s15 g15 s16 g16
            refine hK.out _ _ (hv35) (fun hHeld => ?_)
            clear hK K
            try simp only [Act.put, List.setIfInBounds_toArray, List.set_cons_zero, List.set_cons_succ]
            refine wpAnyH_done (by kernel_rfl) ?_ _
            have HM := Lib.hid (And.intro hmid hv35)
            clear hmid hv35 hp7 h15 h16 r15 r16 r16' oc s15 g15 s16 g16 hHeld
            dsimp only [noPanic]
            go_wp2_with fail
            go_meet
            exact ⟨_, _, _, _, _, rfl, rfl, HM⟩
        · skip
          refine AllReadyH.cons (o := { dst := some 16, op := Op.alloc 3, type := 0, pos := "stripes.go:84", after := #[], guard := none }) rfl (fun K hK => ?_) AllReadyH.nil
          rw [if_pos (by rfl)]
          refine wpO_alloc1 _ rfl _ infoIntZ rfl ?_
          intro w30 r16 b30 z30
          clear z30
          have h16 := hv0.size
          obtain ⟨b16, hb16⟩ : ∃ y, wq.drew.heap.size = y := ⟨_, rfl⟩
          rw [hb16] at r16 h16 ⊢
          have hv30 : Below wq.heap.size wq w30 := hv0.trans (b30.mono hv0.size)
          try have r15 := r15.below' b30
          try have oc := oc.below b30
          clear b30 hb16
          refine hK.out _ _ (hv30) (fun hHeld => ?_)
          clear hK K
          try simp only [Act.put, List.setIfInBounds_toArray, List.set_cons_zero, List.set_cons_succ]
          refine wpAnyH_ready (rs := [1, 5]) (by kernel_rfl) (by simp) ?_
          refine AllReadyH.cons (o := { dst := some 53, op := Op.call { callee := Callee.value (Operand.func 24), args := #[Operand.tmp 52], argTypes := #[25] }, type := 25, pos := "stripes.go:84", after := #[{ on := 0, ground := Ground.data }], guard := none }) rfl (fun K hK => ?_) ?_
          · skip
            go_simp
            go_at_call 24
            refine (HCP.out w30 (HAW.out.bel.trans (hv30.mono HAW.out.bel.size))).mono ?_
            rintro e w31 ⟨A', c', E, rfl, o31, b31⟩
            have hv31 : Below wq.heap.size wq w31 := hv30.trans (b31.mono hv30.size)
            have oc := o31.base hv30.size
            clear o31
            try have r15 := r15.below' b31
            try have r16 := r16.below' b31
            clear b31
            refine hK.out _ _ (hv31) (fun hHeld => ?_)
            clear hK K
            try simp only [Act.put, List.setIfInBounds_toArray, List.set_cons_zero, List.set_cons_succ]
            refine wpAnyH_ready (rs := [4, 5]) (by kernel_rfl) (by simp) ?_
            refine AllReadyH.cons (o := { dst := some 56, op := Op.call { callee := Callee.value (Operand.func 15), args := #[Operand.tmp 54, Operand.tmp 55], argTypes := #[23, 3] }, type := 3, pos := "stripes.go:84", after := #[{ on := 2, ground := Ground.data }, { on := 3, ground := Ground.data }, { on := 1, ground := Ground.chain }], guard := none }) rfl (fun K hK => ?_) ?_
            · skip
              go_simp
              go_at_call 15
              refine (HG.out w31).mono ?_
              rintro e w32 ⟨rfl, b32⟩
              have hv32 : Below wq.heap.size wq w32 := hv31.trans (b32.mono hv31.size)
              try have r15 := r15.below' b32
              try have r16 := r16.below' b32
              try have oc := oc.below b32
              clear b32
              refine hK.out _ _ (hv32) (fun hHeld => ?_)
              clear hK K
              try simp only [Act.put, List.setIfInBounds_toArray, List.set_cons_zero, List.set_cons_succ]
              refine wpAnyH_ready (rs := [5]) (by kernel_rfl) (by simp) ?_
              refine AllReadyH.cons (o := { dst := some 15, op := Op.alloc 25, type := 0, pos := "stripes.go:84", after := #[], guard := none }) rfl (fun K hK => ?_) AllReadyH.nil
              rw [if_pos (by rfl)]
              refine wpO_alloc1 _ rfl _ infoRows rfl ?_
              intro w33 r15 b33 z33
              clear z33
              have h15 := hv32.size
              obtain ⟨b15, hb15⟩ : ∃ y, w32.heap.size = y := ⟨_, rfl⟩
              rw [hb15] at r15 h15 ⊢
              have hv33 : Below wq.heap.size wq w33 := hv32.trans (b33.mono hv32.size)
              try have r16 := r16.below' b33
              try have oc := oc.below b33
              clear b33 hb15
              refine hK.out _ _ (hv33) (fun hHeld => ?_)
              clear hK K
              try simp only [Act.put, List.setIfInBounds_toArray, List.set_cons_zero, List.set_cons_succ]
              refine wpAnyH_ready (rs := [7]) (by kernel_rfl) (by simp) ?_
              refine AllReadyH.cons (o := { dst := none, op := Op.store 25 (Operand.tmp 15) (Operand.tmp 53), type := 0, pos := "stripes.go:84", after := #[{ on := 5, ground := Ground.data }, { on := 1, ground := Ground.data }, { on := 4, ground := Ground.chain }, { on := 0, ground := Ground.phase }, { on := 1, ground := Ground.phase }, { on := 2, ground := Ground.textOnly Departure.lateStores }, { on := 3, ground := Ground.textOnly Departure.lateStores }, { on := 4, ground := Ground.textOnly Departure.lateStoresUnsure }, { on := 5, ground := Ground.phase }, { on := 6, ground := Ground.phase }], guard := none }) rfl (fun K hK => ?_) AllReadyH.nil
              rw [if_pos (by rfl)]
              refine wpO_store1 _ (.tmp 15) (.tmp 53) rfl r15 rfl rfl size1Rows rfl rfl ?_
              intro w34 s15 g15 z34
              clear z34
              have hp7 := hv33
              have hv34 : Below wq.heap.size wq w34 := hv33.grown g15 hv33.size (fun k e => by have := Option.some.inj e; omega)
              have r16' := r16.grown g15 (by intro e; exact isRow_ne r15 r16 (by decide) (Option.some.inj e))
              refine hK.out _ _ (hv34) (fun hHeld => ?_)
              clear hK K
              try simp only [Act.put, List.setIfInBounds_toArray, List.set_cons_zero, List.set_cons_succ]
              refine wpAnyH_ready (rs := [8]) (by kernel_rfl) (by simp) ?_
              refine AllReadyH.cons (o := { dst := none, op := Op.store 3 (Operand.tmp 16) (Operand.tmp 56), type := 0, pos := "stripes.go:84", after := #[{ on := 6, ground := Ground.data }, { on := 4, ground := Ground.data }, { on := 7, ground := Ground.chain }, { on := 0, ground := Ground.phase }, { on := 1, ground := Ground.phase }, { on := 2, ground := Ground.phase }, { on := 3, ground := Ground.phase }, { on := 4, ground := Ground.phase }, { on := 5, ground := Ground.phase }, { on := 6, ground := Ground.phase }, { on := 7, ground := Ground.phase }], guard := none }) rfl (fun K hK => ?_) AllReadyH.nil
              rw [if_pos (by rfl)]
              refine wpO_store1 _ (.tmp 16) (.tmp 56) rfl r16' rfl rfl size1Int rfl rfl ?_
              intro w35 s16 g16 z35
              clear z35
              obtain ⟨hmid, hv35⟩ := AMid.made HAW.out hp7 h15 h16 r15 r16 oc s15 g15 s16 g16
              refine hK.out _ _ (hv35) (fun hHeld => ?_)
              clear hK K
              try simp only [Act.put, List.setIfInBounds_toArray, List.set_cons_zero, List.set_cons_succ]
              refine wpAnyH_done (by kernel_rfl) ?_ _
              have HM := Lib.hid (And.intro hmid hv35)
              clear hmid hv35 hp7 h15 h16 r15 r16 r16' oc s15 g15 s16 g16 hHeld
              dsimp only [noPanic]
              go_wp2_with fail
              go_meet
              exact ⟨_, _, _, _, _, rfl, rfl, HM⟩
            · skip
              refine AllReadyH.cons (o := { dst := some 15, op := Op.alloc 25, type := 0, pos := "stripes.go:84", after := #[], guard := none }) rfl (fun K hK => ?_) AllReadyH.nil
              rw [if_pos (by rfl)]
              refine wpO_alloc1 _ rfl _ infoRows rfl ?_
              intro w32 r15 b32 z32
              clear z32
              have h15 := hv31.size
              obtain ⟨b15, hb15⟩ : ∃ y, w31.heap.size = y := ⟨_, rfl⟩
              rw [hb15] at r15 h15 ⊢
              have hv32 : Below wq.heap.size wq w32 := hv31.trans (b32.mono hv31.size)
              try have r16 := r16.below' b32
              try have oc := oc.below b32
              clear b32 hb15
              refine hK.out _ _ (hv32) (fun hHeld => ?_)
              clear hK K
              try simp only [Act.put, List.setIfInBounds_toArray, List.set_cons_zero, List.set_cons_succ]
              refine wpAnyH_ready (rs := [4]) (by kernel_rfl) (by simp) ?_
              refine AllReadyH.cons (o := { dst := some 56, op := Op.call { callee := Callee.value (Operand.func 15), args := #[Operand.tmp 54, Operand.tmp 55], argTypes := #[23, 3] }, type := 3, pos := "stripes.go:84", after := #[{ on := 2, ground := Ground.data }, { on := 3, ground := Ground.data }, { on := 1, ground := Ground.chain }], guard := none }) rfl (fun K hK => ?_) AllReadyH.nil
              go_simp
              go_at_call 15
              refine (HG.out w32).mono ?_
              rintro e w33 ⟨rfl, b33⟩
              have hv33 : Below wq.heap.size wq w33 := hv32.trans (b33.mono hv32.size)
              try have r15 := r15.below' b33
              try have r16 := r16.below' b33
              try have oc := oc.below b33
              clear b33
              refine hK.out _ _ (hv33) (fun hHeld => ?_)
              clear hK K
              try simp only [Act.put, List.setIfInBounds_toArray, List.set_cons_zero, List.set_cons_succ]
              refine wpAnyH_ready (rs := [7]) (by kernel_rfl) (by simp) ?_
              refine AllReadyH.cons (o := { dst := none, op := Op.store 25 (Operand.tmp 15) (Operand.tmp 53), type := 0, pos := "stripes.go:84", after := #[{ on := 5, ground := Ground.data }, { on := 1, ground := Ground.data }, { on := 4, ground := Ground.chain }, { on := 0, ground := Ground.phase }, { on := 1, ground := Ground.phase }, { on := 2, ground := Ground.textOnly Departure.lateStores }, { on := 3, ground := Ground.textOnly Departure.lateStores }, { on := 4, ground := Ground.textOnly Departure.lateStoresUnsure }, { on := 5, ground := Ground.phase }, { on := 6, ground := Ground.phase }], guard := none }) rfl (fun K hK => ?_) AllReadyH.nil
              rw [if_pos (by rfl)]
              refine wpO_store1 _ (.tmp 15) (.tmp 53) rfl r15 rfl rfl size1Rows rfl rfl ?_
              intro w34 s15 g15 z34
              clear z34
              have hp7 := hv33
              have hv34 : Below wq.heap.size wq w34 := hv33.grown g15 hv33.size (fun k e => by have := Option.some.inj e; omega)
              have r16' := r16.grown g15 (by intro e; exact isRow_ne r15 r16 (by decide) (Option.some.inj e))
              refine hK.out _ _ (hv34) (fun hHeld => ?_)
              clear hK K
              try simp only [Act.put, List.setIfInBounds_toArray, List.set_cons_zero, List.set_cons_succ]
              refine wpAnyH_ready (rs := [8]) (by kernel_rfl) (by simp) ?_
              refine AllReadyH.cons (o := { dst := none, op := Op.store 3 (Operand.tmp 16) (Operand.tmp 56), type := 0, pos := "stripes.go:84", after := #[{ on := 6, ground := Ground.data }, { on := 4, ground := Ground.data }, { on := 7, ground := Ground.chain }, { on := 0, ground := Ground.phase }, { on := 1, ground := Ground.phase }, { on := 2, ground := Ground.phase }, { on := 3, ground := Ground.phase }, { on := 4, ground := Ground.phase }, { on := 5, ground := Ground.phase }, { on := 6, ground := Ground.phase }, { on := 7, ground := Ground.phase }], guard := none }) rfl (fun K hK => ?_) AllReadyH.nil
              rw [if_pos (by rfl)]
              refine wpO_store1 _ (.tmp 16) (.tmp 56) rfl r16' rfl rfl size1Int rfl rfl ?_
              intro w35 s16 g16 z35
              clear z35
              obtain ⟨hmid, hv35⟩ := AMid.made HAW.out hp7 h15 h16 r15 r16 oc s15 g15 s16 g16
              refine hK.out _ _ (hv35) (fun hHeld => ?_)
              clear hK K
              try simp only [Act.put, List.setIfInBounds_toArray, List.set_cons_zero, List.set_cons_succ]
              refine wpAnyH_done (by kernel_rfl) ?_ _
              have HM := Lib.hid (And.intro hmid hv35)
              clear hmid hv35 hp7 h15 h16 r15 r16 r16' oc s15 g15 s16 g16 hHeld
              dsimp only [noPanic]
              go_wp2_with fail
              go_meet
              exact ⟨_, _, _, _, _, rfl, rfl, HM⟩
          · skip
            refine AllReadyH.cons (o := { dst := some 15, op := Op.alloc 25, type := 0, pos := "stripes.go:84", after := #[], guard := none }) rfl (fun K hK => ?_) AllReadyH.nil
            rw [if_pos (by rfl)]
            refine wpO_alloc1 _ rfl _ infoRows rfl ?_
            intro w31 r15 b31 z31
            clear z31
            have h15 := hv30.size
            obtain ⟨b15, hb15⟩ : ∃ y, w30.heap.size = y := ⟨_, rfl⟩
            rw [hb15] at r15 h15 ⊢
            have hv31 : Below wq.heap.size wq w31 := hv30.trans (b31.mono hv30.size)
            try have r16 := r16.below' b31
            try have oc := oc.below b31
            clear b31 hb15
            refine hK.out _ _ (hv31) (fun hHeld => ?_)
            clear hK K
            try simp only [Act.put, List.setIfInBounds_toArray, List.set_cons_zero, List.set_cons_succ]
            refine wpAnyH_ready (rs := [1]) (by kernel_rfl) (by simp) ?_
            refine AllReadyH.cons (o := { dst := some 53, op := Op.call { callee := Callee.value (Operand.func 24), args := #[Operand.tmp 52], argTypes := #[25] }, type := 25, pos := "stripes.go:84", after := #[{ on := 0, ground := Ground.data }], guard := none }) rfl (fun K hK => ?_) AllReadyH.nil
            go_simp
            go_at_call 24
            refine (HCP.out w31 (HAW.out.bel.trans (hv31.mono HAW.out.bel.size))).mono ?_
            rintro e w32 ⟨A', c', E, rfl, o32, b32⟩
            have hv32 : Below wq.heap.size wq w32 := hv31.trans (b32.mono hv31.size)
            have oc := o32.base hv31.size
            clear o32
            try have r15 := r15.below' b32
            try have r16 := r16.below' b32
            clear b32
            refine hK.out _ _ (hv32) (fun hHeld => ?_)
            clear hK K
            try simp only [Act.put, List.setIfInBounds_toArray, List.set_cons_zero, List.set_cons_succ]
            refine wpAnyH_ready (rs := [4]) (by kernel_rfl) (by simp) ?_
            refine AllReadyH.cons (o := { dst := some 56, op := Op.call { callee := Callee.value (Operand.func 15), args := #[Operand.tmp 54, Operand.tmp 55], argTypes := #[23, 3] }, type := 3, pos := "stripes.go:84", after := #[{ on := 2, ground := Ground.data }, { on := 3, ground := Ground.data }, { on := 1, ground := Ground.chain }], guard := none }) rfl (fun K hK => ?_) AllReadyH.nil
            go_simp
            go_at_call 15
            refine (HG.out w32).mono ?_
            rintro e w33 ⟨rfl, b33⟩
            have hv33 : Below wq.heap.size wq w33 := hv32.trans (b33.mono hv32.size)
            try have r15 := r15.below' b33
            try have r16 := r16.below' b33
            try have oc := oc.below b33
            clear b33
            refine hK.out _ _ (hv33) (fun hHeld => ?_)
            clear hK K
            try simp only [Act.put, List.setIfInBounds_toArray, List.set_cons_zero, List.set_cons_succ]
            refine wpAnyH_ready (rs := [7]) (by kernel_rfl) (by simp) ?_
            refine AllReadyH.cons (o := { dst := none, op := Op.store 25 (Operand.tmp 15) (Operand.tmp 53), type := 0, pos := "stripes.go:84", after := #[{ on := 5, ground := Ground.data }, { on := 1, ground := Ground.data }, { on := 4, ground := Ground.chain }, { on := 0, ground := Ground.phase }, { on := 1, ground := Ground.phase }, { on := 2, ground := Ground.textOnly Departure.lateStores }, { on := 3, ground := Ground.textOnly Departure.lateStores }, { on := 4, ground := Ground.textOnly Departure.lateStoresUnsure }, { on := 5, ground := Ground.phase }, { on := 6, ground := Ground.phase }], guard := none }) rfl (fun K hK => ?_) AllReadyH.nil
            rw [if_pos (by rfl)]
            refine wpO_store1 _ (.tmp 15) (.tmp 53) rfl r15 rfl rfl size1Rows rfl rfl ?_
            intro w34 s15 g15 z34
            clear z34
            have hp7 := hv33
            have hv34 : Below wq.heap.size wq w34 := hv33.grown g15 hv33.size (fun k e => by have := Option.some.inj e; omega)
            have r16' := r16.grown g15 (by intro e; exact isRow_ne r15 r16 (by decide) (Option.some.inj e))
            refine hK.out _ _ (hv34) (fun hHeld => ?_)
            clear hK K
            try simp only [Act.put, List.setIfInBounds_toArray, List.set_cons_zero, List.set_cons_succ]
            refine wpAnyH_ready (rs := [8]) (by kernel_rfl) (by simp) ?_
            refine AllReadyH.cons (o := { dst := none, op := Op.store 3 (Operand.tmp 16) (Operand.tmp 56), type := 0, pos := "stripes.go:84", after := #[{ on := 6, ground := Ground.data }, { on := 4, ground := Ground.data }, { on := 7, ground := Ground.chain }, { on := 0, ground := Ground.phase }, { on := 1, ground := Ground.phase }, { on := 2, ground := Ground.phase }, { on := 3, ground := Ground.phase }, { on := 4, ground := Ground.phase }, { on := 5, ground := Ground.phase }, { on := 6, ground := Ground.phase }, { on := 7, ground := Ground.phase }], guard := none }) rfl (fun K hK => ?_) AllReadyH.nil
            rw [if_pos (by rfl)]
            refine wpO_store1 _ (.tmp 16) (.tmp 56) rfl r16' rfl rfl size1Int rfl rfl ?_
            intro w35 s16 g16 z35
            clear z35
            obtain ⟨hmid, hv35⟩ := AMid.made HAW.out hp7 h15 h16 r15 r16 oc s15 g15 s16 g16
            refine hK.out _ _ (hv35) (fun hHeld => ?_)
            clear hK K
            try simp only [Act.put, List.setIfInBounds_toArray, List.set_cons_zero, List.set_cons_succ]
            refine wpAnyH_done (by kernel_rfl) ?_ _
            have HM := Lib.hid (And.intro hmid hv35)
            clear hmid hv35 hp7 h15 h16 r15 r16 r16' oc s15 g15 s16 g16 hHeld
            dsimp only [noPanic]
            go_wp2_with fail
            go_meet
            exact ⟨_, _, _, _, _, rfl, rfl, HM⟩
    case rest =>
      obtain ⟨b15, b16, A', c', E, rfl, rfl, HM⟩ := hcut
      obtain ⟨wm, hwm⟩ : ∃ x, wc = x := ⟨_, rfl⟩
      try rw [hwm] at HM ⊢
      clear hwm HAW
      have kc := HM.out.1.ab.co.cell 0
      dsimp only [List.getElem?_cons_zero] at kc
      go_wp2_with (go_at_call 23; refine ((callsIn_wide (n := 12)).1 (of_in Fence.wide _ trivial rfl _ _ _ _ _)).mono ?_; rintro e w9 ⟨rfl, rfl⟩)
      have bR := (Boxed.new wm 25 (.slice A n c)).alloc (.cells #[.int .i64 code] 3)
      have bC := Boxed.new (wm.alloc (.cells #[.slice A n c] 25)) 3 (.int .i64 code)
      rw [World.size_alloc] at bC
      have hB0 : Below wm.heap.size wm ((wm.alloc (.cells #[.slice A n c] 25)).alloc (.cells #[.int .i64 code] 3)) := ((Below.refl _ wm).alloc (Nat.le_refl _) _).alloc (by simp) _
      have hsz : ((wm.alloc (.cells #[.slice A n c] 25)).alloc (.cells #[.int .i64 code] 3)).heap.size = wm.heap.size + 2 := by simp
      obtain ⟨W2, hW2⟩ : ∃ W2, (wm.alloc (.cells #[.slice A n c] 25)).alloc (.cells #[.int .i64 code] 3) = W2 := ⟨_, rfl⟩
      rw [hW2] at bR bC hB0 hsz ⊢
      have HM2 := Lib.hid (HM.out.1.below hB0)
      have hR2 : RowsAt W2 w.heap.size A n D l := HR.out.below HM2.out.ab.bel
      have HDD : Hid (W2.heap[D1]? = some (.deferred (some [])) ∧ D1 < W2.heap.size ∧ w.heap.size < D1 ∧ w.heap.size ≤ wm.heap.size) := Lib.hid (by
        have h1 := (Array.getElem?_eq_some_iff.1 HD1.out.1).1
        have h2 : wm.heap[D1]? = some (.deferred (some [])) := (HM.out.2.block D1 h1).trans HD1.out.1
        have h3 := (Array.getElem?_eq_some_iff.1 h2).1
        exact ⟨(hB0.block D1 h3).trans h2, by omega, HD1.out.2, HM.out.1.ab.bel.size⟩)
      have hdd := HDD.out
      clear hW2 kc HM HD1
      refine (wpIn_wide (n := 12)).1 ?_
      refine wpIn_rangeFunc_ownH rfl (show 1 ≤ 12 by omega) (gf := 34) (lb := #[.pointer (some ⟨wm.heap.size, 0, none⟩), .pointer (some ⟨wm.heap.size + 1, 0, none⟩)]) rfl trivial (enters_of Try.func34 (by kernel_rfl) rfl)
        (of_stops Fence.wide (12 - 1) trivial rfl (by omega) wm.heap.size (wm.heap.size + 1) w.heap.size n c A D code W2 l hR2 hnc (by omega) (by omega) (by omega) bR.cell bC.cell) keepsBox_t (keepsBox_b (by omega) (by omega)) (Below.refl _ _) ?hps2
        (fun pre W => ((AMid w cl code width [.int .i64 ge, .int .i64 gc] b15 b16 n c' A' E l G W ∧ W.heap[D1]? = some (.deferred (some []))) ∧ W2.heap.size ≤ W.heap.size) ∧ (∀ x ∈ pre, (x.1.2.r.used.length : Int) = G))
        (fun cd pre W => cd = .ret ∧ (AStop2 w cl code width ge gc n l G D pre W ∧ W.heap[D1]? = some (.deferred (some []))))
        (OwnFrom.and (OwnFrom.and (OwnFrom.and (aMid_own w cl code width _ b15 b16 n c' A' E l G (by omega)) (def_own (by omega))) (fun s X Y row hs hg hr => Nat.le_trans hs hg.size)) (ownFrom_pure _ _))
        (fun cd => OwnFrom.and (ownFrom_pure _ _) (OwnFrom.and (aStop2_own w cl code width ge gc n l G D (by omega)) (def_own (by omega))))
        ⟨⟨⟨HM2.out, hdd.1⟩, Nat.le_refl _⟩, fun x hx => by cases hx⟩
        (fun x a' W => ∃ Bx, IsRow W Bx 59 (rwL x.1.2) ∧ a' = { tmps := #[.agg cl.toArray, .slice A n c, .int .i64 code, .int .i64 width, .agg #[.int .i64 ge, .int .i64 gc], .pointer (some ⟨w.heap.size, 0, none⟩), undef, .pointer (some ⟨w.heap.size + 1, 0, none⟩), .pointer (some ⟨w.heap.size + 2, 0, none⟩), .pointer (some ⟨w.heap.size + 3, 0, none⟩), .pointer (some ⟨w.heap.size + 4, 0, none⟩), .pointer (some ⟨w.heap.size + 5, 0, none⟩), .pointer (some ⟨w.heap.size + 6, 0, none⟩), undef, undef, .pointer (some ⟨b15, 0, none⟩), .pointer (some ⟨b16, 0, none⟩), .int .i64 (x.1.1 : Int), .pointer (some ⟨Bx, 0, none⟩), undef, undef, .int .i64 code, .bool false, .bool false, .int .i64 code, .bool false, .bool false, .bool false, .int .i64 width, .bool false, .bool false, .bool false, .int .i64 width, .bool false, .bool false, .bool false, .agg cl.toArray, .int .i64 width, .int .i64 G, .bool false, .bool false, undef, .slice A n c, .int .i64 code, .func (.func 34) #[] #[.pointer (some ⟨w8.heap.size, 0, none⟩), .pointer (some ⟨w8.heap.size + 1, 0, none⟩)], undef, undef, undef, undef, undef, undef, undef, u52, u53, u54, u55, u56, .slice A n c, .int .i64 code, .func (.func 34) #[] #[.pointer (some ⟨wm.heap.size, 0, none⟩), .pointer (some ⟨wm.heap.size + 1, 0, none⟩)], .int .i64 (x.1.1 : Int), .agg (rwL x.1.2).toArray, undef, undef, undef, undef, undef, undef, undef, undef, undef, undef, undef, undef, undef, undef, undef, undef, undef, undef, undef, undef, undef, undef, undef, undef, undef, undef, undef, undef, undef, undef, undef, undef, undef, undef, undef, undef, undef, undef, undef, undef, undef, undef, undef, undef, undef, undef, undef, undef, undef, undef, undef, undef, undef, undef, undef, undef, undef, undef], defers := [] })
        (fun x a' _ X Y row hs hg hr => by obtain ⟨Bx, h1, h2⟩ := hs; exact ⟨Bx, isRow_own (w0 := W2.heap.size) Bx 59 (fun (_ : Unit) => rwL x.1.2) () X Y row h1 hg hr, h2⟩)
        ?assign2 ?body2 ?done2 ?stop2
      case hps2 => intro x; rfl
      case assign2 =>
        rintro l' pre x W K hi hK
        have HX : Hid (List.all (rwL x.1.2) (·.oneCell') = true) := Lib.hid (List.all_eq_true.2 (rwL_one _))
        have HXL : Hid ((rwL x.1.2).length = 3) := Lib.hid rfl
        have HI := Lib.hid hi
        have HSZ := Lib.hid hsz
        dsimp only [ofEncs, rowEncs]
        obtain ⟨cs, hcs⟩ : ∃ cs, rwL x.1.2 = cs := ⟨_, rfl⟩
        rw [hcs] at hK HX HXL ⊢
        have HK := Lib.hid hK
        clear hK hi bR bC hB0 hsz hR2 hdd
        gi_wp2_with (first
          | (refine wpListIn_allocRow rfl _ rfl _ infoRw ?_; intro w14 r14 b14 z14; clear z14)
          | (refine wpListIn_storeRow rfl _ (.tmp 18) (.tmp 61) rfl (l' := cs) r14 (by simp [Act.eval, Act.put]) (by simp [Act.eval, Act.put]) (by rw [HXL.out]; exact sizeRw) HXL.out.symm HX.out ?_; intro w15 r15 g15 z15 q15; clear z15 q15 r14; have b15 := b14.grown g15 b14.size (fun k e => by have := Option.some.inj e; omega); clear b14 g15))
        have hm := HI.out.1.1.1
        have hle := hm.ab.bel.size
        have hdl := HI.out.1.1.2
        have hsw := HI.out.1.2
        exact HK.out _ _ ((keeps_below' b15).from _) ⟨b15.mono hle, b15.block _ (by have := HSZ.out; omega)⟩ ⟨⟨⟨hm.below b15, (b15.block _ (Array.getElem?_eq_some_iff.1 hdl).1).trans hdl⟩, Nat.le_trans hsw b15.size⟩, HI.out.2⟩ ⟨W.heap.size, r15, by simp [Act.put, hcs]⟩
      case body2 =>
        rintro l' pre x a' W hl ⟨r, hr⟩ ⟨⟨⟨hm, hd1⟩, hsw⟩, hpre⟩ ⟨Bx, bX, rfl⟩ hlt
        clear hr hlt bR bC hR2 hB0 hsz hdd HM2
        have hok := HR.out.us x.1.2 (List.mem_of_getElem? x.2.1)
        have hmu := hok.mx
        have hle := hok.le
        have HOK := Lib.hid (hok.below hm.ab.bel)
        have HI := Lib.hid hpre
        have HM := Lib.hid (And.intro (And.intro hm hd1) hsw)
        have k2 : W.cell? ⟨Bx, 2, none⟩ = some (.slice x.1.2.A x.1.2.r.used.length x.1.2.k) := bX.cell 2
        have k16 := hm.gr.cell 0
        dsimp only [List.getElem?_cons_zero] at k16
        obtain ⟨us, hus⟩ : ∃ us, x.1.2.r.used = us := ⟨_, rfl⟩
        obtain ⟨n2, hn2⟩ : ∃ n, us.length = n := ⟨_, rfl⟩
        obtain ⟨A3, hA3⟩ : ∃ y, x.1.2.A = y := ⟨_, rfl⟩
        obtain ⟨q3, hq3⟩ : ∃ y, x.1.2.k = y := ⟨_, rfl⟩
        rw [hus, hn2, hA3, hq3] at k2
        rw [hus, hn2] at hmu hle
        rw [hq3] at hle
        have HU := Lib.hid hus
        have HN := Lib.hid hn2
        have HA3 := Lib.hid hA3
        clear hok hm hd1 hpre bX hus hn2 hA3 hq3 hsw
        by_cases hf : (n2 : Int) = G
        · have hfb : ((n2 : Int) == G) = true := by simp [hf]
          have HF := Lib.hid hf
          clear hf
          gi_wp2
          exact ⟨KeepsFrom.refl _ _, ⟨Below.refl _ _, rfl⟩, HM.out, fun y hy => by
            rcases List.mem_append.1 hy with hy | hy
            · exact HI.out y hy
            · obtain rfl := List.mem_singleton.1 hy
              rw [HU.out, HN.out]; exact HF.out⟩
        · have hfb : ((n2 : Int) == G) = false := by simp [hf]
          have HF := Lib.hid hf
          clear hf
          gi_wp2
          gi_loop [19] (fun u => ∃ j : Nat, j ≤ n2 ∧ u = .int .i64 (j : Int) ∧ Hid (Str.gap (us.drop j) j = Str.gap us 0)) (fun u => n2 - (intOf u).toNat)
          case atStart => exact ⟨0, Nat.zero_le _, rfl, Lib.hid (by rw [List.drop_zero])⟩
          case round =>
            obtain ⟨j, hj, rfl, HGP⟩ := hrel
            by_cases hc : ∃ h : j < us.length, us[j].g = (j : Int)
            · obtain ⟨hju, hg⟩ := hc
              have hlt : j < n2 := by rw [← HN.out]; exact hju
              obtain ⟨d2, o2, hA, -, -, cg⟩ := HOK.out.at (k := j) (by rw [HU.out]; exact hju)
              obtain rfl : A3 = some ⟨d2, o2, none⟩ := HA3.out.symm.trans hA
              have e : x.1.2.r.used[j]'(by rw [HU.out]; exact hju) = us[j] := by have h := HU.out; subst h; rfl
              rw [e, hg] at cg
              have HNX : Hid (Str.gap (us.drop (j + 1)) (j + 1) = Str.gap us 0) := Lib.hid (by rw [← HGP.out, gap_step hju, if_pos hg])
              have e1 : (0 : Int) ≤ (j : Int) := by omega
              have e2 : (j : Int) < (n2 : Int) := by omega
              clear hA e hg hju HGP
              gi_wp2
              go_round
              case rel => exact ⟨j + 1, by omega, by go_num, HNX⟩
              case measure => simp [intOf]; omega
            · have HGJ : Hid (Str.gap us 0 = j) := Lib.hid (by
                rw [← HGP.out]
                by_cases hju : j < us.length
                · rw [gap_step hju, if_neg (fun e => hc ⟨hju, e⟩)]
                · rw [List.drop_of_length_le (by omega)]; rfl)
              have hcase : (j < n2 ∧ ∃ (d2 o2 : Nat) (ug : Int), A3 = some ⟨d2, o2, none⟩ ∧ W.cell? ⟨d2, o2 + j * 3, none⟩ = some (.int .i64 ug) ∧ (ug == (j : Int)) = false) ∨ ¬ j < n2 := by
                by_cases hlt : j < n2
                · have hju : j < us.length := by rw [HN.out]; exact hlt
                  obtain ⟨d2, o2, hA, -, -, cg⟩ := HOK.out.at (k := j) (by rw [HU.out]; exact hju)
                  have e : x.1.2.r.used[j]'(by rw [HU.out]; exact hju) = us[j] := by have h := HU.out; subst h; rfl
                  rw [e] at cg
                  exact .inl ⟨hlt, d2, o2, _, HA3.out.symm.trans hA, cg, by rw [beq_eq_false_iff_ne]; exact fun e => hc ⟨hju, e⟩⟩
                · exact .inr hlt
              obtain ⟨d, y, rfl, hy, hly, hdb, hdl, hcy, hyu, -⟩ := HM.out.1.1.own.at (k := x.1.1) (by have := (List.getElem?_eq_some_iff.1 x.2.1).1; rw [HR.out.len.1] at this; exact this)
              have hyr : y.r = x.1.2.r := by
                have h1 : l[x.1.1]? = some x.1.2.r := by rw [← HR.out.rs, List.getElem?_map, x.2.1]; rfl
                exact Option.some.inj (hly.symm.trans h1)
              have hyus : y.r.used = us := by rw [hyr]; exact HU.out
              have hyv : y.v = .slice y.A n2 y.k := by unfold RR.v; rw [hyus, HN.out]
              obtain ⟨yv, hyv'⟩ : ∃ z, y.v = z := ⟨_, rfl⟩
              have HS3 := Lib.hid (fun (V : World) (hV : Below W.heap.size W V) => (⟨(HM.out.1.1.nx.below' hV).cell 0, hyv' ▸ hcy V hV, HM.out.1.1.ab.ge.below' hV⟩ : AS3 b15 d x.1.1 (w.heap.size + 3) (.slice (some ⟨d, 0, none⟩) n c') yv [.int .i64 ge, .int .i64 gc] V))
              have hyA : ∀ a, y.A = some a → a.block < W.heap.size := fun a ha => (own_block_lt (A := y.A) hyu a ha).2
              have hjn : j ≤ us.length := by rw [HN.out]; exact hj
              have HINS : Hid (∀ (V : World) (vb : Nat), Below W.heap.size W V → IsRow V vb 37 [.int .i64 (j : Int), .int .i64 ge, .int .i64 gc] → W.heap.size ≤ vb → Calls Try.prog 25 #[yv, .int .i64 (j : Int), .slice (some ⟨vb, 0, none⟩) 1 1] V (InsResUs y.A n2 ((Str.put us j ge gc).flatMap usL) V)) := Lib.hid fun V vb hV hvr hvb => by
                have ho : V.ownsRow 0 37 3 (.slice y.A n2 y.k) n2 (us.flatMap usL) := by
                  have h1 := own_base (own_below hyu hV) (Nat.zero_le _)
                  rw [hyv, hyus, HN.out] at h1
                  exact h1
                rw [← hyv', hyv, put_cells hjn]
                exact ins_anyUs y.A n2 y.k j (us.flatMap usL) _ V hmu hj ho (fun u hu => by obtain ⟨z, _, hz⟩ := List.mem_flatMap.1 hu; exact usL_one z u hz) vb rfl hvr (fun a ha e => by have := hyA a ha; omega) (usL_one ⟨(j : Int), ge, gc⟩)
              have HIN2 : Hid (∀ (w11 w12 : World) (A2 : Option Addr) (c2 : Nat), Below W.heap.size W w11 → w12.ownsRow 0 37 3 (.slice A2 (n2 + 1) c2) (n2 + 1) ((Str.put us j ge gc).flatMap usL) → w11.grownBy w12 (Value.slice y.A 0 0).ownBlock → (A2 = y.A ∨ ∃ a, A2 = some a ∧ w11.heap.size ≤ a.block) →
                  (w12.cell? ⟨d, x.1.1 * 3 + 2, none⟩ = some yv ∧ w12.frozen? ⟨d, x.1.1 * 3 + 2, none⟩ = false ∧ w12.cell? ⟨b15, 0, none⟩ = some (.slice (some ⟨d, 0, none⟩) n c') ∧ IsRow w12 (w.heap.size + 3) 27 [.int .i64 ge, .int .i64 gc]) ∧
                  AMid w cl code width [.int .i64 ge, .int .i64 gc] b15 b16 n c' (some ⟨d, 0, none⟩) (E.set x.1.1 ⟨{ x.1.2.r with used := Str.put us j ge gc }, A2, c2⟩) (l.set x.1.1 { x.1.2.r with used := Str.put us j ge gc }) G (w12.setCell ⟨d, x.1.1 * 3 + 2, none⟩ (.slice A2 (n2 + 1) c2)) ∧ KeepsOthers W (w12.setCell ⟨d, x.1.1 * 3 + 2, none⟩ (.slice A2 (n2 + 1) c2))) := Lib.hid fun w11 w12 A2 c2 b11 o12 g12 hA2 => by
                have hpl : (Str.put us j ge gc).length = n2 + 1 := by rw [put_length, HN.out]
                have h1 := HM.out.1.1.ins hy b11 g12 (us := Str.put us j ge gc) (A2 := A2) (c2 := c2) (by rw [hpl]; exact o12) (by rw [hpl]; have h3 := HSM.out x.1.2.r (by rw [← HR.out.rs]; exact List.mem_map_of_mem (List.mem_of_getElem? x.2.1)); rw [HU.out, HN.out] at h3; omega) hA2
                rw [hpl, hyv', hyr] at h1
                exact h1
              have e1 : (0 : Int) ≤ (x.1.1 : Int) := by omega
              have e2 : (x.1.1 : Int) < (n : Int) := by have := (List.getElem?_eq_some_iff.1 x.2.1).1; rw [HR.out.len.1] at this; omega
              have e3 : (0 : Int) ≤ (j : Int) := by omega
              have hbd : Below W.heap.size W W.drew := (Below.refl _ _).drew
              clear hc HGP hy hly hdb hdl hcy hyu hyr hyus hyv hyv' hyA hjn
              rcases hcase with ⟨hlt, d2, o2, ug, rfl, cg, hug⟩ | hge
              · clear HA3
                gi_wp2
                have hv0 : AS3 b15 d x.1.1 (w.heap.size + 3) (.slice (some ⟨d, 0, none⟩) n c') yv [.int .i64 ge, .int .i64 gc] W.drew := HS3.out _ hbd
                refine wpIn_late_round (fun V => AS3 b15 d x.1.1 (w.heap.size + 3) (.slice (some ⟨d, 0, none⟩) n c') yv [.int .i64 ge, .int .i64 gc] V) [15] (by kernel_rfl) (fun h => h.elim fun _ h => h.elim fun _ h => h) (by kernel_rfl) (hv0) (fun hHeld => ?_)
                obtain ⟨wd, hwd⟩ : ∃ x, W.drew = x := ⟨_, rfl⟩
                rw [hwd] at hv0 hHeld hbd ⊢
                clear hwd
                refine wpAnyL_take (i := 0) (oi := { dst := some 84, op := Op.load 25 (Operand.tmp 15), type := 25, pos := "stripes.go:93", after := #[], guard := none }) (v := ?v0_1501) rfl (by kernel_rfl) (by kernel_rfl) (by kernel_rfl) (by kernel_rfl) (fun _ _ _ h => h) (Or.inl ⟨by rfl, ?h0_1501⟩) (by assumption) ?r0_1501
                case h0_1501 =>
                  intro W hSW
                  try dsimp only at hSW
                  have c15 := hSW.c15
                  go_simp
                  try with_reducible rfl
                try simp only [Act.put, List.setIfInBounds_toArray, List.set_cons_zero, List.set_cons_succ]
                refine wpAnyL_take (i := 1) (oi := { dst := some 85, op := Op.move (Operand.tmp 17), type := 3, pos := "stripes.go:93", after := #[], guard := none }) (v := ?v1_1502) rfl (by kernel_rfl) (by kernel_rfl) (by kernel_rfl) (by kernel_rfl) (fun _ _ _ h => h) (Or.inl ⟨by rfl, ?h1_1502⟩) (by assumption) ?r1_1502
                case h1_1502 =>
                  intro W hSW
                  try dsimp only at hSW
                  go_simp
                  try with_reducible rfl
                try simp only [Act.put, List.setIfInBounds_toArray, List.set_cons_zero, List.set_cons_succ]
                refine wpAnyL_take (i := 2) (oi := { dst := some 86, op := Op.load 25 (Operand.tmp 15), type := 25, pos := "stripes.go:93", after := #[], guard := none }) (v := ?v2_1503) rfl (by kernel_rfl) (by kernel_rfl) (by kernel_rfl) (by kernel_rfl) (fun _ _ _ h => h) (Or.inl ⟨by rfl, ?h2_1503⟩) (by assumption) ?r2_1503
                case h2_1503 =>
                  intro W hSW
                  try dsimp only at hSW
                  have c15 := hSW.c15
                  go_simp
                  try with_reducible rfl
                try simp only [Act.put, List.setIfInBounds_toArray, List.set_cons_zero, List.set_cons_succ]
                refine wpAnyL_take (i := 3) (oi := { dst := some 87, op := Op.move (Operand.tmp 17), type := 3, pos := "stripes.go:93", after := #[], guard := none }) (v := ?v3_1504) rfl (by kernel_rfl) (by kernel_rfl) (by kernel_rfl) (by kernel_rfl) (fun _ _ _ h => h) (Or.inl ⟨by rfl, ?h3_1504⟩) (by assumption) ?r3_1504
                case h3_1504 =>
                  intro W hSW
                  try dsimp only at hSW
                  go_simp
                  try with_reducible rfl
                try simp only [Act.put, List.setIfInBounds_toArray, List.set_cons_zero, List.set_cons_succ]
                refine wpAnyL_take (i := 4) (oi := { dst := some 88, op := Op.indexAddr 25 (Operand.tmp 86) (Operand.tmp 87), type := 0, pos := "stripes.go:93", after := #[{ on := 2, ground := Ground.data }, { on := 3, ground := Ground.data }], guard := none }) (v := ?v4_1505) rfl (by kernel_rfl) (by kernel_rfl) (by kernel_rfl) (by kernel_rfl) (fun _ _ _ h => h) (Or.inl ⟨by rfl, ?h4_1505⟩) (by assumption) ?r4_1505
                case h4_1505 =>
                  intro W hSW
                  try dsimp only at hSW
                  go_simp
                  try with_reducible rfl
                try simp only [Act.put, List.setIfInBounds_toArray, List.set_cons_zero, List.set_cons_succ]
                refine wpAnyL_take (i := 5) (oi := { dst := some 89, op := Op.fieldAddr 59 (Operand.tmp 88) 2, type := 0, pos := "stripes.go:93", after := #[{ on := 4, ground := Ground.data }], guard := none }) (v := ?v5_1506) rfl (by kernel_rfl) (by kernel_rfl) (by kernel_rfl) (by kernel_rfl) (fun _ _ _ h => h) (Or.inl ⟨by rfl, ?h5_1506⟩) (by assumption) ?r5_1506
                case h5_1506 =>
                  intro W hSW
                  try dsimp only at hSW
                  go_simp
                  try with_reducible rfl
                try simp only [Act.put, List.setIfInBounds_toArray, List.set_cons_zero, List.set_cons_succ]
                refine wpAnyL_take (i := 6) (oi := { dst := some 90, op := Op.load 57 (Operand.tmp 89), type := 57, pos := "stripes.go:93", after := #[{ on := 5, ground := Ground.data }], guard := none }) (v := ?v6_1507) rfl (by kernel_rfl) (by kernel_rfl) (by kernel_rfl) (by kernel_rfl) (fun _ _ _ h => h) (Or.inl ⟨by rfl, ?h6_1507⟩) (by assumption) ?r6_1507
                case h6_1507 =>
                  intro W hSW
                  try dsimp only at hSW
                  have cy := hSW.cy
                  go_simp
                  try with_reducible rfl
                try simp only [Act.put, List.setIfInBounds_toArray, List.set_cons_zero, List.set_cons_succ]
                refine wpAnyL_take (i := 7) (oi := { dst := some 91, op := Op.move (Operand.tmp 19), type := 3, pos := "stripes.go:93", after := #[], guard := none }) (v := ?v7_1508) rfl (by kernel_rfl) (by kernel_rfl) (by kernel_rfl) (by kernel_rfl) (fun _ _ _ h => h) (Or.inl ⟨by rfl, ?h7_1508⟩) (by assumption) ?r7_1508
                case h7_1508 =>
                  intro W hSW
                  try dsimp only at hSW
                  go_simp
                  try with_reducible rfl
                try simp only [Act.put, List.setIfInBounds_toArray, List.set_cons_zero, List.set_cons_succ]
                refine wpAnyL_take (i := 8) (oi := { dst := some 92, op := Op.move (Operand.tmp 19), type := 3, pos := "stripes.go:93", after := #[], guard := none }) (v := ?v8_1509) rfl (by kernel_rfl) (by kernel_rfl) (by kernel_rfl) (by kernel_rfl) (fun _ _ _ h => h) (Or.inl ⟨by rfl, ?h8_1509⟩) (by assumption) ?r8_1509
                case h8_1509 =>
                  intro W hSW
                  try dsimp only at hSW
                  go_simp
                  try with_reducible rfl
                try simp only [Act.put, List.setIfInBounds_toArray, List.set_cons_zero, List.set_cons_succ]
                refine wpAnyL_take (i := 9) (oi := { dst := some 93, op := Op.load 27 (Operand.tmp 9), type := 27, pos := "stripes.go:93", after := #[], guard := none }) (v := .agg #[.int .i64 ge, .int .i64 gc]) rfl (by kernel_rfl) (by kernel_rfl) (by kernel_rfl) (by kernel_rfl) (fun _ _ _ h => h) (yieldsIf_load_mid (by rfl) 27 (.tmp 9) rfl (w.heap.size + 3) 0 rfl [.int .i64 ge, .int .i64 gc] _ (fun V hV => fun j v hv => by rw [Nat.zero_add, hV.ge.cell]; exact hv) Try.underlying27 rfl sizeGn) (by assumption) ?_
                try simp only [Act.put, List.setIfInBounds_toArray, List.set_cons_zero, List.set_cons_succ]
                refine wpAnyL_take (i := 10) (oi := { dst := some 94, op := Op.build 37 #[(0, Operand.tmp 92), (1, Operand.tmp 93)], type := 37, pos := "stripes.go:93", after := #[{ on := 8, ground := Ground.data }, { on := 9, ground := Ground.data }], guard := none }) (v := ?v10_1511) rfl (by kernel_rfl) (by kernel_rfl) (by kernel_rfl) (by kernel_rfl) (fun _ _ _ h => h) (Or.inl ⟨by rfl, ?h10_1511⟩) (by assumption) ?r10_1511
                case h10_1511 =>
                  intro W hSW
                  try dsimp only at hSW
                  go_simp
                  try with_reducible rfl
                try simp only [Act.put, List.setIfInBounds_toArray, List.set_cons_zero, List.set_cons_succ]
                refine wpAnyL_ready (rs := [11]) (by kernel_rfl) (by simp) ?_
                refine AllReadyL.cons (o := { dst := some 95, op := Op.buildSlice 57 1 #[(0, Operand.tmp 94)], type := 57, pos := "stripes.go:93", after := #[{ on := 10, ground := Ground.data }], guard := none }) rfl (fun K hK => ?_) AllReadyL.nil
                go_simp
                obtain ⟨vb, hvb⟩ : ∃ y, wd.heap.size = y := ⟨_, rfl⟩
                have rv := IsRow.new wd 37 [.int .i64 (j : Int), .int .i64 ge, .int .i64 gc]
                have b60 : Below wd.heap.size wd (wd.alloc (.cells #[.int .i64 (j : Int), .int .i64 ge, .int .i64 gc] 37)) := (Below.refl _ _).alloc (Nat.le_refl _) _
                obtain ⟨w60, hw60⟩ : ∃ y, wd.alloc (.cells #[.int .i64 (j : Int), .int .i64 ge, .int .i64 gc] 37) = y := ⟨_, rfl⟩
                have rv : IsRow w60 vb 37 [.int .i64 (j : Int), .int .i64 ge, .int .i64 gc] := by rw [← hw60, ← hvb]; exact rv
                rw [hw60] at b60 ⊢
                rw [hvb]
                have hbn := hbd.trans (b60.mono hbd.size)
                have hv60 := HS3.out _ hbn
                have HV11 := Lib.hid (And.intro hbn (And.intro rv (show W.heap.size ≤ vb by have := hbd.size; omega)))
                clear hw60 rv b60 hvb hbn
                refine hK.out _ _ (hv60) (fun hHeld => ?_)
                clear hK K
                try simp only [Act.put, List.setIfInBounds_toArray, List.set_cons_zero, List.set_cons_succ]
                refine wpAnyL_ready (rs := [12]) (by kernel_rfl) (by simp) ?_
                refine AllReadyL.cons (o := { dst := some 96, op := Op.call { callee := Callee.value (Operand.func 25), args := #[Operand.tmp 90, Operand.tmp 91, Operand.tmp 95], argTypes := #[57, 3, 57] }, type := 57, pos := "stripes.go:93", after := #[{ on := 6, ground := Ground.data }, { on := 7, ground := Ground.data }, { on := 11, ground := Ground.data }], guard := none }) rfl (fun K hK => ?_) AllReadyL.nil
                go_simp
                go_at_call 25
                refine (HINS.out _ _ HV11.out.1 HV11.out.2.1 HV11.out.2.2).mono ?_
                rintro e w61 ⟨A2, c2, rfl, o61, g61, h61⟩
                obtain ⟨⟨cy, fy, c15, rge⟩, hmid, hkp⟩ := HIN2.out _ _ A2 c2 HV11.out.1 o61 g61 h61
                have HM15 := Lib.hid (And.intro hmid hkp)
                have hv61 : AS3 b15 d x.1.1 (w.heap.size + 3) (.slice (some ⟨d, 0, none⟩) n c') yv [.int .i64 ge, .int .i64 gc] w61 := ⟨c15, cy, rge⟩
                clear hmid hkp o61 g61 h61 cy c15 rge
                refine hK.out _ _ (hv61) (fun hHeld => ?_)
                clear hK K
                try simp only [Act.put, List.setIfInBounds_toArray, List.set_cons_zero, List.set_cons_succ]
                refine wpAnyL_take (i := 13) (oi := { dst := some 97, op := Op.indexAddr 25 (Operand.tmp 84) (Operand.tmp 85), type := 0, pos := "stripes.go:93", after := #[{ on := 0, ground := Ground.data }, { on := 1, ground := Ground.data }, { on := 0, ground := Ground.phase }, { on := 1, ground := Ground.phase }, { on := 2, ground := Ground.phase }, { on := 3, ground := Ground.phase }, { on := 4, ground := Ground.phase }, { on := 5, ground := Ground.phase }, { on := 6, ground := Ground.phase }, { on := 7, ground := Ground.phase }, { on := 8, ground := Ground.phase }, { on := 9, ground := Ground.phase }, { on := 10, ground := Ground.phase }, { on := 11, ground := Ground.phase }, { on := 12, ground := Ground.phase }], guard := none }) (v := ?v13_1512) rfl (by kernel_rfl) (by kernel_rfl) (by kernel_rfl) (by kernel_rfl) (fun _ _ _ h => h) (Or.inl ⟨by rfl, ?h13_1512⟩) (by assumption) ?r13_1512
                case h13_1512 =>
                  intro W hSW
                  try dsimp only at hSW
                  go_simp
                  try with_reducible rfl
                try simp only [Act.put, List.setIfInBounds_toArray, List.set_cons_zero, List.set_cons_succ]
                refine wpAnyL_take (i := 14) (oi := { dst := some 98, op := Op.fieldAddr 59 (Operand.tmp 97) 2, type := 0, pos := "stripes.go:93", after := #[{ on := 13, ground := Ground.data }, { on := 0, ground := Ground.phase }, { on := 1, ground := Ground.phase }, { on := 2, ground := Ground.phase }, { on := 3, ground := Ground.phase }, { on := 4, ground := Ground.phase }, { on := 5, ground := Ground.phase }, { on := 6, ground := Ground.phase }, { on := 7, ground := Ground.phase }, { on := 8, ground := Ground.phase }, { on := 9, ground := Ground.phase }, { on := 10, ground := Ground.phase }, { on := 11, ground := Ground.phase }, { on := 12, ground := Ground.phase }], guard := none }) (v := ?v14_1513) rfl (by kernel_rfl) (by kernel_rfl) (by kernel_rfl) (by kernel_rfl) (fun _ _ _ h => h) (Or.inl ⟨by rfl, ?h14_1513⟩) (by assumption) ?r14_1513
                case h14_1513 =>
                  intro W hSW
                  try dsimp only at hSW
                  go_simp
                  try with_reducible rfl
                try simp only [Act.put, List.setIfInBounds_toArray, List.set_cons_zero, List.set_cons_succ]
                refine wpAnyL_ready (rs := [15]) (by kernel_rfl) (by simp) ?_
                refine AllReadyL.late (o := { dst := none, op := Op.store 57 (Operand.tmp 98) (Operand.tmp 96), type := 0, pos := "stripes.go:93", after := #[{ on := 14, ground := Ground.data }, { on := 12, ground := Ground.data }, { on := 12, ground := Ground.chain }, { on := 0, ground := Ground.phase }, { on := 1, ground := Ground.phase }, { on := 2, ground := Ground.phase }, { on := 3, ground := Ground.phase }, { on := 4, ground := Ground.phase }, { on := 5, ground := Ground.phase }, { on := 6, ground := Ground.phase }, { on := 7, ground := Ground.phase }, { on := 8, ground := Ground.phase }, { on := 9, ground := Ground.phase }, { on := 10, ground := Ground.phase }, { on := 11, ground := Ground.phase }, { on := 12, ground := Ground.phase }], guard := none }) rfl (by rfl) (fun K hK => ?_) AllReadyL.nil
                rw [if_pos (by rfl)]
                have cy := hv61.cy
                go_simp
                obtain ⟨w62, hw62⟩ : ∃ y, w61.setCell ⟨d, x.1.1 * 3 + 2, none⟩ (.slice A2 (n2 + 1) c2) = y := ⟨_, rfl⟩
                rw [hw62] at HM15 ⊢
                clear hw62 fy cy hv61
                refine hK.out _ _ ?_
                clear hK K
                try simp only [Act.put, List.setIfInBounds_toArray, List.set_cons_zero, List.set_cons_succ]
                refine wpAnyL_done (by kernel_rfl) ?_ _
                obtain ⟨wz, hwz⟩ : ∃ y, w62 = y := ⟨_, rfl⟩
                rw [hwz] at HM15 ⊢
                clear hwz hbd
                have c15 := HM15.out.1.nx.cell 0
                dsimp only [List.getElem?_cons_zero] at c15
                have R5 := HM15.out.1.ab.rs
                gi_wp2_with (first
                  | (refine wpListIn_store1 rfl _ (.tmp 10) (.tmp 99) rfl R5 rfl rfl size1Rows rfl rfl ?_; intro w19 r19 g19 z19 q19; simp only [put_none]; have HB := Lib.hid (HM15.out.1.ab.set_rs r19 g19); have HBo := Lib.hid (HM15.out.1.own.box R5 ⟨by decide, by decide⟩ g19); have R6 := HB.out.st)
                  | (refine wpListIn_storeRow rfl _ (.tmp 11) (.tmp 102) rfl (l' := [.int .i64 (x.1.1 : Int), .int .i64 (j : Int)]) R6 rfl rfl sizeSt rfl rfl ?_; intro w20 r20 g20 z20 q20; simp only [put_none]; have HC := Lib.hid (HB.out.set_st r20 g20); have HCo := Lib.hid (HBo.out.box R6 ⟨by decide, by decide⟩ g20); have R7 := HC.out.er)
                  | (refine wpListIn_store1 rfl _ (.tmp 12) _ rfl R7 rfl rfl size1Errno rfl rfl ?_; intro w21 r21 g21 z21 q21; simp only [put_none]; have HD := Lib.hid (HC.out.set_er r21 g21); have HDo := Lib.hid (HCo.out.box R7 ⟨by decide, by decide⟩ g21)))
                have hkp := HM15.out.2.trans ((q19.trans q20).trans q21)
                have ho := HDo.out
                exact ⟨hkp.from _, rfl, ⟨pre, x, rfl, HI.out, by rw [HU.out, HN.out]; exact HF.out, _, _, _, by rw [HU.out, HGJ.out]; exact HD.out, by rw [HU.out, HGJ.out]; exact ho⟩, hkp.same _ _ HM.out.1.2 rfl⟩
              · clear HA3
                gi_wp2
                have hv0 : AS3 b15 d x.1.1 (w.heap.size + 3) (.slice (some ⟨d, 0, none⟩) n c') yv [.int .i64 ge, .int .i64 gc] W.drew := HS3.out _ hbd
                refine wpIn_late_round (fun V => AS3 b15 d x.1.1 (w.heap.size + 3) (.slice (some ⟨d, 0, none⟩) n c') yv [.int .i64 ge, .int .i64 gc] V) [15] (by kernel_rfl) (fun h => h.elim fun _ h => h.elim fun _ h => h) (by kernel_rfl) (hv0) (fun hHeld => ?_)
                obtain ⟨wd, hwd⟩ : ∃ x, W.drew = x := ⟨_, rfl⟩
                rw [hwd] at hv0 hHeld hbd ⊢
                clear hwd
                refine wpAnyL_take (i := 0) (oi := { dst := some 84, op := Op.load 25 (Operand.tmp 15), type := 25, pos := "stripes.go:93", after := #[], guard := none }) (v := ?v0_1601) rfl (by kernel_rfl) (by kernel_rfl) (by kernel_rfl) (by kernel_rfl) (fun _ _ _ h => h) (Or.inl ⟨by rfl, ?h0_1601⟩) (by assumption) ?r0_1601
                case h0_1601 =>
                  intro W hSW
                  try dsimp only at hSW
                  have c15 := hSW.c15
                  go_simp
                  try with_reducible rfl
                try simp only [Act.put, List.setIfInBounds_toArray, List.set_cons_zero, List.set_cons_succ]
                refine wpAnyL_take (i := 1) (oi := { dst := some 85, op := Op.move (Operand.tmp 17), type := 3, pos := "stripes.go:93", after := #[], guard := none }) (v := ?v1_1602) rfl (by kernel_rfl) (by kernel_rfl) (by kernel_rfl) (by kernel_rfl) (fun _ _ _ h => h) (Or.inl ⟨by rfl, ?h1_1602⟩) (by assumption) ?r1_1602
                case h1_1602 =>
                  intro W hSW
                  try dsimp only at hSW
                  go_simp
                  try with_reducible rfl
                try simp only [Act.put, List.setIfInBounds_toArray, List.set_cons_zero, List.set_cons_succ]
                refine wpAnyL_take (i := 2) (oi := { dst := some 86, op := Op.load 25 (Operand.tmp 15), type := 25, pos := "stripes.go:93", after := #[], guard := none }) (v := ?v2_1603) rfl (by kernel_rfl) (by kernel_rfl) (by kernel_rfl) (by kernel_rfl) (fun _ _ _ h => h) (Or.inl ⟨by rfl, ?h2_1603⟩) (by assumption) ?r2_1603
                case h2_1603 =>
                  intro W hSW
                  try dsimp only at hSW
                  have c15 := hSW.c15
                  go_simp
                  try with_reducible rfl
                try simp only [Act.put, List.setIfInBounds_toArray, List.set_cons_zero, List.set_cons_succ]
                refine wpAnyL_take (i := 3) (oi := { dst := some 87, op := Op.move (Operand.tmp 17), type := 3, pos := "stripes.go:93", after := #[], guard := none }) (v := ?v3_1604) rfl (by kernel_rfl) (by kernel_rfl) (by kernel_rfl) (by kernel_rfl) (fun _ _ _ h => h) (Or.inl ⟨by rfl, ?h3_1604⟩) (by assumption) ?r3_1604
                case h3_1604 =>
                  intro W hSW
                  try dsimp only at hSW
                  go_simp
                  try with_reducible rfl
                try simp only [Act.put, List.setIfInBounds_toArray, List.set_cons_zero, List.set_cons_succ]
                refine wpAnyL_take (i := 4) (oi := { dst := some 88, op := Op.indexAddr 25 (Operand.tmp 86) (Operand.tmp 87), type := 0, pos := "stripes.go:93", after := #[{ on := 2, ground := Ground.data }, { on := 3, ground := Ground.data }], guard := none }) (v := ?v4_1605) rfl (by kernel_rfl) (by kernel_rfl) (by kernel_rfl) (by kernel_rfl) (fun _ _ _ h => h) (Or.inl ⟨by rfl, ?h4_1605⟩) (by assumption) ?r4_1605
                case h4_1605 =>
                  intro W hSW
                  try dsimp only at hSW
                  go_simp
                  try with_reducible rfl
                try simp only [Act.put, List.setIfInBounds_toArray, List.set_cons_zero, List.set_cons_succ]
                refine wpAnyL_take (i := 5) (oi := { dst := some 89, op := Op.fieldAddr 59 (Operand.tmp 88) 2, type := 0, pos := "stripes.go:93", after := #[{ on := 4, ground := Ground.data }], guard := none }) (v := ?v5_1606) rfl (by kernel_rfl) (by kernel_rfl) (by kernel_rfl) (by kernel_rfl) (fun _ _ _ h => h) (Or.inl ⟨by rfl, ?h5_1606⟩) (by assumption) ?r5_1606
                case h5_1606 =>
                  intro W hSW
                  try dsimp only at hSW
                  go_simp
                  try with_reducible rfl
                try simp only [Act.put, List.setIfInBounds_toArray, List.set_cons_zero, List.set_cons_succ]
                refine wpAnyL_take (i := 6) (oi := { dst := some 90, op := Op.load 57 (Operand.tmp 89), type := 57, pos := "stripes.go:93", after := #[{ on := 5, ground := Ground.data }], guard := none }) (v := ?v6_1607) rfl (by kernel_rfl) (by kernel_rfl) (by kernel_rfl) (by kernel_rfl) (fun _ _ _ h => h) (Or.inl ⟨by rfl, ?h6_1607⟩) (by assumption) ?r6_1607
                case h6_1607 =>
                  intro W hSW
                  try dsimp only at hSW
                  have cy := hSW.cy
                  go_simp
                  try with_reducible rfl
                try simp only [Act.put, List.setIfInBounds_toArray, List.set_cons_zero, List.set_cons_succ]
                refine wpAnyL_take (i := 7) (oi := { dst := some 91, op := Op.move (Operand.tmp 19), type := 3, pos := "stripes.go:93", after := #[], guard := none }) (v := ?v7_1608) rfl (by kernel_rfl) (by kernel_rfl) (by kernel_rfl) (by kernel_rfl) (fun _ _ _ h => h) (Or.inl ⟨by rfl, ?h7_1608⟩) (by assumption) ?r7_1608
                case h7_1608 =>
                  intro W hSW
                  try dsimp only at hSW
                  go_simp
                  try with_reducible rfl
                try simp only [Act.put, List.setIfInBounds_toArray, List.set_cons_zero, List.set_cons_succ]
                refine wpAnyL_take (i := 8) (oi := { dst := some 92, op := Op.move (Operand.tmp 19), type := 3, pos := "stripes.go:93", after := #[], guard := none }) (v := ?v8_1609) rfl (by kernel_rfl) (by kernel_rfl) (by kernel_rfl) (by kernel_rfl) (fun _ _ _ h => h) (Or.inl ⟨by rfl, ?h8_1609⟩) (by assumption) ?r8_1609
                case h8_1609 =>
                  intro W hSW
                  try dsimp only at hSW
                  go_simp
                  try with_reducible rfl
                try simp only [Act.put, List.setIfInBounds_toArray, List.set_cons_zero, List.set_cons_succ]
                refine wpAnyL_take (i := 9) (oi := { dst := some 93, op := Op.load 27 (Operand.tmp 9), type := 27, pos := "stripes.go:93", after := #[], guard := none }) (v := .agg #[.int .i64 ge, .int .i64 gc]) rfl (by kernel_rfl) (by kernel_rfl) (by kernel_rfl) (by kernel_rfl) (fun _ _ _ h => h) (yieldsIf_load_mid (by rfl) 27 (.tmp 9) rfl (w.heap.size + 3) 0 rfl [.int .i64 ge, .int .i64 gc] _ (fun V hV => fun j v hv => by rw [Nat.zero_add, hV.ge.cell]; exact hv) Try.underlying27 rfl sizeGn) (by assumption) ?_
                try simp only [Act.put, List.setIfInBounds_toArray, List.set_cons_zero, List.set_cons_succ]
                refine wpAnyL_take (i := 10) (oi := { dst := some 94, op := Op.build 37 #[(0, Operand.tmp 92), (1, Operand.tmp 93)], type := 37, pos := "stripes.go:93", after := #[{ on := 8, ground := Ground.data }, { on := 9, ground := Ground.data }], guard := none }) (v := ?v10_1611) rfl (by kernel_rfl) (by kernel_rfl) (by kernel_rfl) (by kernel_rfl) (fun _ _ _ h => h) (Or.inl ⟨by rfl, ?h10_1611⟩) (by assumption) ?r10_1611
                case h10_1611 =>
                  intro W hSW
                  try dsimp only at hSW
                  go_simp
                  try with_reducible rfl
                try simp only [Act.put, List.setIfInBounds_toArray, List.set_cons_zero, List.set_cons_succ]
                refine wpAnyL_ready (rs := [11]) (by kernel_rfl) (by simp) ?_
                refine AllReadyL.cons (o := { dst := some 95, op := Op.buildSlice 57 1 #[(0, Operand.tmp 94)], type := 57, pos := "stripes.go:93", after := #[{ on := 10, ground := Ground.data }], guard := none }) rfl (fun K hK => ?_) AllReadyL.nil
                go_simp
                obtain ⟨vb, hvb⟩ : ∃ y, wd.heap.size = y := ⟨_, rfl⟩
                have rv := IsRow.new wd 37 [.int .i64 (j : Int), .int .i64 ge, .int .i64 gc]
                have b80 : Below wd.heap.size wd (wd.alloc (.cells #[.int .i64 (j : Int), .int .i64 ge, .int .i64 gc] 37)) := (Below.refl _ _).alloc (Nat.le_refl _) _
                obtain ⟨w80, hw80⟩ : ∃ y, wd.alloc (.cells #[.int .i64 (j : Int), .int .i64 ge, .int .i64 gc] 37) = y := ⟨_, rfl⟩
                have rv : IsRow w80 vb 37 [.int .i64 (j : Int), .int .i64 ge, .int .i64 gc] := by rw [← hw80, ← hvb]; exact rv
                rw [hw80] at b80 ⊢
                rw [hvb]
                have hbn := hbd.trans (b80.mono hbd.size)
                have hv80 := HS3.out _ hbn
                have HV11 := Lib.hid (And.intro hbn (And.intro rv (show W.heap.size ≤ vb by have := hbd.size; omega)))
                clear hw80 rv b80 hvb hbn
                refine hK.out _ _ (hv80) (fun hHeld => ?_)
                clear hK K
                try simp only [Act.put, List.setIfInBounds_toArray, List.set_cons_zero, List.set_cons_succ]
                refine wpAnyL_ready (rs := [12]) (by kernel_rfl) (by simp) ?_
                refine AllReadyL.cons (o := { dst := some 96, op := Op.call { callee := Callee.value (Operand.func 25), args := #[Operand.tmp 90, Operand.tmp 91, Operand.tmp 95], argTypes := #[57, 3, 57] }, type := 57, pos := "stripes.go:93", after := #[{ on := 6, ground := Ground.data }, { on := 7, ground := Ground.data }, { on := 11, ground := Ground.data }], guard := none }) rfl (fun K hK => ?_) AllReadyL.nil
                go_simp
                go_at_call 25
                refine (HINS.out _ _ HV11.out.1 HV11.out.2.1 HV11.out.2.2).mono ?_
                rintro e w81 ⟨A2, c2, rfl, o81, g81, h81⟩
                obtain ⟨⟨cy, fy, c15, rge⟩, hmid, hkp⟩ := HIN2.out _ _ A2 c2 HV11.out.1 o81 g81 h81
                have HM15 := Lib.hid (And.intro hmid hkp)
                have hv81 : AS3 b15 d x.1.1 (w.heap.size + 3) (.slice (some ⟨d, 0, none⟩) n c') yv [.int .i64 ge, .int .i64 gc] w81 := ⟨c15, cy, rge⟩
                clear hmid hkp o81 g81 h81 cy c15 rge
                refine hK.out _ _ (hv81) (fun hHeld => ?_)
                clear hK K
                try simp only [Act.put, List.setIfInBounds_toArray, List.set_cons_zero, List.set_cons_succ]
                refine wpAnyL_take (i := 13) (oi := { dst := some 97, op := Op.indexAddr 25 (Operand.tmp 84) (Operand.tmp 85), type := 0, pos := "stripes.go:93", after := #[{ on := 0, ground := Ground.data }, { on := 1, ground := Ground.data }, { on := 0, ground := Ground.phase }, { on := 1, ground := Ground.phase }, { on := 2, ground := Ground.phase }, { on := 3, ground := Ground.phase }, { on := 4, ground := Ground.phase }, { on := 5, ground := Ground.phase }, { on := 6, ground := Ground.phase }, { on := 7, ground := Ground.phase }, { on := 8, ground := Ground.phase }, { on := 9, ground := Ground.phase }, { on := 10, ground := Ground.phase }, { on := 11, ground := Ground.phase }, { on := 12, ground := Ground.phase }], guard := none }) (v := ?v13_1612) rfl (by kernel_rfl) (by kernel_rfl) (by kernel_rfl) (by kernel_rfl) (fun _ _ _ h => h) (Or.inl ⟨by rfl, ?h13_1612⟩) (by assumption) ?r13_1612
                case h13_1612 =>
                  intro W hSW
                  try dsimp only at hSW
                  go_simp
                  try with_reducible rfl
                try simp only [Act.put, List.setIfInBounds_toArray, List.set_cons_zero, List.set_cons_succ]
                refine wpAnyL_take (i := 14) (oi := { dst := some 98, op := Op.fieldAddr 59 (Operand.tmp 97) 2, type := 0, pos := "stripes.go:93", after := #[{ on := 13, ground := Ground.data }, { on := 0, ground := Ground.phase }, { on := 1, ground := Ground.phase }, { on := 2, ground := Ground.phase }, { on := 3, ground := Ground.phase }, { on := 4, ground := Ground.phase }, { on := 5, ground := Ground.phase }, { on := 6, ground := Ground.phase }, { on := 7, ground := Ground.phase }, { on := 8, ground := Ground.phase }, { on := 9, ground := Ground.phase }, { on := 10, ground := Ground.phase }, { on := 11, ground := Ground.phase }, { on := 12, ground := Ground.phase }], guard := none }) (v := ?v14_1613) rfl (by kernel_rfl) (by kernel_rfl) (by kernel_rfl) (by kernel_rfl) (fun _ _ _ h => h) (Or.inl ⟨by rfl, ?h14_1613⟩) (by assumption) ?r14_1613
                case h14_1613 =>
                  intro W hSW
                  try dsimp only at hSW
                  go_simp
                  try with_reducible rfl
                try simp only [Act.put, List.setIfInBounds_toArray, List.set_cons_zero, List.set_cons_succ]
                refine wpAnyL_ready (rs := [15]) (by kernel_rfl) (by simp) ?_
                refine AllReadyL.late (o := { dst := none, op := Op.store 57 (Operand.tmp 98) (Operand.tmp 96), type := 0, pos := "stripes.go:93", after := #[{ on := 14, ground := Ground.data }, { on := 12, ground := Ground.data }, { on := 12, ground := Ground.chain }, { on := 0, ground := Ground.phase }, { on := 1, ground := Ground.phase }, { on := 2, ground := Ground.phase }, { on := 3, ground := Ground.phase }, { on := 4, ground := Ground.phase }, { on := 5, ground := Ground.phase }, { on := 6, ground := Ground.phase }, { on := 7, ground := Ground.phase }, { on := 8, ground := Ground.phase }, { on := 9, ground := Ground.phase }, { on := 10, ground := Ground.phase }, { on := 11, ground := Ground.phase }, { on := 12, ground := Ground.phase }], guard := none }) rfl (by rfl) (fun K hK => ?_) AllReadyL.nil
                rw [if_pos (by rfl)]
                have cy := hv81.cy
                go_simp
                obtain ⟨w82, hw82⟩ : ∃ y, w81.setCell ⟨d, x.1.1 * 3 + 2, none⟩ (.slice A2 (n2 + 1) c2) = y := ⟨_, rfl⟩
                rw [hw82] at HM15 ⊢
                clear hw82 fy cy hv81
                refine hK.out _ _ ?_
                clear hK K
                try simp only [Act.put, List.setIfInBounds_toArray, List.set_cons_zero, List.set_cons_succ]
                refine wpAnyL_done (by kernel_rfl) ?_ _
                obtain ⟨wz, hwz⟩ : ∃ y, w82 = y := ⟨_, rfl⟩
                rw [hwz] at HM15 ⊢
                clear hwz hbd
                have c15 := HM15.out.1.nx.cell 0
                dsimp only [List.getElem?_cons_zero] at c15
                have R5 := HM15.out.1.ab.rs
                gi_wp2_with (first
                  | (refine wpListIn_store1 rfl _ (.tmp 10) (.tmp 99) rfl R5 rfl rfl size1Rows rfl rfl ?_; intro w19 r19 g19 z19 q19; simp only [put_none]; have HB := Lib.hid (HM15.out.1.ab.set_rs r19 g19); have HBo := Lib.hid (HM15.out.1.own.box R5 ⟨by decide, by decide⟩ g19); have R6 := HB.out.st)
                  | (refine wpListIn_storeRow rfl _ (.tmp 11) (.tmp 102) rfl (l' := [.int .i64 (x.1.1 : Int), .int .i64 (j : Int)]) R6 rfl rfl sizeSt rfl rfl ?_; intro w20 r20 g20 z20 q20; simp only [put_none]; have HC := Lib.hid (HB.out.set_st r20 g20); have HCo := Lib.hid (HBo.out.box R6 ⟨by decide, by decide⟩ g20); have R7 := HC.out.er)
                  | (refine wpListIn_store1 rfl _ (.tmp 12) _ rfl R7 rfl rfl size1Errno rfl rfl ?_; intro w21 r21 g21 z21 q21; simp only [put_none]; have HD := Lib.hid (HC.out.set_er r21 g21); have HDo := Lib.hid (HCo.out.box R7 ⟨by decide, by decide⟩ g21)))
                have hkp := HM15.out.2.trans ((q19.trans q20).trans q21)
                have ho := HDo.out
                exact ⟨hkp.from _, rfl, ⟨pre, x, rfl, HI.out, by rw [HU.out, HN.out]; exact HF.out, _, _, _, by rw [HU.out, HGJ.out]; exact HD.out, by rw [HU.out, HGJ.out]; exact ho⟩, hkp.same _ _ HM.out.1.2 rfl⟩
      case stop2 =>
        rintro D2 cd pre W hD hpre ⟨rfl, ⟨pre0, x, rfl, hfull, hnf, hh⟩, hd1⟩ hK
        obtain ⟨ha1, ha2⟩ := alcAt_hit HR.out.rs hpre hfull hnf
        have h1 := AHit.put hh (by omega) hK rfl (.deferred none)
        have hd1' : (W.putObj D2 (.deferred none)).heap[D1]? = some (.deferred (some [])) := (World.putObj_heap_other (by omega)).trans hd1
        have h2 := AHit.put h1 (by omega) hd1' rfl (.deferred none)
        obtain ⟨A2, c2, E2, hab, how⟩ := h2
        gi_wp2
        refine ⟨by simp, .inl ⟨_, _, rfl, run_takeDeferred hK, ?_⟩⟩
        refine ⟨by simp, .inl ⟨_, _, rfl, run_takeDeferred hd1', ?_⟩⟩
        exact ⟨_, resultC3 rfl _ _ rfl rfl rfl (hab.rs.cell 0) hab.st (hab.er.cell 0) Try.underlying25 rfl Try.underlying29 sizeSt Try.underlying33 rfl, _, _, _, rfl, .inr (.inl ⟨HWO.out, x.1.1, x.1.2.r, _, _, _, ha1, ha2, rfl, rfl, rfl, how⟩), hab.bel⟩
      case done2 =>
        rintro D2 ys wp hD rfl ⟨⟨⟨hm, hd1⟩, hsw⟩, hpre⟩ hK
        have HALN := Lib.hid (alcAt_miss (G := G) HR.out.rs hpre)
        have HM := Lib.hid hm
        have HDE := Lib.hid (And.intro hd1 (And.intro hK (And.intro (show D1 < D2 by omega) (show w.heap.size < D1 by omega))))
        clear hm hd1 hsw hpre hK bR bC hB0 hsz hR2 hdd hD HM2 HDD
        dsimp only
        go_wp2_with (go_at_call 23; refine ((callsIn_wide (n := 12)).1 (of_in Fence.wide _ trivial rfl _ _ _ _ _)).mono ?_; rintro e w9 ⟨rfl, rfl⟩)
        have bR := (Boxed.new wp 25 (.slice A n c)).alloc (.cells #[.int .i64 (-1)] 3)
        have bC := Boxed.new (wp.alloc (.cells #[.slice A n c] 25)) 3 (.int .i64 (-1))
        rw [World.size_alloc] at bC
        have hB0 : Below wp.heap.size wp ((wp.alloc (.cells #[.slice A n c] 25)).alloc (.cells #[.int .i64 (-1)] 3)) := ((Below.refl _ wp).alloc (Nat.le_refl _) _).alloc (by simp) _
        have hsz : ((wp.alloc (.cells #[.slice A n c] 25)).alloc (.cells #[.int .i64 (-1)] 3)).heap.size = wp.heap.size + 2 := by simp
        obtain ⟨W3, hW3⟩ : ∃ W3, (wp.alloc (.cells #[.slice A n c] 25)).alloc (.cells #[.int .i64 (-1)] 3) = W3 := ⟨_, rfl⟩
        rw [hW3] at bR bC hB0 hsz ⊢
        have HM3 := Lib.hid (HM.out.below hB0)
        have hR3 : RowsAt W3 w.heap.size A n D l := HR.out.below HM3.out.ab.bel
        have HDF : Hid ((W3.heap[D1]? = some (.deferred (some [])) ∧ W3.heap[D2]? = some (.deferred (some []))) ∧ D1 < D2 ∧ D2 < W3.heap.size ∧ w.heap.size < D1 ∧ w.heap.size ≤ wp.heap.size) := Lib.hid (by
          have h1 := HDE.out
          have h2 := (Array.getElem?_eq_some_iff.1 h1.1).1
          have h3 := (Array.getElem?_eq_some_iff.1 h1.2.1).1
          exact ⟨⟨(hB0.block D1 h2).trans h1.1, (hB0.block D2 h3).trans h1.2.1⟩, h1.2.2.1, by omega, h1.2.2.2, HM.out.ab.bel.size⟩)
        have hdf := HDF.out
        clear hW3 HM HDE
        refine (wpIn_wide (n := 12)).1 ?_
        refine wpIn_rangeFunc_ownH rfl (show 1 ≤ 12 by omega) (gf := 34) (lb := #[.pointer (some ⟨wp.heap.size, 0, none⟩), .pointer (some ⟨wp.heap.size + 1, 0, none⟩)]) rfl trivial (enters_of Try.func34 (by kernel_rfl) rfl)
          (of_stops Fence.wide (12 - 1) trivial rfl (by omega) wp.heap.size (wp.heap.size + 1) w.heap.size n c A D (-1) W3 l hR3 hnc (by omega) (by omega) (by omega) bR.cell bC.cell) keepsBox_t (keepsBox_b (by omega) (by omega)) (Below.refl _ _) ?hps3
          (fun pre W => (AMid w cl code width [.int .i64 ge, .int .i64 gc] b15 b16 n c' A' E l G W ∧ (W.heap[D1]? = some (.deferred (some [])) ∧ W.heap[D2]? = some (.deferred (some [])))) ∧ pre = [])
          (fun cd pre W => cd = .ret ∧ (AStop3 w cl code width ge gc n l D pre W ∧ (W.heap[D1]? = some (.deferred (some [])) ∧ W.heap[D2]? = some (.deferred (some [])))))
          (OwnFrom.and (OwnFrom.and (aMid_own w cl code width _ b15 b16 n c' A' E l G (by omega)) (OwnFrom.and (def_own (by omega)) (def_own (by omega)))) (ownFrom_pure _ _))
          (fun cd => OwnFrom.and (ownFrom_pure _ _) (OwnFrom.and (aStop3_own w cl code width ge gc n l D (by omega)) (OwnFrom.and (def_own (by omega)) (def_own (by omega)))))
          ⟨⟨HM3.out, hdf.1⟩, rfl⟩
          (fun x a' W => a' = { tmps := #[.agg cl.toArray, .slice A n c, .int .i64 code, .int .i64 width, .agg #[.int .i64 ge, .int .i64 gc], .pointer (some ⟨w.heap.size, 0, none⟩), undef, .pointer (some ⟨w.heap.size + 1, 0, none⟩), .pointer (some ⟨w.heap.size + 2, 0, none⟩), .pointer (some ⟨w.heap.size + 3, 0, none⟩), .pointer (some ⟨w.heap.size + 4, 0, none⟩), .pointer (some ⟨w.heap.size + 5, 0, none⟩), .pointer (some ⟨w.heap.size + 6, 0, none⟩), undef, undef, .pointer (some ⟨b15, 0, none⟩), .pointer (some ⟨b16, 0, none⟩), undef, undef, undef, .int .i64 (x.1.1 : Int), .int .i64 code, .bool false, .bool false, .int .i64 code, .bool false, .bool false, .bool false, .int .i64 width, .bool false, .bool false, .bool false, .int .i64 width, .bool false, .bool false, .bool false, .agg cl.toArray, .int .i64 width, .int .i64 G, .bool false, .bool false, undef, .slice A n c, .int .i64 code, .func (.func 34) #[] #[.pointer (some ⟨w8.heap.size, 0, none⟩), .pointer (some ⟨w8.heap.size + 1, 0, none⟩)], undef, undef, undef, undef, undef, undef, undef, u52, u53, u54, u55, u56, .slice A n c, .int .i64 code, .func (.func 34) #[] #[.pointer (some ⟨wm.heap.size, 0, none⟩), .pointer (some ⟨wm.heap.size + 1, 0, none⟩)], undef, undef, undef, undef, undef, undef, undef, undef, undef, undef, undef, undef, undef, undef, undef, undef, undef, undef, undef, undef, undef, undef, undef, undef, undef, undef, undef, undef, undef, undef, undef, undef, undef, undef, undef, undef, undef, undef, undef, undef, undef, undef, undef, .slice A n c, .func (.func 34) #[] #[.pointer (some ⟨wp.heap.size, 0, none⟩), .pointer (some ⟨wp.heap.size + 1, 0, none⟩)], .int .i64 (x.1.1 : Int), .agg (rwL x.1.2).toArray, undef, undef, undef, undef, undef, undef, undef, undef, undef, undef, undef, undef, undef], defers := [] })
          (fun x a' _ X Y row hs hg hr => hs)
          ?assign3 ?body3 ?done3 ?stop3
        case hps3 => intro x; rfl
        case assign3 =>
          rintro l' pre x W K hi hK
          have HI := Lib.hid hi
          have HK := Lib.hid hK
          dsimp only [ofEncs, rowEncs]
          clear hK hi bR bC hB0 hsz hR3 hdf
          gi_wp2
          exact HK.out _ _ (KeepsFrom.refl _ _) ⟨Below.refl _ _, rfl⟩ HI.out (by simp [Act.put])
        case stop3 =>
          rintro D3 cd pre W hD hpre ⟨rfl, ⟨x, rfl, hh⟩, hd1, hd2⟩ hK
          obtain ⟨ha1, ha2⟩ := alcFree_hit HR.out.rs hpre
          have h1 := AHit.put hh (by omega) hK rfl (.deferred none)
          have hd2' : (W.putObj D3 (.deferred none)).heap[D2]? = some (.deferred (some [])) := (World.putObj_heap_other (by omega)).trans hd2
          have h2 := AHit.put h1 (by omega) hd2' rfl (.deferred none)
          have hd1' : ((W.putObj D3 (.deferred none)).putObj D2 (.deferred none)).heap[D1]? = some (.deferred (some [])) := (World.putObj_heap_other (by omega)).trans ((World.putObj_heap_other (by omega)).trans hd1)
          have h3 := AHit.put h2 (by omega) hd1' rfl (.deferred none)
          obtain ⟨A2, c2, E2, hab, how⟩ := h3
          gi_wp2
          refine ⟨by simp, .inl ⟨_, _, rfl, run_takeDeferred hK, ?_⟩⟩
          refine ⟨by simp, .inl ⟨_, _, rfl, run_takeDeferred hd2', ?_⟩⟩
          refine ⟨by simp, .inl ⟨_, _, rfl, run_takeDeferred hd1', ?_⟩⟩
          exact ⟨_, resultC3 rfl _ _ rfl rfl rfl (hab.rs.cell 0) hab.st (hab.er.cell 0) Try.underlying25 rfl Try.underlying29 sizeSt Try.underlying33 rfl, _, _, _, rfl, .inr (.inr (.inl ⟨HWO.out, HALN.out, x.1.1, _, _, _, ha1, rfl, rfl, rfl, how⟩)), hab.bel⟩
        case done3 =>
          rintro D3 ys W hD hys ⟨⟨hm, hd1, hd2⟩, rfl⟩ hK
          have HAFN := Lib.hid (alcFree_miss HR.out.rs hys.symm)
          have HAB := Lib.hid hm.ab
          have HDG := Lib.hid (And.intro (And.intro hd1 (And.intro hd2 hK)) (And.intro (show D2 < D3 by omega) hdf.2))
          clear hm hd1 hd2 hys hK bR bC hB0 hsz hR3 hdf hD HM3 HDF
          have R5 := HAB.out.rs
          dsimp only
          go_wp2_with (first
            | (refine wpList_store1 rfl _ (.tmp 10) _ rfl R5 rfl rfl size1Rows rfl rfl ?_; intro w19 r19 g19 z19; simp only [put_none]; have HB := Lib.hid (HAB.out.set_rs r19 g19); have R6 := HB.out.st)
            | (refine wpList_storeRow rfl _ (.tmp 11) (.tmp 119) rfl (l' := zSt) R6 rfl rfl sizeSt rfl rfl ?_; intro w20 r20 g20 z20; simp only [put_none]; have HC := Lib.hid (HB.out.set_st r20 g20); have R7 := HC.out.er)
            | (refine wpList_store1 rfl _ (.tmp 12) _ rfl R7 rfl rfl size1Errno rfl rfl ?_; intro w21 r21 g21 z21; simp only [put_none]; have HD := Lib.hid (HC.out.set_er r21 g21)))
          have hk := (((KeepsOthers.of_grownBy g19 (isRow_cells R5)).trans (KeepsOthers.of_grownBy g20 (isRow_cells R6))).trans (KeepsOthers.of_grownBy g21 (isRow_cells R7)))
          have hdg := HDG.out
          have k1 := hk.same _ _ hdg.1.1 rfl
          have k2 := hk.same _ _ hdg.1.2.1 rfl
          have k3 := hk.same _ _ hdg.1.2.2 rfl
          have a1 := HD.out.put (by omega) k3 rfl (.deferred none)
          have k2' : (w21.putObj D3 (.deferred none)).heap[D2]? = some (.deferred (some [])) := (World.putObj_heap_other (by omega)).trans k2
          have a2 := a1.put (by omega) k2' rfl (.deferred none)
          have k1' : ((w21.putObj D3 (.deferred none)).putObj D2 (.deferred none)).heap[D1]? = some (.deferred (some [])) := (World.putObj_heap_other (by omega)).trans ((World.putObj_heap_other (by omega)).trans k1)
          have hab := a2.put (by omega) k1' rfl (.deferred none)
          refine ⟨by simp, .inl ⟨_, _, rfl, run_takeDeferred k3, ?_⟩⟩
          refine ⟨by simp, .inl ⟨_, _, rfl, run_takeDeferred k2', ?_⟩⟩
          refine ⟨by simp, .inl ⟨_, _, rfl, run_takeDeferred k1', ?_⟩⟩
          exact ⟨_, resultC3 rfl _ _ rfl rfl rfl (hab.rs.cell 0) hab.st (hab.er.cell 0) Try.underlying25 rfl Try.underlying29 sizeSt Try.underlying33 rfl, _, _, _, rfl, .inr (.inr (.inr ⟨HWO.out, HALN.out, HAFN.out, rfl, rfl, rfl⟩)), hab.bel⟩
        case body3 =>
          rintro l' pre x a' W hl ⟨r, hr⟩ ⟨⟨hm, hdd⟩, rfl⟩ rfl hlt
          clear hr hlt bR bC hB0 hsz hR3 hdf HM3
          obtain ⟨d, y, rfl, hy, hly, hdb, hdl, -, -, -⟩ := hm.own.at (k := x.1.1) (by have := (List.getElem?_eq_some_iff.1 x.2.1).1; rw [HR.out.len.1] at this; exact this)
          have e1 : (0 : Int) ≤ (x.1.1 : Int) := by omega
          have e2 : (x.1.1 : Int) < (n : Int) := by have := (List.getElem?_eq_some_iff.1 x.2.1).1; rw [HR.out.len.1] at this; omega
          have b11 : Below W.heap.size W (W.alloc (.cells [Value.int .i64 0, .int .i64 ge, .int .i64 gc].toArray 37)) := (Below.refl _ _).alloc (Nat.le_refl _) _
          have HW := hm.whole hy b11 (y := ⟨⟨code, width, [⟨0, ge, gc⟩]⟩, some ⟨W.heap.size, 0, none⟩, 1⟩) (own_new1 W [.int .i64 0, .int .i64 ge, .int .i64 gc] _ rfl) (by simp)
          have HV : Hid ((W.alloc (.cells #[.int .i64 0, .int .i64 ge, .int .i64 gc] 37)).there d (x.1.1 * 3) 3 ∧ AMid w cl code width [.int .i64 ge, .int .i64 gc] b15 b16 n c' (some ⟨d, 0, none⟩) (E.set x.1.1 ⟨⟨code, width, [⟨0, ge, gc⟩]⟩, some ⟨W.heap.size, 0, none⟩, 1⟩) (l.set x.1.1 ⟨code, width, [⟨0, ge, gc⟩]⟩) G ((W.alloc (.cells #[.int .i64 0, .int .i64 ge, .int .i64 gc] 37)).setCells d (x.1.1 * 3) [.int .i64 code, .int .i64 width, .slice (some ⟨W.heap.size, 0, none⟩) 1 1]) ∧
              KeepsOthers W ((W.alloc (.cells #[.int .i64 0, .int .i64 ge, .int .i64 gc] 37)).setCells d (x.1.1 * 3) [.int .i64 code, .int .i64 width, .slice (some ⟨W.heap.size, 0, none⟩) 1 1])) := Lib.hid HW
          clear HW
          have c15 := hm.nx.cell 0
          have k7 := hm.ab.co.cell 0
          have k8 := hm.ab.wi.cell 0
          dsimp only [List.getElem?_cons_zero] at c15 k7 k8
          have hrG : W.rangeAt (w.heap.size + 3) 0 [.int .i64 ge, .int .i64 gc] := fun j v hv => by rw [Nat.zero_add, hm.ab.ge.cell]; exact hv
          have HDW := Lib.hid hdd
          clear hm hdd hy hly hdb hdl b11
          gi_wp2_with (first
            | (refine wpListIn_load_rg rfl _ (.tmp 9) rfl (w.heap.size + 3) 0 rfl [.int .i64 ge, .int .i64 gc] _ hrG Try.underlying27 rfl sizeGn ?_)
            | (refine wpListIn_store_mid rfl _ (.tmp 115) (.tmp 114) rfl d (x.1.1 * 3) #[.int .i64 code, .int .i64 width, .slice (some ⟨W.heap.size, 0, none⟩) 1 1] ?x1 ?x2 ?x3 ?x4 ?x5 ?x6
               case x1 => rfl
               case x2 => rfl
               case x3 => exact HV.out.1
               case x4 => exact sizeRw
               case x5 => exact all_oneCell_toArray (rwL_one ⟨⟨code, width, [⟨0, ge, gc⟩]⟩, some ⟨W.heap.size, 0, none⟩, 1⟩)
               have HM19 := Lib.hid HV.out.2
               clear HV hrG c15 k7 k8
               obtain ⟨wz, hwz⟩ : ∃ y, (W.alloc (.cells #[.int .i64 0, .int .i64 ge, .int .i64 gc] 37)).setCells d (x.1.1 * 3) [.int .i64 code, .int .i64 width, .slice (some ⟨W.heap.size, 0, none⟩) 1 1] = y := ⟨_, rfl⟩
               rw [hwz] at HM19
               rw [hwz]
               clear hwz
               try simp only [put_none]
               have c15 := HM19.out.1.nx.cell 0
               dsimp only [List.getElem?_cons_zero] at c15
               have R5 := HM19.out.1.ab.rs)
            | (refine wpListIn_store1 rfl _ (.tmp 10) (.tmp 116) rfl R5 rfl rfl size1Rows rfl rfl ?_; intro w19 r19 g19 z19 q19; simp only [put_none]; have HB := Lib.hid (HM19.out.1.ab.set_rs r19 g19); have HBo := Lib.hid (HM19.out.1.own.box R5 ⟨by decide, by decide⟩ g19); have R6 := HB.out.st)
            | (refine wpListIn_storeRow rfl _ (.tmp 11) (.tmp 118) rfl (l' := [.int .i64 (x.1.1 : Int), .int .i64 0]) R6 rfl rfl sizeSt rfl rfl ?_; intro w20 r20 g20 z20 q20; simp only [put_none]; have HC := Lib.hid (HB.out.set_st r20 g20); have HCo := Lib.hid (HBo.out.box R6 ⟨by decide, by decide⟩ g20); have R7 := HC.out.er)
            | (refine wpListIn_store1 rfl _ (.tmp 12) _ rfl R7 rfl rfl size1Errno rfl rfl ?_; intro w21 r21 g21 z21 q21; simp only [put_none]; have HD := Lib.hid (HC.out.set_er r21 g21); have HDo := Lib.hid (HCo.out.box R7 ⟨by decide, by decide⟩ g21)))
          have hkp := HM19.out.2.trans ((q19.trans q20).trans q21)
          have ho := HDo.out
          exact ⟨hkp.from _, rfl, ⟨x, rfl, _, _, _, HD.out, ho⟩, hkp.same _ _ HDW.out.1 rfl, hkp.same _ _ HDW.out.2 rfl⟩
end Go.Proofs.Ytcmgnjdhjnclkaa.S
