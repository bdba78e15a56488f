/- slices.DeleteFunc of the loads without live chunks, as Next calls it. Conditions: the row is the call's own; at most 100000 loads. -/
import Derived.Test.YtihhkcndcgljbaaGreatColLd
namespace Go.Proofs.YtihhkcndcgljbaaGreat
set_option linter.unusedVariables false
set_option linter.unusedSimpArgs false
open Go.RowKit
/-- a load -/
structure Ld where
  r : Int
  g : Int
  n : Int
deriving DecidableEq
def Ld.L (x : Ld) : List Value := [.int .i64 x.r, .int .i64 x.g, .int .i64 x.n]
theorem Ld.len (x : Ld) : x.L.length = 3 := rfl
theorem Ld.one (x : Ld) : ∀ u ∈ x.L, u.oneCell' = true := by intro u hu; simp only [Ld.L, List.mem_cons, List.not_mem_nil, or_false] at hu; rcases hu with rfl | rfl | rfl <;> rfl
def Ld.nz (x : Ld) : Bool := !(x.n == 0)
def lds (l : List Chk.Ck) (ss : List (Int × Int)) : List Ld := ss.map fun s => ⟨s.1, s.2, Col.cnt l s⟩
theorem lds_len (l : List Chk.Ck) (ss : List (Int × Int)) : (lds l ss).length = ss.length := List.length_map ..
theorem ldLs_eq (l : List Chk.Ck) (ss : List (Int × Int)) : ldLs l ss = (lds l ss).flatMap Ld.L := by
  unfold ldLs lds; rw [List.flatMap_map]; rfl
theorem lds_nz (l : List Chk.Ck) (ss : List (Int × Int)) : (lds l ss).filter Ld.nz = lds l (Col.nzl l ss) := by
  unfold lds Col.nzl
  rw [List.filter_map]
  congr 1
  refine List.filter_congr fun s _ => ?_
  simp only [Function.comp, Ld.nz]
  by_cases h : Col.cnt l s = 0 <;> simp [h]
abbrev del25 : Value := .func (.func 34) #[] #[]
abbrev load25 : Value := .func (.func 35) #[] #[]
theorem ldBox (r g n : Int) (w : World) : ∃ w0, w.alloc (.cells #[.int .i64 r, .int .i64 g, .int .i64 n] 95) = w0 ∧ w0.cell? ⟨w.heap.size, 2, none⟩ = some (.int .i64 n) ∧ Below w.heap.size w w0 := by
  refine ⟨_, rfl, ?_, (Below.refl _ w).alloc (Nat.le_refl _) _⟩
  exact (IsRow.new w 95 [.int .i64 r, .int .i64 g, .int .i64 n]).cell 2
theorem del25_any (x : Ld) (w : World) :
    Calls Tryz.prog 34 #[.agg #[.int .i64 x.r, .int .i64 x.g, .int .i64 x.n]] w fun e w' => e = .returned (.bool (!x.nz)) ∧ Below w.heap.size w w' := by
  obtain ⟨r, g, n⟩ := x
  obtain ⟨w0, hw0, R0, hb0⟩ := ldBox r g n w
  have HQ : Hid ((!(Ld.nz ⟨r, g, n⟩)) = (n == 0)) := Lib.hid (by simp [Ld.nz])
  rw [HQ.out]
  have HW0 := Lib.hid hw0
  clear hw0
  go_enter Tryz.func34, Tryz.ntmps34
  go_upto_region 1 with fail
  rw [HW0.out]
  go_wp2_with fail
  go_ret
  exact ⟨rfl, hb0⟩
theorem load25_any (x : Ld) (w : World) :
    Calls Tryz.prog 35 #[.agg #[.int .i64 x.r, .int .i64 x.g, .int .i64 x.n]] w fun e w' => e = .returned (.int .i64 x.n) ∧ Below w.heap.size w w' := by
  obtain ⟨r, g, n⟩ := x
  obtain ⟨w0, hw0, R0, hb0⟩ := ldBox r g n w
  have HW0 := Lib.hid hw0
  clear hw0
  go_enter Tryz.func35, Tryz.ntmps35
  go_upto_region 1 with fail
  rw [HW0.out]
  go_wp2_with fail
  go_ret
  exact ⟨rfl, hb0⟩
theorem sizeLd : (Tryz.prog.info? 95).map (·.size) = some 3 := by kernel_rfl
def zLd : List Value := [.int .i64 0, .int .i64 0, .int .i64 0]
theorem infoLd : (Tryz.prog.info? 95).map (fun i => (i.zero, i.size)) = some (some (.agg zLd.toArray), zLd.length) := by kernel_rfl
/-- the first load without live chunks, or -1 -/
def fz : List Ld → Option Nat
  | D => D.findIdx? (fun x => !x.nz)
def fzI (D : List Ld) : Int := match fz D with | some k => (k : Int) | none => -1
theorem fz_hit {D : List Ld} {k : Nat} (hk : k < D.length) (h : (D[k].nz) = false) (hn : ∀ i (hi : i < k), D[i].nz = true) : fzI D = (k : Int) := by
  have : fz D = some k := by
    unfold fz
    rw [List.findIdx?_eq_some_iff_getElem]
    exact ⟨hk, by simp [h], fun j hj => by simp [hn j hj]⟩
  unfold fzI; rw [this]
theorem fz_miss {D : List Ld} (hn : ∀ i (hi : i < D.length), D[i].nz = true) : fzI D = -1 := by
  have : fz D = none := by
    unfold fz
    rw [List.findIdx?_eq_none_iff]
    intro u hu
    obtain ⟨i, hi, rfl⟩ := List.getElem_of_mem hu
    simp [hn i hi]
  unfold fzI; rw [this]
theorem fz_cases (D : List Ld) : (fzI D = -1 ∧ D.filter Ld.nz = D) ∨ ∃ k : Nat, k < D.length ∧ fzI D = (k : Int) ∧ (D.take (k + 1)).filter Ld.nz = D.take k := by
  unfold fzI fz
  cases h : D.findIdx? (fun x => !x.nz) with
  | none =>
    refine .inl ⟨rfl, ?_⟩
    rw [List.findIdx?_eq_none_iff] at h
    rw [List.filter_eq_self]
    intro x hx
    have := h x hx
    simpa using this
  | some k =>
    rw [List.findIdx?_eq_some_iff_getElem] at h
    obtain ⟨hk, h1, h2⟩ := h
    refine .inr ⟨k, hk, rfl, ?_⟩
    rw [List.take_succ_eq_append_getElem hk, List.filter_append]
    have e1 : (D.take k).filter Ld.nz = D.take k := by
      rw [List.filter_eq_self]
      intro x hx
      obtain ⟨i, hi, rfl⟩ := List.getElem_of_mem hx
      rw [List.length_take] at hi
      rw [List.getElem_take]
      have := h2 i (by omega)
      simpa using this
    rw [e1]
    have : D[k].nz = false := by simpa using h1
    simp [this]
set_option maxRecDepth 100000 in
set_option maxHeartbeats 1600000 in
theorem indexLd (A : Option Addr) (n c : Nat) (D : List Ld) (hD : D.length = n) (hn : n ≤ 100000) (w : World) (hr : Rd w w.heap.size 3 A n (D.flatMap Ld.L)) :
    Calls Tryz.prog 70 #[.slice A n c, del25] w fun e w' => e = .returned (.int .i64 (fzI D)) ∧ Below w.heap.size w w' := by
  obtain ⟨V, hV⟩ : ∃ V, fzI D = V := ⟨_, rfl⟩
  rw [hV]
  have HV := Lib.hid hV
  have HD := Lib.hid hD
  have HR := Lib.hid hr
  clear hV hD hr
  go_enter Tryz.func70, Tryz.ntmps70
  go_wp2_with fail
  go_loopw [8] (fun u wr => ∃ j : Nat, j ≤ n ∧ u = .int .i64 (j : Int) ∧ Hid (∀ i (hi : i < D.length), i < j → D[i].nz = true) ∧ Hid (Below w.heap.size w wr)) (fun u _ => n - (intOf u).toNat)
  case atStart => exact ⟨0, Nat.zero_le _, rfl, Lib.hid fun i _ hi => absurd hi (Nat.not_lt_zero i), Lib.hid (Below.refl _ _)⟩
  case round =>
    obtain ⟨j, hj, rfl, HI, HB⟩ := hrel
    by_cases hlt : j < n
    · have hju : j < D.length := by rw [HD.out]; exact hlt
      obtain ⟨b, off, rfl, hbb, hrg⟩ := (HR.out.below HB.out).elem (f := Ld.L) (fun _ _ => rfl) hju hlt
      have e1 : (0 : Int) ≤ (j : Int) := by omega
      have e2 : (j : Int) < (n : Int) := by omega
      have HC := Lib.hid (fun W => del25_any D[j] W)
      obtain ⟨q, hq⟩ : ∃ q, (!D[j].nz) = q := ⟨_, rfl⟩
      have HQ := Lib.hid hq
      rw [hq] at HC
      unfold Ld.L at hrg
      obtain ⟨y0, hy0⟩ : ∃ y, D[j].r = y := ⟨_, rfl⟩
      obtain ⟨y1, hy1⟩ : ∃ y, D[j].g = y := ⟨_, rfl⟩
      obtain ⟨y2, hy2⟩ : ∃ y, D[j].n = y := ⟨_, rfl⟩
      rw [hy0, hy1, hy2] at hrg HC
      have HJU := Lib.hid hju
      clear hq hy0 hy1 hy2 hbb
      cases q with
      | true =>
        go_wp2_with (first
          | (refine wpList_load_mid rfl _ (.tmp 14) rfl b (off + j * 3) rfl [.int .i64 y0, .int .i64 y1, .int .i64 y2] _ hrg Tryz.underlying95 rfl sizeLd ?_)
          | (go_at_call 34; refine (HC.out _).mono ?_; rintro e w1 ⟨rfl, b1⟩))
        go_ret
        exact ⟨by rw [← HV.out, fz_hit HJU.out (by simpa using HQ.out) (fun i hi => HI.out i (by have := HJU.out; omega) hi)]; rfl, HB.out.trans (b1.mono HB.out.size)⟩
      | false =>
        go_wp2_with (first
          | (refine wpList_load_mid rfl _ (.tmp 14) rfl b (off + j * 3) rfl [.int .i64 y0, .int .i64 y1, .int .i64 y2] _ hrg Tryz.underlying95 rfl sizeLd ?_)
          | (go_at_call 34; refine (HC.out _).mono ?_; rintro e w1 ⟨rfl, b1⟩))
        go_roundw
        case rel =>
          refine ⟨j + 1, by omega, by go_num, Lib.hid fun i hi hij => ?_, Lib.hid (HB.out.trans (b1.mono HB.out.size))⟩
          rcases Nat.lt_or_ge i j with e | e
          · exact HI.out i hi e
          · obtain rfl : i = j := by omega
            simpa using HQ.out
        case measure => simp [intOf]; omega
    · obtain rfl : j = n := by omega
      go_wp2_with fail
      go_ret
      exact ⟨by rw [← HV.out, fz_miss (fun i hi => HI.out i hi (by rw [← HD.out]; exact hi))]; rfl, HB.out⟩
/-! clearing the end of a row of loads -/
theorem zeroLd (w : World) : (zeroValue 95).run Tryz.prog w = .ok (.agg zLd.toArray) w := by kernel_rfl
theorem run_clearLd (w : World) (b o m c : Nat) (hm : 0 < m) (h : w.there b o (m * 3)) : ∃ zs : List Value, zs.length = m * 3 ∧ (∀ v ∈ zs, v.oneCell' = true) ∧ (∀ ty, (Builtin.clear_ #[87] ty #[.slice (some ⟨b, o, none⟩) m c]).run Tryz.prog w = .ok (.tuple #[]) (w.setCells b o zs)) := by
  have hc : (Value.agg zLd.toArray).cells = zLd.toArray := by kernel_rfl
  obtain ⟨zs, hzs⟩ : ∃ zs, (Builtin.zeroCells (Value.agg zLd.toArray).cells m).toList = zs := ⟨_, rfl⟩
  have hl : zs.length = m * 3 := by
    rw [← hzs, Array.length_toList, size_zeroCells, hc]; rfl
  have ho : ∀ v ∈ zs, v.oneCell' = true := by
    intro v hv
    rw [← hzs, hc] at hv
    unfold Builtin.zeroCells at hv
    simp only [Array.toList_map, List.mem_map] at hv
    obtain ⟨i, _, rfl⟩ := hv
    have h3 : i % zLd.toArray.size < 3 := Nat.mod_lt _ (by decide)
    have hx : ∀ x : Nat, x < 3 → (zLd.toArray[x]!).oneCell' = true := by
      intro x hx
      rcases x with _ | _ | _ | x
      · rfl
      · rfl
      · rfl
      · omega
    exact hx _ h3
  refine ⟨zs, hl, ho, fun ty => ?_⟩
  have hst := run_storeCells_cells (P := Tryz.prog) b o zs 0 w (fun j hj => (h j (by omega)).1) (fun j hj => (h j (by omega)).2) ho
  simp only [Nat.add_zero] at hst
  obtain ⟨m', rfl⟩ : ∃ m', m = m' + 1 := ⟨m - 1, by omega⟩
  have key : ∀ (Z : Value) (zs : List Value), (∀ w, (zeroValue 95).run Tryz.prog w = .ok Z w) → (Builtin.zeroCells Z.cells (m' + 1)).toList = zs → (storeCells ⟨b, o, none⟩ zs).run Tryz.prog w = .ok () (w.setCells b o zs) → (Builtin.clear_ #[87] ty #[.slice (some ⟨b, o, none⟩) (m' + 1) c]).run Tryz.prog w = .ok (.tuple #[]) (w.setCells b o zs) := fun Z zs hv hz hs => by
    simp [Builtin.clear_, run_underlying Tryz.underlying87, hv, hz, hs]
  exact key _ zs zeroLd hzs hst
/-- while the loop runs: i elements are kept, those from j on are as they were -/
structure DStage (D M : List Ld) (i j : Nat) : Prop where
  len : M.length = D.length
  lt : i < j
  le : j ≤ D.length
  kept : M.take i = (D.take j).filter Ld.nz
  rest : M.drop j = D.drop j
theorem DStage.start {D : List Ld} {k : Nat} (hk : k < D.length) (h : (D.take (k + 1)).filter Ld.nz = D.take k) : DStage D D k (k + 1) := ⟨rfl, by omega, hk, h.symm, rfl⟩
theorem DStage.get {D M : List Ld} {i j : Nat} (h : DStage D M i j) (hj : j < D.length) : ∃ hm : j < M.length, M[j] = D[j] := by
  have hm : j < M.length := by rw [h.len]; exact hj
  refine ⟨hm, ?_⟩
  have h1 : (M.drop j)[0]? = (D.drop j)[0]? := by rw [h.rest]
  rw [List.getElem?_drop, List.getElem?_drop, Nat.add_zero, List.getElem?_eq_getElem hm, List.getElem?_eq_getElem hj] at h1
  exact Option.some.inj h1
theorem DStage.put {D M : List Ld} {i j : Nat} (h : DStage D M i j) (hj : j < D.length) (hz : D[j].nz = true) : DStage D (M.set i D[j]) (i + 1) (j + 1) := by
  have hi : i < M.length := by have := h.lt; rw [h.len]; omega
  refine ⟨by rw [List.length_set, h.len], by have := h.lt; omega, hj, ?_, ?_⟩
  · rw [List.take_succ_eq_append_getElem (by rw [List.length_set]; exact hi), List.take_set_of_le (Nat.le_refl _), h.kept, List.take_succ_eq_append_getElem hj, List.filter_append]
    simp [hz]
  · rw [List.drop_set_of_lt (by have := h.lt; omega), ← List.drop_drop (i := 1) (j := j), h.rest, List.drop_drop]
theorem DStage.skip {D M : List Ld} {i j : Nat} (h : DStage D M i j) (hj : j < D.length) (hz : D[j].nz = false) : DStage D M i (j + 1) := by
  refine ⟨h.len, by have := h.lt; omega, hj, ?_, ?_⟩
  · rw [h.kept, List.take_succ_eq_append_getElem hj, List.filter_append]
    simp [hz]
  · rw [← List.drop_drop (i := 1) (j := j), h.rest, List.drop_drop]
theorem DStage.done {D M : List Ld} {i : Nat} (h : DStage D M i D.length) : M.take i = D.filter Ld.nz ∧ (D.filter Ld.nz).length = i := by
  have h1 := h.kept
  rw [List.take_of_length_le (Nat.le_refl _)] at h1
  refine ⟨h1, ?_⟩
  rw [← h1, List.length_take]
  have := h.lt; rw [h.len]; omega
def DelLdIs (base : Nat) (c : Nat) (D : List Ld) (w : World) (e : Ending) (w' : World) : Prop := ∃ A, e = .returned (.slice A (D.filter Ld.nz).length c) ∧ w'.ownsRow base 95 3 (.slice A (D.filter Ld.nz).length c) (D.filter Ld.nz).length ((D.filter Ld.nz).flatMap Ld.L) ∧ Below base w w'
theorem below_of_grown {w w' : World} {base g : Nat} (h : w.grownBy w' (some g)) (hg : base ≤ g) (hb : base ≤ w.heap.size) : Below base w w' := (Below.refl base w).grown h hb (fun i hi => by have := Option.some.inj hi; omega)
theorem own_thereL {w : World} {base n c g : Nat} {e : TypeId} {xs : List Value} (h : w.ownsRow base e 3 (.slice (some ⟨g, 0, none⟩) n c) n xs) {o m : Nat} (ho : o + m ≤ n * 3) : w.there g o m := fun q hq => by
  refine ⟨?_, h.frozenAt _⟩
  have := h.cells (g := g) rfl (o + q) _ (List.getElem?_eq_getElem (by rw [h.1]; omega))
  rw [Addr.add_lit, Nat.zero_add] at this
  rw [this]; rfl
set_option maxRecDepth 100000 in
set_option maxHeartbeats 1600000 in
theorem deleteLd (base : Nat) (A : Option Addr) (n c : Nat) (D : List Ld) (hD : D.length = n) (hn : n ≤ 100000) (w : World) (hbase : base ≤ w.heap.size) (ho : w.ownsRow base 95 3 (.slice A n c) n (D.flatMap Ld.L)) :
    Calls Tryz.prog 33 #[.slice A n c, del25] w (DelLdIs base c D w) := by
  have HI := Lib.hid (indexLd A n c D hD hn w (Rd.of_own ho))
  have hcap := own_cap ho
  have hcm : c ≤ 9223372036854775807 := hcap.2
  have hnc := hcap.1
  rcases fz_cases D with ⟨hz, hf⟩ | ⟨k, hkD, hz, hf⟩
  · rw [hz] at HI
    have HF := Lib.hid hf
    have HO := Lib.hid ho
    have HD := Lib.hid hD
    clear hz hf ho hD hcap
    go_enter Tryz.func33, Tryz.ntmps33
    go_wp2_with (go_at_call 70; refine HI.out.mono ?_; rintro e w1 ⟨rfl, b1⟩)
    go_ret
    unfold DelLdIs
    rw [HF.out, HD.out]
    exact ⟨A, rfl, own_below HO.out b1, b1.mono hbase⟩
  · rw [hz] at HI
    have hkn : k < n := by rw [← hD]; exact hkD
    obtain ⟨g, cap', hv0, hgb, hgl⟩ := ho.form (by omega)
    obtain ⟨rfl, rfl⟩ : A = some ⟨g, 0, none⟩ ∧ c = cap' := by injection hv0 with h1 _ h2; exact ⟨h1, h2⟩
    have HST := Lib.hid (DStage.start hkD hf)
    have HO := Lib.hid ho
    have HD := Lib.hid hD
    have HG := Lib.hid hgb
    have hn1 : ((k : Int) == -1) = false := by rw [beq_eq_false_iff_ne]; omega
    clear hz hf ho hD hcap hkD hv0 hgl hgb
    go_enter Tryz.func33, Tryz.ntmps33
    go_wp2_with (go_at_call 70; refine HI.out.mono ?_; rintro e w1 ⟨rfl, b1⟩)
    have HB1 := Lib.hid b1
    clear b1 hn1
    go_loopw [5, 6] (fun u5 u6 wx => ∃ (wr : World) (i j : Nat) (M : List Ld), wr = wx ∧ i < j ∧ j ≤ n ∧ u5 = .int .i64 (i : Int) ∧ u6 = .int .i64 (j : Int) ∧ Hid (DStage D M i j) ∧ Hid (wr.ownsRow base 95 3 (.slice (some ⟨g, 0, none⟩) n c) n (M.flatMap Ld.L)) ∧ Hid (w.grownBy wr (some g))) (fun _ u6 _ => n - (intOf u6).toNat)
    case atStart =>
      exact ⟨_, k, k + 1, D, rfl, by omega, by omega, rfl, by go_num, HST, Lib.hid (own_below HO.out HB1.out), Lib.hid (grown_of_below HB1.out _)⟩
    case round =>
      obtain ⟨wr, i, j, M, rfl, hij, hjn, rfl, rfl, HDS, HOW, HGR⟩ := hrel
      have hin : i < n := by omega
      by_cases hlt : j < n
      · have hjD : j < D.length := by rw [HD.out]; exact hlt
        obtain ⟨hjM, hMj⟩ := HDS.out.get hjD
        obtain ⟨b, off, hA, hbb, hrg⟩ := (Rd.of_own HOW.out).elem (f := Ld.L) (fun _ _ => rfl) hjM hlt
        obtain ⟨rfl, rfl⟩ : g = b ∧ 0 = off := by have := Option.some.inj hA; exact ⟨congrArg Addr.block this, congrArg Addr.off this⟩
        rw [hMj, Nat.zero_add] at hrg
        have HX := Lib.hid (fun W => del25_any D[j] W)
        obtain ⟨y, hy⟩ : ∃ y, D[j] = y := ⟨_, rfl⟩
        have HY := Lib.hid hy
        rw [hy] at hrg HX
        have e1 : (0 : Int) ≤ (j : Int) := by omega
        have e2 : (j : Int) < (n : Int) := by omega
        have e3 : (0 : Int) ≤ (i : Int) := by omega
        have e4 : (i : Int) < (n : Int) := by omega
        obtain ⟨y0, y1, y2⟩ := y
        unfold Ld.L at hrg
        dsimp only at hrg HX
        have HML := Lib.hid hjM
        clear hjM hMj hA hbb hy
        go_upto_region 8 with (first
          | (refine wpList_load_mid rfl _ (.tmp 24) rfl g (j * 3) rfl [.int .i64 y0, .int .i64 y1, .int .i64 y2] _ hrg Tryz.underlying95 rfl sizeLd ?_)
          | (refine wpList_allocRow rfl _ rfl _ infoLd ?_; intro w2 rz2 b2 z2)
          | (refine wpList_storeRow rfl _ (.tmp 7) (.tmp 25) rfl (l' := [.int .i64 y0, .int .i64 y1, .int .i64 y2]) rz2 rfl rfl sizeLd rfl rfl ?_; intro w3 rz3 g3 z3))
        have hb3 : Below wr.heap.size wr w3 := b2.grown g3 b2.size (fun i hi => by have := Option.some.inj hi; omega)
        obtain ⟨bv, hbv⟩ : ∃ x, wr.heap.size = x := ⟨_, rfl⟩
        rw [hbv] at rz3 ⊢
        have hr3 : w3.rangeAt bv 0 [.int .i64 y0, .int .i64 y1, .int .i64 y2] := fun q u hu => by rw [Nat.zero_add, rz3.cell]; exact hu
        have HB3 := Lib.hid hb3
        have HR3 := Lib.hid rz3
        clear b2 z2 rz2 g3 z3 hb3 hrg rz3 hbv
        try simp only [Act.put, List.setIfInBounds_toArray, List.set_cons_zero, List.set_cons_succ]
        obtain ⟨q, hq⟩ : ∃ q, Ld.nz ⟨y0, y1, y2⟩ = q := ⟨_, rfl⟩
        rw [hq] at HX
        have HQ : Hid (D[j].nz = q) := Lib.hid (by rw [HY.out]; exact hq)
        clear hq
        cases q with
        | true =>
          go_upto_region 9 with (first
            | (refine wpList_load_mid rfl _ (.tmp 7) rfl bv 0 rfl [.int .i64 y0, .int .i64 y1, .int .i64 y2] _ hr3 Tryz.underlying95 rfl sizeLd ?_)
            | (go_at_call 34; refine (HX.out _).mono ?_; rintro e w4 ⟨rfl, b4⟩))
          have hr4 : w4.rangeAt bv 0 [.int .i64 y0, .int .i64 y1, .int .i64 y2] := fun q u hu => by rw [Nat.zero_add, (HR3.out.below' b4).cell]; exact hu
          have HB4 := Lib.hid (HB3.out.trans (b4.mono HB3.out.size))
          have HO4 := Lib.hid (own_below HOW.out HB4.out)
          have HT4 := Lib.hid (own_thereL HO4.out (o := i * 3) (m := 3) (by omega))
          clear hr3 b4
          try simp only [Act.put, List.setIfInBounds_toArray, List.set_cons_zero, List.set_cons_succ]
          go_wp2_with (first
            | (refine wpList_load_mid rfl _ (.tmp 7) rfl bv 0 rfl [.int .i64 y0, .int .i64 y1, .int .i64 y2] _ hr4 Tryz.underlying95 rfl sizeLd ?_)
            | (refine wpList_store_mid rfl _ (.tmp 33) (.tmp 32) rfl g (i * 3) (List.toArray [.int .i64 y0, .int .i64 y1, .int .i64 y2]) rfl rfl HT4.out sizeLd (all_oneCell_toArray (Ld.one ⟨y0, y1, y2⟩)) ?_))
          go_roundw
          case rel =>
            refine ⟨_, i + 1, j + 1, M.set i D[j], rfl, by omega, by omega, by go_num, by go_num, Lib.hid (HDS.out.put hjD HQ.out), Lib.hid ?_, Lib.hid ?_⟩
            · have := own_elem (f := Ld.L) HO4.out (fun _ _ => rfl) (k := i) (by have := HDS.out.len; have := HD.out; omega) D[j] rfl
              rw [HY.out] at this ⊢
              exact this
            · exact (HGR.out.trans (grown_of_below HB4.out _)).trans (grown_sets g _ (i * 3) w4)
          case measure => simp [intOf]; omega
        | false =>
          go_wp2_with (first
            | (refine wpList_load_mid rfl _ (.tmp 7) rfl bv 0 rfl [.int .i64 y0, .int .i64 y1, .int .i64 y2] _ hr3 Tryz.underlying95 rfl sizeLd ?_)
            | (go_at_call 34; refine (HX.out _).mono ?_; rintro e w4 ⟨rfl, b4⟩))
          go_roundw
          case rel =>
            have hb4 := HB3.out.trans (b4.mono HB3.out.size)
            exact ⟨_, i, j + 1, M, rfl, by omega, by omega, by go_num, by go_num, Lib.hid (HDS.out.skip hjD HQ.out), Lib.hid (own_below HOW.out hb4), Lib.hid (HGR.out.trans (grown_of_below hb4 _))⟩
          case measure => simp [intOf]; omega
      · obtain rfl : j = n := by omega
        have hds := HDS.out
        rw [← HD.out] at hds
        obtain ⟨hd1, hd2⟩ := hds.done
        obtain ⟨zs, hzl, hzo, hcl⟩ := run_clearLd wr g (i * 3) (j - i) (c - i) (by omega) (own_thereL HOW.out (by omega))
        have hcut1 := fun W => run_cutFrom (P := Tryz.prog) W loadT (some ⟨g, 0, none⟩) j c i .i64 (by omega)
        have hcut2 := fun W => run_cutHi (P := Tryz.prog) W loadT g j c i .i64 (by omega) (by omega)
        have hci : ¬ c = i := by omega
        simp only [if_neg hci, Option.map_some, Addr.add_lit, Nat.zero_add] at hcut1
        have HE : Hid ((D.filter Ld.nz).length = i ∧ (wr.setCells g (i * 3) zs).ownsRow base 95 3 (.slice (some ⟨g, 0, none⟩) i c) i ((D.filter Ld.nz).flatMap Ld.L)) := Lib.hid ⟨hd2, by
          have hm : i * 3 + zs.length ≤ j * 3 := by rw [hzl]; omega
          have h1 := own_sets zs _ (i * 3) wr HOW.out (by rw [HOW.out.1]; exact hm)
          have h2 := own_less h1 (m := i) (by omega)
          rw [setsL_eq _ _ _ (by rw [HOW.out.1]; exact hm), List.append_assoc, List.take_append_of_le_length (by rw [List.length_take, HOW.out.1]; omega), List.take_take, Nat.min_self, flat_take (f := Ld.L) (sz := 3) (fun _ _ => rfl), hd1] at h2
          exact h2⟩
        have HGE := Lib.hid (HGR.out.trans (grown_sets g zs (i * 3) wr))
        clear hd1 hd2 hds hzl hzo
        go_wp2_with (simp only [hcl])
        go_ret
        obtain ⟨h1, h2⟩ := HE.out
        unfold DelLdIs
        rw [h1]
        exact ⟨some ⟨g, 0, none⟩, rfl, h2, below_of_grown HGE.out HG.out hbase⟩
end Go.Proofs.YtihhkcndcgljbaaGreat
