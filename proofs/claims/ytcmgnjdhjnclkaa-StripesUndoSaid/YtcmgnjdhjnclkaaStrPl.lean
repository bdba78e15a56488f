/- The law's play: one operation on rows; what it keeps. Conditions: the rows are kept and valid. -/
import Derived.Test.YtcmgnjdhjnclkaaStrSA
namespace Go.Proofs.Ytcmgnjdhjnclkaa.S
set_option linter.unusedVariables false
set_option linter.unusedSimpArgs false
open Go.RowKit
namespace Str
/-- an operation of a script -/
structure SOp where
  rel : Bool
  code : Int
  width : Int
  idx : Int
  e : Int
  c : Int
/-- the rows behind an operation -/
def playL (cf : Cfg) (l : List Rw) (o : SOp) : List Rw :=
  if o.rel then
    if 0 ≤ o.idx ∧ o.idx < ((strs o.code l 0).length : Int) then
      match (strs o.code l 0)[o.idx.toNat]? with
      | some s => Str.rel l s.1.toNat (ixr l s.1 s.2).toNat
      | none => l
    else l
  else match alcF cf l o.code o.width o.e o.c with
    | .ok l' _ _ => l'
    | _ => l
/-- a used stripe of the list is found -/
theorem strs_mem {c : Int} : ∀ {l : List Rw} {j : Nat} {s : Int × Int}, s ∈ strs c l j → ∃ (i : Nat) (x : Rw), l[i]? = some x ∧ s.1 = ((j + i : Nat) : Int) ∧ ∃ u ∈ x.used, u.g = s.2
  | [], j, s, h => by cases h
  | r :: l, j, s, h => by
    unfold strs at h
    have key : s ∈ strs c l (j + 1) → ∃ (i : Nat) (x : Rw), (r :: l)[i]? = some x ∧ s.1 = ((j + i : Nat) : Int) ∧ ∃ u ∈ x.used, u.g = s.2 := fun h => by
      obtain ⟨i, x, h1, h2, h3⟩ := strs_mem h
      exact ⟨i + 1, x, by simpa using h1, by rw [h2]; congr 1; omega, h3⟩
    split at h
    · rcases List.mem_append.1 h with h | h
      · obtain ⟨u, hu, rfl⟩ := List.mem_map.1 h
        exact ⟨0, r, rfl, rfl, u, hu, rfl⟩
      · exact key h
    · exact key h
theorem strs_ixr {c : Int} {l : List Rw} {s : Int × Int} (h : s ∈ strs c l 0) : ∃ (k q : Nat) (x : Rw), s.1 = (k : Int) ∧ l[k]? = some x ∧ q < x.used.length ∧ ixr l s.1 s.2 = (q : Int) := by
  obtain ⟨k, x, h1, h2, u, hu, hg⟩ := strs_mem h
  rw [Nat.zero_add] at h2
  rcases ixr_cases l s.1 s.2 with h3 | ⟨k', q, y, h4, h5, h6, h7⟩
  · exfalso
    rw [h2, ixr_in h1] at h3
    have : idx x.used s.2 ≠ -1 := by
      unfold idx
      cases ha : at? x.used s.2 with
      | some q => simp
      | none =>
        unfold at? at ha
        rw [List.findIdx?_eq_none_iff] at ha
        have := ha u hu
        simp [hg] at this
    exact this h3
  · exact ⟨k', q, y, h4, h5, h6, h7⟩
theorem playL_valid {cf : Cfg} {l : List Rw} (h : Valid cf l) (o : SOp) : Valid cf (playL cf l o) := by
  unfold playL
  split
  · split
    · split
      · rename_i s hs
        obtain ⟨k, q, x, h1, h2, h3, h4⟩ := strs_ixr (List.mem_of_getElem? hs)
        have := h.rel h2 h3
        rw [h1] at h4 ⊢
        rw [h4]
        simp only [Int.toNat_natCast]
        unfold Str.rel
        rw [getD_of h2]
        exact this
      · exact h
    · exact h
  · split
    · rename_i l' r g ha
      have hs := alcF_spec cf l o.code o.width o.e o.c
      rw [ha] at hs
      exact hs.valid h
    · exact h
theorem playL_len {cf : Cfg} {l : List Rw} (o : SOp) : (playL cf l o).length = l.length := by
  unfold playL
  split
  · split
    · split
      · unfold Str.rel; rw [List.length_set]
      · rfl
    · rfl
  · split
    · rename_i ha
      exact alcF_len ha
    · rfl
theorem playL_bnd {cf : Cfg} {l : List Rw} {code width peak : Int} (h : Bnd cf code width l peak) (o : SOp) (hab : o.code = code → o.width = width) : Bnd cf code width (playL cf l o) (max peak (tot (playL cf l o) code)) := by
  have hsame : Bnd cf code width l (max peak (tot l code)) := ⟨h.valid, by omega, fun h1 h2 => by obtain ⟨a, b⟩ := h.few h1 h2; exact ⟨a, by omega⟩⟩
  unfold playL
  split
  · split
    · split
      · rename_i s hs
        obtain ⟨k, q, x, h1, h2, h3, h4⟩ := strs_ixr (List.mem_of_getElem? hs)
        have := Bnd.rel h h2 h3
        rw [h1] at h4 ⊢
        rw [h4]
        simp only [Int.toNat_natCast]
        exact this
      · exact hsame
    · exact hsame
  · split
    · rename_i l' r g ha
      have hs := alcF_spec cf l o.code o.width o.e o.c
      rw [ha] at hs
      exact Bnd.alloc h hab hs
    · exact hsame
end Str
def sopL (o : Str.SOp) : List Value := [.bool o.rel, .int .i64 o.code, .int .i64 o.width, .int .i64 o.idx, .int .i64 o.e, .int .i64 o.c]
theorem sizeOp : (Try.prog.info? 48).map (·.size) = some 6 := by kernel_rfl
/-- the law's play -/
def PlayIs (w : World) (n : Nat) (l' : List Str.Rw) (e : Ending) (w' : World) : Prop := ∃ A' c', e = .returned (.slice A' n c') ∧ RAt w' A' n c' l' ∧ Below w.heap.size w w'
theorem stripes_r {w : World} {A : Option Addr} {n c : Nat} {l : List Str.Rw} (h : RAt w A n c l) (code : Int) :
    Calls Try.prog 16 #[.slice A n c, .int .i64 code] w fun e W' => ∃ A' c', e = .returned (.slice A' (Str.strs code l 0).length c') ∧ W'.ownsRow w.heap.size 29 2 (.slice A' (Str.strs code l 0).length c') (Str.strs code l 0).length (stLs (Str.strs code l 0)) ∧ Below w.heap.size w W' := by
  obtain ⟨⟨D, h1⟩, h2⟩ := h
  exact stripes_any h1 (Nat.le_refl _) h2 code
theorem strs_small {l : List Str.Rw} {n : Nat} (hl : l.length = n) (hn : n ≤ 65536) (hu : ∀ r ∈ l, r.used.length ≤ 64) (code : Int) (j : Nat) : (Str.strs code l j).length ≤ n * 64 := by
  subst hl
  clear hn
  induction l generalizing j with
  | nil => exact Nat.zero_le _
  | cons r l ih =>
    have h1 := hu r (List.mem_cons_self ..)
    have h2 := ih (fun r hr => hu r (List.mem_cons_of_mem _ hr)) (j + 1)
    unfold Str.strs
    rw [List.length_cons]
    split
    · rw [List.length_append, List.length_map]; omega
    · omega
set_option maxRecDepth 100000 in
set_option maxHeartbeats 6400000 in
theorem play_any {w : World} {A : Option Addr} {n c : Nat} {l : List Str.Rw} (cf : Str.Cfg) (h : RAt w A n c l) (hv : Str.Valid cf l) (o : Str.SOp) :
    Calls Try.prog 14 #[cfV cf, .slice A n c, .agg (sopL o).toArray] w (PlayIs w n (Str.playL cf l o)) := by
  have HR := Lib.hid h
  have hmo := h.most
  have HV := Lib.hid hv
  have HSM : Hid (∀ r ∈ l, r.used.length ≤ 60000) := Lib.hid fun r hr => by have := hv.small r hr; omega
  have HSL : Hid ((Str.strs o.code l 0).length ≤ 65536 * 64) := Lib.hid (by have := strs_small h.len hmo.1 hv.small o.code 0; omega)
  have HCV : Hid (cfV cf = .agg (cfL cf).toArray) := Lib.hid rfl
  have HCL : Hid ((cfL cf).length = 6) := Lib.hid rfl
  obtain ⟨rel, code, width, ix, ge, gc⟩ := o
  obtain ⟨P, hP⟩ : ∃ P, Str.playL cf l ⟨rel, code, width, ix, ge, gc⟩ = P := ⟨_, rfl⟩
  rw [hP]
  dsimp only at HSL
  unfold sopL
  dsimp only
  clear h hv
  cases rel with
  | true =>
    have HST := Lib.hid (fun (W : World) (hW : Below w.heap.size w W) => stripes_r (HR.out.below hW) code)
    obtain ⟨L, hL⟩ : ∃ L, Str.strs code l 0 = L := ⟨_, rfl⟩
    have hP2 : P = if 0 ≤ ix ∧ ix < (L.length : Int) then (match L[ix.toNat]? with | some s => Str.rel l s.1.toNat (Str.ixr l s.1 s.2).toNat | none => l) else l := by rw [← hP, ← hL]; rfl
    have HRL : Hid (∀ s ∈ L, ∃ (k q : Nat), s.1 = (k : Int) ∧ Str.ixr l s.1 s.2 = (q : Int)) := Lib.hid fun s hs => by
      obtain ⟨k, q, x, h1, _, _, h4⟩ := Str.strs_ixr (c := code) (by rw [hL]; exact hs)
      exact ⟨k, q, h1, h4⟩
    rw [hL] at HST HSL
    obtain ⟨m, hm⟩ : ∃ m, L.length = m := ⟨_, rfl⟩
    rw [hm] at HST HSL hP2
    have HM := Lib.hid hm
    have HP := Lib.hid hP2
    have HLL := Lib.hid hL
    clear hP hL hm hP2
    rw [HCV.out]
    obtain ⟨cl, hcl⟩ : ∃ y, cfL cf = y := ⟨_, rfl⟩
    rw [hcl] at HCL ⊢
    have HCE := Lib.hid hcl
    clear hcl
    go_enter Try.func14, Try.ntmps14
    go_upto_region 1 with (first
      | (refine wpList_boxRow rfl _ (.tmp 0) rfl cl rfl rfl ?_; intro w1 r1 b1 z1; clear z1; simp only [put_some, List.setIfInBounds_toArray, List.set_cons_succ, List.set_cons_zero])
      | (refine wpList_boxRow rfl _ (.tmp 2) rfl [.bool true, .int .i64 code, .int .i64 width, .int .i64 ix, .int .i64 ge, .int .i64 gc] rfl rfl ?_; intro w2 r2 b2 z2; clear z2; simp only [put_some, List.setIfInBounds_toArray, List.set_cons_succ, List.set_cons_zero]))
    have k0 := r2.cell 0
    have k1 := r2.cell 1
    have k3 := r2.cell 3
    dsimp only [List.getElem?_cons_zero, List.getElem?_cons_succ] at k0 k1 k3
    have HB2 := Lib.hid (b1.trans (b2.mono b1.size))
    have HR2 := Lib.hid r2
    clear r1 b1 r2 b2
    go_upto_region 3 with (go_at_call 16; refine (HST.out _ HB2.out).mono ?_; rintro e w3 ⟨A3, c3, rfl, o3, b3⟩)
    have HB3 := Lib.hid (HB2.out.trans (b3.mono HB2.out.size))
    have HO3 := Lib.hid o3
    have q3 := (HR2.out.below' b3).cell 3
    dsimp only [List.getElem?_cons_zero, List.getElem?_cons_succ] at q3
    have hc3 := (own_cap o3).1
    have hml := HSL.out
    clear k0 k1 k3 b3 o3
    by_cases c1 : ix < 0
    · have HPE : Hid (P = l) := Lib.hid (by rw [HP.out, if_neg (by omega)])
      go_wp2_with fail
      go_ret
      exact ⟨A, c, rfl, by rw [HPE.out]; exact HR.out.below HB3.out, HB3.out⟩
    · by_cases c2 : ix ≥ (m : Int)
      · have HPE : Hid (P = l) := Lib.hid (by rw [HP.out, if_neg (by omega)])
        go_wp2_with fail
        go_ret
        exact ⟨A, c, rfl, by rw [HPE.out]; exact HR.out.below HB3.out, HB3.out⟩
      · obtain ⟨i, rfl⟩ : ∃ i : Nat, ix = (i : Int) := ⟨ix.toNat, by omega⟩
        have hil : i < L.length := by rw [HM.out]; omega
        obtain ⟨s, hs⟩ : ∃ s, L[i]? = some s := ⟨_, List.getElem?_eq_getElem hil⟩
        obtain ⟨k, q, hk, hq⟩ := HRL.out s (List.mem_of_getElem? hs)
        have HPE : Hid (P = Str.rel l k q) := Lib.hid (by
          rw [HP.out, if_pos (by omega)]
          have e : ((i : Int)).toNat = i := by omega
          rw [e, hs]
          show Str.rel l s.1.toNat (Str.ixr l s.1 s.2).toNat = _
          rw [hq, hk]
          simp)
        obtain ⟨sr, sg⟩ := s
        dsimp only at hk hq
        subst hk
        have HRE := Lib.hid (fun (W : World) (hW : Below w.heap.size w W) => rel_ok (HR.out.below hW) k sg hq)
        obtain ⟨b, off, hA3, hbb, hrg⟩ := (Rd.of_own HO3.out).elem (f := stL) (fun x _ => rfl) hil (by omega)
        obtain rfl := hA3
        have hgs : L[i]'hil = ((k : Int), sg) := by have := List.getElem?_eq_some_iff.1 hs; exact this.2
        rw [hgs] at hrg
        have e1 : (0 : Int) ≤ (i : Int) := by omega
        have e2 : (i : Int) < (m : Int) := by omega
        clear hs hq hgs hbb
        go_wp2_with (first
          | (refine wpList_load_rg rfl _ (.tmp 35) rfl b (off + i * 2) rfl [.int .i64 (k : Int), .int .i64 sg] _ hrg Try.underlying29 rfl sizeSt ?_)
          | (go_at_call 11; refine (HRE.out _ HB3.out).mono ?_; rintro e w4 ⟨A4, c4, rfl, ra4, b4⟩))
        go_ret
        exact ⟨A4, c4, rfl, by rw [HPE.out]; exact ra4, HB3.out.trans (b4.mono HB3.out.size)⟩
  | false =>
    have hP2 : P = (match Str.alcF cf l code width ge gc with | .ok l' _ _ => l' | _ => l) := by rw [← hP]; rfl
    have HP := Lib.hid hP2
    clear hP hP2
    have HAL : Hid ((∃ l' r g, P = l' ∧ ∀ W, Below w.heap.size w W → Calls Try.prog 9 #[cfV cf, .slice A n c, .int .i64 code, .int .i64 width, gnV ge gc] W fun e w' => ∃ A' c', e = .returned (.tuple #[.slice A' n c', stV (r : Nat) (g : Nat), .int .i64 0]) ∧ RAt w' A' n c' l' ∧ Below W.heap.size W w') ∨
        (∃ k : Int, (k = 1 ∨ k = 16) ∧ P = l ∧ ∀ W, Below w.heap.size w W → Calls Try.prog 9 #[cfV cf, .slice A n c, .int .i64 code, .int .i64 width, gnV ge gc] W fun e w' => e = .returned (.tuple #[.slice none 0 0, .agg #[.int .i64 0, .int .i64 0], .int .i64 k]) ∧ Below W.heap.size W w')) := Lib.hid (by
      have hp := HP.out
      cases ha : Str.alcF cf l code width ge gc with
      | arg => rw [ha] at hp; exact .inr ⟨1, .inl rfl, hp, fun W hW => alc_arg (HR.out.below hW) cf code width ge gc HSM.out ha⟩
      | full => rw [ha] at hp; exact .inr ⟨16, .inr rfl, hp, fun W hW => alc_full (HR.out.below hW) cf code width ge gc HSM.out ha⟩
      | ok l' r g => rw [ha] at hp; exact .inl ⟨l', r, g, hp, fun W hW => alc_ok (HR.out.below hW) cf code width ge gc HSM.out ha⟩)
    rw [HCV.out] at HAL ⊢
    obtain ⟨cl, hcl⟩ : ∃ y, cfL cf = y := ⟨_, rfl⟩
    rw [hcl] at HCL HAL ⊢
    clear hcl HP
    have hal := HAL.out
    clear HAL
    go_enter Try.func14, Try.ntmps14
    go_upto_region 1 with (first
      | (refine wpList_boxRow rfl _ (.tmp 0) rfl cl rfl rfl ?_; intro w1 r1 b1 z1; clear z1; simp only [put_some, List.setIfInBounds_toArray, List.set_cons_succ, List.set_cons_zero])
      | (refine wpList_boxRow rfl _ (.tmp 2) rfl [.bool false, .int .i64 code, .int .i64 width, .int .i64 ix, .int .i64 ge, .int .i64 gc] rfl rfl ?_; intro w2 r2 b2 z2; clear z2; simp only [put_some, List.setIfInBounds_toArray, List.set_cons_succ, List.set_cons_zero]))
    have k0 := r2.cell 0
    have k1 := r2.cell 1
    have k2 := r2.cell 2
    dsimp only [List.getElem?_cons_zero, List.getElem?_cons_succ] at k0 k1 k2
    have hgn : w2.rangeAt w1.heap.size 4 [.int .i64 ge, .int .i64 gc] := fun j v hv => by
      have := r2.cell (4 + j)
      rw [this]
      match j, hv with
      | 0, hv => exact hv
      | 1, hv => exact hv
    have rc := r1.below' b2
    have hcg : w2.rangeAt w.heap.size 0 cl := fun j v hv => by rw [Nat.zero_add, rc.cell]; exact hv
    have HB2 := Lib.hid (b1.trans (b2.mono b1.size))
    clear r1 b1 r2 b2 rc
    rcases hal with ⟨l', r, g, hp, hal⟩ | ⟨k, hk, hp, hal⟩
    · have HAL := Lib.hid hal
      have HPE := Lib.hid hp
      clear hal hp
      go_wp2_with (first
        | (refine wpList_load_rg rfl _ (.tmp 3) rfl w.heap.size 0 rfl cl _ hcg Try.underlying23 rfl (by rw [HCL.out]; exact sizeCf) ?_)
        | (refine wpList_load_rg rfl _ (.tmp 50) rfl w1.heap.size 4 rfl [.int .i64 ge, .int .i64 gc] _ hgn Try.underlying27 rfl sizeGn ?_)
        | (go_at_call 9; refine (HAL.out _ HB2.out).mono ?_; rintro e w4 ⟨A4, c4, rfl, ra4, b4⟩)
        | (refine wpList_allocRow rfl _ rfl _ infoSt' ?_; intro w5 r5 b5 z5; clear z5)
        | (refine wpList_storeRow rfl _ (.tmp 11) (.tmp 54) rfl (l' := [.int .i64 (r : Int), .int .i64 (g : Int)]) r5 rfl rfl sizeSt rfl rfl ?_; intro w6 r6 g6 z6; clear z6))
      have b6 := b5.grown g6 b5.size (fun k e => by have := Option.some.inj e; omega)
      go_ret
      have hb4 := HB2.out.trans (b4.mono HB2.out.size)
      exact ⟨A4, c4, rfl, by rw [HPE.out]; exact ra4.below b6, hb4.trans (b6.mono hb4.size)⟩
    · have HAL := Lib.hid hal
      have HPE := Lib.hid hp
      have hkb : (k != 0) = true := by rcases hk with rfl | rfl <;> decide
      clear hal hp hk
      go_wp2_with (first
        | (refine wpList_load_rg rfl _ (.tmp 3) rfl w.heap.size 0 rfl cl _ hcg Try.underlying23 rfl (by rw [HCL.out]; exact sizeCf) ?_)
        | (refine wpList_load_rg rfl _ (.tmp 50) rfl w1.heap.size 4 rfl [.int .i64 ge, .int .i64 gc] _ hgn Try.underlying27 rfl sizeGn ?_)
        | (go_at_call 9; refine (HAL.out _ HB2.out).mono ?_; rintro e w4 ⟨rfl, b4⟩)
        | (refine wpList_allocRow rfl _ rfl _ infoSt' ?_; intro w5 r5 b5 z5; clear z5)
        | (refine wpList_storeRow rfl _ (.tmp 11) (.tmp 54) rfl (l' := zSt) r5 rfl rfl sizeSt rfl rfl ?_; intro w6 r6 g6 z6; clear z6))
      have b6 := b5.grown g6 b5.size (fun k e => by have := Option.some.inj e; omega)
      go_ret
      have hb4 := HB2.out.trans (b4.mono HB2.out.size)
      have hb6 := hb4.trans (b6.mono hb4.size)
      exact ⟨A, c, rfl, by rw [HPE.out]; exact HR.out.below hb6, hb6⟩
end Go.Proofs.Ytcmgnjdhjnclkaa.S
