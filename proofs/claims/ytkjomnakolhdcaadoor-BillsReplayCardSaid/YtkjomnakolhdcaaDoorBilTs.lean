/- Layer 35's reference: Replay. Conditions: at most 60 strings of at most 1000 bytes; the tables are in memory. -/
import Derived.Test.YtkjomnakolhdcaaDoorBilTr
import Derived.Test.YtkjomnakolhdcaaDoorBilTx
import Derived.Test.YtkjomnakolhdcaaDoorBilTy
namespace Go.Proofs.YtkjomnakolhdcaaDoor
set_option linter.unusedVariables false
set_option linter.unusedSimpArgs false
open Go.RowKit
def Z3 : List Value := [.pointer none, .int .i64 0, .int .i64 0]
theorem infoRp : (Tryd.prog.info? 56).map (fun i => (i.zero, i.size)) = some (some (.agg Z3.toArray), Z3.length) := by kernel_rfl
theorem sizeRp : (Tryd.prog.info? 56).map (·.size) = some 3 := by kernel_rfl
theorem infoBkZ : (Tryd.prog.info? 35).map (fun i => (i.zero, i.size)) = some (some (.agg Z5.toArray), Z5.length) := infoBk
/-- what the reference's Replay gives -/
def RRepRes (w : World) (R : Bil.Lg ⊕ (Nat × Int)) (e : Ending) (w' : World) : Prop := Below w.heap.size w w' ∧ ((∃ l bl col m, R = .inl l ∧ e = .returned (.agg #[.pointer (some ⟨bl, 0, none⟩), .int .i64 0, .int .i64 0]) ∧ RAt w' bl col m l ∧ (∀ b, col b ≠ 0 → w.heap.size ≤ b)) ∨
 (∃ (i : Nat) (er : Int), R = .inr (i, er) ∧ er ≠ 0 ∧ e = .returned (.agg #[.pointer none, .int .i64 (i : Int), .int .i64 er])))
/-- between two strings; b4: the result's variable -/
structure RRepS (w W : World) (bl b4 : Nat) (col : Nat → Nat) (m : RM) (l : Bil.Lg) (K : Int) : Prop where
 rat : RAt W bl col m l
 f : ∀ b, col b ≠ 0 → w.heap.size ≤ b
 z4 : col b4 = 0
 h4 : w.heap.size ≤ b4
 row : IsRow W b4 56 Z3
 b : Below w.heap.size w W
 inv : Bil.Inv l K
section
variable {w W W' : World} {bl b4 : Nat} {col col' : Nat → Nat} {m m' : RM} {l l' : Bil.Lg} {K K' : Int}
theorem RRepS.below (h : RRepS w W bl b4 col m l K) (hb : Below W.heap.size W W') : RRepS w W' bl b4 col m l K :=
 ⟨h.rat.below hb, h.f, h.z4, h.h4, h.row.below' hb, h.b.trans (hb.mono h.b.size), h.inv⟩
/-- a store into a block that was made since -/
theorem RRepS.store (h : RRepS w W bl b4 col m l K) {q : Nat} (hq : col q = 0) (hq4 : q ≠ b4) (hw : w.heap.size ≤ q) (hg : W.grownBy W' (some q)) : RRepS w W' bl b4 col m l K :=
 ⟨h.rat.keeps (S := fun k => k = q) (Keep.of_grown hg fun k e => (Option.some.inj e).symm) (fun b e => by subst e; exact hq), h.f, h.z4, h.h4, h.row.grown hg (fun e => hq4 (Option.some.inj e)), h.b.grown hg h.b.size (fun j hj => by have := Option.some.inj hj; omega), h.inv⟩
theorem RRepS.zero (h : RRepS w W bl b4 col m l K) {b : Nat} (hb : W.heap.size ≤ b) : col b = 0 := by
 rcases Nat.eq_zero_or_pos (col b) with h0 | h0
 ·
  exact h0
 ·
  have := h.rat.lt b (by omega); omega
theorem RRepS.turn (h : RRepS w W bl b4 col m l K) (hl : RAt W' bl col' m' l') (hk : Keep (fun b => col b ≠ 0 ∧ col b ≠ 6) W W') (hc : ∀ b, col' b ≠ 0 → col b ≠ 0 ∨ W.heap.size ≤ b) (hi : Bil.Inv l' K') : RRepS w W' bl b4 col' m' l' K' := by
 have hz := h.b.size
 have hlt := h.row.lt
 refine ⟨hl, fun b hb => (hc b hb).elim (h.f b) (by omega), ?_, h.h4, h.row.keep (hk.block b4 hlt (fun e => e.1 h.z4)), h.b.trans (hk.below hz fun q hq e => by have := h.f q e.1; omega), hi⟩
 rcases Nat.eq_zero_or_pos (col' b4) with h0 | h0
 ·
  exact h0
 ·
  rcases hc b4 (by omega) with h1 | h1
  ·
   exact absurd h.z4 h1
  ·
   omega
/-- the last store: into the result's variable -/
theorem RRepS.last (h : RRepS w W bl b4 col m l K) (hg : W.grownBy W' (some b4)) : Below w.heap.size w W' ∧ RAt W' bl col m l :=
 ⟨h.b.grown hg h.b.size (fun j hj => by have := Option.some.inj hj; have := h.h4; omega), h.rat.keeps (S := fun k => k = b4) (Keep.of_grown hg fun k e => (Option.some.inj e).symm) (fun b e => by subst e; exact h.z4)⟩
end
theorem decI_le (r : List UInt8) (l : List Int) (v : Nat) (h : Wire.decI r = (l, v, 0)) : v ≤ r.length := by have := Wire.decI_ok h; omega
set_option maxRecDepth 100000 in
set_option maxHeartbeats 3200000 in
theorem rreplay_any (n : Int) (A : Option Addr) (N c : Nat) (H : List ByteArray) (hH : H.length = N) (hN : N ≤ 60) (hHs : ∀ s ∈ H, s.size ≤ 1000) (w : World) (B : Nat) (hB : B ≤ w.heap.size) (rd : Rd w B 1 A N (H.map Value.string)) (hT : Tabs w) (hRT : RTab w) (hTs : 2 < B ∧ 0 < B ∧ 1 < B) :
  Calls Tryd.prog 25 #[.int .i64 n, .slice A N c] w (RRepRes w (Bil.replayed n (H.map fun s => s.data.toList))) := by
 by_cases hn : 1 ≤ n ∧ n ≤ 16
 ·
  obtain ⟨nn, rfl⟩ : ∃ k : Nat, n = (k : Int) := ⟨n.toNat, by omega⟩
  have HTW := Lib.hid (fun (W : World) (hb : Below w.heap.size w W) => (show Tabs W ∧ RTab W from ⟨⟨hT.k.keep (hb.block _ (Nat.lt_of_lt_of_le hTs.1 hB)), hT.s.keep (hb.block _ (Nat.lt_of_lt_of_le hTs.2.1 hB))⟩, ⟨hRT.r.keep (hb.block _ (Nat.lt_of_lt_of_le hTs.2.2 hB))⟩⟩))
  obtain ⟨hs, hhs⟩ : ∃ x, (H.map fun s => s.data.toList) = x := ⟨_, rfl⟩
  have HHS := Lib.hid hhs
  have HRE : Hid (Bil.replayed (nn : Int) hs = Bil.replay (Bil.newOf nn (newHead nn)) 0 hs) := Lib.hid (by unfold Bil.replayed; rw [if_pos hn, Int.toNat_natCast])
  rw [hhs]
  have HH := Lib.hid (And.intro hH hHs)
  have HRD := Lib.hid (And.intro rd hB)
  have HNW := Lib.hid (fun (W : World) (hb : Below w.heap.size w W) => rNew_any nn (by omega) (by omega) W (HTW.out W hb).1 (HTW.out W hb).2)
  clear hn hhs hH hHs hT hRT hTs rd hB
  go_enter Tryd.func25, Tryd.ntmps25
  go_upto_region 1 with (refine wpList_allocRow rfl _ rfl _ infoRp ?_; intro w0 r0 hb0 hs0)
  obtain ⟨b4, hb4⟩ : ∃ x, w.heap.size = x := ⟨_, rfl⟩
  rw [hb4] at r0
  have HR0 := Lib.hid (And.intro r0 (And.intro hb0 (And.intro (show w0.heap.size = b4 + 1 by omega) hb4)))
  rw [hb4]
  clear r0 hb0 hs0 hb4
  go_upto_region 4 with (go_at_call 16; refine (HNW.out w0 HR0.out.2.1).mono ?_; rintro e w1 ⟨bl, col0, m0, rfl, hl1, hf1, hb1⟩; have HL1 := Lib.hid (And.intro hl1 (And.intro hf1 hb1)); clear hl1 hf1 hb1)
  have HS0 : Hid (RRepS w w1 bl b4 col0 m0 (Bil.newOf nn (newHead nn)) (1099511627776 * ((0 : Nat) : Int))) := Lib.hid (by
   have hz := HR0.out.2.1.size
   refine ⟨HL1.out.1, fun b hb => Nat.le_trans hz (HL1.out.2.1 b hb), ?_, Nat.le_of_eq HR0.out.2.2.2, HR0.out.1.below' HL1.out.2.2, HR0.out.2.1.trans (HL1.out.2.2.mono hz), by simpa using Bil.inv_new nn (newHead nn) 0 (Int.le_refl _)⟩
   rcases Nat.eq_zero_or_pos (col0 b4) with h0 | h0
   ·
    exact h0
   ·
    have h1 := HL1.out.2.1 b4 (by omega); have h2 := HR0.out.2.2.1; omega)
  clear HL1 HNW HR0
  go_wp2_with fail
  go_loopw [7] (fun u7 wr => ∃ (i : Nat) (col : Nat → Nat) (m : RM) (l : Bil.Lg), i ≤ N ∧ u7 = .int .i64 (i : Int) ∧ Hid (Bil.replayed (nn : Int) hs = Bil.replay l i (hs.drop i)) ∧ Hid (RRepS w wr bl b4 col m l (1099511627776 * (i : Int)))) (fun u7 _ => N - (intOf u7).toNat)
  case atStart => exact ⟨0, col0, m0, _, by omega, rfl, Lib.hid (by rw [HRE.out]; rfl), HS0⟩
  case round =>
   obtain ⟨i, col, m, l, hi, rfl, HRP, HS⟩ := hrel
   by_cases hlt : i < N
   ·
    have hiH : i < H.length := by rw [HH.out.1]; exact hlt
    obtain ⟨s, hs_⟩ : ∃ s, H[i] = s := ⟨_, rfl⟩
    have hsz : s.size ≤ 1000 := by rw [← hs_]; exact HH.out.2 _ (List.getElem_mem hiH)
    have hdr : hs.drop i = s.data.toList :: hs.drop (i + 1) := by
     have hl : i < hs.length := by rw [← HHS.out, List.length_map]; exact hiH
     rw [List.drop_eq_getElem_cons hl]
     congr 1
     subst hs_
     simp [← HHS.out]
    obtain ⟨ba, oa, hA, hba, hcell⟩ := ((HRD.out.1.below (HS.out.b.mono HRD.out.2))).get (f := Value.string) hiH
    rw [hs_] at hcell
    obtain ⟨sl, hsl⟩ : ∃ x, s.data.toList = x := ⟨_, rfl⟩
    have HSL : Hid (s.data.toList = sl ∧ sl.length ≤ 1000 ∧ s.size ≤ 1000000) := Lib.hid ⟨hsl, by rw [← hsl]; simpa using hsz, by omega⟩
    have HTK := Lib.hid (Bil.refTake_eq sl decI_le)
    obtain ⟨er, her⟩ : ∃ x, Bil.optErr l (Bil.take sl) = x := ⟨_, rfl⟩
    have HSTEP : Hid (Bil.replayed (nn : Int) hs = if er = 0 then Bil.replay (Bil.optSt l (Bil.take sl)) (i + 1) (hs.drop (i + 1)) else .inr (i, er)) := Lib.hid (by rw [HRP.out, hdr, hsl, Bil.replay_cons, her])
    have HER := Lib.hid her
    have HIN : Hid (Bil.Inv l 1152921504606846976 ∧ Bil.Inv (Bil.optSt l (Bil.take sl)) (1099511627776 * ((i + 1 : Nat) : Int))) := Lib.hid ⟨inv_mono HS.out.inv (by omega), by
     have h1 := Bil.inv_opt HS.out.inv (by omega) (Bil.take sl)
     have e : (1099511627776 : Int) * (i : Int) + 1099511627776 = 1099511627776 * ((i + 1 : Nat) : Int) := by omega
     rwa [e] at h1⟩
    have HTA := Lib.hid (rTake_any s HSL.out.2.2 wr)
    rw [hsl] at HTA
    have i1 : (i : Int) < (N : Int) := by omega
    subst hA
    clear hiH hs_ hsz hdr hba hsl her HRP
    obtain ⟨o, ho⟩ : ∃ x, Bil.take sl = x := ⟨_, rfl⟩
    cases o with
    | none =>
     have HE6 : Hid (er = 6) := Lib.hid (by rw [← HER.out, ho]; rfl)
     have HO := Lib.hid ho
     clear ho
     go_upto_region 8 with (first
      | (have hgd := r5; refine wpList_storeRow rfl _ (.tmp 8) (.tmp 32) rfl (l' := L) r5 rfl rfl (by rw [hL.1]; exact size5) (by rw [hL.1]; rfl) hL.2 ?_; intro w6 r6 g6 z6)
      | (go_at_call 56; refine HTA.out.mono ?_; rintro e w4 ⟨hb4, hh⟩; (obtain ⟨L, hL, rfl⟩ : ∃ L : List Value, (L.length = 5 ∧ L.all (·.oneCell') = true) ∧ e = .returned (.tuple #[.agg L.toArray, .bool false]) := hh.elim (fun ⟨L, h1, h2, h3, _⟩ => ⟨L, ⟨h1, h2⟩, h3⟩) (fun ⟨x, A, n, c, h1, _⟩ => by rw [HTK.out, HO.out] at h1; cases h1)); have HB4 := Lib.hid hb4; clear hb4 hh)
      | (refine wpList_allocRow rfl _ rfl _ infoBkZ ?_; intro w5 r5 b5 z5))
     have HS6 : Hid (RRepS w w6 bl b4 col m l (1099511627776 * (i : Int))) := Lib.hid (by
      have h4 := HS.out.below HB4.out
      have h5 := h4.below b5
      have hr4 := h4.row.lt
      have hz4 := h4.b.size
      exact h5.store (h4.zero (Nat.le_refl _)) (by omega) hz4 g6)
     have r46 := HS6.out.row
     clear r5 r6 b5 g6 z5 z6
     go_wp2_with (refine wpList_storeRow rfl _ (.tmp 4) (.tmp 37) rfl (l' := [.pointer none, .int .i64 (i : Int), .int .i64 6]) r46 rfl rfl sizeRp rfl rfl ?_; intro w7 r7 g7 z7)
     refine bodyPost_ret (resultRowS rfl _ _ r7 rfl Tryd.underlying56 sizeRp) rfl ⟨(HS6.out.last g7).1, .inr ⟨i, 6, by rw [HSTEP.out, HE6.out]; exact if_neg (by decide), by decide, rfl⟩⟩
    | some x =>
     have hto := Bil.take_ok ho
     have hnx : x.ch.length ≤ 1000 := by have := hto.2.2.2; have := HSL.out.2.1; omega
     have HX := Lib.hid (And.intro hto.1 (And.intro hto.2.1 (And.intro hto.2.2.1 hnx)))
     have HO := Lib.hid ho
     have HD : Hid (er = Bil.doErr l x ∧ (Bil.optSt l (Bil.take sl) = if Bil.doErr l x = 0 then Bil.doSt l x else l)) := Lib.hid ⟨by rw [← HER.out, ho]; rfl, by rw [ho]; rfl⟩
     clear ho hto hnx
     go_upto_region 10 with (first
      | (have hgd := r5; refine wpList_storeRow rfl _ (.tmp 8) (.tmp 32) rfl (l' := bkc ⟨x, A', n', c'⟩) r5 rfl rfl size5 rfl rfl ?_; intro w6 r6 g6 z6)
      | (go_at_call 56; refine HTA.out.mono ?_; rintro e w4 ⟨hb4, hh⟩; (obtain ⟨A', n', c', rfl, hx⟩ : ∃ A' n' c', e = .returned (.tuple #[.agg #[.int .i64 x.kind, .int .i64 x.a, .int .i64 x.b, .int .i64 x.c, .slice A' n' c'], .bool true]) ∧ Hid (x.ch.length = n' ∧ Rd w4 w4.heap.size 1 A' n' (ivs x.ch) ∧ ∀ a, A' = some a → wr.heap.size ≤ a.block) := hh.elim (fun ⟨L, _, _, _, h1⟩ => by rw [HTK.out, HO.out] at h1; cases h1) (fun ⟨x', A', n', c', h1, h2, h3, h4, h5⟩ => by
        rw [HTK.out, HO.out] at h1
        obtain rfl := Option.some.inj h1
        exact ⟨A', n', c', h2, Lib.hid ⟨h3, h4, h5⟩⟩)); have HB4 := Lib.hid hb4; clear hb4 hh)
      | (refine wpList_allocRow rfl _ rfl _ infoBkZ ?_; intro w5 r5 b5 z5))
     have HS6 : Hid (RRepS w w6 bl b4 col m l (1099511627776 * (i : Int)) ∧ Rd w6 w4.heap.size 1 A' n' (ivs x.ch) ∧ w4.heap.size ≤ w6.heap.size) := Lib.hid (by
      have h4 := HS.out.below HB4.out
      have h5 := h4.below b5
      have hr4 := h4.row.lt
      have hz4 := h4.b.size
      refine ⟨h5.store (h4.zero (Nat.le_refl _)) (by omega) hz4 g6, (hx.out.2.1.below b5).grown_below g6 (Nat.le_refl _), ?_⟩
      have := b5.size
      omega)
     have HDO := Lib.hid (rdo_any bl col m l ⟨x, A', n', c'⟩ (by rw [← hx.out.1]; exact HX.out.2.2.2) w4.heap.size w6 ⟨HX.out.1, HX.out.2.1, HX.out.2.2.1, hx.out.1, HS6.out.2.1⟩ HS6.out.1.rat HIN.out.1.ok HIN.out.1.sm (HTW.out _ HS6.out.1.b).2 (HTW.out _ HS6.out.1.b).1 HS6.out.2.2 (fun _ a ha => HS.out.zero (hx.out.2.2 a ha)))
     rw [show Bil.optSt l (Bil.take sl) = _ from HD.out.2] at HIN HSTEP
     rw [show er = _ from HD.out.1] at HSTEP
     have r56 := r6
     clear r5 b5 g6 z5 z6 HS HTA HER
     obtain ⟨ek, hek⟩ : ∃ y, Bil.doErr l x = y := ⟨_, rfl⟩
     have HEK := Lib.hid hek
     rw [hek] at HSTEP HIN
     clear hek
     by_cases he : ek = 0
     ·
      subst he
      go_wp2_with (first
       | (refine wpList_loadS rfl _ (.tmp 8) rfl r56 rfl Tryd.underlying35 size5 ?_)
       | (go_at_call 21; refine HDO.out.mono ?_; rintro e w7 ⟨col', m', rfl, hl7, hk7, hc7⟩; rw [show Bil.doErr l x = 0 from HEK.out]; have HX7 := Lib.hid (And.intro hl7 (And.intro hk7 hc7)); clear hl7 hk7 hc7))
      have HS7 := Lib.hid (HS6.out.1.turn HX7.out.1 HX7.out.2.1 HX7.out.2.2 (by have := HIN.out.2; rw [if_pos True.intro] at this; exact this))
      go_roundw
      case rel => exact ⟨i + 1, col', m', _, by omega, by go_num, Lib.hid (by rw [HSTEP.out, if_pos True.intro, if_pos True.intro]), HS7⟩
      case measure => simp [intOf]; omega
     ·
      have hen : (ek != 0) = true := by rw [bne_iff_ne]; exact he
      have HNE := Lib.hid he
      clear he
      have HXR : Hid (∀ col' m' W, RAt W bl col' m' (Bil.doSt l x) → Keep (fun b => col b ≠ 0 ∧ col b ≠ 6) w6 W → (∀ b, col' b ≠ 0 → col b ≠ 0 ∨ w6.heap.size ≤ b) → RRepS w W bl b4 col' m' (Bil.doSt l x) 1152921504606846976) := Lib.hid fun col' m' W h1 h2 h3 => HS6.out.1.turn h1 h2 h3 (by rw [Bil.doSt_err (by rw [HEK.out]; exact HNE.out)]; exact HIN.out.1)
      go_wp2_with (first
       | (refine wpList_loadS rfl _ (.tmp 8) rfl r56 rfl Tryd.underlying35 size5 ?_)
       | (go_at_call 21; refine HDO.out.mono ?_; rintro e w7 ⟨col', m', rfl, hl7, hk7, hc7⟩; rw [show Bil.doErr l x = ek from HEK.out]; have HS7 := Lib.hid (HXR.out _ _ _ hl7 hk7 hc7); have r47 := HS7.out.row; clear hl7 hk7 hc7)
       | (refine wpList_storeRow rfl _ (.tmp 4) (.tmp 45) rfl (l' := [.pointer none, .int .i64 (i : Int), .int .i64 ek]) r47 rfl rfl sizeRp rfl rfl ?_; intro w8 r8 g8 z8))
      refine bodyPost_ret (resultRowS rfl _ _ r8 rfl Tryd.underlying56 sizeRp) rfl ⟨(HS7.out.last g8).1, .inr ⟨i, ek, by rw [HSTEP.out]; exact if_neg HNE.out, HNE.out, rfl⟩⟩
   ·
    obtain rfl : i = N := by omega
    have hend : hs.drop i = [] := List.drop_of_length_le (by rw [← HHS.out, List.length_map, HH.out.1]; exact Nat.le_refl _)
    have HEND : Hid (Bil.replayed (nn : Int) hs = .inl l) := Lib.hid (by rw [HRP.out, hend]; rfl)
    have r40 := HS.out.row
    clear hend
    go_wp2_with (refine wpList_storeRow rfl _ (.tmp 4) (.tmp 47) rfl (l' := [.pointer (some ⟨bl, 0, none⟩), .int .i64 0, .int .i64 0]) r40 rfl rfl sizeRp rfl rfl ?_; intro w9 r9 g9 z9)
    refine bodyPost_ret (resultRowS rfl _ _ r9 rfl Tryd.underlying56 sizeRp) rfl ⟨(HS.out.last g9).1, .inl ⟨l, bl, col, m, HEND.out, rfl, (HS.out.last g9).2, HS.out.f⟩⟩
 ·
  have HNW := Lib.hid (fun W => rNew_bad n hn W)
  have HRE : Hid (Bil.replayed n (H.map fun s => s.data.toList) = .inr (0, 1)) := Lib.hid (by unfold Bil.replayed; rw [if_neg hn])
  rw [HRE.out]
  clear hn
  go_enter Tryd.func25, Tryd.ntmps25
  go_wp2_with (first
   | (have hgd := r2; refine wpList_storeRow rfl _ (.tmp 4) (.tmp 19) rfl (l' := [.pointer none, .int .i64 0, .int .i64 1]) r2 rfl rfl sizeRp rfl rfl ?_; intro w3 r3 g3 z3)
   | (refine wpList_allocRow rfl _ rfl _ infoRp ?_; intro w1 r1 b1 z1)
   | (go_at_call 16; refine (HNW.out _).mono ?_; rintro e w2 ⟨rfl, hw2⟩; rw [hw2]; have r2 := r1; clear hw2 w2))
  refine bodyPost_ret (resultRowS rfl _ _ r3 rfl Tryd.underlying56 sizeRp) rfl ⟨?_, .inr ⟨0, 1, rfl, by decide, rfl⟩⟩
  exact b1.grown g3 b1.size (fun j hj => by have := Option.some.inj hj; omega)
end Go.Proofs.YtkjomnakolhdcaaDoor
