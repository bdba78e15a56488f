/- Layer 35: the program's Replay. Conditions: at most 60 strings of at most 1000 bytes; the tables are in memory. -/
import Derived.Test.YtkjomnakolhdcaaDoorBilTp
import Derived.Test.YtkjomnakolhdcaaDoorBilRd
import Derived.Test.YtkjomnakolhdcaaDoorBilQT
import Derived.Test.YtkjomnakolhdcaaDoorMaps
namespace Go.Proofs.YtkjomnakolhdcaaDoor
set_option linter.unusedVariables false
set_option linter.unusedSimpArgs false
open Go.RowKit
namespace Bil
theorem replay_cons (l : Lg) (i : Nat) (s : List UInt8) (hs : List (List UInt8)) : replay l i (s :: hs) = if optErr l (take s) = 0 then replay (optSt l (take s)) (i + 1) hs else .inr (i, optErr l (take s)) := by
 cases h : take s with
 | none => simp [replay, h, optErr]
 | some x =>
  simp only [replay, h, optErr, optSt]
  by_cases h0 : doErr l x = 0
  ·
   simp [h0]
  ·
   simp [h0]
theorem inv_opt {l : Lg} {K : Int} (h : Inv l K) (hK : 0 ≤ K) (o : Option Bk) : Inv (optSt l o) (K + 1099511627776) := by
 have hm : Inv l (K + 1099511627776) := inv_mono h (by omega)
 cases o with
 | none => exact hm
 | some x =>
  unfold optSt
  dsimp only
  split
  ·
   exact inv_do h x
  ·
   exact hm
/-- the ledger of a history, or the place and the error -/
def replayed (n : Int) (hs : List (List UInt8)) : Lg ⊕ (Nat × Int) := if 1 ≤ n ∧ n ≤ 16 then replay (newOf n.toNat (newHead n)) 0 hs else .inr (0, 1)
end Bil
section
open Go.ChangeMaps
variable {P : Program} {t k e : TypeId} {α : Type} [DecidableEq α] {kv : α → Value} {w w' : World} {b n : Nat} {M : α → Option Value} {ops : Array Oper} {rest : List Oper} {o : Oper} {a : Act} {Q : Exit → Act → World → Prop}
/-- an entry of a map literal -/
theorem wpList_insR (hg : o.guard = none) (m x v : Operand) (t : TypeId) (hop : o.op = Op.insert t m x v) (K : KeyT P k kv) (ht : P.underlying t = some (.map k e)) (hown : MapIs w b kv M n) (hm : a.eval m = .map (some b)) (y : α) (hx : a.eval x = kv y) (val : Value) (hv : a.eval v = val)
  (hK : ∀ w', MapIs w' b kv (fun z => if z = y then some val else M z) (if (M y).isSome then n else n + 1) → w.mapTurned w' b → wpList P ops Q rest (a.put o.dst undef) w') : wpList P ops Q (o :: rest) a w := by
 refine wpList_plain hg fun K' hK' => ?_
 obtain ⟨w', hrun, r1, r2⟩ := hown.update K ht y val
 unfold Oper.wp
 simp [execOp, hop, hm, hx, hv, hrun, Result.andThen]
 exact hK' _ _ (hK w' r1 r2)
end
theorem keyIR : KeyT Tryd.prog 3 (Value.int .i64) := keyT_int Tryd.underlying3
abbrev F53 : Value := .func (.func 53) #[] #[]
abbrev F54 : Value := .func (.func 54) #[] #[]
def FM (z : Int) : Option Value := if z = 2 then some F54 else if z = 1 then some F53 else none
def BIG : Int := 1152921504606846976
/-- between two strings -/
structure RepS (w W : World) (bl bm : Nat) (col : Nat → Nat) (m : LM) (l : Bil.Lg) (K : Int) : Prop where
 lat : LAt W bl col m l
 f : ∀ b, col b ≠ 0 → w.heap.size ≤ b
 zm : col bm = 0
 hm : w.heap.size ≤ bm
 map : ∃ n, MapIs W bm (Value.int .i64) FM n
 b : Below w.heap.size w W
 inv : Bil.Inv l K
section
variable {w W W' : World} {bl bm : Nat} {col col' : Nat → Nat} {m m' : LM} {l l' : Bil.Lg} {K K' : Int}
theorem RepS.below (h : RepS w W bl bm col m l K) (hb : Below W.heap.size W W') : RepS w W' bl bm col m l K :=
 ⟨h.lat.below hb, h.f, h.zm, h.hm, by obtain ⟨n, hm⟩ := h.map; exact ⟨n, hm.below hb hm.lt⟩, h.b.trans (hb.mono h.b.size), h.inv⟩
theorem RepS.turn (h : RepS w W bl bm col m l K) (hl : LAt W' bl col' m' l') (hk : Keep (fun b => col b ≠ 0) W W') (hc : ∀ b, col' b ≠ 0 → col b ≠ 0 ∨ W.heap.size ≤ b) (hi : Bil.Inv l' K') : RepS w W' bl bm col' m' l' K' := by
 have hz := h.b.size
 obtain ⟨n, hmap⟩ := h.map
 have hlt := hmap.lt
 refine ⟨hl, fun b hb => (hc b hb).elim (h.f b) (by omega), ?_, h.hm, ⟨n, hmap.block (hk.block bm hlt (fun e => e h.zm))⟩, h.b.trans (hk.below hz fun q hq e => by have := h.f q e; omega), hi⟩
 rcases Nat.eq_zero_or_pos (col' bm) with h0 | h0
 ·
  exact h0
 ·
  rcases hc bm (by omega) with h1 | h1
  ·
   exact absurd h.zm h1
  ·
   omega
end
/-- what Replay gives -/
def RepRes (w : World) (R : Bil.Lg ⊕ (Nat × Int)) (e : Ending) (w' : World) : Prop := Below w.heap.size w w' ∧ ((∃ l bl col m, R = .inl l ∧ e = .returned (.tuple #[.pointer (some ⟨bl, 0, none⟩), .int .i64 0, .int .i64 0]) ∧ LAt w' bl col m l ∧ (∀ b, col b ≠ 0 → w.heap.size ≤ b) ∧ Bil.Inv l BIG) ∨
 (∃ (i : Nat) (er : Int), R = .inr (i, er) ∧ er ≠ 0 ∧ e = .returned (.tuple #[.pointer none, .int .i64 (i : Int), .int .i64 er])))
theorem zeroFF (w : World) : (zeroValue 89).run Tryd.prog w = .ok .nilFunc w := by kernel_rfl
set_option maxRecDepth 100000 in
set_option maxHeartbeats 3200000 in
theorem replay_any (n : Int) (A : Option Addr) (N c : Nat) (H : List ByteArray) (hH : H.length = N) (hN : N ≤ 60) (hHs : ∀ s ∈ H, s.size ≤ 1000) (w : World) (B : Nat) (hB : B ≤ w.heap.size) (rd : Rd w B 1 A N (H.map Value.string)) (hT : Tabs w) (hTs : 2 < B ∧ 0 < B) :
  Calls Tryd.prog 24 #[.int .i64 n, .slice A N c] w (RepRes w (Bil.replayed n (H.map fun s => s.data.toList))) := by
 by_cases hn : 1 ≤ n ∧ n ≤ 16
 ·
  obtain ⟨nn, rfl⟩ : ∃ k : Nat, n = (k : Int) := ⟨n.toNat, by omega⟩
  have HNW := Lib.hid (new_any nn (by omega) (by omega) w hT (RG.of hT))
  obtain ⟨hs, hhs⟩ : ∃ x, (H.map fun s => s.data.toList) = x := ⟨_, rfl⟩
  have HHS := Lib.hid hhs
  have HRE : Hid (Bil.replayed (nn : Int) hs = Bil.replay (Bil.newOf nn (newHead nn)) 0 hs) := Lib.hid (by unfold Bil.replayed; rw [if_pos hn, Int.toNat_natCast])
  rw [hhs]
  have HH := Lib.hid (And.intro hH hHs)
  have HTT := Lib.hid (And.intro hT hTs)
  have HRD := Lib.hid (And.intro rd hB)
  have hmm := @run_makeMap Tryd.prog
  have qT : ∀ (w : World) (a : Option Addr) (n c n' c' : Nat), (binOp .eql 29 (.slice a n c) (.slice none n' c')).run Tryd.prog w = .ok (.bool a.isNone) w := fun w a n c n' c' => Lib.run_eql_slice_nil w _ _ a n c n' c' Tryd.underlying29
  have q53 : ∀ w : World, (binOp .eql 89 F53 .nilFunc).run Tryd.prog w = .ok (.bool false) w := fun w => by kernel_rfl
  have q54 : ∀ w : World, (binOp .eql 89 F54 .nilFunc).run Tryd.prog w = .ok (.bool false) w := fun w => by kernel_rfl
  have q0 : ∀ w : World, (binOp .eql 89 .nilFunc .nilFunc).run Tryd.prog w = .ok (.bool true) w := fun w => by kernel_rfl
  clear hn hhs hH hHs hT hTs rd hB
  go_enter Tryd.func24, Tryd.ntmps24
  go_upto_region 4 with (go_at_call 11; refine HNW.out.mono ?_; rintro e w1 ⟨bl, col0, m0, rfl, hl1, hf1, hb1⟩; have HL1 := Lib.hid (And.intro hl1 (And.intro hf1 hb1)); clear hl1 hf1 hb1)
  have h0 : MapIs (w1.alloc (.map #[] 0)) w1.heap.size (Value.int .i64) (fun _ => none) 0 := MapIs.made w1 _
  go_upto_region 5 with (first
   | (refine wpList_insR rfl (.tmp 23) (.const (.int .i64 1)) (.func 53) 91 rfl keyIR Tryd.underlying91 h0 rfl 1 rfl F53 rfl ?_; intro w2 h1 t1)
   | (refine wpList_insR rfl (.tmp 23) (.const (.int .i64 2)) (.func 54) 91 rfl keyIR Tryd.underlying91 h1 rfl 2 rfl F54 rfl ?_; intro w3 h2 t2))
  obtain ⟨bm, hbm⟩ : ∃ x, w1.heap.size = x := ⟨_, rfl⟩
  have HS0 : Hid (RepS w w3 bl bm col0 m0 (Bil.newOf nn (newHead nn)) (1099511627776 * ((0 : Nat) : Int))) := Lib.hid (by
   have hb1 := HL1.out.2.2.size
   have g1 : w1.grownBy w3 none := by
    have ga : w1.grownBy (w1.alloc (.map #[] 0)) none := World.grownBy_alloc _ _ _
    have gb := t1.grown
    have gc := t2.grown
    exact ⟨gc.os.trans (gb.os.trans ga.os), gc.tape.trans (gb.tape.trans ga.tape), gc.output.trans (gb.output.trans ga.output), Nat.le_trans ga.size (Nat.le_trans gb.size gc.size), fun k hk _ => (gc.block k (Nat.lt_of_lt_of_le hk (Nat.le_trans ga.size gb.size)) (fun e => by have := Option.some.inj e; omega)).trans ((gb.block k (Nat.lt_of_lt_of_le hk ga.size) (fun e => by have := Option.some.inj e; omega)).trans (ga.block k hk (fun e => by cases e)))⟩
   have b13 : Below w1.heap.size w1 w3 := (Below.refl _ _).grown g1 (Nat.le_refl _) (fun k e => by cases e)
   refine ⟨HL1.out.1.below b13, HL1.out.2.1, col_zero HL1.out.1 (by omega), by omega, ⟨_, (hbm ▸ h2).congr fun z => ?_⟩, HL1.out.2.2.trans (b13.mono hb1), by simpa using Bil.inv_new nn (newHead nn) 0 (Int.le_refl _)⟩
   rfl)
  rw [hbm]
  clear h0 h1 h2 t1 t2 hbm HL1
  go_wp2_with fail
  go_loopw [27] (fun u27 wr => ∃ (i : Nat) (col : Nat → Nat) (m : LM) (l : Bil.Lg), i ≤ N ∧ u27 = .int .i64 (i : Int) ∧ Hid (Bil.replayed (nn : Int) hs = Bil.replay l i (hs.drop i)) ∧ Hid (RepS w wr bl bm col m l (1099511627776 * (i : Int)))) (fun u27 _ => N - (intOf u27).toNat)
  case atStart => exact ⟨0, col0, m0, _, by omega, rfl, Lib.hid (by rw [HRE.out]; rfl), HS0⟩
  case round =>
   obtain ⟨i, col, m, l, hi, rfl, HRP, HS⟩ := hrel
   by_cases hlt : i < N
   ·
    have hiH : i < H.length := by rw [HH.out.1]; exact hlt
    obtain ⟨s, hs_⟩ : ∃ s, H[i] = s := ⟨_, rfl⟩
    have hsz : s.size ≤ 1000 := by rw [← hs_]; exact HH.out.2 _ (List.getElem_mem hiH)
    have hdr : hs.drop i = s.data.toList :: hs.drop (i + 1) := by
     have hl : i < hs.length := by rw [← HHS.out, List.length_map]; exact hiH
     rw [List.drop_eq_getElem_cons hl]
     congr 1
     subst hs_
     simp [← HHS.out]
    obtain ⟨ba, oa, hA, hba, hcell⟩ := ((HRD.out.1.below (HS.out.b.mono HRD.out.2))).get (f := Value.string) hiH
    rw [hs_] at hcell
    obtain ⟨sl, hsl⟩ : ∃ x, s.data.toList = x := ⟨_, rfl⟩
    have HSL : Hid (s.data.toList = sl ∧ sl.length = s.size ∧ s.size ≤ 1000000 ∧ s.size ≤ 1000) := Lib.hid ⟨hsl, by rw [← hsl]; simp, by omega, hsz⟩
    obtain ⟨er, her⟩ : ∃ x, Bil.optErr l (Bil.take sl) = x := ⟨_, rfl⟩
    have HSTEP : Hid (Bil.replayed (nn : Int) hs = if er = 0 then Bil.replay (Bil.optSt l (Bil.take sl)) (i + 1) (hs.drop (i + 1)) else .inr (i, er)) := Lib.hid (by rw [HRP.out, hdr, hsl, Bil.replay_cons, her])
    have HER := Lib.hid her
    have HIN : Hid (Bil.Inv l 1152921504606846976 ∧ Bil.Inv (Bil.optSt l (Bil.take sl)) (1099511627776 * ((i + 1 : Nat) : Int))) := Lib.hid ⟨inv_mono HS.out.inv (by omega), by
     have h1 := Bil.inv_opt HS.out.inv (by omega) (Bil.take sl)
     have e : (1099511627776 : Int) * (i : Int) + 1099511627776 = 1099511627776 * ((i + 1 : Nat) : Int) := by omega
     rwa [e] at h1⟩
    have i1 : (i : Int) < (N : Int) := by omega
    subst hA
    obtain ⟨sz, hsz_⟩ : ∃ x, s.size = x := ⟨_, rfl⟩
    rw [hsz_] at HSL
    have HSZ := Lib.hid hsz_
    have HTW := Lib.hid (fun (W : World) (hb : Below w.heap.size w W) => (⟨HTT.out.1.k.keep (hb.block _ (Nat.lt_of_lt_of_le HTT.out.2.1 HRD.out.2)), HTT.out.1.s.keep (hb.block _ (Nat.lt_of_lt_of_le HTT.out.2.2 HRD.out.2))⟩ : Tabs W))
    clear hiH hs_ hsz hdr hba hsl her hsz_ HRP
    obtain ⟨o, ho⟩ : ∃ x, Bil.rdN 1 sl = x := ⟨_, rfl⟩
    cases o with
    | none =>
     have HE6 : Hid (er = 6) := Lib.hid (by rw [← HER.out, Bil.take_def, ho]; rfl)
     have HO := Lib.hid ho
     clear ho
     go_wp2_with (first
      | (refine wpList_ofS2 rfl (.tmp 33) 9 58 5 rfl Tryd.underlying9 Tryd.underlying58 Tryd.underlying5 s rfl (by rw [HSZ.out]; exact HSL.out.2.2.1) ?_; intro A3 c3 w3 rd3 hc3 hm3 b3w; rw [HSZ.out]; rw [HSZ.out, HSL.out.1] at rd3; rw [HSZ.out] at hc3; have HC3 := Lib.hid (And.intro rd3 (And.intro hc3 (And.intro hm3 b3w))); clear rd3 hc3 hm3 b3w)
      | (go_at_call 55; refine (numbers_any A3 sz c3 sl HSL.out.2.1 1 (by decide) w3 w3.heap.size (Nat.le_refl _) HC3.out.1 HSL.out.2.2.1 HC3.out.2.1 HC3.out.2.2.1).mono ?_; rintro e w4 ⟨hb4, hh⟩; (obtain ⟨_, rfl⟩ : Bil.rdN 1 sl = none ∧ e = .returned (.tuple #[.slice none 0 0, .slice none 0 0]) := hh.elim id (fun ⟨l', r', _, _, _, _, h1, _⟩ => by rw [HO.out] at h1; cases h1)); have HB4 := Lib.hid hb4; clear hb4 hh))
     go_ret3
     exact ⟨HS.out.b.trans ((HC3.out.2.2.2.trans (HB4.out.mono HC3.out.2.2.2.size)).mono HS.out.b.size), .inr ⟨i, 6, by rw [HSTEP.out, HE6.out]; exact if_neg (by decide), by decide, rfl⟩⟩
    | some p =>
     obtain ⟨x, r⟩ := p
     have hxl := Bil.rdN_len ho
     obtain ⟨x0, rfl⟩ : ∃ x0, x = [x0] := by
      have := hxl.1
      match x, this with
      | [x0], _ => exact ⟨x0, rfl⟩
     obtain ⟨kr, hkr⟩ : ∃ k, r.length = k := ⟨_, rfl⟩
     have HKR : Hid (r.length = kr ∧ kr ≤ 1000) := Lib.hid ⟨hkr, by have := hxl.2.1; have := HSL.out.2.1; have := HSL.out.2.2.2; omega⟩
     have HO := Lib.hid ho
     have HTK : Hid (Bil.take sl = if x0 = 1 then Bil.takeC r else if x0 = 2 then Bil.takeR r else none) := Lib.hid (by rw [Bil.take_def, ho]; simp)
     clear ho hxl hkr
     by_cases hx1 : x0 = 1
     ·
      subst hx1
      have HTK2 : Hid (Bil.take sl = Bil.takeC r) := Lib.hid (by rw [HTK.out]; rfl)
      by_cases he : er = 0
      ·
       subst he
       go_wp2_with (first
        | (refine wpList_ofS2 rfl (.tmp 33) 9 58 5 rfl Tryd.underlying9 Tryd.underlying58 Tryd.underlying5 s rfl (by rw [HSZ.out]; exact HSL.out.2.2.1) ?_; intro A3 c3 w3 rd3 hc3 hm3 b3w; rw [HSZ.out]; rw [HSZ.out, HSL.out.1] at rd3; rw [HSZ.out] at hc3; have HC3 := Lib.hid (And.intro rd3 (And.intro hc3 (And.intro hm3 b3w))); clear rd3 hc3 hm3 b3w)
        | (go_at_call 55; refine (numbers_any A3 sz c3 sl HSL.out.2.1 1 (by decide) w3 w3.heap.size (Nat.le_refl _) HC3.out.1 HSL.out.2.2.1 HC3.out.2.1 HC3.out.2.2.1).mono ?_; rintro e w4 ⟨hb4, hh⟩; (obtain ⟨A1, c1, A2, c2, rfl, hq⟩ : ∃ A1 c1 A2 c2, e = .returned (.tuple #[.slice A1 1 c1, .slice A2 kr c2]) ∧ Hid (w4.ownsRow w3.heap.size 3 1 (.slice A1 1 c1) 1 (ivs [1]) ∧ kr ≤ c2 ∧ c2 ≤ maxLen ∧ Rd w4 w3.heap.size 1 A2 kr (bvs r)) := hh.elim (fun hh => by have := hh.1; rw [HO.out] at this; cases this) (fun ⟨l', r', A1, c1, A2, c2, h1, h2, h3, h4, h5, h6⟩ => by
        rw [HO.out] at h1
        have h1 := Option.some.inj h1
        obtain ⟨rfl, rfl⟩ : [1] = l' ∧ r = r' := ⟨congrArg Prod.fst h1, congrArg Prod.snd h1⟩
        exact ⟨A1, c1, A2, c2, by rw [h2, HKR.out.1], Lib.hid ⟨h3, by rw [HKR.out.1] at h4; exact h4, h5, by rw [HKR.out.1] at h6; exact h6⟩⟩)); (obtain ⟨g, hg⟩ : ∃ g, A1 = some ⟨g, 0, none⟩ := (by obtain ⟨g, cap, hv, _, _⟩ := hq.out.1.form (by omega); injection hv with hA _ _; exact ⟨g, hA⟩)); subst hg; have HB4 := Lib.hid hb4; have HS4 := Lib.hid ((HS.out.below HC3.out.2.2.2).below hb4); have hx : w4.cell? ⟨g, 0, none⟩ = some (.int .i64 1) := own_at hq.out.1 (t := 0) Nat.zero_lt_one; have hlk : (Instr.lookup 91 (.map (some bm)) (.int .i64 1) false).run Tryd.prog w4 = .ok F53 w4 := (by obtain ⟨n_, hm_⟩ := HS4.out.map; exact hm_.look1 keyIR Tryd.underlying91 (zeroFF _) 1 rfl); clear hb4 hh)
        | (go_at_call 53; refine (replayClose_any bl col m l A2 kr c2 r HKR.out.1 w4 w3.heap.size HB4.out.size hq.out.2.2.2 HKR.out.2 hq.out.2.1 hq.out.2.2.1 HS4.out.lat HIN.out.1.ok HIN.out.1.sm (HTW.out _ HS4.out.b) (RG.of (HTW.out _ HS4.out.b))).mono ?_; rintro e w5 ⟨col', m', rfl, hl5, hk5, hc5⟩; rw [show Bil.optErr l (Bil.takeC r) = 0 from by rw [← HTK2.out]; exact HER.out]; have HX5 := Lib.hid (And.intro hl5 (And.intro hk5 hc5)); clear hl5 hk5 hc5))
       have hl6 := HX5.out.1
       rw [← HTK2.out] at hl6
       have HT5 := Lib.hid (HS4.out.turn hl6 HX5.out.2.1 HX5.out.2.2 HIN.out.2)
       clear hl6
       go_roundw
       case rel => exact ⟨i + 1, col', m', _, by omega, by go_num, Lib.hid (by rw [HSTEP.out]; exact if_pos (by trivial)), HT5⟩
       case measure => simp [intOf]; omega
      ·
       have hen : (er != 0) = true := by rw [bne_iff_ne]; exact he
       have HNE := Lib.hid he
       clear he
       go_wp2_with (first
        | (refine wpList_ofS2 rfl (.tmp 33) 9 58 5 rfl Tryd.underlying9 Tryd.underlying58 Tryd.underlying5 s rfl (by rw [HSZ.out]; exact HSL.out.2.2.1) ?_; intro A3 c3 w3 rd3 hc3 hm3 b3w; rw [HSZ.out]; rw [HSZ.out, HSL.out.1] at rd3; rw [HSZ.out] at hc3; have HC3 := Lib.hid (And.intro rd3 (And.intro hc3 (And.intro hm3 b3w))); clear rd3 hc3 hm3 b3w)
        | (go_at_call 55; refine (numbers_any A3 sz c3 sl HSL.out.2.1 1 (by decide) w3 w3.heap.size (Nat.le_refl _) HC3.out.1 HSL.out.2.2.1 HC3.out.2.1 HC3.out.2.2.1).mono ?_; rintro e w4 ⟨hb4, hh⟩; (obtain ⟨A1, c1, A2, c2, rfl, hq⟩ : ∃ A1 c1 A2 c2, e = .returned (.tuple #[.slice A1 1 c1, .slice A2 kr c2]) ∧ Hid (w4.ownsRow w3.heap.size 3 1 (.slice A1 1 c1) 1 (ivs [1]) ∧ kr ≤ c2 ∧ c2 ≤ maxLen ∧ Rd w4 w3.heap.size 1 A2 kr (bvs r)) := hh.elim (fun hh => by have := hh.1; rw [HO.out] at this; cases this) (fun ⟨l', r', A1, c1, A2, c2, h1, h2, h3, h4, h5, h6⟩ => by
        rw [HO.out] at h1
        have h1 := Option.some.inj h1
        obtain ⟨rfl, rfl⟩ : [1] = l' ∧ r = r' := ⟨congrArg Prod.fst h1, congrArg Prod.snd h1⟩
        exact ⟨A1, c1, A2, c2, by rw [h2, HKR.out.1], Lib.hid ⟨h3, by rw [HKR.out.1] at h4; exact h4, h5, by rw [HKR.out.1] at h6; exact h6⟩⟩)); (obtain ⟨g, hg⟩ : ∃ g, A1 = some ⟨g, 0, none⟩ := (by obtain ⟨g, cap, hv, _, _⟩ := hq.out.1.form (by omega); injection hv with hA _ _; exact ⟨g, hA⟩)); subst hg; have HB4 := Lib.hid hb4; have HS4 := Lib.hid ((HS.out.below HC3.out.2.2.2).below hb4); have hx : w4.cell? ⟨g, 0, none⟩ = some (.int .i64 1) := own_at hq.out.1 (t := 0) Nat.zero_lt_one; have hlk : (Instr.lookup 91 (.map (some bm)) (.int .i64 1) false).run Tryd.prog w4 = .ok F53 w4 := (by obtain ⟨n_, hm_⟩ := HS4.out.map; exact hm_.look1 keyIR Tryd.underlying91 (zeroFF _) 1 rfl); clear hb4 hh)
        | (go_at_call 53; refine (replayClose_any bl col m l A2 kr c2 r HKR.out.1 w4 w3.heap.size HB4.out.size hq.out.2.2.2 HKR.out.2 hq.out.2.1 hq.out.2.2.1 HS4.out.lat HIN.out.1.ok HIN.out.1.sm (HTW.out _ HS4.out.b) (RG.of (HTW.out _ HS4.out.b))).mono ?_; rintro e w5 ⟨col', m', rfl, hl5, hk5, hc5⟩; rw [show Bil.optErr l (Bil.takeC r) = er from by rw [← HTK2.out]; exact HER.out]; have HX5 := Lib.hid (And.intro hl5 (And.intro hk5 hc5)); clear hl5 hk5 hc5))
       have hl6 := HX5.out.1
       rw [← HTK2.out] at hl6
       have HT5 := Lib.hid (HS4.out.turn hl6 HX5.out.2.1 HX5.out.2.2 HIN.out.2)
       clear hl6
       go_ret3
       exact ⟨HT5.out.b, .inr ⟨i, er, by rw [HSTEP.out]; exact if_neg HNE.out, HNE.out, rfl⟩⟩
     ·
      by_cases hx2 : x0 = 2
      ·
       subst hx2
       have HTK2 : Hid (Bil.take sl = Bil.takeR r) := Lib.hid (by rw [HTK.out]; rfl)
       clear hx1
       by_cases he : er = 0
       ·
        subst he
        go_wp2_with (first
         | (refine wpList_ofS2 rfl (.tmp 33) 9 58 5 rfl Tryd.underlying9 Tryd.underlying58 Tryd.underlying5 s rfl (by rw [HSZ.out]; exact HSL.out.2.2.1) ?_; intro A3 c3 w3 rd3 hc3 hm3 b3w; rw [HSZ.out]; rw [HSZ.out, HSL.out.1] at rd3; rw [HSZ.out] at hc3; have HC3 := Lib.hid (And.intro rd3 (And.intro hc3 (And.intro hm3 b3w))); clear rd3 hc3 hm3 b3w)
         | (go_at_call 55; refine (numbers_any A3 sz c3 sl HSL.out.2.1 1 (by decide) w3 w3.heap.size (Nat.le_refl _) HC3.out.1 HSL.out.2.2.1 HC3.out.2.1 HC3.out.2.2.1).mono ?_; rintro e w4 ⟨hb4, hh⟩; (obtain ⟨A1, c1, A2, c2, rfl, hq⟩ : ∃ A1 c1 A2 c2, e = .returned (.tuple #[.slice A1 1 c1, .slice A2 kr c2]) ∧ Hid (w4.ownsRow w3.heap.size 3 1 (.slice A1 1 c1) 1 (ivs [2]) ∧ kr ≤ c2 ∧ c2 ≤ maxLen ∧ Rd w4 w3.heap.size 1 A2 kr (bvs r)) := hh.elim (fun hh => by have := hh.1; rw [HO.out] at this; cases this) (fun ⟨l', r', A1, c1, A2, c2, h1, h2, h3, h4, h5, h6⟩ => by
        rw [HO.out] at h1
        have h1 := Option.some.inj h1
        obtain ⟨rfl, rfl⟩ : [2] = l' ∧ r = r' := ⟨congrArg Prod.fst h1, congrArg Prod.snd h1⟩
        exact ⟨A1, c1, A2, c2, by rw [h2, HKR.out.1], Lib.hid ⟨h3, by rw [HKR.out.1] at h4; exact h4, h5, by rw [HKR.out.1] at h6; exact h6⟩⟩)); (obtain ⟨g, hg⟩ : ∃ g, A1 = some ⟨g, 0, none⟩ := (by obtain ⟨g, cap, hv, _, _⟩ := hq.out.1.form (by omega); injection hv with hA _ _; exact ⟨g, hA⟩)); subst hg; have HB4 := Lib.hid hb4; have HS4 := Lib.hid ((HS.out.below HC3.out.2.2.2).below hb4); have hx : w4.cell? ⟨g, 0, none⟩ = some (.int .i64 2) := own_at hq.out.1 (t := 0) Nat.zero_lt_one; have hlk : (Instr.lookup 91 (.map (some bm)) (.int .i64 2) false).run Tryd.prog w4 = .ok F54 w4 := (by obtain ⟨n_, hm_⟩ := HS4.out.map; exact hm_.look1 keyIR Tryd.underlying91 (zeroFF _) 2 rfl); clear hb4 hh)
         | (go_at_call 54; refine (replayCredit_any bl col m l A2 kr c2 r HKR.out.1 w4 w3.heap.size HB4.out.size hq.out.2.2.2 HKR.out.2 hq.out.2.1 hq.out.2.2.1 HS4.out.lat HIN.out.1.ok HIN.out.1.sm (HTW.out _ HS4.out.b) (RG.of (HTW.out _ HS4.out.b))).mono ?_; rintro e w5 ⟨col', m', rfl, hl5, hk5, hc5⟩; rw [show Bil.optErr l (Bil.takeR r) = 0 from by rw [← HTK2.out]; exact HER.out]; have HX5 := Lib.hid (And.intro hl5 (And.intro hk5 hc5)); clear hl5 hk5 hc5))
        have hl6 := HX5.out.1
        rw [← HTK2.out] at hl6
        have HT5 := Lib.hid (HS4.out.turn hl6 HX5.out.2.1 HX5.out.2.2 HIN.out.2)
        clear hl6
        go_roundw
        case rel => exact ⟨i + 1, col', m', _, by omega, by go_num, Lib.hid (by rw [HSTEP.out]; exact if_pos (by trivial)), HT5⟩
        case measure => simp [intOf]; omega
       ·
        have hen : (er != 0) = true := by rw [bne_iff_ne]; exact he
        have HNE := Lib.hid he
        clear he
        go_wp2_with (first
         | (refine wpList_ofS2 rfl (.tmp 33) 9 58 5 rfl Tryd.underlying9 Tryd.underlying58 Tryd.underlying5 s rfl (by rw [HSZ.out]; exact HSL.out.2.2.1) ?_; intro A3 c3 w3 rd3 hc3 hm3 b3w; rw [HSZ.out]; rw [HSZ.out, HSL.out.1] at rd3; rw [HSZ.out] at hc3; have HC3 := Lib.hid (And.intro rd3 (And.intro hc3 (And.intro hm3 b3w))); clear rd3 hc3 hm3 b3w)
         | (go_at_call 55; refine (numbers_any A3 sz c3 sl HSL.out.2.1 1 (by decide) w3 w3.heap.size (Nat.le_refl _) HC3.out.1 HSL.out.2.2.1 HC3.out.2.1 HC3.out.2.2.1).mono ?_; rintro e w4 ⟨hb4, hh⟩; (obtain ⟨A1, c1, A2, c2, rfl, hq⟩ : ∃ A1 c1 A2 c2, e = .returned (.tuple #[.slice A1 1 c1, .slice A2 kr c2]) ∧ Hid (w4.ownsRow w3.heap.size 3 1 (.slice A1 1 c1) 1 (ivs [2]) ∧ kr ≤ c2 ∧ c2 ≤ maxLen ∧ Rd w4 w3.heap.size 1 A2 kr (bvs r)) := hh.elim (fun hh => by have := hh.1; rw [HO.out] at this; cases this) (fun ⟨l', r', A1, c1, A2, c2, h1, h2, h3, h4, h5, h6⟩ => by
        rw [HO.out] at h1
        have h1 := Option.some.inj h1
        obtain ⟨rfl, rfl⟩ : [2] = l' ∧ r = r' := ⟨congrArg Prod.fst h1, congrArg Prod.snd h1⟩
        exact ⟨A1, c1, A2, c2, by rw [h2, HKR.out.1], Lib.hid ⟨h3, by rw [HKR.out.1] at h4; exact h4, h5, by rw [HKR.out.1] at h6; exact h6⟩⟩)); (obtain ⟨g, hg⟩ : ∃ g, A1 = some ⟨g, 0, none⟩ := (by obtain ⟨g, cap, hv, _, _⟩ := hq.out.1.form (by omega); injection hv with hA _ _; exact ⟨g, hA⟩)); subst hg; have HB4 := Lib.hid hb4; have HS4 := Lib.hid ((HS.out.below HC3.out.2.2.2).below hb4); have hx : w4.cell? ⟨g, 0, none⟩ = some (.int .i64 2) := own_at hq.out.1 (t := 0) Nat.zero_lt_one; have hlk : (Instr.lookup 91 (.map (some bm)) (.int .i64 2) false).run Tryd.prog w4 = .ok F54 w4 := (by obtain ⟨n_, hm_⟩ := HS4.out.map; exact hm_.look1 keyIR Tryd.underlying91 (zeroFF _) 2 rfl); clear hb4 hh)
         | (go_at_call 54; refine (replayCredit_any bl col m l A2 kr c2 r HKR.out.1 w4 w3.heap.size HB4.out.size hq.out.2.2.2 HKR.out.2 hq.out.2.1 hq.out.2.2.1 HS4.out.lat HIN.out.1.ok HIN.out.1.sm (HTW.out _ HS4.out.b) (RG.of (HTW.out _ HS4.out.b))).mono ?_; rintro e w5 ⟨col', m', rfl, hl5, hk5, hc5⟩; rw [show Bil.optErr l (Bil.takeR r) = er from by rw [← HTK2.out]; exact HER.out]; have HX5 := Lib.hid (And.intro hl5 (And.intro hk5 hc5)); clear hl5 hk5 hc5))
        have hl6 := HX5.out.1
        rw [← HTK2.out] at hl6
        have HT5 := Lib.hid (HS4.out.turn hl6 HX5.out.2.1 HX5.out.2.2 HIN.out.2)
        clear hl6
        go_ret3
        exact ⟨HT5.out.b, .inr ⟨i, er, by rw [HSTEP.out]; exact if_neg HNE.out, HNE.out, rfl⟩⟩
      ·
       have HE6 : Hid (er = 6) := Lib.hid (by rw [← HER.out, HTK.out, if_neg hx1, if_neg hx2]; rfl)
       have HGD : Hid ((FM x0).getD .nilFunc = .nilFunc) := Lib.hid (by unfold FM; rw [if_neg hx2, if_neg hx1]; rfl)
       clear hx1 hx2
       go_wp2_with (first
        | (refine wpList_ofS2 rfl (.tmp 33) 9 58 5 rfl Tryd.underlying9 Tryd.underlying58 Tryd.underlying5 s rfl (by rw [HSZ.out]; exact HSL.out.2.2.1) ?_; intro A3 c3 w3 rd3 hc3 hm3 b3w; rw [HSZ.out]; rw [HSZ.out, HSL.out.1] at rd3; rw [HSZ.out] at hc3; have HC3 := Lib.hid (And.intro rd3 (And.intro hc3 (And.intro hm3 b3w))); clear rd3 hc3 hm3 b3w)
        | (go_at_call 55; refine (numbers_any A3 sz c3 sl HSL.out.2.1 1 (by decide) w3 w3.heap.size (Nat.le_refl _) HC3.out.1 HSL.out.2.2.1 HC3.out.2.1 HC3.out.2.2.1).mono ?_; rintro e w4 ⟨hb4, hh⟩; (obtain ⟨A1, c1, A2, c2, rfl, hq⟩ : ∃ A1 c1 A2 c2, e = .returned (.tuple #[.slice A1 1 c1, .slice A2 kr c2]) ∧ Hid (w4.ownsRow w3.heap.size 3 1 (.slice A1 1 c1) 1 (ivs [x0]) ∧ kr ≤ c2 ∧ c2 ≤ maxLen ∧ Rd w4 w3.heap.size 1 A2 kr (bvs r)) := hh.elim (fun hh => by have := hh.1; rw [HO.out] at this; cases this) (fun ⟨l', r', A1, c1, A2, c2, h1, h2, h3, h4, h5, h6⟩ => by
        rw [HO.out] at h1
        have h1 := Option.some.inj h1
        obtain ⟨rfl, rfl⟩ : [x0] = l' ∧ r = r' := ⟨congrArg Prod.fst h1, congrArg Prod.snd h1⟩
        exact ⟨A1, c1, A2, c2, by rw [h2, HKR.out.1], Lib.hid ⟨h3, by rw [HKR.out.1] at h4; exact h4, h5, by rw [HKR.out.1] at h6; exact h6⟩⟩)); (obtain ⟨g, hg⟩ : ∃ g, A1 = some ⟨g, 0, none⟩ := (by obtain ⟨g, cap, hv, _, _⟩ := hq.out.1.form (by omega); injection hv with hA _ _; exact ⟨g, hA⟩)); subst hg; have HB4 := Lib.hid hb4; have HS4 := Lib.hid ((HS.out.below HC3.out.2.2.2).below hb4); have hx : w4.cell? ⟨g, 0, none⟩ = some (.int .i64 x0) := own_at hq.out.1 (t := 0) Nat.zero_lt_one; have hlk : (Instr.lookup 91 (.map (some bm)) (.int .i64 x0) false).run Tryd.prog w4 = .ok .nilFunc w4 := (by obtain ⟨n_, hm_⟩ := HS4.out.map; exact hm_.look1 keyIR Tryd.underlying91 (zeroFF _) x0 HGD.out); clear hb4 hh)
       )
       go_ret3
       exact ⟨HS.out.b.trans ((HC3.out.2.2.2.trans (HB4.out.mono HC3.out.2.2.2.size)).mono HS.out.b.size), .inr ⟨i, 6, by rw [HSTEP.out, HE6.out]; exact if_neg (by decide), by decide, rfl⟩⟩
   ·
    obtain rfl : i = N := by omega
    have hend : hs.drop i = [] := List.drop_of_length_le (by rw [← HHS.out, List.length_map, HH.out.1]; exact Nat.le_refl _)
    have HEND : Hid (Bil.replayed (nn : Int) hs = .inl l) := Lib.hid (by rw [HRP.out, hend]; rfl)
    clear hend
    go_wp2_with fail
    go_ret3
    exact ⟨HS.out.b, .inl ⟨l, bl, col, m, HEND.out, rfl, HS.out.lat, HS.out.f, inv_mono HS.out.inv (by unfold BIG; omega)⟩⟩
 ·
  have HNW := Lib.hid (new_bad n hn w)
  have HRE : Hid (Bil.replayed n (H.map fun s => s.data.toList) = .inr (0, 1)) := Lib.hid (by unfold Bil.replayed; rw [if_neg hn])
  rw [HRE.out]
  clear hn
  go_enter Tryd.func24, Tryd.ntmps24
  go_wp2_with (go_at_call 11; refine HNW.out.mono ?_; rintro e w1 ⟨rfl, hw1⟩; rw [hw1]; clear hw1 w1)
  go_ret3
  exact ⟨Below.refl _ _, .inr ⟨0, 1, rfl, by decide, rfl⟩⟩
end Go.Proofs.YtkjomnakolhdcaaDoor
