/- Joined texts: MkP, Inp, Inp2, Dig, DigEq, SplitN, RootW. Conditions: as each part says. -/
import Derived.Test.YtfnbcchmembomaaDoorShaBase
import Derived.Test.YtfnbcchmembomaaDoorWireDecPlain
import Derived.Test.YtfnbcchmembomaaDoorShaSum
import Derived.Laws.Cover3
import Derived.Stop.BytesEq
import Derived.WalkSpells
import Derived.Test.YtfnbcchmembomaaDoorBitsLen
import Derived.Lib.BitFns
import Derived.Test.YtfnbcchmembomaaDoorDvs
import Derived.Deep.RegionLaw
namespace Go.Proofs.YtfnbcchmembomaaDoor
set_option linter.unusedVariables false
set_option linter.unusedSimpArgs false
/-! Digests and Merkle trees in plain Lean. No condition. -/
section
namespace Mk
def byte (tag : Int) : UInt8 := UInt8.ofNat (tag % 256).toNat
/-- the input of a digest -/
def input (tag : Int) (parts : List ByteArray) : List UInt8 := [byte tag] ++ parts.flatMap fun s => Wire.encB s.data.toList
def short (l : List UInt8) : List UInt8 := (Sha.sum l).take 16
def of (tag : Int) (parts : List ByteArray) : List UInt8 := short (input tag parts)
/-- a digest as a string -/
def str (d : List UInt8) : ByteArray := ⟨d.toArray⟩
def leaf (d : List UInt8) : List UInt8 := input 1 [str d]
def node (a b : List UInt8) : List UInt8 := input 2 [str a, str b]
/-- the greatest power of 2 below n -/
def split (n : Nat) : Nat := 2 ^ Nat.log2 (n - 1)
def rootF : Nat → List (List UInt8) → List UInt8
  | 0, _ => of 1 []
  | f + 1, l => if l.length = 0 then of 1 [] else if l.length = 1 then short (leaf (l.getD 0 [])) else short (node (rootF f (l.take (split l.length))) (rootF f (l.drop (split l.length))))
def root (l : List (List UInt8)) : List UInt8 := rootF l.length l
theorem split_pos (n : Nat) : 1 ≤ split n := Nat.one_le_two_pow
theorem split_lt {n : Nat} (h : 2 ≤ n) : split n < n := by
  have := Nat.log2_self_le (n := n - 1) (by omega)
  unfold split; omega
theorem split_two {n : Nat} (h : 2 ≤ n) : n ≤ 2 * split n := by
  have := Nat.lt_log2_self (n := n - 1)
  unfold split
  rw [Nat.pow_succ] at this
  omega
theorem split_unique {n k : Nat} (hk : ∃ e, k = 2 ^ e) (h1 : k < n) (h2 : n ≤ 2 * k) : k = split n := by
  obtain ⟨e, rfl⟩ := hk
  unfold split
  congr 1
  have hp : 0 < 2 ^ e := Nat.two_pow_pos e
  refine ((Nat.log2_eq_iff (by omega)).2 ⟨by omega, ?_⟩).symm
  rw [Nat.pow_succ]; omega
theorem rootF_eq : ∀ (f g : Nat) (l : List (List UInt8)), l.length ≤ f → l.length ≤ g → rootF f l = rootF g l
  | 0, 0, l, _, _ => rfl
  | 0, g + 1, l, h, _ => by
    have : l.length = 0 := by omega
    simp [rootF, this]
  | f + 1, 0, l, _, h => by
    have : l.length = 0 := by omega
    simp [rootF, this]
  | f + 1, g + 1, l, hf, hg => by
    unfold rootF
    by_cases h0 : l.length = 0
    · simp [h0]
    · by_cases h1 : l.length = 1
      · simp [h1]
      · have := split_lt (n := l.length) (by omega)
        have := split_pos l.length
        rw [if_neg h0, if_neg h1, if_neg h0, if_neg h1, rootF_eq f g _ (by rw [List.length_take]; omega) (by rw [List.length_take]; omega), rootF_eq f g (l.drop _) (by rw [List.length_drop]; omega) (by rw [List.length_drop]; omega)]
theorem root_zero {l : List (List UInt8)} (h : l.length = 0) : root l = of 1 [] := by unfold root; rw [h]; rfl
theorem root_one {l : List (List UInt8)} (h : l.length = 1) : root l = short (leaf (l.getD 0 [])) := by unfold root; rw [h, rootF, if_neg (by omega), if_pos h]
theorem root_more {l : List (List UInt8)} (h : 2 ≤ l.length) : root l = short (node (root (l.take (split l.length))) (root (l.drop (split l.length)))) := by
  have h1 := split_lt h
  have h2 := split_pos l.length
  obtain ⟨m, hm⟩ : ∃ m, l.length = m + 1 := ⟨l.length - 1, by omega⟩
  have e : root l = rootF (m + 1) l := by unfold root; rw [hm]
  rw [e, rootF, if_neg (by omega), if_neg (by omega)]
  unfold root
  rw [rootF_eq m (l.take (split l.length)).length _ (by rw [List.length_take]; omega) (Nat.le_refl _), rootF_eq m (l.drop (split l.length)).length _ (by rw [List.length_drop]; omega) (Nat.le_refl _)]
theorem short_len (l : List UInt8) : (short l).length = 16 := by unfold short; rw [List.length_take, Sha.sum_len]; rfl
theorem root_len (l : List (List UInt8)) : (root l).length = 16 := by
  by_cases h0 : l.length = 0
  · rw [root_zero h0]; exact short_len _
  · by_cases h1 : l.length = 1
    · rw [root_one h1]; exact short_len _
    · rw [root_more (by omega)]; exact short_len _
end Mk
end
/-! The input of a digest, and the digest of it: walks of digest's input, short, Of and of the reference's Input, Short, Of. -/
section
open Go.RowKit
/-- the cells of a list of strings -/
abbrev svs (l : List ByteArray) : List Value := l.map Value.string
theorem svs_one (l : List ByteArray) : ∀ u ∈ svs l, u.oneCell' = true := by
  intro u hu; simp only [svs, List.mem_map] at hu; obtain ⟨x, _, rfl⟩ := hu; rfl
/-- the package variables hold what their initialisers lay -/
structure Tabs (w : World) : Prop where
  k : HasRow w 2 (wvs Sha.K)
  s : HasRow w 0 (wvs Sha.start.list)
theorem Tabs.below {w w' : World} (h : Tabs w) (hb : Below w.heap.size w w') : Tabs w' := ⟨h.k.below' hb, h.s.below' hb⟩
theorem Tabs.drewN {w : World} (h : Tabs w) (n : Nat) : Tabs (w.drewN n) := ⟨h.k, h.s⟩
/-- and the reference's -/
structure RTab (w : World) : Prop where
  r : HasRow w 1 (wvs Sha.K)
theorem RTab.below {w w' : World} (h : RTab w) (hb : Below w.heap.size w w') : RTab w' := ⟨h.r.below' hb⟩
theorem RTab.drewN {w : World} (h : RTab w) (n : Nat) : RTab (w.drewN n) := ⟨h.r⟩
theorem byte_val (tag : Int) : IntKind.u8.wrap tag = ((Mk.byte tag).toNat : Int) := by
  rw [IntKind.wrap_u8', Mk.byte, UInt8.toNat_ofNat']
  simp only [Nat.reducePow]
  omega
theorem input_take {tag : Int} {parts : List ByteArray} {k : Nat} (h : k < parts.length) : Mk.input tag (parts.take (k + 1)) = Mk.input tag (parts.take k) ++ Wire.encB parts[k].data.toList := by
  unfold Mk.input
  rw [List.take_succ_eq_append_getElem h, List.flatMap_append, List.append_assoc]
  simp
theorem input_mono (tag : Int) (parts : List ByteArray) (k : Nat) : (Mk.input tag (parts.take k)).length ≤ (Mk.input tag parts).length := by
  have h : Mk.input tag parts = Mk.input tag (parts.take k) ++ (parts.drop k).flatMap fun s => Wire.encB s.data.toList := by
    unfold Mk.input
    conv => lhs; rw [← List.take_append_drop k parts]
    rw [List.flatMap_append, List.append_assoc]
  rw [h, List.length_append]; omega
theorem encB_ge (l : List UInt8) : l.length ≤ (Wire.encB l).length := by unfold Wire.encB; rw [List.length_append]; omega
set_option maxHeartbeats 800000 in
theorem input_any (tag : Int) (A : Option Addr) (n c : Nat) (parts : List ByteArray) (hl : parts.length = n) (B : Nat) (w : World) (hr : Rd w B 1 A n (svs parts)) (hB : B ≤ w.heap.size) (N : Nat) (hN : (Mk.input tag parts).length = N) (hb : N ≤ 1099511627776) :
    Calls Tryd.prog 37 #[.int .i64 tag, .slice A n c] w fun e w' => ∃ A' c', e = .returned (.slice A' N c') ∧ w'.ownsRow w.heap.size 5 1 (.slice A' N c') N (bvs (Mk.input tag parts)) ∧ Below w.heap.size w w' := by
  have hn : n ≤ N := by
    rw [← hN, ← hl]
    have : ∀ l : List ByteArray, l.length ≤ (l.flatMap fun s => Wire.encB s.data.toList).length := by
      intro l
      induction l with
      | nil => simp
      | cons x l ih =>
        have h1 : 1 ≤ (Wire.encB x.data.toList).length := by unfold Wire.encB; rw [List.length_append, Wire.enc_length]; omega
        simp only [List.flatMap_cons, List.length_append, List.length_cons]
        omega
    have := this parts
    unfold Mk.input
    rw [List.length_append]; omega
  have HN := Lib.hid hN
  have HL := Lib.hid hl
  have hbv := byte_val tag
  clear hN hl
  generalize hby : Mk.byte tag = y at hbv
  have HBY := Lib.hid hby
  clear hby
  go_enter Tryd.func37, Tryd.ntmps37
  go_wp2
  have own0 := own_one' (w := w) (v := .int .u8 (y.toNat : Int)) rfl (e := 5)
  have e0 : Mk.input tag (parts.take 0) = [y] := by rw [← HBY.out]; simp [Mk.input]
  go_loopw [5, 13] (fun u5 u13 wr => ∃ (k m : Nat) (A' : Option Addr) (c' : Nat), k ≤ n ∧ u13 = .int .i64 k ∧ u5 = .slice A' m c' ∧ Hid ((Mk.input tag (parts.take k)).length = m) ∧ m ≤ N ∧
     wr.ownsRow w.heap.size 5 1 (.slice A' m c') m (bvs (Mk.input tag (parts.take k))) ∧ Below w.heap.size w wr) (fun _ u _ => n - (intOf u).toNat)
  case atStart => exact ⟨0, 1, _, 1, by omega, rfl, rfl, by rw [e0]; rfl, by rw [← HN.out]; have := input_mono tag parts 0; rw [e0] at this; simpa using this, by rw [e0]; exact own0, (Below.refl _ _).alloc (Nat.le_refl _) _⟩
  case round =>
    clear own0 e0
    obtain ⟨k, m, A2, c2, hk, rfl, rfl, HM, hmN, own2, hb2⟩ := hrel
    by_cases hlt : k < n
    · obtain ⟨bb, ob, rfl, _, hc⟩ := (hr.below (hb2.mono hB)).get (show k < parts.length by rw [HL.out]; exact hlt)
      have hsn := input_take (tag := tag) (parts := parts) (k := k) (by rw [HL.out]; exact hlt)
      have hmono := input_mono tag parts (k + 1)
      rw [HN.out, hsn, List.length_append, HM.out] at hmono
      generalize parts[k]'(by rw [HL.out]; exact hlt) = x at *
      have hge := encB_ge x.data.toList
      have hsz : x.data.toList.length = x.size := by simp
      rw [hsz] at hge
      obtain ⟨f, hf⟩ : ∃ f, (Wire.encB x.data.toList).length = f := ⟨_, rfl⟩
      rw [hf] at hge hmono
      have HF := Lib.hid hf
      have HSN := Lib.hid hsn
      have hwb := wireBytes_any x (by omega)
      rw [hf] at hwb
      have HWB := Lib.hid hwb
      clear hwb hsz hf hsn
      go_wp2_with (first
        | (go_at_call 57; refine (HWB.out _).mono ?_; rintro e w3 ⟨A3, c3, rfl, own3, hb3⟩)
        | (at_builtin; refine wpList_appR rfl (.tmp 17) (.tmp 19) 22 rfl w.heap.size 5 _ 1 1 bytesE A2 m c2 _ A3 f c3 _ rfl rfl (own_below own2 hb3) (Rd.of_own own3) (bvs_one _) (hb2.trans (hb3.mono hb2.size)) (by omega) (Nat.le_refl _) (Nat.le_trans hb2.size hb3.size) ?_; intro A4 c4 w4 own4 hb4))
      go_roundw
      case rel => exact ⟨k + 1, m + f, A4, c4, by omega, by go_num, rfl, (show _ = _ from by rw [HSN.out, List.length_append, HM.out, HF.out]), by omega, by rw [HSN.out, ← bvs_append]; exact own4, hb4⟩
      case measure => simp [intOf]; omega
    · obtain rfl : k = n := by omega
      have hfull : Mk.input tag (parts.take k) = Mk.input tag parts := by rw [List.take_of_length_le (by rw [HL.out]; exact Nat.le_refl _)]
      have hmm : m = N := by rw [← HM.out, hfull, HN.out]
      rw [hfull] at own2
      have HMM := Lib.hid hmm
      clear hfull hmm
      go_wp2
      go_ret
      have e := HMM.out
      subst e
      exact ⟨A2, c2, rfl, own2, hb2⟩
set_option maxHeartbeats 800000 in
theorem refInput_any (tag : Int) (A : Option Addr) (n c : Nat) (parts : List ByteArray) (hl : parts.length = n) (B : Nat) (w : World) (hr : Rd w B 1 A n (svs parts)) (hB : B ≤ w.heap.size) (N : Nat) (hN : (Mk.input tag parts).length = N) (hb : N ≤ 1099511627776) :
    Calls Tryd.prog 38 #[.int .i64 tag, .slice A n c] w fun e w' => ∃ A' c', e = .returned (.slice A' N c') ∧ w'.ownsRow w.heap.size 5 1 (.slice A' N c') N (bvs (Mk.input tag parts)) ∧ Below w.heap.size w w' := by
  have hn : n ≤ N := by
    rw [← hN, ← hl]
    have : ∀ l : List ByteArray, l.length ≤ (l.flatMap fun s => Wire.encB s.data.toList).length := by
      intro l
      induction l with
      | nil => simp
      | cons x l ih =>
        have h1 : 1 ≤ (Wire.encB x.data.toList).length := by unfold Wire.encB; rw [List.length_append, Wire.enc_length]; omega
        simp only [List.flatMap_cons, List.length_append, List.length_cons]
        omega
    have := this parts
    unfold Mk.input
    rw [List.length_append]; omega
  have HN := Lib.hid hN
  have HL := Lib.hid hl
  have hbv := byte_val tag
  clear hN hl
  generalize hby : Mk.byte tag = y at hbv
  have HBY := Lib.hid hby
  clear hby
  go_enter Tryd.func38, Tryd.ntmps38
  go_wp2
  have own0 := own_one' (w := w) (v := .int .u8 (y.toNat : Int)) rfl (e := 5)
  have e0 : Mk.input tag (parts.take 0) = [y] := by rw [← HBY.out]; simp [Mk.input]
  go_loopw [5, 6] (fun u5 u13 wr => ∃ (k m : Nat) (A' : Option Addr) (c' : Nat), k ≤ n ∧ u13 = .int .i64 k ∧ u5 = .slice A' m c' ∧ Hid ((Mk.input tag (parts.take k)).length = m) ∧ m ≤ N ∧
     wr.ownsRow w.heap.size 5 1 (.slice A' m c') m (bvs (Mk.input tag (parts.take k))) ∧ Below w.heap.size w wr) (fun _ u _ => n - (intOf u).toNat)
  case atStart => exact ⟨0, 1, _, 1, by omega, rfl, rfl, by rw [e0]; rfl, by rw [← HN.out]; have := input_mono tag parts 0; rw [e0] at this; simpa using this, by rw [e0]; exact own0, (Below.refl _ _).alloc (Nat.le_refl _) _⟩
  case round =>
    clear own0 e0
    obtain ⟨k, m, A2, c2, hk, rfl, rfl, HM, hmN, own2, hb2⟩ := hrel
    by_cases hlt : k < n
    · obtain ⟨bb, ob, rfl, _, hc⟩ := (hr.below (hb2.mono hB)).get (show k < parts.length by rw [HL.out]; exact hlt)
      have hsn := input_take (tag := tag) (parts := parts) (k := k) (by rw [HL.out]; exact hlt)
      have hmono := input_mono tag parts (k + 1)
      rw [HN.out, hsn, List.length_append, HM.out] at hmono
      generalize parts[k]'(by rw [HL.out]; exact hlt) = x at *
      have hge := encB_ge x.data.toList
      have hsz : x.data.toList.length = x.size := by simp
      rw [hsz] at hge
      obtain ⟨f, hf⟩ : ∃ f, (Wire.encB x.data.toList).length = f := ⟨_, rfl⟩
      rw [hf] at hge hmono
      have HF := Lib.hid hf
      have HSN := Lib.hid hsn
      have hwb := refBytes_any x (by omega)
      rw [hf] at hwb
      have HWB := Lib.hid hwb
      clear hwb hsz hf hsn
      go_wp2_with (first
        | (go_at_call 58; refine (HWB.out _).mono ?_; rintro e w3 ⟨A3, c3, rfl, own3, hb3⟩)
        | (at_builtin; refine wpList_appR rfl (.tmp 16) (.tmp 21) 22 rfl w.heap.size 5 _ 1 1 bytesE A2 m c2 _ A3 f c3 _ rfl rfl (own_below own2 hb3) (Rd.of_own own3) (bvs_one _) (hb2.trans (hb3.mono hb2.size)) (by omega) (Nat.le_refl _) (Nat.le_trans hb2.size hb3.size) ?_; intro A4 c4 w4 own4 hb4))
      go_roundw
      case rel => exact ⟨k + 1, m + f, A4, c4, by omega, by go_num, rfl, (show _ = _ from by rw [HSN.out, List.length_append, HM.out, HF.out]), by omega, by rw [HSN.out, ← bvs_append]; exact own4, hb4⟩
      case measure => simp [intOf]; omega
    · obtain rfl : k = n := by omega
      have hfull : Mk.input tag (parts.take k) = Mk.input tag parts := by rw [List.take_of_length_le (by rw [HL.out]; exact Nat.le_refl _)]
      have hmm : m = N := by rw [← HM.out, hfull, HN.out]
      rw [hfull] at own2
      have HMM := Lib.hid hmm
      clear hfull hmm
      go_wp2
      go_ret
      have e := HMM.out
      subst e
      exact ⟨A2, c2, rfl, own2, hb2⟩

theorem info16 : (Tryd.prog.info? 30).map (fun i => (i.zero, i.size)) = some (some (.agg (List.replicate 16 (Value.int .u8 0)).toArray), (List.replicate 16 (Value.int .u8 0)).length) := by kernel_rfl
theorem size16 : (Tryd.prog.info? 30).map (·.size) = some 16 := by kernel_rfl
theorem IsRow.range {w : World} {b t : Nat} {l : List Value} (h : IsRow w b t l) (n : Nat) : w.rangeAt b 0 (l.take n) := fun j v hv => by
  rw [Nat.zero_add, h.cell]
  rw [List.getElem?_take] at hv
  split at hv
  · exact hv
  · cases hv
theorem bvs_take (l : List UInt8) (n : Nat) : (bvs l).take n = bvs (l.take n) := by simp [bvs, List.map_take]
/-- a digest's value -/
abbrev dv (d : List UInt8) : Value := .agg (bvs d).toArray
set_option maxHeartbeats 800000 in
theorem short_any (A : Option Addr) (n c : Nat) (l : List UInt8) (hl : l.length = n) (hn : n ≤ 1099511627776) (B : Nat) (w : World) (hr : Rd w B 1 A n (bvs l)) (hB : B ≤ w.heap.size) (hT : Tabs w) :
    Calls Tryd.prog 36 #[.slice A n c] w fun e w' => e = .returned (dv (Mk.short l)) ∧ Below w.heap.size w w' := by
  have hl32 := Sha.sum_len l
  have hl16 := Mk.short_len l
  have HL := Lib.hid hl
  have HL32 := Lib.hid hl32
  have HL16 := Lib.hid hl16
  clear hl hl32 hl16
  have tok1 : True := trivial
  go_enter Tryd.func36, Tryd.ntmps36
  go_wp2_with (first
    | (have _t := tok1; refine wpList_allocRow rfl _ rfl _ info16 ?_; intro w1 r1 b1 z1; have HZ1 := Lib.hid z1; clear z1 tok1)
    | (go_at_call 11; refine (sum_any A n c l HL.out hn B w1 (hr.below (b1.mono hB)) (Nat.le_trans hB b1.size) (hT.below b1).k (hT.below b1).s).mono ?_; rintro e w2 ⟨rfl, b2⟩)
    | (refine wpList_allocRow rfl _ rfl _ info32 ?_; intro w3 r3 b3 z3; have HZ3 := Lib.hid z3; clear z3)
    | (refine wpList_storeRow rfl _ (.tmp 3) (.tmp 5) rfl r3 rfl rfl (by rw [bvs_len, HL32.out]; exact size32) (by rw [bvs_len, HL32.out, List.length_replicate]) (bvs_all _) ?_; intro w4 r4 g4 z4; have HZ4 := Lib.hid z4; clear z4; have hat := fun W => run_arrayAt (P := Tryd.prog) W 30 5 16 (some ⟨w2.heap.size, 0, none⟩) 16 32 Tryd.underlying30 (by omega); have rg := r4.range 16; rw [bvs_take] at rg; have r14 := ((r1.below' b2).below' b3).grown g4 (by have := r1.lt; have := b2.size; intro h; have h := Option.some.inj h; omega))
    | (refine wpList_load_mid rfl _ (.tmp 7) rfl w2.heap.size 0 rfl (bvs (Mk.short l)) _ rg Tryd.underlying30 rfl (by rw [bvs_len, HL16.out]; exact size16) ?_; clear hat rg)
    | (refine wpList_storeRow rfl _ (.tmp 2) (.tmp 8) rfl r14 rfl rfl (by rw [bvs_len, HL16.out]; exact size16) (by rw [bvs_len, HL16.out, List.length_replicate]) (bvs_all _) ?_; intro w5 r5 g5 z5))
  have z1 := HZ1.out
  have z3 := HZ3.out
  have z4 := HZ4.out
  have h2 := b2.size
  have hb4 : Below w.heap.size w w4 := ((b1.trans (b2.mono b1.size)).trans (b3.mono (by omega))).grown g4 (by omega) (by intro k hk; have hk := Option.some.inj hk; omega)
  exact bodyPost_ret (resultRow rfl _ _ r5 rfl Tryd.underlying30 (by rw [bvs_len, HL16.out]; exact size16)) rfl ⟨rfl, hb4.grown g5 hb4.size (by intro k hk; have hk := Option.some.inj hk; omega)⟩
end
/-! A digest by the reference, and Of: walks of the reference's Short and Of and of digest's Of. -/
section
open Go.RowKit
theorem zeros16 : #[Value.int .u8 0, .int .u8 0, .int .u8 0, .int .u8 0, .int .u8 0, .int .u8 0, .int .u8 0, .int .u8 0, .int .u8 0, .int .u8 0, .int .u8 0, .int .u8 0, .int .u8 0, .int .u8 0, .int .u8 0, .int .u8 0] = (bvs (List.replicate 16 (0 : UInt8))).toArray := by kernel_rfl
theorem zeros16' : List.replicate 16 (Value.int .u8 0) = bvs (List.replicate 16 (0 : UInt8)) := by simp [bvs]
/-- the first t bytes of a digest, zeros behind -/
def sp (d : List UInt8) (t : Nat) : List UInt8 := d.take t ++ List.replicate (16 - t) 0
theorem sp_zero (d : List UInt8) : sp d 0 = List.replicate 16 0 := by simp [sp]
theorem sp_len {d : List UInt8} (hd : d.length = 16) {t : Nat} (h : t ≤ 16) : (sp d t).length = 16 := by unfold sp; simp; omega
theorem sp_end {d : List UInt8} (hd : d.length = 16) : sp d 16 = d := by unfold sp; rw [List.take_of_length_le (by omega)]; simp
theorem sp_set {d : List UInt8} (hd : d.length = 16) {t : Nat} (h : t < 16) : (sp d t).set t (d.getD t 0) = sp d (t + 1) := by
  have hl : (d.take t).length = t := by simp; omega
  unfold sp
  have e : d.take (t + 1) = d.take t ++ [d.getD t 0] := by
    rw [List.take_succ_eq_append_getElem (by omega)]
    simp only [List.getD]
    rw [List.getElem?_eq_getElem (by omega)]
    rfl
  rw [List.set_append_right _ _ (by omega), hl, Nat.sub_self, show 16 - t = (15 - t) + 1 from by omega, List.replicate_succ, List.set_cons_zero, show 16 - (t + 1) = 15 - t from by omega, e, List.append_assoc]
  rfl
set_option maxRecDepth 100000 in
set_option maxHeartbeats 1000000 in
theorem refShort_any (A : Option Addr) (n c : Nat) (l : List UInt8) (hl : l.length = n) (hn : n ≤ 1099511627776) (B : Nat) (w : World) (hr : Rd w B 1 A n (bvs l)) (hB : B ≤ w.heap.size) (hT : RTab w) :
    Calls Tryd.prog 25 #[.slice A n c] w fun e w' => e = .returned (dv (Mk.short l)) ∧ Below w.heap.size w w' := by
  have hl32 := Sha.sum_len l
  have hl16 := Mk.short_len l
  have hget : ∀ j, j < 16 → (Mk.short l).getD j 0 = (Sha.sum l).getD j 0 := fun j hj => by
    unfold Mk.short
    simp only [List.getD]
    rw [List.getElem?_take, if_pos hj]
  have HL := Lib.hid hl
  have HL32 := Lib.hid hl32
  have HL16 := Lib.hid hl16
  have HG := Lib.hid hget
  clear hl hl32 hl16 hget
  have tok1 : True := trivial
  have tok2 : True := trivial
  go_enter Tryd.func25, Tryd.ntmps25
  go_wp2_with (first
    | (have _t := tok1; refine wpList_allocRow rfl _ rfl _ info16 ?_; intro w1 r1 b1 z1; have HZ1 := Lib.hid z1; clear z1 tok1)
    | (go_at_call 12; refine (refSum_any A n c l HL.out hn B w1 (hr.below (b1.mono hB)) (Nat.le_trans hB b1.size) (hT.below b1).r).mono ?_; rintro e w2 ⟨rfl, b2⟩)
    | (refine wpList_allocRow rfl _ rfl _ info32 ?_; intro w3 r3 b3 z3; have HZ3 := Lib.hid z3; clear z3)
    | (have _t := tok2; refine wpList_storeRow rfl _ (.tmp 3) (.tmp 7) rfl r3 rfl rfl (by rw [bvs_len, HL32.out]; exact size32) (by rw [bvs_len, HL32.out, List.length_replicate]) (bvs_all _) ?_; intro w4 r4 g4 z4; have HZ4 := Lib.hid z4; clear z4 tok2)
    | (refine wpList_allocRow rfl _ rfl _ info16 ?_; intro w5 r5 b5 z5; have HZ5 := Lib.hid z5; clear z5)
    | (refine wpList_storeRowA rfl _ (.tmp 4) (.tmp 8) rfl r5 rfl rfl zeros16 size16 rfl (bvs_all _) ?_; intro w6 r6 g6 z6; have HZ6 := Lib.hid z6; clear z6))
  have z1 := HZ1.out
  have z3 := HZ3.out
  have z4 := HZ4.out
  have z5 := HZ5.out
  have z6 := HZ6.out
  have h2 := b2.size
  have r14 := ((r1.below' b2).below' b3).grown g4 (by have := r1.lt; intro h; have h := Option.some.inj h; omega)
  have r16 := (r14.below' b5).grown g6 (by have := r1.lt; intro h; have h := Option.some.inj h; omega)
  have r36 := (r4.below' b5).grown g6 (by intro h; have h := Option.some.inj h; omega)
  have hb4 : Below w.heap.size w w4 := ((b1.trans (b2.mono b1.size)).trans (b3.mono (by omega))).grown g4 (by omega) (by intro k hk; have hk := Option.some.inj hk; omega)
  have hb6 : Below w.heap.size w w6 := (hb4.trans (b5.mono (by omega))).grown g6 (by omega) (by intro k hk; have hk := Option.some.inj hk; omega)
  have hne1 : w.heap.size < w2.heap.size := by omega
  have hne2 : w2.heap.size < w4.heap.size := by omega
  clear z1 z3 z4 z5 z6 r1 b1 b2 r3 b3 r4 g4 r5 b5 g6 r14 hb4
  rw [← sp_zero (Mk.short l)] at r6
  rw [zeros16', ← sp_zero (Mk.short l)] at r16
  generalize w2.heap.size = b2 at *
  generalize w4.heap.size = b4 at *
  go_loopw [5] (fun u wx => ∃ i : Nat, i ≤ 16 ∧ u = .int .i64 i ∧ IsRow wx b4 30 (bvs (sp (Mk.short l) i)) ∧ IsRow wx w.heap.size 30 (bvs (sp (Mk.short l) 0)) ∧ IsRow wx b2 24 (bvs (Sha.sum l)) ∧ Below w.heap.size w wx)
    (fun u _ => 16 - (intOf u).toNat)
  case atStart => exact ⟨0, by omega, rfl, r6, r16, r36, hb6⟩
  case round =>
    clear r6 r16 r36 hb6
    obtain ⟨i, hi, rfl, r6, r16, r36, hb6⟩ := hrel
    by_cases hlt : i < 16
    · have hset0 := sp_set HL16.out hlt
      rw [HG.out i hlt] at hset0
      have c1 : wr.cell? ⟨b2, i, none⟩ = some (.int .u8 (((Sha.sum l).getD i 0).toNat : Int)) := by
        rw [r36.cell]
        simp [bvs, HL32.out, show i < 32 by omega]
      have c2 : wr.cell? ⟨b4, i, none⟩ = some (.int .u8 (((sp (Mk.short l) i).getD i 0).toNat : Int)) := by
        rw [r6.cell]
        simp [bvs, sp_len HL16.out hi, hlt]
      have f1 := r6.frozen i
      have hset := r6.set i (.int .u8 (((Sha.sum l).getD i 0).toNat : Int))
      rw [bvs_set, hset0] at hset
      clear hset0
      generalize (Sha.sum l).getD i 0 = x at *
      generalize (sp (Mk.short l) i).getD i 0 = y at *
      have t0 : (0 : Int) ≤ (i : Int) := by omega
      have t1 : (i : Int) < 16 := by omega
      have t2 : (i : Int) < 32 := by omega
      go_wp2
      go_roundw
      case rel => exact ⟨i + 1, by omega, by go_num, hset, r16.setOther (p := ⟨b4, i, none⟩) (by show b4 ≠ _; omega) _, r36.setOther (p := ⟨b4, i, none⟩) (by show b4 ≠ _; omega) _, hb6.setCell (p := ⟨b4, i, none⟩) (by show _ ≤ b4; omega) _⟩
      case measure => simp [intOf]; omega
    · obtain rfl : i = 16 := by omega
      rw [sp_end HL16.out] at r6
      have hl0 := sp_len HL16.out (show 0 ≤ 16 by omega)
      generalize sp (Mk.short l) 0 = o0 at *
      have HL0 := Lib.hid hl0
      clear hl0 hlt hi r36
      go_wp2_with (first
        | (refine wpList_loadRow rfl _ (.tmp 4) rfl r6 rfl Tryd.underlying30 (by rw [bvs_len, HL16.out]; exact size16) ?_)
        | (refine wpList_storeRow rfl _ (.tmp 2) (.tmp 18) rfl r16 rfl rfl (by rw [bvs_len, HL16.out]; exact size16) (by rw [bvs_len, bvs_len, HL16.out, HL0.out]) (bvs_all _) ?_; intro w9 r9 g9 z9))
      exact bodyPost_ret (resultRow rfl _ _ r9 rfl Tryd.underlying30 (by rw [bvs_len, HL16.out]; exact size16)) rfl ⟨rfl, hb6.grown g9 hb6.size (by intro k hk; have hk := Option.some.inj hk; omega)⟩

set_option maxHeartbeats 800000 in
theorem of_any (tag : Int) (A : Option Addr) (n c : Nat) (parts : List ByteArray) (hl : parts.length = n) (B : Nat) (w : World) (hr : Rd w B 1 A n (svs parts)) (hB : B ≤ w.heap.size) (hb : (Mk.input tag parts).length ≤ 1099511627776) (hT : Tabs w) :
    Calls Tryd.prog 13 #[.int .i64 tag, .slice A n c] w fun e w' => e = .returned (dv (Mk.of tag parts)) ∧ Below w.heap.size w w' := by
  obtain ⟨N, hN⟩ : ∃ N, (Mk.input tag parts).length = N := ⟨_, rfl⟩
  rw [hN] at hb
  have hl16 := Mk.short_len (Mk.input tag parts)
  have HL := Lib.hid hl
  have HL16 := Lib.hid hl16
  have HN := Lib.hid hN
  clear hl hl16 hN
  go_enter Tryd.func13, Tryd.ntmps13
  go_wp2_with (first
    | (refine wpList_allocRow rfl _ rfl _ info16 ?_; intro w1 r1 b1 z1; have HZ1 := Lib.hid z1; clear z1)
    | (go_at_call 37; refine (input_any tag A n c parts HL.out B w1 (hr.below (b1.mono hB)) (Nat.le_trans hB b1.size) N HN.out hb).mono ?_; rintro e w2 ⟨A2, c2, rfl, own2, b2⟩; have rd2 := Rd.of_own own2; have r2 := r1.below' b2)
    | (go_at_call 36; refine (short_any A2 N c2 (Mk.input tag parts) HN.out hb _ w2 rd2 (Nat.le_refl _) ((hT.below b1).below b2)).mono ?_; rintro e w3 ⟨rfl, b3⟩; have r3 := r2.below' b3)
    | (refine wpList_storeRow rfl _ (.tmp 4) (.tmp 8) rfl r3 rfl rfl (by rw [bvs_len, HL16.out]; exact size16) (by rw [bvs_len, HL16.out, List.length_replicate]) (bvs_all _) ?_; intro w5 r5 g5 z5))
  have hb3 : Below w.heap.size w w3 := (b1.trans (b2.mono b1.size)).trans (b3.mono (by have := b1.size; have := b2.size; omega))
  exact bodyPost_ret (resultRow rfl _ _ r5 rfl Tryd.underlying30 (by rw [bvs_len, HL16.out]; exact size16)) rfl ⟨rfl, hb3.grown g5 hb3.size (by intro k hk; have hk := Option.some.inj hk; omega)⟩
set_option maxHeartbeats 800000 in
theorem refOf_any (tag : Int) (A : Option Addr) (n c : Nat) (parts : List ByteArray) (hl : parts.length = n) (B : Nat) (w : World) (hr : Rd w B 1 A n (svs parts)) (hB : B ≤ w.heap.size) (hb : (Mk.input tag parts).length ≤ 1099511627776) (hT : RTab w) :
    Calls Tryd.prog 14 #[.int .i64 tag, .slice A n c] w fun e w' => e = .returned (dv (Mk.of tag parts)) ∧ Below w.heap.size w w' := by
  obtain ⟨N, hN⟩ : ∃ N, (Mk.input tag parts).length = N := ⟨_, rfl⟩
  rw [hN] at hb
  have hl16 := Mk.short_len (Mk.input tag parts)
  have HL := Lib.hid hl
  have HL16 := Lib.hid hl16
  have HN := Lib.hid hN
  clear hl hl16 hN
  go_enter Tryd.func14, Tryd.ntmps14
  go_wp2_with (first
    | (refine wpList_allocRow rfl _ rfl _ info16 ?_; intro w1 r1 b1 z1; have HZ1 := Lib.hid z1; clear z1)
    | (go_at_call 38; refine (refInput_any tag A n c parts HL.out B w1 (hr.below (b1.mono hB)) (Nat.le_trans hB b1.size) N HN.out hb).mono ?_; rintro e w2 ⟨A2, c2, rfl, own2, b2⟩; have rd2 := Rd.of_own own2; have r2 := r1.below' b2)
    | (go_at_call 25; refine (refShort_any A2 N c2 (Mk.input tag parts) HN.out hb _ w2 rd2 (Nat.le_refl _) ((hT.below b1).below b2)).mono ?_; rintro e w3 ⟨rfl, b3⟩; have r3 := r2.below' b3)
    | (refine wpList_storeRow rfl _ (.tmp 4) (.tmp 8) rfl r3 rfl rfl (by rw [bvs_len, HL16.out]; exact size16) (by rw [bvs_len, HL16.out, List.length_replicate]) (bvs_all _) ?_; intro w5 r5 g5 z5))
  have hb3 : Below w.heap.size w w3 := (b1.trans (b2.mono b1.size)).trans (b3.mono (by have := b1.size; have := b2.size; omega))
  exact bodyPost_ret (resultRow rfl _ _ r5 rfl Tryd.underlying30 (by rw [bvs_len, HL16.out]; exact size16)) rfl ⟨rfl, hb3.grown g5 hb3.size (by intro k hk; have hk := Option.some.inj hk; omega)⟩
end
/-! Leaves and nodes: walks of digest's leaf and node. -/
section
open Go.RowKit
theorem str_list (d : List UInt8) : (Mk.str d).data.toList = d := rfl
theorem leaf_le (d : List UInt8) (hd : d.length = 16) : (Mk.leaf d).length ≤ 1000 := by
  have := Wire.enc_length_le (d.length : Int)
  simp only [Mk.leaf, Mk.input, List.flatMap_cons, List.flatMap_nil, str_list, Wire.encB, List.length_append, List.length_cons, List.length_nil]
  omega
theorem node_le (a b : List UInt8) (ha : a.length = 16) (hb : b.length = 16) : (Mk.node a b).length ≤ 1000 := by
  have := Wire.enc_length_le (a.length : Int)
  have := Wire.enc_length_le (b.length : Int)
  simp only [Mk.node, Mk.input, List.flatMap_cons, List.flatMap_nil, str_list, Wire.encB, List.length_append, List.length_cons, List.length_nil]
  omega
set_option maxHeartbeats 800000 in
theorem leaf_any (d : List UInt8) (hd : d.length = 16) (w : World) (N : Nat) (hN : (Mk.leaf d).length = N) :
    Calls Tryd.prog 45 #[dv d] w fun e w' => ∃ A' c', e = .returned (.slice A' N c') ∧ w'.ownsRow w.heap.size 5 1 (.slice A' N c') N (bvs (Mk.leaf d)) ∧ Below w.heap.size w w' := by
  have hle := leaf_le d hd
  rw [hN] at hle
  have HN := Lib.hid hN
  have HD := Lib.hid hd
  have r1 := IsRow.new w 30 (bvs d)
  have rd1 := r1.rd (n := 16) (size := 1) (B := w.heap.size + 1) (by rw [bvs_len, hd]) (by omega)
  have hrd := Lib.hid rd1
  clear hN hd r1 rd1
  go_enter Tryd.func45, Tryd.ntmps45
  go_wp2_with (first
    | (with_reducible refine wpList_toS rfl (.tmp 3) 22 9 5 rfl Tryd.underlying22 Tryd.underlying5 Tryd.underlying9 (some ⟨w.heap.size, 0, none⟩) 16 16 rfl d hrd.out ?_)
    | fail)
  have rdp := Rd.new (w.alloc (.cells (bvs d).toArray 30)) (svs [Mk.str d]) 9 1 (size := 1) rfl
  rw [World.size_alloc] at rdp
  refine (input_any 1 _ 1 1 [Mk.str d] rfl _ _ rdp (by simp) N HN.out (by omega)).mono ?_
  rintro e w2 ⟨A2, c2, rfl, own2, b2⟩
  go_wp2
  go_ret
  exact ⟨A2, c2, rfl, own_base own2 (by simp; omega), (((Below.refl _ _).alloc (Nat.le_refl _) _).alloc (by simp) _).trans (b2.mono (by simp; omega))⟩
set_option maxRecDepth 100000 in
set_option maxHeartbeats 800000 in
theorem node_any (a b : List UInt8) (ha : a.length = 16) (hb : b.length = 16) (w : World) (N : Nat) (hN : (Mk.node a b).length = N) :
    Calls Tryd.prog 46 #[dv a, dv b] w fun e w' => ∃ A' c', e = .returned (.slice A' N c') ∧ w'.ownsRow w.heap.size 5 1 (.slice A' N c') N (bvs (Mk.node a b)) ∧ Below w.heap.size w w' := by
  have hle := node_le a b ha hb
  rw [hN] at hle
  have HN := Lib.hid hN
  have r2 := rows2 w 30 30 (bvs a) (bvs b)
  have rda := r2.1.rd (n := 16) (size := 1) (B := w.heap.size + 2) (by rw [bvs_len, ha]) (by omega)
  have rdb := r2.2.rd (n := 16) (size := 1) (B := w.heap.size + 2) (by rw [bvs_len, hb]) (by omega)
  have ca := run_toS (P := Tryd.prog) (((w.alloc (.cells (bvs a).toArray 30)).alloc (.cells (bvs b).toArray 30)).drew) 22 9 5 Tryd.underlying22 Tryd.underlying5 Tryd.underlying9 (some ⟨w.heap.size, 0, none⟩) 16 16 _ a rda.drew
  have cb := run_toS (P := Tryd.prog) (((w.alloc (.cells (bvs a).toArray 30)).alloc (.cells (bvs b).toArray 30)).drew) 22 9 5 Tryd.underlying22 Tryd.underlying5 Tryd.underlying9 (some ⟨w.heap.size + 1, 0, none⟩) 16 16 _ b rdb.drew
  clear hN r2 rda rdb ha hb
  go_enter Tryd.func46, Tryd.ntmps46
  go_wp2
  have rdp := Rd.new ((w.alloc (.cells (bvs a).toArray 30)).alloc (.cells (bvs b).toArray 30)) (svs [Mk.str a, Mk.str b]) 9 2 (size := 1) rfl
  simp only [World.size_alloc] at rdp
  have rdq := rdp.drew
  have hin := fun c B' (W : World) (hr : Rd W B' 1 (some ⟨w.heap.size + 1 + 1, 0, none⟩) 2 (svs [Mk.str a, Mk.str b])) (hB : B' ≤ W.heap.size) => input_any 2 (some ⟨w.heap.size + 1 + 1, 0, none⟩) 2 c [Mk.str a, Mk.str b] rfl B' W hr hB N HN.out (by omega)
  have HIN := Lib.hid hin
  have HQ := Lib.hid rdq
  clear hin rdp rdq
  go_region_with (go_at_call 37; refine (HIN.out _ _ _ HQ.out (by simp)).mono ?_; rintro e w2 ⟨A2, c2, rfl, own2, b2⟩)
  all_goals go_wp2
  all_goals go_ret
  all_goals exact ⟨A2, c2, rfl, own_base own2 (by simp; omega), ((((Below.refl _ _).alloc (Nat.le_refl _) _).alloc (by simp) _).alloc (by simp; omega) _).drew.trans (b2.mono (by simp; omega))⟩
end
/-! Two digests compared. No condition. -/
section
open Go.RowKit
theorem sizeU8e (w : World) : (sizeOf 5).run Tryd.prog w = .ok 1 w := by
  have : (Tryd.prog.info? 5).map (·.size) = some 1 := by kernel_rfl
  cases hq : Tryd.prog.info? 5 with
  | none => simp [hq] at this
  | some i => simp [hq] at this; simp [sizeOf, typeInfo, hq, this]
theorem run_neq_digE (w : World) {x y : List UInt8} (hx : x.length = 16) (hy : y.length = 16) :
    (binOp .neq 30 (.agg (bvs x).toArray) (.agg (bvs y).toArray)).run Tryd.prog w = .ok (.bool (!(x == y))) w := by
  rw [run_neq_struct]
  have h := run_equalIn_bytes (P := Tryd.prog) w 9998 30 5 16 Tryd.underlying30 Tryd.underlying5 sizeU8e x y hx hy
  have e : ∀ l : List UInt8, (l.map Extern.Stop.cell) = bvs l := fun l => rfl
  rw [e, e] at h
  rw [h]; rfl
theorem run_eql_digE (w : World) {x y : List UInt8} (hx : x.length = 16) (hy : y.length = 16) :
    (binOp .eql 30 (.agg (bvs x).toArray) (.agg (bvs y).toArray)).run Tryd.prog w = .ok (.bool (x == y)) w := by
  rw [run_eql_struct]
  have h := run_equalIn_bytes (P := Tryd.prog) w 9998 30 5 16 Tryd.underlying30 Tryd.underlying5 sizeU8e x y hx hy
  have e : ∀ l : List UInt8, (l.map Extern.Stop.cell) = bvs l := fun l => rfl
  rw [e, e] at h
  rw [h]; rfl
end
/-! The first part's length: walks of digest's split and of the reference's Split. -/
section
open Go.RowKit
theorem bitLen_log (x : Nat) (h0 : x ≠ 0) (h : x < 2 ^ 64) : Lib.bitLen x = Nat.log2 x + 1 := by
  have h1 := Nat.log2_self_le h0
  have h2 := Nat.lt_log2_self (n := x)
  rw [Lib.bitLen_shift (Nat.log2 x) x h1 h]
  have e : x / 2 ^ Nat.log2 x = 1 := by
    rw [Nat.pow_succ] at h2
    have hp : 0 < 2 ^ Nat.log2 x := Nat.two_pow_pos _
    exact Nat.div_eq_of_lt_le (by omega) (by omega)
  rw [e]
  rfl
theorem log_le (n : Nat) (h1 : 2 ≤ n) (h2 : n ≤ 9223372036854775807) : Nat.log2 (n - 1) ≤ 62 := by
  have : Nat.log2 (n - 1) < 63 := (Nat.log2_lt (by omega)).2 (by omega)
  omega
theorem split_le (n : Nat) (h1 : 2 ≤ n) (h2 : n ≤ 9223372036854775807) : Mk.split n ≤ 4611686018427387904 := by
  have := Nat.pow_le_pow_right (n := 2) (by omega) (log_le n h1 h2)
  unfold Mk.split; exact this
set_option maxHeartbeats 400000 in
theorem split_any (n : Nat) (h1 : 2 ≤ n) (h2 : n ≤ 9223372036854775807) (w : World) :
    Calls Tryd.prog 43 #[.int .i64 (n : Int)] w fun e w' => e = .returned (.int .i64 ((Mk.split n : Nat) : Int)) ∧ w = w' := by
  obtain ⟨m, rfl⟩ : ∃ m, n = m + 1 := ⟨n - 1, by omega⟩
  have hl := log_le (m + 1) h1 h2
  have hb := bitLen_log m (by omega) (by omega)
  have hs := split_le (m + 1) h1 h2
  have hsp : Mk.split (m + 1) = 2 ^ Nat.log2 m := rfl
  have hcall := fun w => Tryd.bits_Len (m : Int) w (by omega) (by omega)
  simp only [Int.toNat_natCast, hb] at hcall
  simp only [Nat.add_sub_cancel] at hl
  have e1 : ((m + 1 : Nat) : Int) - 1 = (m : Int) := by omega
  generalize Nat.log2 m = L at *
  have hw : wrap64 (2 ^ L) = ((Mk.split (m + 1) : Nat) : Int) := by
    rw [hsp]
    unfold wrap64
    have : (2 : Int) ^ L = ((2 ^ L : Nat) : Int) := by push_cast; rfl
    rw [this]
    rw [hsp] at hs
    omega
  have e2 : ((L + 1 : Nat) : Int) - 1 = (L : Int) := by omega
  generalize Mk.split (m + 1) = S at *
  have HC := Lib.hid hcall
  have HW := Lib.hid hw
  clear hb hsp hcall hs hw
  go_enter Tryd.func43, Tryd.ntmps43
  go_wp2_with (go_at_call 59; refine (HC.out _).mono ?_; rintro e w' ⟨rfl, rfl⟩)
  go_ret
  exact ⟨ret_int HW.out, rfl⟩
set_option maxHeartbeats 400000 in
theorem refSplit_any (n : Nat) (h1 : 2 ≤ n) (h2 : n ≤ 9223372036854775807) (w : World) :
    Calls Tryd.prog 42 #[.int .i64 (n : Int)] w fun e w' => e = .returned (.int .i64 ((Mk.split n : Nat) : Int)) ∧ w = w' := by
  go_enter Tryd.func42, Tryd.ntmps42
  go_wp2
  go_loop [3] (fun u => ∃ k : Nat, (∃ e, k = 2 ^ e) ∧ 1 ≤ k ∧ k < n ∧ u = .int .i64 k) (fun u => n - (intOf u).toNat)
  case atStart => exact ⟨1, ⟨0, rfl⟩, by omega, by omega, rfl⟩
  case round =>
    obtain ⟨k, hk, hk1, hkn, rfl⟩ := hrel
    have HK := Lib.hid hk
    clear hk
    by_cases hlt : (k : Int) < (n : Int) - (k : Int)
    · go_wp2
      go_round
      case rel =>
        obtain ⟨e, he⟩ := HK.out
        exact ⟨2 * k, ⟨e + 1, by rw [he, Nat.pow_succ]; omega⟩, by omega, by omega, by go_num⟩
      case measure => simp [intOf]; omega
    · go_wp2
      go_ret
      exact ⟨ret_int (by rw [Mk.split_unique HK.out hkn (by omega)]), rfl⟩
end
/-! The root of a list: a walk of digest's Root. -/
section
open Go.RowKit
theorem root_none (A : Option Addr) (c : Nat) (w : World) (hT : Tabs w) :
    Calls Tryd.prog 19 #[.slice A 0 c] w fun e w' => e = .returned (dv (Mk.of 1 [])) ∧ Below w.heap.size w w' := by
  have hl16 := Mk.short_len (Mk.input 1 [])
  have HL16 := Lib.hid hl16
  clear hl16
  go_enter Tryd.func19, Tryd.ntmps19
  go_wp2_with (first
    | (refine wpList_allocRow rfl _ rfl _ info16 ?_; intro w1 r1 b1 z1; have HZ1 := Lib.hid z1; clear z1)
    | (go_at_call 13; refine (of_any 1 none 0 0 [] rfl 0 w1 (Rd.nil_ _ _ _ _) (Nat.zero_le _) (by decide) (hT.below b1)).mono ?_; rintro e w2 ⟨rfl, b2⟩; have r2 := r1.below' b2)
    | (refine wpList_storeRow rfl _ (.tmp 2) (.tmp 8) rfl r2 rfl rfl (by rw [bvs_len]; exact HL16.out ▸ size16) (by rw [bvs_len, List.length_replicate]; exact HL16.out.symm) (bvs_all _) ?_; intro w5 r5 g5 z5))
  have hb2 : Below w.heap.size w w2 := b1.trans (b2.mono b1.size)
  exact bodyPost_ret (resultRow rfl _ _ r5 rfl Tryd.underlying30 (by rw [bvs_len]; exact HL16.out ▸ size16)) rfl ⟨rfl, hb2.grown g5 hb2.size (by intro k hk; have hk := Option.some.inj hk; omega)⟩
set_option maxHeartbeats 800000 in
theorem root_sole (A : Option Addr) (c : Nat) (d : List UInt8) (hd : d.length = 16) (B : Nat) (w : World) (hr : Rd w B 16 A 1 (bvs d)) (hB : B ≤ w.heap.size) (hc : 1 ≤ c) (hT : Tabs w) :
    Calls Tryd.prog 19 #[.slice A 1 c] w fun e w' => e = .returned (dv (Mk.short (Mk.leaf d))) ∧ Below w.heap.size w w' := by
  have hl16 := Mk.short_len (Mk.leaf d)
  have HL16 := Lib.hid hl16
  obtain ⟨b, off, rfl, hbB, hcell⟩ := hr.2 (by omega)
  have hrg : w.rangeAt b off (bvs d) := fun j v hv => hcell j v hv
  obtain ⟨N, hN⟩ : ∃ N, (Mk.leaf d).length = N := ⟨_, rfl⟩
  have hle := leaf_le d hd
  rw [hN] at hle
  have HN := Lib.hid hN
  have HD := Lib.hid hd
  clear hl16 hcell hN hd hr
  go_enter Tryd.func19, Tryd.ntmps19
  go_wp2_with (first
    | (refine wpList_allocRow rfl _ rfl _ info16 ?_; intro w1 r1 b1 z1; have HZ1 := Lib.hid z1; have rg1 : w1.rangeAt b off (bvs d) := fun j v hv => (b1.cell (p := ⟨b, off + j, none⟩) (show b < _ by omega)).trans (hrg j v hv); clear z1)
    | (refine wpList_load_mid rfl _ (.tmp 12) rfl b off rfl (bvs d) _ rg1 Tryd.underlying30 rfl (by rw [bvs_len, HD.out]; exact size16) ?_)
    | (go_at_call 45; refine (leaf_any d HD.out w1 N HN.out).mono ?_; rintro e w2 ⟨A2, c2, rfl, own2, b2⟩; have r2 := r1.below' b2; have rd2 := Rd.of_own own2)
    | (go_at_call 36; refine (short_any A2 N c2 (Mk.leaf d) HN.out (by omega) _ w2 rd2 (Nat.le_refl _) ((hT.below b1).below b2)).mono ?_; rintro e w3 ⟨rfl, b3⟩; have r3 := r2.below' b3)
    | (refine wpList_storeRow rfl _ (.tmp 2) (.tmp 15) rfl r3 rfl rfl (by rw [bvs_len]; exact HL16.out ▸ size16) (by rw [bvs_len, List.length_replicate]; exact HL16.out.symm) (bvs_all _) ?_; intro w5 r5 g5 z5))
  have hb3 : Below w.heap.size w w3 := (b1.trans (b2.mono b1.size)).trans (b3.mono (by have := b1.size; have := b2.size; omega))
  exact bodyPost_ret (resultRow rfl _ _ r5 rfl Tryd.underlying30 (by rw [bvs_len]; exact HL16.out ▸ size16)) rfl ⟨rfl, hb3.grown g5 hb3.size (by intro k hk; have hk := Option.some.inj hk; omega)⟩
/-- a whole row stored, as the walk leaves it in a region that draws its order -/
theorem run_storeRow {P : Program} {w : World} {b t : Nat} {l l' : List Value} (hr : IsRow w b t l) (hl : l.length = l'.length) (h1 : l'.all (·.oneCell') = true) :
    (storeCells ⟨b, 0, none⟩ l').run P w = .ok () (w.setRow b l'.toArray) := by
  have hr' : w.heap[b]? = some (.cells l.toArray t (0, 0)) := hr
  have := run_storeCells_from (P := P) b t l' 0 l.toArray w hr' (by simp; omega) (fun v hv => by
    have := List.all_eq_true.1 h1 v hv
    exact this)
  rw [this]
  congr 2
theorem setRow_grown (w : World) (b : Nat) (cs : Array Value) : w.grownBy (w.setRow b cs) (some b) := ⟨rfl, rfl, rfl, by simp [World.setRow], fun k _ hk => setRow_other w b k _ (fun e => hk (by rw [e]))⟩
theorem IsRow.setRow {w : World} {b t : Nat} {l l' : List Value} (hr : IsRow w b t l) : IsRow (w.setRow b l'.toArray) b t l' := setRow_heap w b _ _ t _ hr
theorem stepB {B : Nat} {w1 W wa : World} (hc : Below B w1 W) (hB : B ≤ W.heap.size) (ba : Below W.heap.size W wa) : Below B w1 wa := hc.trans (ba.mono hB)
set_option maxRecDepth 100000 in
set_option maxHeartbeats 2000000 in
theorem root_step (n c : Nat) (ad : Addr) (l : List (List UInt8)) (hl : l.length = n) (h2 : 2 ≤ n) (hn : n ≤ 1099511627776) (B : Nat) (w : World) (hr : Rd w B 16 (some ad) n (dvs l)) (hd : D16 l) (hB : B ≤ w.heap.size) (hc : n ≤ c) (hcm : c ≤ maxLen) (hT : Tabs w)
    (H1 : ∀ W, Below w.heap.size w W → Calls Tryd.prog 19 #[.slice (some ad) (Mk.split n) c] W fun e W' => e = .returned (dv (Mk.root (l.take (Mk.split n)))) ∧ Below W.heap.size W W')
    (H2 : ∀ W, Below w.heap.size w W → Calls Tryd.prog 19 #[.slice (some (ad.add (Mk.split n * 16))) (n - Mk.split n) (c - Mk.split n)] W fun e W' => e = .returned (dv (Mk.root (l.drop (Mk.split n)))) ∧ Below W.heap.size W W') :
    Calls Tryd.prog 19 #[.slice (some ad) n c] w fun e w' => e = .returned (dv (Mk.root l)) ∧ Below w.heap.size w w' := by
  unfold maxLen at hcm
  have hroot := Mk.root_more (l := l) (by omega)
  rw [hl] at hroot
  have hl16 := Mk.short_len (Mk.node (Mk.root (l.take (Mk.split n))) (Mk.root (l.drop (Mk.split n))))
  have hra := Mk.root_len (l.take (Mk.split n))
  have hrb := Mk.root_len (l.drop (Mk.split n))
  generalize Mk.root (l.take (Mk.split n)) = ra at *
  generalize Mk.root (l.drop (Mk.split n)) = rb at *
  obtain ⟨N, hN⟩ : ∃ N, (Mk.node ra rb).length = N := ⟨_, rfl⟩
  have hle := node_le ra rb hra hrb
  rw [hN] at hle
  have hs1 := Mk.split_pos n
  have hs2 := Mk.split_lt h2
  have hsp := split_any n h2 (by omega)
  generalize Mk.split n = k at *
  have HSP := Lib.hid hsp
  have HR := Lib.hid hroot
  have HL16 := Lib.hid hl16
  have HRA := Lib.hid hra
  have HRB := Lib.hid hrb
  have HN := Lib.hid hN
  have HH1 := Lib.hid H1
  have HH2 := Lib.hid H2
  have hne0 : ((n : Int) == 0) = false := by simp; omega
  have hne1 : ((n : Int) == 1) = false := by simp; omega
  have hck : ¬ c = k := by omega
  have hkc : k ≤ c := by omega
  have hkn : k ≤ n := by omega
  clear hsp hroot hl16 hra hrb hN H1 H2 hl hr
  go_enter Tryd.func19, Tryd.ntmps19
  go_wp2_with (first
    | (refine wpList_allocRow rfl _ rfl _ info16 ?_; intro w1 r1 b1 z1; have HZ1 := Lib.hid z1; clear z1)
    | (go_at_call 43; refine (HSP.out _).mono ?_; rintro e w' ⟨rfl, rfl⟩))
  have HA := Lib.hid (fun (W : World) (h : Below w1.heap.size w1 W) => HH1.out W (b1.trans (h.mono b1.size)))
  have HB := Lib.hid (fun (W : World) (h : Below w1.heap.size w1 W) => HH2.out W (b1.trans (h.mono b1.size)))
  have HNd := Lib.hid (fun W => node_any ra rb HRA.out HRB.out W N HN.out)
  have HS := Lib.hid (fun (W : World) (A' : Option Addr) (c' : Nat) (h : Below w1.heap.size w1 W) (rd : Rd W W.heap.size 1 A' N (bvs (Mk.node ra rb))) => short_any A' N c' (Mk.node ra rb) HN.out (by omega) _ W rd (Nat.le_refl _) ((hT.below b1).below h))
  clear HH1 HH2 hT
  go_region_with (first
    | (go_at_call 19; with_reducible refine (HA.out _ ?q).mono ?_; case q => (first | exact (Below.refl _ _).drew | assumption)
       rintro e wa ⟨rfl, ba⟩; have hwa : Below w1.heap.size w1 wa := (by first | exact stepB (Below.refl w1.heap.size w1).drew (Nat.le_refl _) ba | exact stepB (by assumption) (Below.size (by assumption)) ba))
    | (go_at_call 19; with_reducible refine (HB.out _ ?q).mono ?_; case q => (first | exact (Below.refl _ _).drew | assumption)
       rintro e wb ⟨rfl, bb⟩; have hwb : Below w1.heap.size w1 wb := (by first | exact stepB (Below.refl w1.heap.size w1).drew (Nat.le_refl _) bb | exact stepB (by assumption) (Below.size (by assumption)) bb))
    | (go_at_call 46; refine (HNd.out _).mono ?_; rintro e wn ⟨An, cn, rfl, ownn, bn⟩; have hwn : Below w1.heap.size w1 wn := (by first | exact stepB hwb hwb.size bn | exact stepB hwa hwa.size bn); have rdn := Rd.of_own ownn)
    | (go_at_call 36; refine (HS.out _ _ _ hwn rdn).mono ?_; rintro e ws ⟨rfl, bs⟩; have hws : Below w1.heap.size w1 ws := stepB hwn hwn.size bs; have rs := r1.below' hws; have hst := run_storeRow (P := Tryd.prog) rs (l' := bvs (Mk.short (Mk.node ra rb))) (by rw [bvs_len, List.length_replicate]; exact HL16.out.symm) (bvs_all _); have h16 := HL16.out))
  all_goals go_wp2
  all_goals have hw2 : Below w.heap.size w ws := b1.trans (hws.mono b1.size)
  all_goals refine bodyPost_ret (resultRow rfl _ _ (IsRow.setRow (l' := bvs (Mk.short (Mk.node ra rb))) rs) rfl Tryd.underlying30 (by rw [bvs_len]; exact HL16.out ▸ size16)) rfl ⟨by rw [HR.out], hw2.grown (setRow_grown _ _ _) hw2.size (by intro k hk; have hk := Option.some.inj hk; omega)⟩
theorem root_any : ∀ (n c : Nat) (A : Option Addr) (l : List (List UInt8)), l.length = n → n ≤ 1099511627776 → ∀ (B : Nat) (w : World), Rd w B 16 A n (dvs l) → D16 l → B ≤ w.heap.size → n ≤ c → c ≤ maxLen → Tabs w →
    Calls Tryd.prog 19 #[.slice A n c] w fun e w' => e = .returned (dv (Mk.root l)) ∧ Below w.heap.size w w' := by
  intro n
  induction n using Nat.strongRecOn with
  | ind n ih =>
    intro c A l hl hn B w hr hd hB hc hcm hT
    by_cases h0 : n = 0
    · subst h0
      rw [Mk.root_zero hl]
      exact root_none A c w hT
    · by_cases h1 : n = 1
      · subst h1
        rw [Mk.root_one hl]
        match l, hl with
        | [d], _ => exact root_sole A c d (hd d (by simp)) B w (by simpa [dvs] using hr) hB hc hT
      · obtain ⟨b, off, rfl, _, _⟩ := hr.2 (by omega)
        have hs1 := Mk.split_pos n
        have hs2 := Mk.split_lt (n := n) (by omega)
        refine root_step n c ⟨b, off, none⟩ l hl (by omega) hn B w hr hd hB hc hcm hT (fun W hW => ?_) (fun W hW => ?_)
        · exact ih (Mk.split n) hs2 c _ (l.take (Mk.split n)) (by rw [List.length_take, hl]; omega) (by omega) B W ((hr.first hd (by omega)).below (hW.mono hB)) (hd.take _) (Nat.le_trans hB hW.size) (by omega) hcm (hT.below hW)
        · exact ih (n - Mk.split n) (by omega) (c - Mk.split n) _ (l.drop (Mk.split n)) (by rw [List.length_drop, hl]) (by omega) B W ((hr.rest hd hs2).below (hW.mono hB)) (hd.drop _) (Nat.le_trans hB hW.size) (by omega) (by omega) (hT.below hW)
end
end Go.Proofs.YtfnbcchmembomaaDoor
