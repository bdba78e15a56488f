/- Joined texts: MkP, Inp, Inp2, Dig, DigEq, SplitN, RootW. Conditions: as each part says. -/
import Derived.Test.YtkjomnakolhdcaaDoorShaBase
import Derived.Test.YtkjomnakolhdcaaDoorWireDecPlain
import Derived.Test.YtkjomnakolhdcaaDoorShaSum
import Derived.Laws.Cover3
import Derived.Stop.BytesEq
import Derived.WalkSpells
import Derived.Lib.BitFns
import Derived.Test.YtkjomnakolhdcaaDoorDvs
import Derived.Deep.RegionLaw
namespace Go.Proofs.YtkjomnakolhdcaaDoor
set_option linter.unusedVariables false
set_option linter.unusedSimpArgs false
/-! Digests and Merkle trees in plain Lean. No condition. -/
section
namespace Mk
def byte (tag : Int) : UInt8 := UInt8.ofNat (tag % 256).toNat
/-- the input of a digest -/
def input (tag : Int) (parts : List ByteArray) : List UInt8 := [byte tag] ++ parts.flatMap fun s => Wire.encB s.data.toList
def short (l : List UInt8) : List UInt8 := (Sha.sum l).take 16
def of (tag : Int) (parts : List ByteArray) : List UInt8 := short (input tag parts)
/-- a digest as a string -/
def str (d : List UInt8) : ByteArray := ⟨d.toArray⟩
def leaf (d : List UInt8) : List UInt8 := input 1 [str d]
def node (a b : List UInt8) : List UInt8 := input 2 [str a, str b]
/-- the greatest power of 2 below n -/
def split (n : Nat) : Nat := 2 ^ Nat.log2 (n - 1)
def rootF : Nat → List (List UInt8) → List UInt8
  | 0, _ => of 1 []
  | f + 1, l => if l.length = 0 then of 1 [] else if l.length = 1 then short (leaf (l.getD 0 [])) else short (node (rootF f (l.take (split l.length))) (rootF f (l.drop (split l.length))))
def root (l : List (List UInt8)) : List UInt8 := rootF l.length l
theorem short_len (l : List UInt8) : (short l).length = 16 := by unfold short; rw [List.length_take, Sha.sum_len]; rfl
end Mk
end
/-! The input of a digest, and the digest of it: walks of digest's input, short, Of and of the reference's Input, Short, Of. -/
section
open Go.RowKit
/-- the cells of a list of strings -/
abbrev svs (l : List ByteArray) : List Value := l.map Value.string
/-- the package variables hold what their initialisers lay -/
structure Tabs (w : World) : Prop where
  k : HasRow w 2 (wvs Sha.K)
  s : HasRow w 0 (wvs Sha.start.list)
theorem Tabs.below {w w' : World} (h : Tabs w) (hb : Below w.heap.size w w') : Tabs w' := ⟨h.k.below' hb, h.s.below' hb⟩
theorem Tabs.drewN {w : World} (h : Tabs w) (n : Nat) : Tabs (w.drewN n) := ⟨h.k, h.s⟩
/-- and the reference's -/
structure RTab (w : World) : Prop where
  r : HasRow w 1 (wvs Sha.K)
theorem RTab.below {w w' : World} (h : RTab w) (hb : Below w.heap.size w w') : RTab w' := ⟨h.r.below' hb⟩
theorem RTab.drewN {w : World} (h : RTab w) (n : Nat) : RTab (w.drewN n) := ⟨h.r⟩
theorem byte_val (tag : Int) : IntKind.u8.wrap tag = ((Mk.byte tag).toNat : Int) := by
  rw [IntKind.wrap_u8', Mk.byte, UInt8.toNat_ofNat']
  simp only [Nat.reducePow]
  omega
theorem input_take {tag : Int} {parts : List ByteArray} {k : Nat} (h : k < parts.length) : Mk.input tag (parts.take (k + 1)) = Mk.input tag (parts.take k) ++ Wire.encB parts[k].data.toList := by
  unfold Mk.input
  rw [List.take_succ_eq_append_getElem h, List.flatMap_append, List.append_assoc]
  simp
theorem input_mono (tag : Int) (parts : List ByteArray) (k : Nat) : (Mk.input tag (parts.take k)).length ≤ (Mk.input tag parts).length := by
  have h : Mk.input tag parts = Mk.input tag (parts.take k) ++ (parts.drop k).flatMap fun s => Wire.encB s.data.toList := by
    unfold Mk.input
    conv => lhs; rw [← List.take_append_drop k parts]
    rw [List.flatMap_append, List.append_assoc]
  rw [h, List.length_append]; omega
theorem encB_ge (l : List UInt8) : l.length ≤ (Wire.encB l).length := by unfold Wire.encB; rw [List.length_append]; omega
set_option maxHeartbeats 800000 in
theorem input_any (tag : Int) (A : Option Addr) (n c : Nat) (parts : List ByteArray) (hl : parts.length = n) (B : Nat) (w : World) (hr : Rd w B 1 A n (svs parts)) (hB : B ≤ w.heap.size) (N : Nat) (hN : (Mk.input tag parts).length = N) (hb : N ≤ 1099511627776) :
    Calls Tryd.prog 72 #[.int .i64 tag, .slice A n c] w fun e w' => ∃ A' c', e = .returned (.slice A' N c') ∧ w'.ownsRow w.heap.size 5 1 (.slice A' N c') N (bvs (Mk.input tag parts)) ∧ Below w.heap.size w w' := by
  have hn : n ≤ N := by
    rw [← hN, ← hl]
    have : ∀ l : List ByteArray, l.length ≤ (l.flatMap fun s => Wire.encB s.data.toList).length := by
      intro l
      induction l with
      | nil => simp
      | cons x l ih =>
        have h1 : 1 ≤ (Wire.encB x.data.toList).length := by unfold Wire.encB; rw [List.length_append, Wire.enc_length]; omega
        simp only [List.flatMap_cons, List.length_append, List.length_cons]
        omega
    have := this parts
    unfold Mk.input
    rw [List.length_append]; omega
  have HN := Lib.hid hN
  have HL := Lib.hid hl
  have hbv := byte_val tag
  clear hN hl
  generalize hby : Mk.byte tag = y at hbv
  have HBY := Lib.hid hby
  clear hby
  go_enter Tryd.func72, Tryd.ntmps72
  go_wp2
  have own0 := own_one' (w := w) (v := .int .u8 (y.toNat : Int)) rfl (e := 5)
  have e0 : Mk.input tag (parts.take 0) = [y] := by rw [← HBY.out]; simp [Mk.input]
  go_loopw [5, 13] (fun u5 u13 wr => ∃ (k m : Nat) (A' : Option Addr) (c' : Nat), k ≤ n ∧ u13 = .int .i64 k ∧ u5 = .slice A' m c' ∧ Hid ((Mk.input tag (parts.take k)).length = m) ∧ m ≤ N ∧
     wr.ownsRow w.heap.size 5 1 (.slice A' m c') m (bvs (Mk.input tag (parts.take k))) ∧ Below w.heap.size w wr) (fun _ u _ => n - (intOf u).toNat)
  case atStart => exact ⟨0, 1, _, 1, by omega, rfl, rfl, by rw [e0]; rfl, by rw [← HN.out]; have := input_mono tag parts 0; rw [e0] at this; simpa using this, by rw [e0]; exact own0, (Below.refl _ _).alloc (Nat.le_refl _) _⟩
  case round =>
    clear own0 e0
    obtain ⟨k, m, A2, c2, hk, rfl, rfl, HM, hmN, own2, hb2⟩ := hrel
    by_cases hlt : k < n
    · obtain ⟨bb, ob, rfl, _, hc⟩ := (hr.below (hb2.mono hB)).get (show k < parts.length by rw [HL.out]; exact hlt)
      have hsn := input_take (tag := tag) (parts := parts) (k := k) (by rw [HL.out]; exact hlt)
      have hmono := input_mono tag parts (k + 1)
      rw [HN.out, hsn, List.length_append, HM.out] at hmono
      generalize parts[k]'(by rw [HL.out]; exact hlt) = x at *
      have hge := encB_ge x.data.toList
      have hsz : x.data.toList.length = x.size := by simp
      rw [hsz] at hge
      obtain ⟨f, hf⟩ : ∃ f, (Wire.encB x.data.toList).length = f := ⟨_, rfl⟩
      rw [hf] at hge hmono
      have HF := Lib.hid hf
      have HSN := Lib.hid hsn
      have hwb := wireBytes_any x (by omega)
      rw [hf] at hwb
      have HWB := Lib.hid hwb
      clear hwb hsz hf hsn
      go_wp2_with (first
        | (go_at_call 88; refine (HWB.out _).mono ?_; rintro e w3 ⟨A3, c3, rfl, own3, hb3⟩)
        | (at_builtin; refine wpList_appR rfl (.tmp 17) (.tmp 19) 58 rfl w.heap.size 5 _ 1 1 bytesE A2 m c2 _ A3 f c3 _ rfl rfl (own_below own2 hb3) (Rd.of_own own3) (bvs_one _) (hb2.trans (hb3.mono hb2.size)) (by omega) (Nat.le_refl _) (Nat.le_trans hb2.size hb3.size) ?_; intro A4 c4 w4 own4 hb4))
      go_roundw
      case rel => exact ⟨k + 1, m + f, A4, c4, by omega, by go_num, rfl, (show _ = _ from by rw [HSN.out, List.length_append, HM.out, HF.out]), by omega, by rw [HSN.out, ← bvs_append]; exact own4, hb4⟩
      case measure => simp [intOf]; omega
    · obtain rfl : k = n := by omega
      have hfull : Mk.input tag (parts.take k) = Mk.input tag parts := by rw [List.take_of_length_le (by rw [HL.out]; exact Nat.le_refl _)]
      have hmm : m = N := by rw [← HM.out, hfull, HN.out]
      rw [hfull] at own2
      have HMM := Lib.hid hmm
      clear hfull hmm
      go_wp2
      go_ret
      have e := HMM.out
      subst e
      exact ⟨A2, c2, rfl, own2, hb2⟩
theorem info16 : (Tryd.prog.info? 66).map (fun i => (i.zero, i.size)) = some (some (.agg (List.replicate 16 (Value.int .u8 0)).toArray), (List.replicate 16 (Value.int .u8 0)).length) := by kernel_rfl
theorem size16 : (Tryd.prog.info? 66).map (·.size) = some 16 := by kernel_rfl
theorem IsRow.range {w : World} {b t : Nat} {l : List Value} (h : IsRow w b t l) (n : Nat) : w.rangeAt b 0 (l.take n) := fun j v hv => by
  rw [Nat.zero_add, h.cell]
  rw [List.getElem?_take] at hv
  split at hv
  · exact hv
  · cases hv
theorem bvs_take (l : List UInt8) (n : Nat) : (bvs l).take n = bvs (l.take n) := by simp [bvs, List.map_take]
/-- a digest's value -/
abbrev dv (d : List UInt8) : Value := .agg (bvs d).toArray
set_option maxHeartbeats 800000 in
theorem short_any (A : Option Addr) (n c : Nat) (l : List UInt8) (hl : l.length = n) (hn : n ≤ 1099511627776) (B : Nat) (w : World) (hr : Rd w B 1 A n (bvs l)) (hB : B ≤ w.heap.size) (hT : Tabs w) :
    Calls Tryd.prog 71 #[.slice A n c] w fun e w' => e = .returned (dv (Mk.short l)) ∧ Below w.heap.size w w' := by
  have hl32 := Sha.sum_len l
  have hl16 := Mk.short_len l
  have HL := Lib.hid hl
  have HL32 := Lib.hid hl32
  have HL16 := Lib.hid hl16
  clear hl hl32 hl16
  have tok1 : True := trivial
  go_enter Tryd.func71, Tryd.ntmps71
  go_wp2_with (first
    | (have _t := tok1; refine wpList_allocRow rfl _ rfl _ info16 ?_; intro w1 r1 b1 z1; have HZ1 := Lib.hid z1; clear z1 tok1)
    | (go_at_call 87; refine (sum_any A n c l HL.out hn B w1 (hr.below (b1.mono hB)) (Nat.le_trans hB b1.size) (hT.below b1).k (hT.below b1).s).mono ?_; rintro e w2 ⟨rfl, b2⟩)
    | (refine wpList_allocRow rfl _ rfl _ info32 ?_; intro w3 r3 b3 z3; have HZ3 := Lib.hid z3; clear z3)
    | (refine wpList_storeRow rfl _ (.tmp 3) (.tmp 5) rfl r3 rfl rfl (by rw [bvs_len, HL32.out]; exact size32) (by rw [bvs_len, HL32.out, List.length_replicate]) (bvs_all _) ?_; intro w4 r4 g4 z4; have HZ4 := Lib.hid z4; clear z4; have hat := fun W => run_arrayAt (P := Tryd.prog) W 66 5 16 (some ⟨w2.heap.size, 0, none⟩) 16 32 Tryd.underlying66 (by omega); have rg := r4.range 16; rw [bvs_take] at rg; have r14 := ((r1.below' b2).below' b3).grown g4 (by have := r1.lt; have := b2.size; intro h; have h := Option.some.inj h; omega))
    | (refine wpList_load_mid rfl _ (.tmp 7) rfl w2.heap.size 0 rfl (bvs (Mk.short l)) _ rg Tryd.underlying66 rfl (by rw [bvs_len, HL16.out]; exact size16) ?_; clear hat rg)
    | (refine wpList_storeRow rfl _ (.tmp 2) (.tmp 8) rfl r14 rfl rfl (by rw [bvs_len, HL16.out]; exact size16) (by rw [bvs_len, HL16.out, List.length_replicate]) (bvs_all _) ?_; intro w5 r5 g5 z5))
  have z1 := HZ1.out
  have z3 := HZ3.out
  have z4 := HZ4.out
  have h2 := b2.size
  have hb4 : Below w.heap.size w w4 := ((b1.trans (b2.mono b1.size)).trans (b3.mono (by omega))).grown g4 (by omega) (by intro k hk; have hk := Option.some.inj hk; omega)
  exact bodyPost_ret (resultRow rfl _ _ r5 rfl Tryd.underlying66 (by rw [bvs_len, HL16.out]; exact size16)) rfl ⟨rfl, hb4.grown g5 hb4.size (by intro k hk; have hk := Option.some.inj hk; omega)⟩
end
/-! A digest by the reference, and Of: walks of the reference's Short and Of and of digest's Of. -/
section
open Go.RowKit
/-- the first t bytes of a digest, zeros behind -/
def sp (d : List UInt8) (t : Nat) : List UInt8 := d.take t ++ List.replicate (16 - t) 0
set_option maxHeartbeats 800000 in
theorem of_any (tag : Int) (A : Option Addr) (n c : Nat) (parts : List ByteArray) (hl : parts.length = n) (B : Nat) (w : World) (hr : Rd w B 1 A n (svs parts)) (hB : B ≤ w.heap.size) (hb : (Mk.input tag parts).length ≤ 1099511627776) (hT : Tabs w) :
    Calls Tryd.prog 31 #[.int .i64 tag, .slice A n c] w fun e w' => e = .returned (dv (Mk.of tag parts)) ∧ Below w.heap.size w w' := by
  obtain ⟨N, hN⟩ : ∃ N, (Mk.input tag parts).length = N := ⟨_, rfl⟩
  rw [hN] at hb
  have hl16 := Mk.short_len (Mk.input tag parts)
  have HL := Lib.hid hl
  have HL16 := Lib.hid hl16
  have HN := Lib.hid hN
  clear hl hl16 hN
  go_enter Tryd.func31, Tryd.ntmps31
  go_wp2_with (first
    | (refine wpList_allocRow rfl _ rfl _ info16 ?_; intro w1 r1 b1 z1; have HZ1 := Lib.hid z1; clear z1)
    | (go_at_call 72; refine (input_any tag A n c parts HL.out B w1 (hr.below (b1.mono hB)) (Nat.le_trans hB b1.size) N HN.out hb).mono ?_; rintro e w2 ⟨A2, c2, rfl, own2, b2⟩; have rd2 := Rd.of_own own2; have r2 := r1.below' b2)
    | (go_at_call 71; refine (short_any A2 N c2 (Mk.input tag parts) HN.out hb _ w2 rd2 (Nat.le_refl _) ((hT.below b1).below b2)).mono ?_; rintro e w3 ⟨rfl, b3⟩; have r3 := r2.below' b3)
    | (refine wpList_storeRow rfl _ (.tmp 4) (.tmp 8) rfl r3 rfl rfl (by rw [bvs_len, HL16.out]; exact size16) (by rw [bvs_len, HL16.out, List.length_replicate]) (bvs_all _) ?_; intro w5 r5 g5 z5))
  have hb3 : Below w.heap.size w w3 := (b1.trans (b2.mono b1.size)).trans (b3.mono (by have := b1.size; have := b2.size; omega))
  exact bodyPost_ret (resultRow rfl _ _ r5 rfl Tryd.underlying66 (by rw [bvs_len, HL16.out]; exact size16)) rfl ⟨rfl, hb3.grown g5 hb3.size (by intro k hk; have hk := Option.some.inj hk; omega)⟩
end
/-! Two digests compared. No condition. -/
section
open Go.RowKit
theorem sizeU8e (w : World) : (sizeOf 5).run Tryd.prog w = .ok 1 w := by
  have : (Tryd.prog.info? 5).map (·.size) = some 1 := by kernel_rfl
  cases hq : Tryd.prog.info? 5 with
  | none => simp [hq] at this
  | some i => simp [hq] at this; simp [sizeOf, typeInfo, hq, this]
theorem run_neq_digE (w : World) {x y : List UInt8} (hx : x.length = 16) (hy : y.length = 16) :
    (binOp .neq 66 (.agg (bvs x).toArray) (.agg (bvs y).toArray)).run Tryd.prog w = .ok (.bool (!(x == y))) w := by
  rw [run_neq_struct]
  have h := run_equalIn_bytes (P := Tryd.prog) w 9998 66 5 16 Tryd.underlying66 Tryd.underlying5 sizeU8e x y hx hy
  have e : ∀ l : List UInt8, (l.map Extern.Stop.cell) = bvs l := fun l => rfl
  rw [e, e] at h
  rw [h]; rfl
end
end Go.Proofs.YtkjomnakolhdcaaDoor
