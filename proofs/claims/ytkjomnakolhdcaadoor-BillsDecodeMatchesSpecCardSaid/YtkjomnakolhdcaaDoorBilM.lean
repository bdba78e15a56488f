/- Joined texts: BilM, BilN, BilO. Conditions: as each part says. -/
import Derived.Test.YtkjomnakolhdcaaDoorRows
import Derived.Test.YtkjomnakolhdcaaDoorDigBase
import Derived.Test.YtkjomnakolhdcaaDoorMaps
import Derived.Test.YtkjomnakolhdcaaDoorBilP
import Derived.Test.YtkjomnakolhdcaaDoorBilE
import Derived.Lib.SliceRun
import Derived.WalkKit
import Derived.Deep.QuietTactic
import Derived.BigQuiet
import Derived.RegionTactic
import Derived.Outline
namespace Go.Proofs.YtkjomnakolhdcaaDoor
set_option linter.unusedVariables false
set_option linter.unusedSimpArgs false
/-! Memory of layer 35's ledgers: rows of numbers, the row of the kept accounts (which begins anywhere in its block), the ledger's own variable, frames by colours of blocks. Conditions: at most 16 tenants. -/
section
open Go.RowKit
theorem alloc_size1 (w : World) (o : Obj) : (w.alloc o).heap.size = w.heap.size + 1 := by simp
theorem grownBy_of_below {w w' : World} (h : Below w.heap.size w w') : w.grownBy w' none := ⟨h.os, h.tape, h.output, h.size, fun k hk _ => h.block k hk⟩
theorem grown_setCell (w : World) (b o : Nat) (v : Value) : w.grownBy (w.setCell ⟨b, o, none⟩ v) (some b) := ⟨rfl, rfl, rfl, by simp, fun k _ hk => Below.heap_setCell _ _ _ k (fun e => hk (by rw [e]))⟩
theorem cell_set_ne (w : World) {g i j : Nat} (v : Value) (h : i ≠ j) : (w.setCell ⟨g, i, none⟩ v).cell? ⟨g, j, none⟩ = w.cell? ⟨g, j, none⟩ := World.cell?_setCell_other _ _ _ _ (fun e => h (congrArg (·.off) e))
theorem cell_set_eq (w : World) {g i : Nat} {u : Value} (v : Value) (h : w.cell? ⟨g, i, none⟩ = some u) : (w.setCell ⟨g, i, none⟩ v).cell? ⟨g, i, none⟩ = some v := World.cell?_setCell_same _ _ _ h
theorem _root_.Go.World.grownBy.any {w w' : World} {r : Option Nat} (h : w.grownBy w' none) : w.grownBy w' r := ⟨h.os, h.tape, h.output, h.size, fun k hk _ => h.block k hk (by simp)⟩
/-! Rows of numbers -/
/-- the first n cells of block g hold d, and may be written -/
structure FRow (w : World) (g n : Nat) (d : Nat → Int) : Prop where
  lt : g < w.heap.size
  cell : ∀ t, t < n → w.cell? ⟨g, t, none⟩ = some (.int .i64 (d t))
  free : ∀ t, t < n → w.frozen? ⟨g, t, none⟩ = false
section
variable {w w' : World} {g n : Nat} {d : Nat → Int}
theorem FRow.keep (h : FRow w g n d) (hk : w'.heap[g]? = w.heap[g]?) : FRow w' g n d := by
  refine ⟨?_, fun t ht => (World.cell?_of_block (a := ⟨g, t, none⟩) hk).trans (h.cell t ht), fun t ht => (World.frozen?_of_block (a := ⟨g, t, none⟩) hk).trans (h.free t ht)⟩
  have h1 : w.heap[g]? = some (w.heap[g]'h.lt) := Array.getElem?_eq_getElem h.lt
  rw [h1] at hk
  exact (Array.getElem?_eq_some_iff.1 hk).1
theorem FRow.below (h : FRow w g n d) (hb : Below w.heap.size w w') : FRow w' g n d := h.keep (hb.block g h.lt)
theorem FRow.keeps {S : Nat → Prop} (h : FRow w g n d) (hk : Keep S w w') (hs : ¬ S g) : FRow w' g n d := h.keep (hk.block g h.lt hs)
theorem FRow.drewN (h : FRow w g n d) (k : Nat) : FRow (w.drewN k) g n d := h.keep rfl
theorem FRow.congr (h : FRow w g n d) {e : Nat → Int} (he : ∀ t, t < n → e t = d t) : FRow w g n e := ⟨h.lt, fun t ht => by rw [he t ht]; exact h.cell t ht, h.free⟩
theorem FRow.set (h : FRow w g n d) {k : Nat} (hk : k < n) (v : Int) : FRow (w.setCell ⟨g, k, none⟩ (.int .i64 v)) g n (fun t => if t = k then v else d t) := by
  refine ⟨by have := h.lt; simpa using this, fun t ht => ?_, fun t ht => by have := h.free t ht; simpa using this⟩
  by_cases e : k = t
  · subst e; rw [cell_set_eq _ _ (h.cell k hk), if_pos rfl]
  · rw [cell_set_ne _ _ e, if_neg (fun e' => e e'.symm)]; exact h.cell t ht
theorem FRow.rd {l : List Int} (h : FRow w g n (fun t => l.getD t 0)) (hl : l.length = n) : Rd w w.heap.size 1 (some ⟨g, 0, none⟩) n (ivs l) := by
  refine ⟨by simp [hl], fun _ => ⟨g, 0, rfl, h.lt, fun j u hu => ?_⟩⟩
  have hj : j < l.length := by simpa using (List.getElem?_eq_some_iff.1 hu).1
  have hu' : u = .int .i64 l[j] := by simp [ivs, hj] at hu; exact hu.symm
  rw [Nat.zero_add, h.cell j (by omega), hu']
  simp [List.getD, hj]
theorem FRow.of_own {base c : Nat} {A : Option Addr} {e : TypeId} {l : List Int} (h : w.ownsRow base e 1 (.slice A n c) n (ivs l)) (hn : 0 < n) : ∃ g, A = some ⟨g, 0, none⟩ ∧ base ≤ g ∧ FRow w g n (fun t => l.getD t 0) := by
  have hll : l.length = n := by simpa using h.1
  obtain ⟨g, cap, hv, hb, hlt⟩ := h.form hn
  injection hv with hA _ hc
  subst hA
  subst hc
  refine ⟨g, rfl, hb, hlt, fun t ht => ?_, fun t _ => h.frozenAt t⟩
  rw [h.cellAt t (by omega)]
  simp [ivs, List.getD, show t < l.length by omega]
end
theorem bintT : ElemT Tryd.prog 29 3 (.int .i64 0) 1 8 := ⟨Tryd.underlying29, by kernel_rfl, rfl, by decide, by decide⟩
theorem mkInts (n : Nat) (hn : n ≤ 1000) : ∃ M : Array Value, (∀ t, t < n → M[t]? = some (.int .i64 0)) ∧ ∀ W : World, (Instr.makeSlice 29 (.int .i64 (n : Int)) (.int .i64 (n : Int))).run Tryd.prog W = .ok (.slice (some ⟨W.heap.size, 0, none⟩) n n) (W.alloc (.cells M 3)) := by
  have hi := bintT.info
  cases h : Tryd.prog.info? 3 with
  | none => rw [h] at hi; simp at hi
  | some i =>
    rw [h] at hi
    simp only [Option.map_some, Option.some.injEq, Prod.mk.injEq] at hi
    obtain ⟨hz, hs, hb⟩ := hi
    refine ⟨madeCells (Value.int .i64 0).cells ((n : Int).toNat * i.size), fun t ht => ?_, fun W => ?_⟩
    · have hc : (Value.int .i64 0).cells = #[.int .i64 0] := rfl
      rw [hs, hc]; simp [madeCells, ht, Nat.mod_one]
    · have := run_make (P := Tryd.prog) W 29 3 i (.int .i64 0) Tryd.underlying29 h hz .i64 .i64 n n (by omega) (Int.le_refl _) (by rw [hb]; omega) (by omega)
      simpa using this
theorem new_ints {w w' : World} {M : Array Value} {ty : TypeId} {n : Nat} (h : w.alloc (.cells M ty) = w') (hM : ∀ t, t < n → M[t]? = some (.int .i64 0)) : FRow w' w.heap.size n (fun _ => 0) ∧ w'.heap.size = w.heap.size + 1 ∧ Below w.heap.size w w' := by
  subst h
  refine ⟨⟨by rw [alloc_size1]; omega, fun t ht => ?_, fun t _ => World.frozen?_alloc_new _ _ _ _⟩, alloc_size1 _ _, (Below.refl _ _).alloc (Nat.le_refl _) _⟩
  rw [cell_of_row _ _ _ _ _ _ (heap_alloc_new w _)]; exact hM t ht
set_option maxHeartbeats 800000 in
theorem cloneI (A : Option Addr) (n c : Nat) (l : List Int) (hl : l.length = n) (hn : n ≤ 1000) (B : Nat) (w : World) (hr : Rd w B 1 A n (ivs l)) (hB : B ≤ w.heap.size) :
    Calls Tryd.prog 36 #[.slice A n c] w fun e w' => ∃ A' c', e = .returned (.slice A' n c') ∧ w'.ownsRow w.heap.size 3 1 (.slice A' n c') n (ivs l) ∧ Below w.heap.size w w' := by
  have he := fun w => Lib.run_eql_slice_nil (P := Tryd.prog) w 29 3 A n c 0 0 Tryd.underlying29
  cases A with
  | none =>
    have h0 : n = 0 := by
      rcases Nat.eq_zero_or_pos n with h | h
      · exact h
      · obtain ⟨b, off, e, _⟩ := hr.2 h; cases e
    subst h0
    obtain rfl : l = [] := List.eq_nil_of_length_eq_zero hl
    go_enter Tryd.func36, Tryd.ntmps36
    go_wp2
    go_ret
    exact ⟨none, 0, rfl, World.ownsRow_nil _ _ _ _, Below.refl _ _⟩
  | some ad =>
    have he := fun w => (he w).trans (show _ = Result.ok (Value.bool false) w from rfl)
    clear hl
    go_enter Tryd.func36, Tryd.ntmps36
    go_wp2_with (at_builtin; refine wpList_appR rfl (.tmp 5) (.tmp 6) 29 rfl w.heap.size 3 _ 1 8 bintT (some ⟨w.heap.size, 0, none⟩) 0 0 [] (some ad) n c (ivs l) rfl rfl (own_zero w _ 1 _ (Nat.le_refl _)) ((hr.more hB).alloc (Nat.le_refl _) _) (ivs_one _) ((Below.refl _ _).alloc (Nat.le_refl _) _) (by omega) (Nat.le_refl _) (by simp) ?_; intro A1 c1 w1 own1 hb1; simp only [Nat.zero_add, List.nil_append] at own1)
    go_ret
    exact ⟨A1, c1, rfl, own1, hb1⟩

/-! The kept accounts -/
/-- an account in memory: where its four lists lie -/
structure KA where
  a : Bil.Acc
  (bc cc br cr bt ct bg cg : Nat)
/-- the cells of an account of n tenants -/
def KA.cells (n : Nat) (k : KA) : List Value := [.int .i64 k.a.bill.period, .int .i64 k.a.bill.media, .int .i64 k.a.bill.house, .slice (some ⟨k.bc, 0, none⟩) n k.cc, .slice (some ⟨k.br, 0, none⟩) n k.cr, .slice (some ⟨k.bt, 0, none⟩) n k.ct, .slice (some ⟨k.bg, 0, none⟩) n k.cg]
theorem KA.cells_len (n : Nat) (k : KA) : (k.cells n).length = 7 := rfl
def kcs (n : Nat) (ks : List KA) : List Value := ks.flatMap (KA.cells n)
theorem kcs_len (n : Nat) (ks : List KA) : (kcs n ks).length = ks.length * 7 := by
  unfold kcs
  induction ks with
  | nil => rfl
  | cons k ks ih => rw [List.flatMap_cons, List.length_append, ih, KA.cells_len, List.length_cons]; omega
theorem kcs_snoc (n : Nat) (ks : List KA) (k : KA) : kcs n (ks ++ [k]) = kcs n ks ++ k.cells n := by simp [kcs]
theorem kcs_one (n : Nat) (k : KA) : ∀ u ∈ k.cells n, u.oneCell' = true := by
  intro u hu
  simp only [KA.cells, List.mem_cons, List.not_mem_nil, or_false] at hu
  rcases hu with rfl | rfl | rfl | rfl | rfl | rfl | rfl <;> rfl
theorem kcs_drop (n : Nat) (ks : List KA) (k : Nat) : kcs n (ks.drop k) = (kcs n ks).drop (k * 7) := by
  induction k generalizing ks with
  | zero => simp
  | succ k ih =>
    cases ks with
    | nil => simp [kcs]
    | cons a ks =>
      rw [List.drop_succ_cons, ih]
      show _ = ((a.cells n) ++ kcs n ks).drop ((k + 1) * 7)
      rw [show (k + 1) * 7 = (a.cells n).length + k * 7 by rw [KA.cells_len]; omega, List.drop_append, List.drop_of_length_le (l := a.cells n) (by omega), List.nil_append, Nat.add_sub_cancel_left]
theorem kcs_get (n : Nat) (ks : List KA) {i j : Nat} (hi : i < ks.length) (hj : j < 7) : (kcs n ks)[i * 7 + j]? = (ks[i].cells n)[j]? := flatMap_get? (fun d _ => KA.cells_len n d) hi hj
/-- the row of the kept accounts: it begins anywhere in its block, and its capacity lies in it -/
def KRow (w : World) (n : Nat) (A : Option Addr) (c : Nat) (ks : List KA) : Prop :=
  (A = none ∧ c = 0 ∧ ks = []) ∨ ∃ g off cur, A = some ⟨g, off, none⟩ ∧ w.heap[g]? = some (.cells cur 79 (0, 0)) ∧ ks.length ≤ c ∧ c ≤ maxLen ∧ off + c * 7 ≤ cur.size ∧ ∀ j u, (kcs n ks)[j]? = some u → cur[off + j]? = some u
theorem KRow.keep {w w' : World} {n c : Nat} {A : Option Addr} {ks : List KA} (h : KRow w n A c ks) (hk : ∀ a, A = some a → w'.heap[a.block]? = w.heap[a.block]?) : KRow w' n A c ks := by
  rcases h with h | ⟨g, off, cur, rfl, h1, r⟩
  · exact .inl h
  · exact .inr ⟨g, off, cur, rfl, (hk _ rfl).trans h1, r⟩
theorem KRow.lt {w : World} {n c : Nat} {A : Option Addr} {ks : List KA} (h : KRow w n A c ks) {a : Addr} (ha : A = some a) : a.block < w.heap.size := by
  rcases h with ⟨h, _⟩ | ⟨g, off, cur, rfl, h1, r⟩
  · rw [h] at ha; cases ha
  · obtain rfl := Option.some.inj ha; exact (Array.getElem?_eq_some_iff.1 h1).1
theorem KRow.nil (w : World) (n : Nat) : KRow w n none 0 [] := .inl ⟨rfl, rfl, rfl⟩
theorem KRow.form {w : World} {n c : Nat} {A : Option Addr} {ks : List KA} (h : KRow w n A c ks) (hk : 0 < ks.length) : ∃ g off, A = some ⟨g, off, none⟩ ∧ ks.length ≤ c ∧ ∀ i (hi : i < ks.length) (j : Nat) (u : Value), (ks[i].cells n)[j]? = some u → w.cell? ⟨g, off + i * 7 + j, none⟩ = some u := by
  rcases h with ⟨_, _, rfl⟩ | ⟨g, off, cur, rfl, h1, h2, h3, h4, h5⟩
  · cases hk
  · refine ⟨g, off, rfl, h2, fun i hi j u hu => ?_⟩
    have hj : j < 7 := by have := (List.getElem?_eq_some_iff.1 hu).1; rwa [KA.cells_len] at this
    rw [cell_of_row w g _ cur _ (0, 0) h1, Nat.add_assoc]
    exact h5 _ _ (by rw [kcs_get n ks hi hj]; exact hu)
theorem accT : ElemT Tryd.prog 69 79 (.agg #[.int .i64 0, .int .i64 0, .int .i64 0, .slice none 0 0, .slice none 0 0, .slice none 0 0, .slice none 0 0]) 7 120 := ⟨Tryd.underlying69, by kernel_rfl, rfl, by decide, by decide⟩
/-- append within the capacity, wherever in its block the row begins -/
theorem run_append_off {P : Program} (w : World) (t ty e : TypeId) (i : TypeInfo) (ht : P.underlying t = some (.slice e)) (hi : P.info? e = some i)
    (g off sLen sCap : Nat) (cur : Array Value) (hg : w.heap[g]? = some (.cells cur e (0, 0)))
    (a : Addr) (m c : Nat) (news : List Value) (hl : news.length = m * i.size) (hnews : ∀ j u, news[j]? = some u → w.cell? (a.add j) = some u) (h1 : ∀ u ∈ news, u.oneCell' = true)
    (hroom : sLen + m ≤ sCap) (hfit : off + sLen * i.size + news.length ≤ cur.size) :
    (Builtin.append_ #[t, t] ty #[.slice (some ⟨g, off, none⟩) sLen sCap, .slice (some a) m c]).run P w =
      .ok (.slice (some ⟨g, off, none⟩) (sLen + m) sCap) (w.setRow g (cur.toList.take (off + sLen * i.size) ++ news ++ cur.toList.drop (off + sLen * i.size + news.length)).toArray) := by
  have hf := run_firstCells_some (P := P) w i.size m a m c news hl hnews
  have hst := run_storeCells_at P g (off + sLen * i.size) e news 0 cur w hg (by simpa using hfit) h1
  simp only [Nat.add_zero] at hst
  simp [Builtin.append_, run_underlying ht, sizeOf, typeInfo, hi, Builtin.lenOf, hroom, hf, Addr.add_lit, hst]
/-- 'kept = append(kept, account)' -/
theorem run_kapp (w : World) (n c : Nat) (A : Option Addr) (ks : List KA) (h : KRow w n A c ks) (k : KA) (b : Nat) (hk : ∀ j u, (k.cells n)[j]? = some u → w.cell? ⟨b, j, none⟩ = some u) (hlen : ks.length ≤ 1000) (ty : TypeId) :
    ∃ g off c' w', (Builtin.append_ #[69, 69] ty #[.slice A ks.length c, .slice (some ⟨b, 0, none⟩) 1 1]).run Tryd.prog w = .ok (.slice (some ⟨g, off, none⟩) (ks.length + 1) c') w' ∧ KRow w' n (some ⟨g, off, none⟩) c' (ks ++ [k]) ∧ ((∃ o, A = some ⟨g, o, none⟩) ∨ g = w.heap.size) ∧ w.grownBy w' (some g) := by
  obtain ⟨i, hi, hz, hsize, hby⟩ := info_parts accT.info
  have hnews : ∀ j u, (k.cells n)[j]? = some u → w.cell? ((⟨b, 0, none⟩ : Addr).add j) = some u := fun j u hu => by rw [Addr.add_lit, Nat.zero_add]; exact hk j u hu
  have hml : (1000 : Nat) + 1 ≤ maxLen := by unfold maxLen; omega
  have new : ∀ (old : Nat) (olds : List Value), olds = kcs n ks → old < ks.length + 1 →
      KRow (w.drew.alloc (.cells (olds.toArray ++ (k.cells n).toArray ++ Builtin.zeroCells (Value.agg #[.int .i64 0, .int .i64 0, .int .i64 0, .slice none 0 0, .slice none 0 0, .slice none 0 0, .slice none 0 0]).cells (grownCap w (ks.length + 1) old 79 - (ks.length + 1))) 79)) n
        (some ⟨w.heap.size, 0, none⟩) (grownCap w (ks.length + 1) old 79) (ks ++ [k]) := by
    intro old olds ho _
    subst ho
    have hge := grownCap_ge w (ks.length + 1) old 79
    have hcm : grownCap w (ks.length + 1) old 79 ≤ maxLen := grownCap_le_maxLen w _ old _ (by omega)
    refine .inr ⟨w.heap.size, 0, _, rfl, heap_alloc_new w.drew _, by rw [List.length_append]; exact hge, hcm, ?_, fun j u hu => ?_⟩
    · have hz7 : (Value.agg #[.int .i64 0, .int .i64 0, .int .i64 0, .slice none 0 0, .slice none 0 0, .slice none 0 0, .slice none 0 0]).cells.size = 7 := by decide
      simp only [Array.size_append, List.size_toArray, size_zeroCells, hz7, kcs_len, KA.cells_len]
      omega
    · rw [kcs_snoc] at hu
      have hj := (List.getElem?_eq_some_iff.1 hu).1
      rw [Nat.zero_add, Array.getElem?_append_left (by simpa using hj), List.append_toArray, List.getElem?_toArray]
      exact hu
  rcases h with ⟨rfl, rfl, rfl⟩ | ⟨g, off, cur, rfl, h1, h2, h3, h4, h5⟩
  · have hr := run_append_nil (P := Tryd.prog) w 69 ty 79 i _ accT.sl hi hz ⟨b, 0, none⟩ 1 1 (k.cells n) (by rw [hsize]; rfl) hnews (by omega) (by omega) (by rw [hby]; omega)
    have hN := new 0 [] rfl (by simp)
    simp only [List.length_nil, Nat.zero_add] at hN
    have he : (#[] : Array Value) ++ (k.cells n).toArray = (k.cells n).toArray := by simp
    rw [he] at hN
    exact ⟨w.heap.size, 0, _, _, hr, hN, .inr rfl, ⟨rfl, rfl, rfl, by simp, fun q hq _ => Below.heap_alloc w.drew _ q hq⟩⟩
  · by_cases hroom : ks.length + 1 ≤ c
    · have hfit : off + ks.length * i.size + (k.cells n).length ≤ cur.size := by rw [hsize, KA.cells_len]; omega
      have hr := run_append_off (P := Tryd.prog) w 69 ty 79 i accT.sl hi g off ks.length c cur h1 ⟨b, 0, none⟩ 1 1 (k.cells n) (by rw [hsize]; rfl) hnews (kcs_one n k) hroom hfit
      refine ⟨g, off, c, _, hr, .inr ⟨g, off, _, rfl, setRow_heap w g cur _ _ _ h1, by rw [List.length_append]; exact hroom, h3, ?_, fun j u hu => ?_⟩, .inl ⟨off, rfl⟩, ⟨rfl, rfl, rfl, by simp [World.setRow], fun k _ hk => setRow_other w g k _ (fun e => hk (by rw [e]))⟩⟩
      · rw [hsize, KA.cells_len]
        simp only [List.size_toArray, List.length_append, List.length_take, List.length_drop, Array.length_toList, KA.cells_len]
        omega
      · rw [kcs_snoc] at hu
        have hj := (List.getElem?_eq_some_iff.1 hu).1
        rw [List.length_append, kcs_len, KA.cells_len] at hj
        rw [hsize, KA.cells_len, List.getElem?_toArray, List.append_assoc]
        rcases Nat.lt_or_ge j (ks.length * 7) with hlt | hge
        · rw [List.getElem?_append_left (by rw [kcs_len]; exact hlt)] at hu
          rw [List.getElem?_append_left (by simp only [List.length_take, Array.length_toList]; omega), List.getElem?_take, if_pos (by omega), Array.getElem?_toList]
          exact h5 j u hu
        · rw [List.getElem?_append_right (by rw [kcs_len]; exact hge), kcs_len] at hu
          have ht : (cur.toList.take (off + ks.length * 7)).length = off + ks.length * 7 := by simp only [List.length_take, Array.length_toList]; omega
          rw [List.getElem?_append_right (by rw [ht]; omega), ht, List.getElem?_append_left (by rw [KA.cells_len]; omega), show off + j - (off + ks.length * 7) = j - ks.length * 7 by omega]
          exact hu
    · have holds : ∀ j u, (kcs n ks)[j]? = some u → w.cell? ((⟨g, off, none⟩ : Addr).add j) = some u := fun j u hu => by
        rw [Addr.add_lit, cell_of_row w g _ cur _ (0, 0) h1]; exact h5 j u hu
      have hr := run_append_grow (P := Tryd.prog) w 69 ty 79 i _ accT.sl hi hz ⟨g, off, none⟩ ks.length c (kcs n ks) (by rw [hsize, kcs_len]) holds ⟨b, 0, none⟩ 1 1 (k.cells n) (by rw [hsize]; rfl) hnews (by omega) (by omega) (growslice_fits (by omega) (by rw [hby]; omega))
      exact ⟨w.heap.size, 0, _, _, hr, new c _ rfl (by omega), .inr rfl, ⟨rfl, rfl, rfl, by simp, fun q hq _ => Below.heap_alloc w.drew _ q hq⟩⟩
/-- 'kept[k:]' -/
theorem KRow.cut {w : World} {n c g off : Nat} {ks : List KA} (h : KRow w n (some ⟨g, off, none⟩) c ks) {k : Nat} (hk : k ≤ ks.length) : KRow w n (some ⟨g, off + k * 7, none⟩) (c - k) (ks.drop k) := by
  rcases h with ⟨h, _⟩ | ⟨g', off', cur, he, h1, h2, h3, h4, h5⟩
  · cases h
  · obtain ⟨rfl, rfl⟩ : g' = g ∧ off' = off := by have he := Option.some.inj he; exact ⟨(congrArg (·.block) he).symm, (congrArg (·.off) he).symm⟩
    refine .inr ⟨g', off' + k * 7, cur, rfl, h1, by rw [List.length_drop]; omega, by omega, ?_, fun j u hu => ?_⟩
    · rw [Nat.sub_mul]; omega
    · rw [kcs_drop, List.getElem?_drop] at hu
      rw [Nat.add_assoc]; exact h5 _ _ hu
end
/-! Layer 35's ledgers in memory; walks of Tenants, Periods, at, Pending, Paid, Head, account. Conditions: the ledger has 1 to 16 tenants and at most 65536 periods. -/
section
open Go.RowKit
/-- an account of n tenants in memory: its blocks are coloured 5 (what never turns) and 6 and more (what is granted) -/
structure KAt (w : World) (col : Nat → Nat) (n : Nat) (k : KA) : Prop where
  c : FRow w k.bc n (fun t => k.a.bill.charges.getD t 0)
  r : FRow w k.br n (fun t => k.a.bill.credits.getD t 0)
  t : FRow w k.bt n (fun t => k.a.bill.nets.getD t 0)
  g : FRow w k.bg n (fun t => k.a.granted.getD t 0)
  lc : k.a.bill.charges.length = n
  lr : k.a.bill.credits.length = n
  lt : k.a.bill.nets.length = n
  lg : k.a.granted.length = n
  qc : col k.bc = 5
  qr : col k.br = 5
  qt : col k.bt = 5
  qg : col k.bg = 6 + k.a.bill.period.toNat
/-- where a ledger's rows lie -/
structure LM where
  A : Option Addr
  c : Nat
  ks : List KA
  bp : Nat
  cp : Nat
  bq : Nat
  cq : Nat
def LM.cells (m : LM) (l : Bil.Lg) : List Value := .int .i64 (l.periods : Int) :: .slice m.A m.ks.length m.c :: .slice (some ⟨m.bp, 0, none⟩) l.n m.cp :: .slice (some ⟨m.bq, 0, none⟩) l.n m.cq :: bvs l.head
/-- block bl is a ledger that reads as l; the blocks that it uses are those with a colour that is not 0, mutable ones with colours of their own -/
structure LAt (w : World) (bl : Nat) (col : Nat → Nat) (m : LM) (l : Bil.Lg) : Prop where
  row : IsRow w bl 71 (m.cells l)
  h16 : l.head.length = 16
  n1 : 1 ≤ l.n
  n2 : l.n ≤ 16
  per : l.periods ≤ 65536
  len : m.ks.length ≤ 16
  pend : FRow w m.bp l.n (fun t => l.pending.getD t 0)
  paid : FRow w m.bq l.n (fun t => l.paid.getD t 0)
  lp : l.pending.length = l.n
  lq : l.paid.length = l.n
  kept : l.kept = m.ks.map KA.a
  krow : KRow w l.n m.A m.c m.ks
  kat : ∀ k ∈ m.ks, KAt w col l.n k
  cbl : col bl = 1
  cbp : col m.bp = 2
  cbq : col m.bq = 3
  cka : ∀ a, m.A = some a → col a.block = 4
  lt : ∀ k, col k ≠ 0 → k < w.heap.size
  tab : col 2 = 0 ∧ col 0 = 0 ∧ col 1 = 0
section
variable {w w' : World} {S : Nat → Prop} {col : Nat → Nat} {n bl : Nat} {k : KA} {m : LM} {l : Bil.Lg}
theorem KAt.keeps (h : KAt w col n k) (hk : Keep S w w') (hs : ∀ b, S b → col b = 0) : KAt w' col n k := by
  have f : ∀ b q, col b = q → q ≠ 0 → ¬ S b := fun b q hq h0 hS => h0 (hq ▸ hs b hS)
  exact ⟨h.c.keeps hk (f _ _ h.qc (by omega)), h.r.keeps hk (f _ _ h.qr (by omega)), h.t.keeps hk (f _ _ h.qt (by omega)), h.g.keeps hk (f _ _ h.qg (by omega)), h.lc, h.lr, h.lt, h.lg, h.qc, h.qr, h.qt, h.qg⟩
theorem LAt.keeps (h : LAt w bl col m l) (hk : Keep S w w') (hs : ∀ b, S b → col b = 0) : LAt w' bl col m l := by
  have f : ∀ b q, col b = q → q ≠ 0 → ¬ S b := fun b q hq h0 hS => h0 (hq ▸ hs b hS)
  exact ⟨h.row.keep (hk.block bl h.row.lt (f _ _ h.cbl (by omega))), h.h16, h.n1, h.n2, h.per, h.len, h.pend.keeps hk (f _ _ h.cbp (by omega)), h.paid.keeps hk (f _ _ h.cbq (by omega)), h.lp, h.lq, h.kept,
    h.krow.keep fun a ha => hk.block a.block (h.krow.lt ha) (f _ _ (h.cka a ha) (by omega)), fun k hk' => (h.kat k hk').keeps hk hs, h.cbl, h.cbp, h.cbq, h.cka, fun k hc => Nat.lt_of_lt_of_le (h.lt k hc) hk.size, h.tab⟩
theorem LAt.below (h : LAt w bl col m l) (hb : Below w.heap.size w w') : LAt w' bl col m l := h.keeps (S := fun _ => False) (Keep.of_below hb) (fun _ h => h.elim)
theorem LAt.klen (h : LAt w bl col m l) : l.kept.length = m.ks.length := by rw [h.kept, List.length_map]
end
/-- a frame that leaves the tables alone -/
theorem Tabs.keeps {w w' : World} {S : Nat → Prop} (h : Tabs w) (hk : Keep S w w') (h1 : ¬ S 2) (h2 : ¬ S 0) : Tabs w' := ⟨h.k.keep (hk.block _ h.k.lt h1), h.s.keep (hk.block _ h.s.lt h2)⟩
theorem RTab.keeps {w w' : World} {S : Nat → Prop} (h : RTab w) (hk : Keep S w w') (h1 : ¬ S 1) : RTab w' := ⟨h.r.keep (hk.block _ h.r.lt h1)⟩
/-- the reference's table is a block of the program's own (its row is not asked) -/
structure RGl (w : World) : Prop where
  lt : 1 < w.heap.size
structure RG (w : World) : Prop where
  r : RGl w
theorem RG.below {w w' : World} {B : Nat} (h : RG w) (hb : Below B w w') : RG w' := ⟨⟨Nat.lt_of_lt_of_le h.r.lt hb.size⟩⟩
theorem RG.of {w : World} (h : Tabs w) : RG w := ⟨⟨by have := h.k.lt; omega⟩⟩
/-- an element of a list of tenants, or 0 -/
def Bil.atOf (l : List Int) (t : Int) : Int := if t < 0 ∨ (l.length : Int) ≤ t then 0 else l.getD t.toNat 0
set_option maxHeartbeats 800000 in
theorem tenants_any (bl : Nat) (col : Nat → Nat) (m : LM) (l : Bil.Lg) (w : World) (h : LAt w bl col m l) :
    Calls Tryd.prog 43 #[.pointer (some ⟨bl, 0, none⟩)] w fun e w' => e = .returned (.int .i64 l.n) ∧ w' = w := by
  have c2 : w.cell? ⟨bl, 2, none⟩ = some (.slice (some ⟨m.bp, 0, none⟩) l.n m.cp) := h.row.cell 2
  clear h
  go_enter Tryd.func43, Tryd.ntmps43
  go_wp2
  go_ret
  exact ⟨rfl, rfl⟩
set_option maxHeartbeats 800000 in
theorem periods_any (bl : Nat) (col : Nat → Nat) (m : LM) (l : Bil.Lg) (w : World) (h : LAt w bl col m l) :
    Calls Tryd.prog 14 #[.pointer (some ⟨bl, 0, none⟩)] w fun e w' => e = .returned (.int .i64 l.periods) ∧ w' = w := by
  have c0 : w.cell? ⟨bl, 0, none⟩ = some (.int .i64 l.periods) := h.row.cell 0
  clear h
  go_enter Tryd.func14, Tryd.ntmps14
  go_wp2
  go_ret
  exact ⟨rfl, rfl⟩
set_option maxHeartbeats 800000 in
theorem at_any (g n c : Nat) (l : List Int) (hl : l.length = n) (hn : n ≤ 16) (t : Int) (w : World) (h : FRow w g n (fun t => l.getD t 0)) :
    Calls Tryd.prog 33 #[.slice (some ⟨g, 0, none⟩) n c, .int .i64 t] w fun e w' => e = .returned (.int .i64 (Bil.atOf l t)) ∧ w' = w := by
  have HA : Hid (Bil.atOf l t = if t < 0 ∨ (n : Int) ≤ t then 0 else l.getD t.toNat 0) := Lib.hid (by unfold Bil.atOf; rw [hl])
  by_cases h1 : t < 0
  · rw [if_pos (.inl h1)] at HA
    clear h
    go_enter Tryd.func33, Tryd.ntmps33
    go_wp2
    go_ret
    exact ⟨ret_int HA.out.symm, rfl⟩
  · by_cases h2 : (n : Int) ≤ t
    · rw [if_pos (.inr h2)] at HA
      clear h
      go_enter Tryd.func33, Tryd.ntmps33
      go_wp2
      go_ret
      exact ⟨ret_int HA.out.symm, rfl⟩
    · obtain ⟨k, rfl⟩ : ∃ k : Nat, t = (k : Int) := ⟨t.toNat, by omega⟩
      rw [if_neg (by omega), Int.toNat_natCast] at HA
      have hk : k < n := by omega
      have c1 := h.cell k hk
      have i1 : (k : Int) < (n : Int) := by omega
      have i2 : ¬ ((n : Int) ≤ (k : Int)) := by omega
      obtain ⟨x, hx⟩ : ∃ x, l.getD k 0 = x := ⟨_, rfl⟩
      rw [hx] at HA c1
      clear h hx hl hk h2
      go_enter Tryd.func33, Tryd.ntmps33
      go_wp2
      go_ret
      exact ⟨ret_int HA.out.symm, rfl⟩
set_option maxHeartbeats 800000 in
theorem pending_any (bl : Nat) (col : Nat → Nat) (m : LM) (l : Bil.Lg) (w : World) (h : LAt w bl col m l) (t : Int) :
    Calls Tryd.prog 15 #[.pointer (some ⟨bl, 0, none⟩), .int .i64 t] w fun e w' => e = .returned (.int .i64 (Bil.atOf l.pending t)) ∧ w' = w := by
  have c2 : w.cell? ⟨bl, 2, none⟩ = some (.slice (some ⟨m.bp, 0, none⟩) l.n m.cp) := h.row.cell 2
  have HA := Lib.hid (at_any m.bp l.n m.cp l.pending h.lp h.n2 t w h.pend)
  clear h
  go_enter Tryd.func15, Tryd.ntmps15
  go_wp2_with (go_at_call 33; refine HA.out.mono ?_; rintro e w1 ⟨rfl, hw1⟩; rw [hw1]; clear hw1 w1)
  go_ret
  exact ⟨rfl, rfl⟩
set_option maxHeartbeats 800000 in
theorem paid_any (bl : Nat) (col : Nat → Nat) (m : LM) (l : Bil.Lg) (w : World) (h : LAt w bl col m l) (t : Int) :
    Calls Tryd.prog 13 #[.pointer (some ⟨bl, 0, none⟩), .int .i64 t] w fun e w' => e = .returned (.int .i64 (Bil.atOf l.paid t)) ∧ w' = w := by
  have c3 : w.cell? ⟨bl, 3, none⟩ = some (.slice (some ⟨m.bq, 0, none⟩) l.n m.cq) := h.row.cell 3
  have HA := Lib.hid (at_any m.bq l.n m.cq l.paid h.lq h.n2 t w h.paid)
  clear h
  go_enter Tryd.func13, Tryd.ntmps13
  go_wp2_with (go_at_call 33; refine HA.out.mono ?_; rintro e w1 ⟨rfl, hw1⟩; rw [hw1]; clear hw1 w1)
  go_ret
  exact ⟨rfl, rfl⟩
/-! account: the place of a kept period -/
set_option maxHeartbeats 1600000 in
theorem account_none (bl : Nat) (col : Nat → Nat) (m : LM) (l : Bil.Lg) (w : World) (h : LAt w bl col m l) (p : Int) (p1 : -9223372036854775808 ≤ p) (p2 : p ≤ 9223372036854775807) (hi : Bil.idx l p = none) :
    Calls Tryd.prog 70 #[.pointer (some ⟨bl, 0, none⟩), .int .i64 p] w fun e w' => e = .returned (.pointer none) ∧ Below w.heap.size w w' := by
  have c0 : w.cell? ⟨bl, 0, none⟩ = some (.int .i64 l.periods) := h.row.cell 0
  have c1 : w.cell? ⟨bl, 1, none⟩ = some (.slice m.A m.ks.length m.c) := h.row.cell 1
  have hper := h.per
  have hkl := h.klen
  have hl16 := h.len
  have hn : ¬ (0 ≤ p ∧ p < (l.periods : Int) ∧ 0 ≤ p - l.periods + m.ks.length) := by
    intro hc
    unfold Bil.idx at hi
    rw [hkl, if_pos hc] at hi
    cases hi
  generalize l.periods = P at *
  generalize hL : m.ks.length = L at *
  clear h hi hkl hL
  by_cases h1 : p < 0
  · obtain ⟨y, hy⟩ : ∃ y, IntKind.i64.wrap (IntKind.i64.wrap (p - (P : Int)) + (L : Int)) = y := ⟨_, rfl⟩
    clear p1 p2 hn hper hl16
    go_enter Tryd.func70, Tryd.ntmps70
    go_wp2_with fail
    go_quiet (fail)
    go_wp2
    go_ret
    exact ⟨rfl, below_of_drewN _ _ _⟩
  · by_cases h2 : (P : Int) ≤ p
    · obtain ⟨y, hy⟩ : ∃ y, p - (P : Int) = y := ⟨_, rfl⟩
      obtain ⟨z, hz⟩ : ∃ z, IntKind.i64.wrap (y + (L : Int)) = z := ⟨_, rfl⟩
      have w1 : IntKind.i64.wrap y = y := IntWalk.i64_in _ (by omega)
      clear p1 p2 hn hper hl16
      go_enter Tryd.func70, Tryd.ntmps70
      go_wp2_with fail
      go_quiet (fail)
      go_wp2
      go_ret
      exact ⟨rfl, below_of_drewN _ _ _⟩
    · obtain ⟨y, hy⟩ : ∃ y, p - (P : Int) = y := ⟨_, rfl⟩
      obtain ⟨z, hz⟩ : ∃ z, y + (L : Int) = z := ⟨_, rfl⟩
      have w1 : IntKind.i64.wrap y = y := IntWalk.i64_in _ (by omega)
      have w2 : IntKind.i64.wrap z = z := IntWalk.i64_in _ (by omega)
      have h3 : z < 0 := by omega
      clear p1 p2 hn hper hl16
      go_enter Tryd.func70, Tryd.ntmps70
      go_wp2_with fail
      go_quiet (fail)
      go_wp2
      go_ret
      exact ⟨rfl, below_of_drewN _ _ _⟩
set_option maxHeartbeats 1600000 in
theorem account_some (bl : Nat) (col : Nat → Nat) (m : LM) (l : Bil.Lg) (w : World) (h : LAt w bl col m l) (p : Int) (i g off : Nat) (hi : Bil.idx l p = some i) (hA : m.A = some ⟨g, off, none⟩) :
    Calls Tryd.prog 70 #[.pointer (some ⟨bl, 0, none⟩), .int .i64 p] w fun e w' => e = .returned (.pointer (some ⟨g, off + i * 7, none⟩)) ∧ Below w.heap.size w w' := by
  have c0 : w.cell? ⟨bl, 0, none⟩ = some (.int .i64 l.periods) := h.row.cell 0
  have c1 : w.cell? ⟨bl, 1, none⟩ = some (.slice m.A m.ks.length m.c) := h.row.cell 1
  have hper := h.per
  have hkl := h.klen
  have hl16 := h.len
  obtain ⟨i1, i2, i3, i4⟩ := Bil.idx_some hi
  rw [hkl] at i3 i4
  rw [hA] at c1
  generalize l.periods = P at *
  generalize hL : m.ks.length = L at *
  clear h hi hkl hL hA
  obtain ⟨y, hy⟩ : ∃ y, p - (P : Int) = y := ⟨_, rfl⟩
  have hz : y + (L : Int) = (i : Int) := by omega
  have w1 : IntKind.i64.wrap y = y := IntWalk.i64_in _ (by omega)
  have w2 : IntKind.i64.wrap (i : Int) = (i : Int) := IntWalk.i64_in _ (by omega)
  have n1 : ¬ p < 0 := by omega
  have n2 : ¬ ((P : Int) ≤ p) := by omega
  have n3 : ¬ ((i : Int) < 0) := by omega
  have n4 : (i : Int) < (L : Int) := by omega
  clear hper hl16 i1 i2 i3 i4
  go_enter Tryd.func70, Tryd.ntmps70
  go_wp2_with fail
  go_quiet (fail)
  go_wp2
  go_ret
  exact ⟨rfl, below_of_drewN _ _ _⟩
end
/-! A row of elements of several cells that begins anywhere in its block and grows by append: any element type. Conditions: at most 1000 elements. -/
section
open Go.RowKit
/-- the row of the elements L, of sz cells each; its capacity lies in its block -/
def ORow (w : World) (e : TypeId) (sz : Nat) (A : Option Addr) (c : Nat) (L : List (List Value)) : Prop :=
  (∀ x ∈ L, x.length = sz) ∧ ((A = none ∧ c = 0 ∧ L = []) ∨ ∃ g off cur, A = some ⟨g, off, none⟩ ∧ w.heap[g]? = some (.cells cur e (0, 0)) ∧ L.length ≤ c ∧ c ≤ maxLen ∧ off + c * sz ≤ cur.size ∧ ∀ j u, L.flatten[j]? = some u → cur[off + j]? = some u)
section
variable {w w' : World} {e : TypeId} {sz c : Nat} {A : Option Addr} {L : List (List Value)}
theorem flat_len : ∀ {L : List (List Value)}, (∀ x ∈ L, x.length = sz) → L.flatten.length = L.length * sz
  | [], _ => by simp
  | x :: L, h => by
    have h1 := flat_len (L := L) (fun y hy => h y (List.mem_cons_of_mem _ hy))
    have h2 := h x List.mem_cons_self
    rw [List.flatten_cons, List.length_append, h1, h2, List.length_cons, Nat.succ_mul, Nat.add_comm]
theorem flat_get : ∀ {L : List (List Value)}, (∀ x ∈ L, x.length = sz) → ∀ {i j : Nat} (hi : i < L.length), j < sz → L.flatten[i * sz + j]? = (L[i]'hi)[j]?
  | [], _, _, _, hi, _ => by simp at hi
  | x :: L, h, 0, j, hi, hj => by
    have h2 := h x List.mem_cons_self
    rw [List.flatten_cons, Nat.zero_mul, Nat.zero_add, List.getElem?_append_left (by omega)]; rfl
  | x :: L, h, i + 1, j, hi, hj => by
    have h2 := h x List.mem_cons_self
    have h1 := flat_get (L := L) (fun y hy => h y (List.mem_cons_of_mem _ hy)) (i := i) (j := j) (by simpa using hi) hj
    rw [List.flatten_cons, Nat.succ_mul, List.getElem?_append_right (by omega), h2, show i * sz + sz + j - sz = i * sz + j by omega, h1]; rfl
theorem flat_drop : ∀ {L : List (List Value)}, (∀ x ∈ L, x.length = sz) → ∀ k, (L.drop k).flatten = L.flatten.drop (k * sz)
  | [], _, k => by simp
  | x :: L, h, 0 => by simp
  | x :: L, h, k + 1 => by
    have h2 := h x List.mem_cons_self
    rw [List.drop_succ_cons, flat_drop (L := L) (fun y hy => h y (List.mem_cons_of_mem _ hy)) k, List.flatten_cons, Nat.succ_mul, Nat.add_comm (k * sz) sz, ← h2, List.drop_append, List.drop_of_length_le (l := x) (by omega), List.nil_append, Nat.add_sub_cancel_left]
theorem ORow.keep (h : ORow w e sz A c L) (hk : ∀ a, A = some a → w'.heap[a.block]? = w.heap[a.block]?) : ORow w' e sz A c L := by
  refine ⟨h.1, ?_⟩
  rcases h.2 with h | ⟨g, off, cur, rfl, h1, r⟩
  · exact .inl h
  · exact .inr ⟨g, off, cur, rfl, (hk _ rfl).trans h1, r⟩
theorem ORow.lt (h : ORow w e sz A c L) {a : Addr} (ha : A = some a) : a.block < w.heap.size := by
  rcases h.2 with ⟨h, _⟩ | ⟨g, off, cur, rfl, h1, r⟩
  · rw [h] at ha; cases ha
  · obtain rfl := Option.some.inj ha; exact (Array.getElem?_eq_some_iff.1 h1).1
theorem ORow.below (h : ORow w e sz A c L) (hb : Below w.heap.size w w') : ORow w' e sz A c L := h.keep fun a ha => hb.block a.block (h.lt ha)
theorem ORow.nil (w : World) (e : TypeId) (sz : Nat) : ORow w e sz none 0 [] := ⟨by simp, .inl ⟨rfl, rfl, rfl⟩⟩
theorem ORow.form (h : ORow w e sz A c L) (hk : 0 < L.length) : ∃ g off, A = some ⟨g, off, none⟩ ∧ L.length ≤ c ∧ ∀ i (hi : i < L.length) (j : Nat) (u : Value), (L[i]'hi)[j]? = some u → w.cell? ⟨g, off + i * sz + j, none⟩ = some u := by
  obtain ⟨hl, h⟩ := h
  rcases h with ⟨_, _, rfl⟩ | ⟨g, off, cur, rfl, h1, h2, h3, h4, h5⟩
  · cases hk
  · refine ⟨g, off, rfl, h2, fun i hi j u hu => ?_⟩
    have hj : j < sz := by have := (List.getElem?_eq_some_iff.1 hu).1; rwa [hl _ (List.getElem_mem hi)] at this
    rw [cell_of_row w g _ cur _ (0, 0) h1, Nat.add_assoc]
    exact h5 _ _ (by rw [flat_get hl hi hj]; exact hu)
/-- 's[k:]' -/
theorem ORow.cut {g off : Nat} (h : ORow w e sz (some ⟨g, off, none⟩) c L) {k : Nat} (hk : k ≤ L.length) : ORow w e sz (some ⟨g, off + k * sz, none⟩) (c - k) (L.drop k) := by
  obtain ⟨hl, h⟩ := h
  refine ⟨fun x hx => hl x (List.mem_of_mem_drop hx), ?_⟩
  rcases h with ⟨h, _⟩ | ⟨g', off', cur, he, h1, h2, h3, h4, h5⟩
  · cases h
  · obtain ⟨rfl, rfl⟩ : g' = g ∧ off' = off := by have he := Option.some.inj he; exact ⟨(congrArg (·.block) he).symm, (congrArg (·.off) he).symm⟩
    refine .inr ⟨g', off' + k * sz, cur, rfl, h1, by rw [List.length_drop]; omega, by omega, ?_, fun j u hu => ?_⟩
    · rw [Nat.sub_mul]
      have : k * sz ≤ c * sz := Nat.mul_le_mul_right _ (by omega)
      omega
    · rw [flat_drop hl, List.getElem?_drop] at hu
      rw [Nat.add_assoc]; exact h5 _ _ hu
/-- 's = append(s, x)', wherever in its block the row begins -/
theorem run_oapp {P : Program} {t : TypeId} {z : Value} {bytes : Nat} (E : ElemT P t e z sz bytes) (h : ORow w e sz A c L) (x : List Value) (hx : x.length = sz) (hx1 : ∀ u ∈ x, u.oneCell' = true) (b : Nat) (hk : ∀ j u, x[j]? = some u → w.cell? ⟨b, j, none⟩ = some u) (hlen : L.length ≤ 1000) (hbt : (L.length + 1) * bytes ≤ 140737488355328) (ty : TypeId) :
    ∃ g off c' w', (Builtin.append_ #[t, t] ty #[.slice A L.length c, .slice (some ⟨b, 0, none⟩) 1 1]).run P w = .ok (.slice (some ⟨g, off, none⟩) (L.length + 1) c') w' ∧ ORow w' e sz (some ⟨g, off, none⟩) c' (L ++ [x]) ∧ ((∃ o, A = some ⟨g, o, none⟩) ∨ g = w.heap.size) ∧ w.grownBy w' (some g) := by
  obtain ⟨i, hi, hz, hsize, hby⟩ := info_parts E.info
  have hnews : ∀ j u, x[j]? = some u → w.cell? ((⟨b, 0, none⟩ : Addr).add j) = some u := fun j u hu => by rw [Addr.add_lit, Nat.zero_add]; exact hk j u hu
  have hml : (1000 : Nat) + 1 ≤ maxLen := by unfold maxLen; omega
  obtain ⟨hl, h⟩ := h
  have hl' : ∀ y ∈ L ++ [x], y.length = sz := fun y hy => by
    rcases List.mem_append.1 hy with hy | hy
    · exact hl y hy
    · obtain rfl := List.mem_singleton.1 hy; exact hx
  have hfl := flat_len hl
  have hsn : (L ++ [x]).flatten = L.flatten ++ x := by simp
  have new : ∀ (old : Nat) (olds : List Value), olds = L.flatten → old < L.length + 1 →
      ORow (w.drew.alloc (.cells (olds.toArray ++ x.toArray ++ Builtin.zeroCells z.cells (grownCap w (L.length + 1) old e - (L.length + 1))) e)) e sz
        (some ⟨w.heap.size, 0, none⟩) (grownCap w (L.length + 1) old e) (L ++ [x]) := by
    intro old olds ho _
    subst ho
    have hge := grownCap_ge w (L.length + 1) old e
    have hcm : grownCap w (L.length + 1) old e ≤ maxLen := grownCap_le_maxLen w _ old _ (by omega)
    refine ⟨hl', .inr ⟨w.heap.size, 0, _, rfl, heap_alloc_new w.drew _, by rw [List.length_append]; exact hge, hcm, ?_, fun j u hu => ?_⟩⟩
    · simp only [Array.size_append, List.size_toArray, size_zeroCells, E.zs, hfl, hx]
      obtain ⟨d, hd⟩ := Nat.exists_eq_add_of_le hge
      rw [hd, show L.length + 1 + d - (L.length + 1) = d by omega, Nat.add_mul, Nat.add_mul]
      omega
    · rw [hsn] at hu
      have hj := (List.getElem?_eq_some_iff.1 hu).1
      rw [Nat.zero_add, Array.getElem?_append_left (by simpa using hj), List.append_toArray, List.getElem?_toArray]
      exact hu
  rcases h with ⟨rfl, rfl, rfl⟩ | ⟨g, off, cur, rfl, h1, h2, h3, h4, h5⟩
  · have hr := run_append_nil (P := P) w t ty e i _ E.sl hi hz ⟨b, 0, none⟩ 1 1 x (by rw [hsize, hx]; omega) hnews (by omega) (by omega) (by rw [hby]; simp only [List.length_nil, Nat.zero_add, Nat.one_mul] at hbt; omega)
    have hN := new 0 [] rfl (by simp)
    simp only [List.length_nil, Nat.zero_add] at hN
    have he : (#[] : Array Value) ++ x.toArray = x.toArray := by simp
    rw [he] at hN
    exact ⟨w.heap.size, 0, _, _, hr, hN, .inr rfl, ⟨rfl, rfl, rfl, by simp, fun q hq _ => Below.heap_alloc w.drew _ q hq⟩⟩
  · by_cases hroom : L.length + 1 ≤ c
    · have hmul : (L.length + 1) * sz ≤ c * sz := Nat.mul_le_mul_right _ hroom
      rw [Nat.add_mul, Nat.one_mul] at hmul
      have hfit : off + L.length * i.size + x.length ≤ cur.size := by rw [hsize, hx]; omega
      have hr := run_append_off (P := P) w t ty e i E.sl hi g off L.length c cur h1 ⟨b, 0, none⟩ 1 1 x (by rw [hsize, hx]; omega) hnews hx1 hroom hfit
      refine ⟨g, off, c, _, hr, ⟨hl', .inr ⟨g, off, _, rfl, setRow_heap w g cur _ _ _ h1, by rw [List.length_append]; exact hroom, h3, ?_, fun j u hu => ?_⟩⟩, .inl ⟨off, rfl⟩, ⟨rfl, rfl, rfl, by simp [World.setRow], fun k _ hk => setRow_other w g k _ (fun e => hk (by rw [e]))⟩⟩
      · rw [hsize, hx]
        simp only [List.size_toArray, List.length_append, List.length_take, List.length_drop, Array.length_toList, hx]
        omega
      · rw [hsn] at hu
        have hj := (List.getElem?_eq_some_iff.1 hu).1
        rw [List.length_append, hfl, hx] at hj
        rw [hsize, hx, List.getElem?_toArray, List.append_assoc]
        rcases Nat.lt_or_ge j (L.length * sz) with hlt | hge
        · rw [List.getElem?_append_left (by rw [hfl]; exact hlt)] at hu
          rw [List.getElem?_append_left (by simp only [List.length_take, Array.length_toList]; omega), List.getElem?_take, if_pos (by omega), Array.getElem?_toList]
          exact h5 j u hu
        · rw [List.getElem?_append_right (by rw [hfl]; exact hge), hfl] at hu
          have ht : (cur.toList.take (off + L.length * sz)).length = off + L.length * sz := by simp only [List.length_take, Array.length_toList]; omega
          rw [List.getElem?_append_right (by rw [ht]; omega), ht, List.getElem?_append_left (by rw [hx]; omega), show off + j - (off + L.length * sz) = j - L.length * sz by omega]
          exact hu
    · have holds : ∀ j u, L.flatten[j]? = some u → w.cell? ((⟨g, off, none⟩ : Addr).add j) = some u := fun j u hu => by
        rw [Addr.add_lit, cell_of_row w g _ cur _ (0, 0) h1]; exact h5 j u hu
      have hr := run_append_grow (P := P) w t ty e i _ E.sl hi hz ⟨g, off, none⟩ L.length c L.flatten (by rw [hsize, hfl]) holds ⟨b, 0, none⟩ 1 1 x (by rw [hsize, hx]; omega) hnews (by omega) (by omega) (growslice_fits (by omega) (by rw [hby]; exact hbt))
      exact ⟨w.heap.size, 0, _, _, hr, new c _ rfl (by omega), .inr rfl, ⟨rfl, rfl, rfl, by simp, fun q hq _ => Below.heap_alloc w.drew _ q hq⟩⟩
end
end
end Go.Proofs.YtkjomnakolhdcaaDoor
