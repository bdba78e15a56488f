/- Memory of layer 35's ledgers: rows of numbers, the row of the kept accounts (which begins anywhere in its block), the ledger's own variable, frames by colours of blocks. Conditions: at most 16 tenants. -/
import Derived.Test.YtkjomnakolhdcaaDoorRows
import Derived.Test.YtkjomnakolhdcaaDoorDigBase
import Derived.Test.YtkjomnakolhdcaaDoorKeep
import Derived.Test.YtkjomnakolhdcaaDoorBilP
import Derived.Test.YtkjomnakolhdcaaDoorBilE
import Derived.Lib.SliceRun
import Derived.WalkKit
namespace Go.Proofs.YtkjomnakolhdcaaDoor
set_option linter.unusedVariables false
set_option linter.unusedSimpArgs false
open Go.RowKit
theorem alloc_size1 (w : World) (o : Obj) : (w.alloc o).heap.size = w.heap.size + 1 := by simp
theorem grownBy_of_below {w w' : World} (h : Below w.heap.size w w') : w.grownBy w' none := ⟨h.os, h.tape, h.output, h.size, fun k hk _ => h.block k hk⟩
theorem grown_setCell (w : World) (b o : Nat) (v : Value) : w.grownBy (w.setCell ⟨b, o, none⟩ v) (some b) := ⟨rfl, rfl, rfl, by simp, fun k _ hk => Below.heap_setCell _ _ _ k (fun e => hk (by rw [e]))⟩
theorem cell_set_ne (w : World) {g i j : Nat} (v : Value) (h : i ≠ j) : (w.setCell ⟨g, i, none⟩ v).cell? ⟨g, j, none⟩ = w.cell? ⟨g, j, none⟩ := World.cell?_setCell_other _ _ _ _ (fun e => h (congrArg (·.off) e))
theorem cell_set_eq (w : World) {g i : Nat} {u : Value} (v : Value) (h : w.cell? ⟨g, i, none⟩ = some u) : (w.setCell ⟨g, i, none⟩ v).cell? ⟨g, i, none⟩ = some v := World.cell?_setCell_same _ _ _ h
theorem _root_.Go.World.grownBy.any {w w' : World} {r : Option Nat} (h : w.grownBy w' none) : w.grownBy w' r := ⟨h.os, h.tape, h.output, h.size, fun k hk _ => h.block k hk (by simp)⟩
/-! Rows of numbers -/
/-- the first n cells of block g hold d, and may be written -/
structure FRow (w : World) (g n : Nat) (d : Nat → Int) : Prop where
  lt : g < w.heap.size
  cell : ∀ t, t < n → w.cell? ⟨g, t, none⟩ = some (.int .i64 (d t))
  free : ∀ t, t < n → w.frozen? ⟨g, t, none⟩ = false
section
variable {w w' : World} {g n : Nat} {d : Nat → Int}
theorem FRow.keep (h : FRow w g n d) (hk : w'.heap[g]? = w.heap[g]?) : FRow w' g n d := by
  refine ⟨?_, fun t ht => (World.cell?_of_block (a := ⟨g, t, none⟩) hk).trans (h.cell t ht), fun t ht => (World.frozen?_of_block (a := ⟨g, t, none⟩) hk).trans (h.free t ht)⟩
  have h1 : w.heap[g]? = some (w.heap[g]'h.lt) := Array.getElem?_eq_getElem h.lt
  rw [h1] at hk
  exact (Array.getElem?_eq_some_iff.1 hk).1
theorem FRow.below (h : FRow w g n d) (hb : Below w.heap.size w w') : FRow w' g n d := h.keep (hb.block g h.lt)
theorem FRow.keeps {S : Nat → Prop} (h : FRow w g n d) (hk : Keep S w w') (hs : ¬ S g) : FRow w' g n d := h.keep (hk.block g h.lt hs)
theorem FRow.drewN (h : FRow w g n d) (k : Nat) : FRow (w.drewN k) g n d := h.keep rfl
theorem FRow.congr (h : FRow w g n d) {e : Nat → Int} (he : ∀ t, t < n → e t = d t) : FRow w g n e := ⟨h.lt, fun t ht => by rw [he t ht]; exact h.cell t ht, h.free⟩
theorem FRow.set (h : FRow w g n d) {k : Nat} (hk : k < n) (v : Int) : FRow (w.setCell ⟨g, k, none⟩ (.int .i64 v)) g n (fun t => if t = k then v else d t) := by
  refine ⟨by have := h.lt; simpa using this, fun t ht => ?_, fun t ht => by have := h.free t ht; simpa using this⟩
  by_cases e : k = t
  · subst e; rw [cell_set_eq _ _ (h.cell k hk), if_pos rfl]
  · rw [cell_set_ne _ _ e, if_neg (fun e' => e e'.symm)]; exact h.cell t ht
theorem FRow.rd {l : List Int} (h : FRow w g n (fun t => l.getD t 0)) (hl : l.length = n) : Rd w w.heap.size 1 (some ⟨g, 0, none⟩) n (ivs l) := by
  refine ⟨by simp [hl], fun _ => ⟨g, 0, rfl, h.lt, fun j u hu => ?_⟩⟩
  have hj : j < l.length := by simpa using (List.getElem?_eq_some_iff.1 hu).1
  have hu' : u = .int .i64 l[j] := by simp [ivs, hj] at hu; exact hu.symm
  rw [Nat.zero_add, h.cell j (by omega), hu']
  simp [List.getD, hj]
theorem FRow.of_own {base c : Nat} {A : Option Addr} {e : TypeId} {l : List Int} (h : w.ownsRow base e 1 (.slice A n c) n (ivs l)) (hn : 0 < n) : ∃ g, A = some ⟨g, 0, none⟩ ∧ base ≤ g ∧ FRow w g n (fun t => l.getD t 0) := by
  have hll : l.length = n := by simpa using h.1
  obtain ⟨g, cap, hv, hb, hlt⟩ := h.form hn
  injection hv with hA _ hc
  subst hA
  subst hc
  refine ⟨g, rfl, hb, hlt, fun t ht => ?_, fun t _ => h.frozenAt t⟩
  rw [h.cellAt t (by omega)]
  simp [ivs, List.getD, show t < l.length by omega]
end
theorem bintT : ElemT Tryd.prog 29 3 (.int .i64 0) 1 8 := ⟨Tryd.underlying29, by kernel_rfl, rfl, by decide, by decide⟩
theorem mkInts (n : Nat) (hn : n ≤ 1000) : ∃ M : Array Value, (∀ t, t < n → M[t]? = some (.int .i64 0)) ∧ ∀ W : World, (Instr.makeSlice 29 (.int .i64 (n : Int)) (.int .i64 (n : Int))).run Tryd.prog W = .ok (.slice (some ⟨W.heap.size, 0, none⟩) n n) (W.alloc (.cells M 3)) := by
  have hi := bintT.info
  cases h : Tryd.prog.info? 3 with
  | none => rw [h] at hi; simp at hi
  | some i =>
    rw [h] at hi
    simp only [Option.map_some, Option.some.injEq, Prod.mk.injEq] at hi
    obtain ⟨hz, hs, hb⟩ := hi
    refine ⟨madeCells (Value.int .i64 0).cells ((n : Int).toNat * i.size), fun t ht => ?_, fun W => ?_⟩
    · have hc : (Value.int .i64 0).cells = #[.int .i64 0] := rfl
      rw [hs, hc]; simp [madeCells, ht, Nat.mod_one]
    · have := run_make (P := Tryd.prog) W 29 3 i (.int .i64 0) Tryd.underlying29 h hz .i64 .i64 n n (by omega) (Int.le_refl _) (by rw [hb]; omega) (by omega)
      simpa using this
theorem new_ints {w w' : World} {M : Array Value} {ty : TypeId} {n : Nat} (h : w.alloc (.cells M ty) = w') (hM : ∀ t, t < n → M[t]? = some (.int .i64 0)) : FRow w' w.heap.size n (fun _ => 0) ∧ w'.heap.size = w.heap.size + 1 ∧ Below w.heap.size w w' := by
  subst h
  refine ⟨⟨by rw [alloc_size1]; omega, fun t ht => ?_, fun t _ => World.frozen?_alloc_new _ _ _ _⟩, alloc_size1 _ _, (Below.refl _ _).alloc (Nat.le_refl _) _⟩
  rw [cell_of_row _ _ _ _ _ _ (heap_alloc_new w _)]; exact hM t ht
set_option maxHeartbeats 800000 in
theorem cloneI (A : Option Addr) (n c : Nat) (l : List Int) (hl : l.length = n) (hn : n ≤ 1000) (B : Nat) (w : World) (hr : Rd w B 1 A n (ivs l)) (hB : B ≤ w.heap.size) :
    Calls Tryd.prog 36 #[.slice A n c] w fun e w' => ∃ A' c', e = .returned (.slice A' n c') ∧ w'.ownsRow w.heap.size 3 1 (.slice A' n c') n (ivs l) ∧ Below w.heap.size w w' := by
  have he := fun w => Lib.run_eql_slice_nil (P := Tryd.prog) w 29 3 A n c 0 0 Tryd.underlying29
  cases A with
  | none =>
    have h0 : n = 0 := by
      rcases Nat.eq_zero_or_pos n with h | h
      · exact h
      · obtain ⟨b, off, e, _⟩ := hr.2 h; cases e
    subst h0
    obtain rfl : l = [] := List.eq_nil_of_length_eq_zero hl
    go_enter Tryd.func36, Tryd.ntmps36
    go_wp2
    go_ret
    exact ⟨none, 0, rfl, World.ownsRow_nil _ _ _ _, Below.refl _ _⟩
  | some ad =>
    have he := fun w => (he w).trans (show _ = Result.ok (Value.bool false) w from rfl)
    clear hl
    go_enter Tryd.func36, Tryd.ntmps36
    go_wp2_with (at_builtin; refine wpList_appR rfl (.tmp 5) (.tmp 6) 29 rfl w.heap.size 3 _ 1 8 bintT (some ⟨w.heap.size, 0, none⟩) 0 0 [] (some ad) n c (ivs l) rfl rfl (own_zero w _ 1 _ (Nat.le_refl _)) ((hr.more hB).alloc (Nat.le_refl _) _) (ivs_one _) ((Below.refl _ _).alloc (Nat.le_refl _) _) (by omega) (Nat.le_refl _) (by simp) ?_; intro A1 c1 w1 own1 hb1; simp only [Nat.zero_add, List.nil_append] at own1)
    go_ret
    exact ⟨A1, c1, rfl, own1, hb1⟩

/-! The kept accounts -/
/-- an account in memory: where its four lists lie -/
structure KA where
  a : Bil.Acc
  (bc cc br cr bt ct bg cg : Nat)
/-- the cells of an account of n tenants -/
def KA.cells (n : Nat) (k : KA) : List Value := [.int .i64 k.a.bill.period, .int .i64 k.a.bill.media, .int .i64 k.a.bill.house, .slice (some ⟨k.bc, 0, none⟩) n k.cc, .slice (some ⟨k.br, 0, none⟩) n k.cr, .slice (some ⟨k.bt, 0, none⟩) n k.ct, .slice (some ⟨k.bg, 0, none⟩) n k.cg]
theorem KA.cells_len (n : Nat) (k : KA) : (k.cells n).length = 7 := rfl
def kcs (n : Nat) (ks : List KA) : List Value := ks.flatMap (KA.cells n)
theorem kcs_len (n : Nat) (ks : List KA) : (kcs n ks).length = ks.length * 7 := by
  unfold kcs
  induction ks with
  | nil => rfl
  | cons k ks ih => rw [List.flatMap_cons, List.length_append, ih, KA.cells_len, List.length_cons]; omega
theorem kcs_snoc (n : Nat) (ks : List KA) (k : KA) : kcs n (ks ++ [k]) = kcs n ks ++ k.cells n := by simp [kcs]
theorem kcs_one (n : Nat) (k : KA) : ∀ u ∈ k.cells n, u.oneCell' = true := by
  intro u hu
  simp only [KA.cells, List.mem_cons, List.not_mem_nil, or_false] at hu
  rcases hu with rfl | rfl | rfl | rfl | rfl | rfl | rfl <;> rfl
theorem kcs_drop (n : Nat) (ks : List KA) (k : Nat) : kcs n (ks.drop k) = (kcs n ks).drop (k * 7) := by
  induction k generalizing ks with
  | zero => simp
  | succ k ih =>
    cases ks with
    | nil => simp [kcs]
    | cons a ks =>
      rw [List.drop_succ_cons, ih]
      show _ = ((a.cells n) ++ kcs n ks).drop ((k + 1) * 7)
      rw [show (k + 1) * 7 = (a.cells n).length + k * 7 by rw [KA.cells_len]; omega, List.drop_append, List.drop_of_length_le (l := a.cells n) (by omega), List.nil_append, Nat.add_sub_cancel_left]
theorem kcs_get (n : Nat) (ks : List KA) {i j : Nat} (hi : i < ks.length) (hj : j < 7) : (kcs n ks)[i * 7 + j]? = (ks[i].cells n)[j]? := flatMap_get? (fun d _ => KA.cells_len n d) hi hj
/-- the row of the kept accounts: it begins anywhere in its block, and its capacity lies in it -/
def KRow (w : World) (n : Nat) (A : Option Addr) (c : Nat) (ks : List KA) : Prop :=
  (A = none ∧ c = 0 ∧ ks = []) ∨ ∃ g off cur, A = some ⟨g, off, none⟩ ∧ w.heap[g]? = some (.cells cur 79 (0, 0)) ∧ ks.length ≤ c ∧ c ≤ maxLen ∧ off + c * 7 ≤ cur.size ∧ ∀ j u, (kcs n ks)[j]? = some u → cur[off + j]? = some u
theorem KRow.keep {w w' : World} {n c : Nat} {A : Option Addr} {ks : List KA} (h : KRow w n A c ks) (hk : ∀ a, A = some a → w'.heap[a.block]? = w.heap[a.block]?) : KRow w' n A c ks := by
  rcases h with h | ⟨g, off, cur, rfl, h1, r⟩
  · exact .inl h
  · exact .inr ⟨g, off, cur, rfl, (hk _ rfl).trans h1, r⟩
theorem KRow.lt {w : World} {n c : Nat} {A : Option Addr} {ks : List KA} (h : KRow w n A c ks) {a : Addr} (ha : A = some a) : a.block < w.heap.size := by
  rcases h with ⟨h, _⟩ | ⟨g, off, cur, rfl, h1, r⟩
  · rw [h] at ha; cases ha
  · obtain rfl := Option.some.inj ha; exact (Array.getElem?_eq_some_iff.1 h1).1
theorem KRow.nil (w : World) (n : Nat) : KRow w n none 0 [] := .inl ⟨rfl, rfl, rfl⟩
theorem KRow.form {w : World} {n c : Nat} {A : Option Addr} {ks : List KA} (h : KRow w n A c ks) (hk : 0 < ks.length) : ∃ g off, A = some ⟨g, off, none⟩ ∧ ks.length ≤ c ∧ ∀ i (hi : i < ks.length) (j : Nat) (u : Value), (ks[i].cells n)[j]? = some u → w.cell? ⟨g, off + i * 7 + j, none⟩ = some u := by
  rcases h with ⟨_, _, rfl⟩ | ⟨g, off, cur, rfl, h1, h2, h3, h4, h5⟩
  · cases hk
  · refine ⟨g, off, rfl, h2, fun i hi j u hu => ?_⟩
    have hj : j < 7 := by have := (List.getElem?_eq_some_iff.1 hu).1; rwa [KA.cells_len] at this
    rw [cell_of_row w g _ cur _ (0, 0) h1, Nat.add_assoc]
    exact h5 _ _ (by rw [kcs_get n ks hi hj]; exact hu)
theorem accT : ElemT Tryd.prog 69 79 (.agg #[.int .i64 0, .int .i64 0, .int .i64 0, .slice none 0 0, .slice none 0 0, .slice none 0 0, .slice none 0 0]) 7 120 := ⟨Tryd.underlying69, by kernel_rfl, rfl, by decide, by decide⟩
/-- append within the capacity, wherever in its block the row begins -/
theorem run_append_off {P : Program} (w : World) (t ty e : TypeId) (i : TypeInfo) (ht : P.underlying t = some (.slice e)) (hi : P.info? e = some i)
    (g off sLen sCap : Nat) (cur : Array Value) (hg : w.heap[g]? = some (.cells cur e (0, 0)))
    (a : Addr) (m c : Nat) (news : List Value) (hl : news.length = m * i.size) (hnews : ∀ j u, news[j]? = some u → w.cell? (a.add j) = some u) (h1 : ∀ u ∈ news, u.oneCell' = true)
    (hroom : sLen + m ≤ sCap) (hfit : off + sLen * i.size + news.length ≤ cur.size) :
    (Builtin.append_ #[t, t] ty #[.slice (some ⟨g, off, none⟩) sLen sCap, .slice (some a) m c]).run P w =
      .ok (.slice (some ⟨g, off, none⟩) (sLen + m) sCap) (w.setRow g (cur.toList.take (off + sLen * i.size) ++ news ++ cur.toList.drop (off + sLen * i.size + news.length)).toArray) := by
  have hf := run_firstCells_some (P := P) w i.size m a m c news hl hnews
  have hst := run_storeCells_at P g (off + sLen * i.size) e news 0 cur w hg (by simpa using hfit) h1
  simp only [Nat.add_zero] at hst
  simp [Builtin.append_, run_underlying ht, sizeOf, typeInfo, hi, Builtin.lenOf, hroom, hf, Addr.add_lit, hst]
/-- 'kept = append(kept, account)' -/
theorem run_kapp (w : World) (n c : Nat) (A : Option Addr) (ks : List KA) (h : KRow w n A c ks) (k : KA) (b : Nat) (hk : ∀ j u, (k.cells n)[j]? = some u → w.cell? ⟨b, j, none⟩ = some u) (hlen : ks.length ≤ 1000) (ty : TypeId) :
    ∃ g off c' w', (Builtin.append_ #[69, 69] ty #[.slice A ks.length c, .slice (some ⟨b, 0, none⟩) 1 1]).run Tryd.prog w = .ok (.slice (some ⟨g, off, none⟩) (ks.length + 1) c') w' ∧ KRow w' n (some ⟨g, off, none⟩) c' (ks ++ [k]) ∧ ((∃ o, A = some ⟨g, o, none⟩) ∨ g = w.heap.size) ∧ w.grownBy w' (some g) := by
  obtain ⟨i, hi, hz, hsize, hby⟩ := info_parts accT.info
  have hnews : ∀ j u, (k.cells n)[j]? = some u → w.cell? ((⟨b, 0, none⟩ : Addr).add j) = some u := fun j u hu => by rw [Addr.add_lit, Nat.zero_add]; exact hk j u hu
  have hml : (1000 : Nat) + 1 ≤ maxLen := by unfold maxLen; omega
  have new : ∀ (old : Nat) (olds : List Value), olds = kcs n ks → old < ks.length + 1 →
      KRow (w.drew.alloc (.cells (olds.toArray ++ (k.cells n).toArray ++ Builtin.zeroCells (Value.agg #[.int .i64 0, .int .i64 0, .int .i64 0, .slice none 0 0, .slice none 0 0, .slice none 0 0, .slice none 0 0]).cells (grownCap w (ks.length + 1) old 79 - (ks.length + 1))) 79)) n
        (some ⟨w.heap.size, 0, none⟩) (grownCap w (ks.length + 1) old 79) (ks ++ [k]) := by
    intro old olds ho _
    subst ho
    have hge := grownCap_ge w (ks.length + 1) old 79
    have hcm : grownCap w (ks.length + 1) old 79 ≤ maxLen := grownCap_le_maxLen w _ old _ (by omega)
    refine .inr ⟨w.heap.size, 0, _, rfl, heap_alloc_new w.drew _, by rw [List.length_append]; exact hge, hcm, ?_, fun j u hu => ?_⟩
    · have hz7 : (Value.agg #[.int .i64 0, .int .i64 0, .int .i64 0, .slice none 0 0, .slice none 0 0, .slice none 0 0, .slice none 0 0]).cells.size = 7 := by decide
      simp only [Array.size_append, List.size_toArray, size_zeroCells, hz7, kcs_len, KA.cells_len]
      omega
    · rw [kcs_snoc] at hu
      have hj := (List.getElem?_eq_some_iff.1 hu).1
      rw [Nat.zero_add, Array.getElem?_append_left (by simpa using hj), List.append_toArray, List.getElem?_toArray]
      exact hu
  rcases h with ⟨rfl, rfl, rfl⟩ | ⟨g, off, cur, rfl, h1, h2, h3, h4, h5⟩
  · have hr := run_append_nil (P := Tryd.prog) w 69 ty 79 i _ accT.sl hi hz ⟨b, 0, none⟩ 1 1 (k.cells n) (by rw [hsize]; rfl) hnews (by omega) (by omega) (by rw [hby]; omega)
    have hN := new 0 [] rfl (by simp)
    simp only [List.length_nil, Nat.zero_add] at hN
    have he : (#[] : Array Value) ++ (k.cells n).toArray = (k.cells n).toArray := by simp
    rw [he] at hN
    exact ⟨w.heap.size, 0, _, _, hr, hN, .inr rfl, ⟨rfl, rfl, rfl, by simp, fun q hq _ => Below.heap_alloc w.drew _ q hq⟩⟩
  · by_cases hroom : ks.length + 1 ≤ c
    · have hfit : off + ks.length * i.size + (k.cells n).length ≤ cur.size := by rw [hsize, KA.cells_len]; omega
      have hr := run_append_off (P := Tryd.prog) w 69 ty 79 i accT.sl hi g off ks.length c cur h1 ⟨b, 0, none⟩ 1 1 (k.cells n) (by rw [hsize]; rfl) hnews (kcs_one n k) hroom hfit
      refine ⟨g, off, c, _, hr, .inr ⟨g, off, _, rfl, setRow_heap w g cur _ _ _ h1, by rw [List.length_append]; exact hroom, h3, ?_, fun j u hu => ?_⟩, .inl ⟨off, rfl⟩, ⟨rfl, rfl, rfl, by simp [World.setRow], fun k _ hk => setRow_other w g k _ (fun e => hk (by rw [e]))⟩⟩
      · rw [hsize, KA.cells_len]
        simp only [List.size_toArray, List.length_append, List.length_take, List.length_drop, Array.length_toList, KA.cells_len]
        omega
      · rw [kcs_snoc] at hu
        have hj := (List.getElem?_eq_some_iff.1 hu).1
        rw [List.length_append, kcs_len, KA.cells_len] at hj
        rw [hsize, KA.cells_len, List.getElem?_toArray, List.append_assoc]
        rcases Nat.lt_or_ge j (ks.length * 7) with hlt | hge
        · rw [List.getElem?_append_left (by rw [kcs_len]; exact hlt)] at hu
          rw [List.getElem?_append_left (by simp only [List.length_take, Array.length_toList]; omega), List.getElem?_take, if_pos (by omega), Array.getElem?_toList]
          exact h5 j u hu
        · rw [List.getElem?_append_right (by rw [kcs_len]; exact hge), kcs_len] at hu
          have ht : (cur.toList.take (off + ks.length * 7)).length = off + ks.length * 7 := by simp only [List.length_take, Array.length_toList]; omega
          rw [List.getElem?_append_right (by rw [ht]; omega), ht, List.getElem?_append_left (by rw [KA.cells_len]; omega), show off + j - (off + ks.length * 7) = j - ks.length * 7 by omega]
          exact hu
    · have holds : ∀ j u, (kcs n ks)[j]? = some u → w.cell? ((⟨g, off, none⟩ : Addr).add j) = some u := fun j u hu => by
        rw [Addr.add_lit, cell_of_row w g _ cur _ (0, 0) h1]; exact h5 j u hu
      have hr := run_append_grow (P := Tryd.prog) w 69 ty 79 i _ accT.sl hi hz ⟨g, off, none⟩ ks.length c (kcs n ks) (by rw [hsize, kcs_len]) holds ⟨b, 0, none⟩ 1 1 (k.cells n) (by rw [hsize]; rfl) hnews (by omega) (by omega) (growslice_fits (by omega) (by rw [hby]; omega))
      exact ⟨w.heap.size, 0, _, _, hr, new c _ rfl (by omega), .inr rfl, ⟨rfl, rfl, rfl, by simp, fun q hq _ => Below.heap_alloc w.drew _ q hq⟩⟩
/-- 'kept[k:]' -/
theorem KRow.cut {w : World} {n c g off : Nat} {ks : List KA} (h : KRow w n (some ⟨g, off, none⟩) c ks) {k : Nat} (hk : k ≤ ks.length) : KRow w n (some ⟨g, off + k * 7, none⟩) (c - k) (ks.drop k) := by
  rcases h with ⟨h, _⟩ | ⟨g', off', cur, he, h1, h2, h3, h4, h5⟩
  · cases h
  · obtain ⟨rfl, rfl⟩ : g' = g ∧ off' = off := by have he := Option.some.inj he; exact ⟨(congrArg (·.block) he).symm, (congrArg (·.off) he).symm⟩
    refine .inr ⟨g', off' + k * 7, cur, rfl, h1, by rw [List.length_drop]; omega, by omega, ?_, fun j u hu => ?_⟩
    · rw [Nat.sub_mul]; omega
    · rw [kcs_drop, List.getElem?_drop] at hu
      rw [Nat.add_assoc]; exact h5 _ _ hu
end Go.Proofs.YtkjomnakolhdcaaDoor
