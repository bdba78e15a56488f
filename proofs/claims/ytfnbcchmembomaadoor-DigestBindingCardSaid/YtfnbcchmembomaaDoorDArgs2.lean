/- Structs as arguments whose fields take many cells, opened to plain data. No condition. -/
import Derived.Test.YtfnbcchmembomaaDoorDArgs
namespace Go.Proofs.YtfnbcchmembomaaDoor
set_option linter.unusedVariables false
set_option linter.unusedSimpArgs false
open Go.RowKit Go.WideShapes Go.ChangeShapes Go.ChangeAt Go.Deep
open Go.WideMaps Go.WideElems
section
variable {H : Type} {enc : TypeId × Value → H} {P : Program} {W : World} {t e : TypeId} {v : Value} {d : DataW H} {ps : List MemPlace} {r : Reach} {b0 : Nat}
theorem arrs_trod {a0 : Option Addr} {len cap : Nat} {m : Nat} {eb : TypeId} (ht : P.underlying t = some (.slice e)) (he : P.underlying e = some (.array m eb)) (hb : P.underlying eb = some (.int .u8)) (hc : P.cellsOf e = m) (hcb : P.cellsOf eb = 1) (hby : P.bytesOf e = m) (hm0 : 0 < m)
    (hd : DataW.Trod enc P W 0 (fun _ => true) true t (.slice a0 len cap) d ps) (hs : Sized P t d) :
    ∃ (A : Option Addr) (n c : Nat) (l : List (List UInt8)), Value.slice a0 len cap = .slice A n c ∧ n ≤ c ∧ c ≤ 140737488355328 ∧ l.length = n ∧ (∀ x ∈ l, x.length = m) ∧ Rd W W.heap.size m A n (l.flatMap bvs) := by
  obtain ⟨fuel, hf⟩ := hd
  rcases open_slice ht hf with ⟨hcs, hx⟩ | ⟨a, len', cap', M, n, D, Pl, hcs, _, hl, hm, hM, hx, hi⟩
  · simp [Value.cells] at hcs
    obtain ⟨rfl, rfl, rfl⟩ := hcs
    exact ⟨none, 0, 0, [], rfl, by omega, by omega, rfl, by simp, Rd.nil_ _ _ _ _⟩
  · simp [Value.cells] at hcs
    obtain ⟨rfl, rfl, rfl⟩ := hcs
    simp only [if_true] at hM
    subst hM
    have hcap : M ≤ 140737488355328 := by
      simp only [Prod.mk.injEq] at hx
      have h1 := hs ((((List.range len).map D).length + ((List.range (M - len)).map fun j => D (len + j)).length) * P.bytesOf e) (by rw [hx.1]; simp [DataW.weights, ht])
      simp only [List.length_map, List.length_range, hby] at h1
      have h2 := reachBytes_lt
      have h3 : M * 1 ≤ M * m := Nat.mul_le_mul_left _ hm0
      have h4 : len + (M - len) = M := by omega
      rw [h4] at h1
      omega
    -- each element: m cells, each a byte
    have each : ∀ i, i < len → ∃ x : List UInt8, x.length = m ∧ ∀ j (hj : j < x.length), W.cell? (a.add (i * m + j)) = some (.int .u8 (x[j].toNat : Int)) := by
      intro i hil
      obtain ⟨cs', hcc, htr⟩ := hi i (by omega)
      rw [hc] at hcc
      obtain ⟨_, hcl, hat⟩ := World.cells?_some hcc
      obtain ⟨xs, n', _, _, _, _, hg⟩ := DataW.trod_array he htr
      rw [hcb] at hg
      have one : ∀ j (hj : j < m), ∃ q : Int, cs'[j]? = some (.int .u8 q) ∧ 0 ≤ q ∧ q ≤ 255 := by
        intro j hj
        have h1 := hg j hj
        have hjl : j < cs'.length := by omega
        have h2 : (cs'.drop (j * 1)).take 1 = [cs'[j]] := by
          rw [Nat.mul_one, List.drop_eq_getElem_cons hjl]; rfl
        rw [h2] at h1
        have hxs : ∃ y, xs[j]? = some y := by
          cases hq : xs[j]? with
          | some y => exact ⟨y, rfl⟩
          | none =>
            rw [hq] at h1
            rename_i hxl _ _
            exact absurd (List.getElem?_eq_none_iff.1 hq) (by omega)
        obtain ⟨y, hy⟩ := hxs
        rw [hy] at h1
        obtain ⟨q, hq1, _, hq2⟩ := DataW.trod_int hb h1
        simp only [List.cons.injEq, and_true] at hq1
        exact ⟨q, by rw [List.getElem?_eq_getElem hjl, hq1], (u8_range hq2).1, (u8_range hq2).2⟩
      refine ⟨(List.range m).map fun j => match cs'[j]? with | some (Value.int _ q) => UInt8.ofNat q.toNat | _ => 0, by simp, fun j hj => ?_⟩
      have hjm : j < m := by simpa using hj
      obtain ⟨q, hq, hq0, hq1⟩ := one j hjm
      rw [← Go.Deep.add_add, hat j (by omega), hq]
      simp only [List.getElem_map, List.getElem_range, hq, UInt8.toNat_ofNat']
      congr 2
      omega
    obtain ⟨L, hL⟩ : ∃ L : Nat → List UInt8, ∀ i, i < len → (L i).length = m ∧ ∀ j (hj : j < (L i).length), W.cell? (a.add (i * m + j)) = some (.int .u8 ((L i)[j].toNat : Int)) :=
      ⟨fun i => if h : i < len then (each i h).choose else [], fun i h => by
        have := (each i h).choose_spec
        simp only [h, dif_pos]
        exact this⟩
    have hlen : ∀ x ∈ (List.range len).map L, x.length = m := by
      intro x hx'
      simp only [List.mem_map, List.mem_range] at hx'
      obtain ⟨i, hi', rfl⟩ := hx'
      exact (hL i hi').1
    have hfl : ∀ x ∈ (List.range len).map L, (bvs x).length = m := fun x hx' => by rw [List.length_map]; exact hlen x hx'
    refine ⟨some a, len, M, (List.range len).map L, rfl, hl, hcap, by simp, hlen, ⟨by rw [flatMap_len hfl]; simp, fun hn => ?_⟩⟩
    obtain ⟨u0, hc0⟩ : ∃ u, W.cell? (a.add 0) = some u := ⟨_, by
      have h1 := (hL 0 hn).2 0 (by rw [(hL 0 hn).1]; exact hm0)
      simpa only [Nat.zero_mul, Nat.zero_add] using h1⟩
    have hsp := addr_plain hc0
    refine ⟨a.block, a.off, by cases a; simp_all, ints_block hc0, fun j u hu => ?_⟩
    have hjl : j < len * m := by
      have := (List.getElem?_eq_some_iff.1 hu).1
      rw [flatMap_len hfl] at this
      simpa using this
    have hk : j / m < len := by rw [Nat.div_lt_iff_lt_mul hm0]; exact hjl
    have hj : j % m < m := Nat.mod_lt _ hm0
    have hjj : j = j / m * m + j % m := by rw [Nat.mul_comm]; exact (Nat.div_add_mod j m).symm
    rw [hjj, flatMap_get? hfl (by simpa using hk) hj] at hu
    have h1 := (hL (j / m) hk).2 (j % m) (by rw [(hL _ hk).1]; exact hj)
    rw [← hjj, addr_add_plain hsp] at h1
    rw [h1]
    simp only [List.getElem_map, List.getElem_range, List.getElem?_map] at hu
    rw [List.getElem?_eq_getElem (by rw [(hL _ hk).1]; exact hj)] at hu
    simpa using hu
/-- a field of a struct that reads, of whatever cells -/
theorem field_at {fs : Array Field} {fuel : Nat} {cs : List Value} {x : DataW H × List MemPlace} (he : P.underlying e = some (.struct fs)) (h : DataW.trod enc P W 0 (fun _ => true) true fuel e cs = some x) (hs : Sized P e x.1) {j : Nat} {f : Field} (hj : fs[j]? = some f) :
    ∃ (n : Nat) (y : DataW H × List MemPlace), DataW.trod enc P W 0 (fun _ => true) true n f.type ((cs.drop f.offset).take (P.cellsOf f.type)) = some y ∧ Sized P f.type y.1 := by
  obtain ⟨ys, n', _, hx, _, hyl, hf⟩ := DataW.trod_struct he h
  have hjl : j < fs.size := (Array.getElem?_eq_some_iff.1 hj).1
  have h1 := hf j f hj
  rw [List.getElem?_eq_getElem (by omega)] at h1
  refine ⟨_, _, h1, fun m hm => hs m ?_⟩
  rw [hx]
  simp only [DataW.weights, he]
  exact DataW.weights_mem_each (j := j) (by simp [hj]) (by simp [List.getElem?_eq_getElem (show j < ys.length by omega)]) m hm
theorem take1 {cs : List Value} {k : Nat} (h : k < cs.length) : (cs.drop k).take 1 = [cs[k]] := by rw [List.drop_eq_getElem_cons h]; rfl
theorem part_dig {n : Nat} {cs : List Value} {y : DataW H × List MemPlace} {k : Nat} (hl : k + 16 ≤ cs.length) (h : DataW.trod enc Tryd.prog W 0 (fun _ => true) true n 30 ((cs.drop k).take 16) = some y) : ∃ l : List UInt8, (cs.drop k).take 16 = bvs l ∧ l.length = 16 :=
  bytes_of Tryd.underlying30 Tryd.underlying5 (by kernel_rfl) (by simp; omega) h
theorem part_int {n : Nat} {cs : List Value} {y : DataW H × List MemPlace} {k : Nat} (hl : k + 1 ≤ cs.length) (h : DataW.trod enc Tryd.prog W 0 (fun _ => true) true n 3 ((cs.drop k).take 1) = some y) : ∃ q : Int, (cs.drop k).take 1 = [.int .i64 q] ∧ -9223372036854775808 ≤ q ∧ q ≤ 9223372036854775807 := by
  rw [take1 (by omega)] at h ⊢
  obtain ⟨q, hq, hw⟩ := field_int Tryd.underlying3 h
  exact ⟨q, by rw [hq], (int_range hw).1, (int_range hw).2⟩
theorem part_digs {n : Nat} {cs : List Value} {y : DataW H × List MemPlace} {k : Nat} (hl : k + 1 ≤ cs.length) (h : DataW.trod enc Tryd.prog W 0 (fun _ => true) true n 34 ((cs.drop k).take 1) = some y) (hs : Sized Tryd.prog 34 y.1) :
    ∃ (A : Option Addr) (m c : Nat) (l : List (List UInt8)), (cs.drop k).take 1 = [.slice A m c] ∧ m ≤ c ∧ c ≤ 140737488355328 ∧ l.length = m ∧ D16 l ∧ Rd W W.heap.size 16 A m (dvs l) := by
  rw [take1 (by omega)] at h ⊢
  have hv : ∃ a0 len cap, cs[k] = .slice a0 len cap := by
    rcases open_slice Tryd.underlying34 h with ⟨hc, _⟩ | ⟨a, len, cap, _, _, _, _, hc, _⟩
    · exact ⟨none, 0, 0, by simpa using hc⟩
    · exact ⟨some a, len, cap, by simpa using hc⟩
  obtain ⟨a0, len, cap, hv⟩ := hv
  rw [hv] at h ⊢
  obtain ⟨A, m, c, l, h1, h2, h3, h4, h5, h6⟩ := arrs_trod (a0 := a0) (len := len) (cap := cap) (d := y.1) (ps := y.2) Tryd.underlying34 Tryd.underlying30 Tryd.underlying5 (by kernel_rfl) (by kernel_rfl) (by kernel_rfl) (by omega) ⟨n, by simpa [Value.cells] using h⟩ hs
  exact ⟨A, m, c, l, by rw [h1], h2, h3, h4, h5, h6⟩
theorem cut_at (cs : List Value) (k n : Nat) : cs.drop k = (cs.drop k).take n ++ cs.drop (k + n) := by rw [← List.drop_drop, List.take_append_drop]
theorem verFields : ∃ f0 f1 f2 f3 f4 : Field, Tryd.prog.underlying 55 = some (.struct #[f0, f1, f2, f3, f4]) ∧ (f0.type = 30 ∧ f0.offset = 0) ∧ (f1.type = 30 ∧ f1.offset = 16) ∧ (f2.type = 3 ∧ f2.offset = 32) ∧ (f3.type = 3 ∧ f3.offset = 33) ∧ (f4.type = 34 ∧ f4.offset = 34) :=
  ⟨_, _, _, _, _, Tryd.underlying55, ⟨rfl, rfl⟩, ⟨rfl, rfl⟩, ⟨rfl, rfl⟩, ⟨rfl, rfl⟩, ⟨rfl, rfl⟩⟩
structure VerArg where
  old : List UInt8
  root : List UInt8
  n : Int
  i : Int
  A : Option Addr
  m : Nat
  c : Nat
  pr : List (List UInt8)
def VerArg.cells (y : VerArg) : List Value := bvs y.old ++ (bvs y.root ++ ([.int .i64 y.n] ++ ([.int .i64 y.i] ++ [.slice y.A y.m y.c])))
def VerArg.Ok (y : VerArg) (w : World) : Prop := y.old.length = 16 ∧ y.root.length = 16 ∧ (-9223372036854775808 ≤ y.n ∧ y.n ≤ 9223372036854775807) ∧ (-9223372036854775808 ≤ y.i ∧ y.i ≤ 9223372036854775807) ∧ y.m ≤ y.c ∧ y.c ≤ 140737488355328 ∧ y.pr.length = y.m ∧ D16 y.pr ∧ Rd w w.heap.size 16 y.A y.m (dvs y.pr)
theorem arg_digestVerifyMatchesSpecIn (hval : Value.okWide Tryd.prog W r b0 55 v) (hd : DataW.Trod enc Tryd.prog W 0 (fun _ => true) true 55 v d ps) (hs : Sized Tryd.prog 55 d) :
    ∃ y : VerArg, v = .agg y.cells.toArray ∧ y.Ok W := by
  obtain ⟨f0, f1, f2, f3, f4, he, ⟨t0, o0⟩, ⟨t1, o1⟩, ⟨t2, o2⟩, ⟨t3, o3⟩, ⟨t4, o4⟩⟩ := verFields
  obtain ⟨ca, rfl, hsz⟩ := okWide_struct he hval
  rw [show Tryd.prog.cellsOf 55 = 35 from by kernel_rfl] at hsz
  obtain ⟨fuel, hf⟩ := hd
  have hf : DataW.trod enc Tryd.prog W 0 (fun _ => true) true fuel 55 ca.toList = some (d, ps) := by simpa [Value.cells] using hf
  obtain ⟨cs, hcs⟩ : ∃ cs, ca.toList = cs := ⟨_, rfl⟩
  have hl : cs.length = 35 := by rw [← hcs, Array.length_toList, hsz]
  rw [hcs] at hf
  obtain ⟨n0, y0, h0, s0⟩ := field_at he hf hs (j := 0) (f := f0) rfl
  obtain ⟨n1, y1, h1, s1⟩ := field_at he hf hs (j := 1) (f := f1) rfl
  obtain ⟨n2, y2, h2, s2⟩ := field_at he hf hs (j := 2) (f := f2) rfl
  obtain ⟨n3, y3, h3, s3⟩ := field_at he hf hs (j := 3) (f := f3) rfl
  obtain ⟨n4, y4, h4, s4⟩ := field_at he hf hs (j := 4) (f := f4) rfl
  rw [t0, o0, show Tryd.prog.cellsOf 30 = 16 from by kernel_rfl] at h0
  rw [t1, o1, show Tryd.prog.cellsOf 30 = 16 from by kernel_rfl] at h1
  rw [t2, o2, show Tryd.prog.cellsOf 3 = 1 from by kernel_rfl] at h2
  rw [t3, o3, show Tryd.prog.cellsOf 3 = 1 from by kernel_rfl] at h3
  rw [t4, o4, show Tryd.prog.cellsOf 34 = 1 from by kernel_rfl] at h4
  rw [t4] at s4
  obtain ⟨old, e0, l0⟩ := part_dig (by omega) h0
  obtain ⟨root, e1, l1⟩ := part_dig (by omega) h1
  obtain ⟨N, e2, r2⟩ := part_int (by omega) h2
  obtain ⟨I, e3, r3⟩ := part_int (by omega) h3
  obtain ⟨A, m, c, l, e4, q1, q2, q3, q4, q5⟩ := part_digs (by omega) h4 s4
  refine ⟨⟨old, root, N, I, A, m, c, l⟩, ?_, l0, l1, r2, r3, q1, q2, q3, q4, q5⟩
  congr 1
  apply Array.toList_inj.1
  rw [hcs]
  show cs = bvs old ++ (bvs root ++ ([.int .i64 N] ++ ([.int .i64 I] ++ [.slice A m c])))
  rw [← e0, ← e1, ← e2, ← e3, ← e4]
  have g5 : cs.drop 35 = [] := List.drop_eq_nil_of_le (by omega)
  have g4 := cut_at cs 34 1
  have g3 := cut_at cs 33 1
  have g2 := cut_at cs 32 1
  have g1 := cut_at cs 16 16
  have g0 := cut_at cs 0 16
  rw [show 34 + 1 = 35 from rfl, g5, List.append_nil] at g4
  rw [show 33 + 1 = 34 from rfl] at g3
  rw [show 32 + 1 = 33 from rfl] at g2
  rw [show 16 + 16 = 32 from rfl] at g1
  rw [show 0 + 16 = 16 from rfl] at g0
  rw [← g4, ← g3, ← g2, ← g1, ← g0]; rfl
end
end Go.Proofs.YtfnbcchmembomaaDoor
