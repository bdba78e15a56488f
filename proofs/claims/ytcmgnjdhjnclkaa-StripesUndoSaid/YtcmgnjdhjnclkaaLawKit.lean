/- From a walk over opened arguments to a given statement of the form 'for every input the law returns true': lemmas over any program. No condition. -/
import Derived.Test.YtcmgnjdhjnclkaaBase
import Derived.ProofKit
import Derived.OpenShut
import Derived.SizedLaws
import Derived.Deep.Slices
import Derived.Deep.Fields
import Derived.ChangeSame
namespace Go.Proofs.Ytcmgnjdhjnclkaa
set_option linter.unusedVariables false
set_option linter.unusedSimpArgs false
open Go.RowKit Go.WideShapes Go.ChangeShapes Go.ChangeAt Go.Deep
open Go.WideMaps Go.WideElems
open Go.ChangeMaps (open_string)

section
variable {H : Type} {enc : TypeId × Value → H} {P : Program}
/-- all arguments read as before, where nothing below the heap's old size has turned -/
theorem trodAll_stays (hl : laidOutB P = true) {W W' : World} (hb : Below W.heap.size W W') {sp : Nat → Bool} :
    ∀ {ts : List TypeId} {vs : List Value} {ds : List (DataW H)} {ps : List MemPlace}, (∀ t ∈ ts, P.readableRec t = true ∧ t < P.types.size) →
      DataW.TrodAll enc P W 0 (fun _ => true) true ts vs ds ps → (∀ p ∈ ps, p.block < W.heap.size) → (∀ p ∈ ps, sp p.block = true) → DataW.TrodAll enc P W' 0 sp true ts vs ds ps
  | [], vs, ds, ps, _, h, _, _ => by
    obtain ⟨rfl, rfl, rfl⟩ := trodAll_nil h
    exact trodAll_mk0
  | t :: ts, vs, ds, ps, hr, h, hlt, hs => by
    obtain ⟨v, vs', d, ds', p, q, rfl, rfl, rfl, h0, r0⟩ := trodAll_cons h
    refine trodAll_cons_mk ?_ (trodAll_stays hl hb (fun t ht => hr t (by simp [ht])) r0 (fun p hp => hlt p (by simp [hp])) (fun p hp => hs p (by simp [hp])))
    exact Trod_stays hl (hr t (by simp)).1 (hr t (by simp)).2 h0 (fun x hx => hb.same (hlt x (by simp [hx]))) (fun x hx => hs x (by simp [hx]))
theorem post_of_below {f : Func} {s : ChangeSpec} {apart fresh handsOn again : Bool} {W W' : World} {args : Array Value} {v : Value} {ds gs : List (DataW H)} {before pa pv : List MemPlace}
    (hW : DataW.Whole enc P f.params.toList s.vars apart W args.toList ds gs before)
    (hres : ∀ (b : Nat) (sp : Nat → Bool) (hd : Bool), DataW.TrodAll enc P W' b sp hd f.resultTypes.toList (v.resultList f.resultTypes.size) (s.fn H (ds ++ gs)).results [])
    (hargs : ∀ sp : Nat → Bool, (∀ p ∈ before, sp p.block = true) → DataW.TrodAll enc P W' 0 sp true f.params.toList args.toList (s.fn H (ds ++ gs)).args pa)
    (hvars : ∀ sp : Nat → Bool, (∀ p ∈ before, sp p.block = true) → DataW.TrodVars enc P W' sp s.vars (s.fn H (ds ++ gs)).vars pv)
    (hps : before = pa ++ pv) (hb : Below W.heap.size W W')
    (hok : ∀ (j : Nat) (t : TypeId) (r : Value), f.resultTypes[j]? = some t → (v.resultList f.resultTypes.size)[j]? = some r → Value.okWide P W' .any 0 t r) :
    s.post enc P f apart fresh handsOn again W args v W' := by
  have hlt : ∀ p ∈ before, p.block < W.heap.size := fun p hp => hW.lt p hp
  have hold : ∀ p ∈ before, (fun b => decide (b < W.heap.size)) p.block = true := fun p hp => by simpa using hlt p hp
  refine ⟨ds, gs, before, [], pa, pv, hW, hres _ _ _, hargs _ hold, hvars _ hold, World.keptBut_mono (fun p hp => ⟨hp, ?_⟩) (hb.frame (· ∈ before)), fun _ => ?_⟩
  · rw [hps, List.mem_append] at hp
    exact Or.inr hp
  · obtain ⟨_, _, _, _, _, hz, hn⟩ := hW
    refine ⟨hok, _, _, ([] ++ pa) ++ pv, ⟨[] ++ pa, pv, trodAll_append (hargs _ (fun _ _ => rfl)) (hres _ _ _), hvars _ (fun _ _ => rfl), rfl, ?_, ?_⟩, ?_⟩
    · intro b off hp
      have hin : MemPlace.cell b off ∈ before := by rw [hps]; simpa using hp
      rw [hb.frozen (hlt _ hin)]
      exact hz b off hin
    · intro ha
      have := hn ha
      rw [hps] at this
      simpa using this
    · intro p hp _
      rw [hps]
      simpa using hp

/-- THE STEP FROM THE WALK TO THE LAW: result true, nothing old has turned. -/
theorem law_post {f : Func} {s : ChangeSpec} {W W' : World} {args : Array Value} {ds : List (DataW H)} {before : List MemPlace} {tb : TypeId} (hl : laidOutB P = true) (hvars0 : s.vars = [])
    (hr : f.params.toList.all (fun t => P.readableRec t && decide (t < P.types.size)) = true) (hrt : f.resultTypes = #[tb]) (htb : P.underlying tb = some .bool)
    (hW : DataW.Whole enc P f.params.toList s.vars false W args.toList ds [] before)
    (hres : (s.fn H (ds ++ [])).results = [.lit (.bool true)]) (hargs : (s.fn H (ds ++ [])).args = ds) (hv : (s.fn H (ds ++ [])).vars = []) (hb : Below W.heap.size W W') :
    s.post enc P f false true false false W args (.bool true) W' := by
  have hW0 := hW
  obtain ⟨p, q, hA, hV, rfl, hfz, hnd⟩ := hW
  rw [hvars0] at hV
  obtain ⟨_, rfl⟩ := trodVars_none hV
  rw [List.append_nil] at hW0
  refine post_of_below (pa := p) (pv := []) hW0 (fun b sp hd => ?_) (fun sp hsp => ?_) (fun _ _ => ?_) (by simp) hb ?_
  · rw [hres, hrt]
    exact trodAll_cons_mk (shut_bool htb true) trodAll_mk0
  · rw [hargs]
    refine trodAll_stays hl hb (fun t ht => ?_) hA (fun x hx => hW0.lt x hx) hsp
    have := List.all_eq_true.1 hr t ht
    simpa using this
  · rw [hv, hvars0]; rfl
  · intro j t r h1 h2
    rw [hrt] at h1 h2
    match j, h1, h2 with
    | 0, h1, h2 =>
      simp at h1
      subst h1
      have : r = .bool true := by simpa [Value.resultList] using h2.symm
      subst this
      exact okWide_bool_mk htb true
    | j + 1, h1, h2 => simp at h1
end

section
variable {H : Type} {enc : TypeId × Value → H} {P : Program} {W : World} {t e : TypeId} {v : Value} {d : DataW H} {ps : List MemPlace} {r : Reach} {b0 : Nat}
theorem int_range {x : Int} (w : (Lit.int .i64 x).wf = true) : -9223372036854775808 ≤ x ∧ x ≤ 9223372036854775807 := by
  have h1 : IntKind.i64.min = -9223372036854775808 := rfl
  have h2 : IntKind.i64.max = 9223372036854775807 := rfl
  simp only [Lit.wf, Bool.and_eq_true, decide_eq_true_eq] at w
  omega
theorem u8_range {x : Int} (w : (Lit.int .u8 x).wf = true) : 0 ≤ x ∧ x ≤ 255 := by
  have h1 : IntKind.u8.min = 0 := rfl
  have h2 : IntKind.u8.max = 255 := rfl
  simp only [Lit.wf, Bool.and_eq_true, decide_eq_true_eq] at w
  omega
theorem u32_range {x : Int} (w : (Lit.int .u32 x).wf = true) : 0 ≤ x ∧ x ≤ 4294967295 := by
  have h1 : IntKind.u32.min = 0 := rfl
  have h2 : IntKind.u32.max = 4294967295 := rfl
  simp only [Lit.wf, Bool.and_eq_true, decide_eq_true_eq] at w
  omega
/-- the bytes that an argument takes, one number of its weights -/
def Sized (P : Program) (t : TypeId) (d : DataW H) : Prop := ∀ n ∈ d.weights P t, n ≤ reachBytes
theorem sized_of {ts : List TypeId} {ds : List (DataW H)} (h : (DataW.weightsEach P ts ds).all (· ≤ reachBytes) = true) {j : Nat} {t : TypeId} {d : DataW H} (ht : ts[j]? = some t) (hd : ds[j]? = some d) : Sized P t d := fun n hn => by
  have := List.all_eq_true.1 h _ (DataW.weights_mem_each ht hd n hn)
  simpa using this

theorem arg_int (ht : P.underlying t = some (.int .i64)) (hval : Value.okWide P W r b0 t v) (hd : DataW.Trod enc P W 0 (fun _ => true) true t v d ps) :
    ∃ n, v = .int .i64 n ∧ -9223372036854775808 ≤ n ∧ n ≤ 9223372036854775807 := by
  obtain ⟨n, hv, _, _, w⟩ := open_int ht hval hd
  exact ⟨n, hv, (int_range w).1, (int_range w).2⟩
theorem arg_bool (ht : P.underlying t = some .bool) (hval : Value.okWide P W r b0 t v) (hd : DataW.Trod enc P W 0 (fun _ => true) true t v d ps) : ∃ b, v = .bool b := by
  obtain ⟨b, hv, _⟩ := open_bool ht hval hd
  exact ⟨b, hv⟩
theorem arg_u8 (ht : P.underlying t = some (.int .u8)) (hval : Value.okWide P W r b0 t v) (hd : DataW.Trod enc P W 0 (fun _ => true) true t v d ps) : ∃ n, v = .int .u8 n ∧ 0 ≤ n ∧ n ≤ 255 := by
  obtain ⟨n, hv, _, _, w⟩ := open_int ht hval hd
  exact ⟨n, hv, (u8_range w).1, (u8_range w).2⟩
theorem arg_string (ht : P.underlying t = some .string) (hval : Value.okWide P W r b0 t v) (hd : DataW.Trod enc P W 0 (fun _ => true) true t v d ps) (hs : Sized P t d) : ∃ s : ByteArray, v = .string s ∧ s.size ≤ 140737488355328 := by
  obtain ⟨s, hv, hdd, _, _⟩ := open_string ht hval hd
  refine ⟨s, hv, ?_⟩
  have := hs s.data.toList.length (by subst hdd; simp [DataW.weights])
  have h2 := reachBytes_lt
  have h3 : s.data.toList.length = s.size := by simp
  omega

theorem ints_block {W : World} {a : Addr} {i : Nat} {u : Value} (h : W.cell? (a.add i) = some u) : a.block < W.heap.size := by
  have := World.block_lt_of_cell? W _ h
  unfold Addr.add at this
  split at this <;> exact this
theorem addr_plain {W : World} {a : Addr} {u : Value} (h : W.cell? (a.add 0) = some u) : a.spot = none := by
  have e : a.add 0 = a := by simp [Addr.add]
  rw [e] at h
  unfold World.cell? at h
  split at h
  · split at h
    · cases h
    · rename_i hs; simpa using hs
  · cases h
theorem addr_add_plain {a : Addr} (h : a.spot = none) (i : Nat) : a.add i = ⟨a.block, a.off + i, none⟩ := by
  unfold Addr.add; split <;> simp_all
  cases a; simp_all

/-- a slice of numbers -/
theorem arg_nums {k : IntKind} {bytes : Nat} (ht : P.underlying t = some (.slice e)) (he : P.underlying e = some (.int k)) (hc : P.cellsOf e = 1) (hby : P.bytesOf e = bytes) (hb0 : 0 < bytes)
    (hval : Value.okWide P W r b0 t v) (hd : DataW.Trod enc P W 0 (fun _ => true) true t v d ps) (hs : Sized P t d) :
    ∃ (A : Option Addr) (n c : Nat) (zs : List Int), v = .slice A n c ∧ n ≤ c ∧ c ≤ 140737488355328 ∧ zs.length = n ∧ (∀ z ∈ zs, (Lit.int k z).wf = true) ∧ Rd W W.heap.size 1 A n (zs.map (Value.int k)) := by
  obtain ⟨a0, len, cap, rfl⟩ := okWide_slice ht hval
  obtain ⟨fuel, hf⟩ := hd
  rcases open_ints ht he hc hf with ⟨hcs, hx⟩ | ⟨a, len', cap', zs, hcs, _, hl, hm, hz, hx, hcell, hwz⟩
  · simp [Value.cells] at hcs
    obtain ⟨rfl, rfl, rfl⟩ := hcs
    exact ⟨none, 0, 0, [], rfl, by omega, by omega, rfl, by simp, Rd.nil_ _ _ _ _⟩
  · simp [Value.cells] at hcs
    obtain ⟨rfl, rfl, rfl⟩ := hcs
    simp only [if_true] at hz
    simp only [Prod.mk.injEq] at hx
    obtain ⟨rfl, rfl⟩ := hx
    have hcap : cap ≤ 140737488355328 := by
      have h1 := hs (((lits (H := H) k (zs.take len)).length + (lits (H := H) k (zs.drop len)).length) * P.bytesOf e) (by simp [DataW.weights, ht])
      simp only [lits, List.length_map, List.length_take, List.length_drop, hby] at h1
      have h2 := reachBytes_lt
      have h3 : cap * 1 ≤ cap * bytes := Nat.mul_le_mul_left _ hb0
      have h4 : min len zs.length + (zs.length - len) = cap := by omega
      rw [h4] at h1
      omega
    refine ⟨some a, len, cap, zs.take len, rfl, hl, hcap, by simp; omega, fun z hz' => hwz z (List.mem_of_mem_take hz'), ⟨by simp; omega, fun hn => ?_⟩⟩
    have hc0 := hcell 0 (by omega)
    have hsp := addr_plain hc0
    refine ⟨a.block, a.off, by cases a; simp_all, ints_block hc0, fun j u hu => ?_⟩
    have hj : j < len := by
      have := (List.getElem?_eq_some_iff.1 hu).1
      simp at this; omega
    have := hcell j (by omega)
    rw [addr_add_plain hsp] at this
    rw [this]
    rw [List.getElem?_map, List.getElem?_take, if_pos hj, List.getElem?_eq_getElem (by omega)] at hu
    simp only [Option.map_some, Option.some.injEq] at hu
    rw [← hu]
    simp [List.getD, show j < zs.length by omega]
theorem arg_ints (ht : P.underlying t = some (.slice e)) (he : P.underlying e = some (.int .i64)) (hc : P.cellsOf e = 1) (hby : P.bytesOf e = 8)
    (hval : Value.okWide P W r b0 t v) (hd : DataW.Trod enc P W 0 (fun _ => true) true t v d ps) (hs : Sized P t d) :
    ∃ (A : Option Addr) (n c : Nat) (zs : List Int), v = .slice A n c ∧ n ≤ c ∧ c ≤ 140737488355328 ∧ zs.length = n ∧ (∀ x ∈ zs, -9223372036854775808 ≤ x ∧ x ≤ 9223372036854775807) ∧ Rd W W.heap.size 1 A n (ivs zs) := by
  obtain ⟨A, n, c, zs, hv, h1, h2, h3, h4, h5⟩ := arg_nums ht he hc hby (by omega) hval hd hs
  exact ⟨A, n, c, zs, hv, h1, h2, h3, fun x hx => int_range (h4 x hx), h5⟩
theorem arg_bytes (ht : P.underlying t = some (.slice e)) (he : P.underlying e = some (.int .u8)) (hc : P.cellsOf e = 1) (hby : P.bytesOf e = 1)
    (hval : Value.okWide P W r b0 t v) (hd : DataW.Trod enc P W 0 (fun _ => true) true t v d ps) (hs : Sized P t d) :
    ∃ (A : Option Addr) (n c : Nat) (l : List UInt8), v = .slice A n c ∧ n ≤ c ∧ c ≤ 140737488355328 ∧ l.length = n ∧ Rd W W.heap.size 1 A n (bvs l) := by
  obtain ⟨A, n, c, zs, hv, h1, h2, h3, h4, h5⟩ := arg_nums ht he hc hby (by omega) hval hd hs
  refine ⟨A, n, c, zs.map fun z => UInt8.ofNat z.toNat, hv, h1, h2, by simpa using h3, ?_⟩
  have : bvs (zs.map fun z => UInt8.ofNat z.toNat) = zs.map (Value.int .u8) := by
    simp only [bvs, List.map_map]
    refine List.map_congr_left fun z hz => ?_
    have := u8_range (h4 z hz)
    simp only [Function.comp, UInt8.toNat_ofNat']
    congr 1
    omega
  rw [this]
  exact h5

/-- a slice of arrays of m bytes -/
theorem arg_arrays {m : Nat} {eb : TypeId} (ht : P.underlying t = some (.slice e)) (he : P.underlying e = some (.array m eb)) (hb : P.underlying eb = some (.int .u8)) (hc : P.cellsOf e = m) (hcb : P.cellsOf eb = 1) (hby : P.bytesOf e = m) (hm0 : 0 < m)
    (hval : Value.okWide P W r b0 t v) (hd : DataW.Trod enc P W 0 (fun _ => true) true t v d ps) (hs : Sized P t d) :
    ∃ (A : Option Addr) (n c : Nat) (l : List (List UInt8)), v = .slice A n c ∧ n ≤ c ∧ c ≤ 140737488355328 ∧ l.length = n ∧ (∀ x ∈ l, x.length = m) ∧ Rd W W.heap.size m A n (l.flatMap bvs) := by
  obtain ⟨a0, len, cap, rfl⟩ := okWide_slice ht hval
  obtain ⟨fuel, hf⟩ := hd
  rcases open_slice ht hf with ⟨hcs, hx⟩ | ⟨a, len', cap', M, n, D, Pl, hcs, _, hl, hm, hM, hx, hi⟩
  · simp [Value.cells] at hcs
    obtain ⟨rfl, rfl, rfl⟩ := hcs
    exact ⟨none, 0, 0, [], rfl, by omega, by omega, rfl, by simp, Rd.nil_ _ _ _ _⟩
  · simp [Value.cells] at hcs
    obtain ⟨rfl, rfl, rfl⟩ := hcs
    simp only [if_true] at hM
    subst hM
    have hcap : M ≤ 140737488355328 := by
      simp only [Prod.mk.injEq] at hx
      have h1 := hs ((((List.range len).map D).length + ((List.range (M - len)).map fun j => D (len + j)).length) * P.bytesOf e) (by rw [hx.1]; simp [DataW.weights, ht])
      simp only [List.length_map, List.length_range, hby] at h1
      have h2 := reachBytes_lt
      have h3 : M * 1 ≤ M * m := Nat.mul_le_mul_left _ hm0
      have h4 : len + (M - len) = M := by omega
      rw [h4] at h1
      omega
    -- each element: m cells, each a byte
    have each : ∀ i, i < len → ∃ x : List UInt8, x.length = m ∧ ∀ j (hj : j < x.length), W.cell? (a.add (i * m + j)) = some (.int .u8 (x[j].toNat : Int)) := by
      intro i hil
      obtain ⟨cs', hcc, htr⟩ := hi i (by omega)
      rw [hc] at hcc
      obtain ⟨_, hcl, hat⟩ := World.cells?_some hcc
      obtain ⟨xs, n', _, _, _, _, hg⟩ := DataW.trod_array he htr
      rw [hcb] at hg
      have one : ∀ j (hj : j < m), ∃ q : Int, cs'[j]? = some (.int .u8 q) ∧ 0 ≤ q ∧ q ≤ 255 := by
        intro j hj
        have h1 := hg j hj
        have hjl : j < cs'.length := by omega
        have h2 : (cs'.drop (j * 1)).take 1 = [cs'[j]] := by
          rw [Nat.mul_one, List.drop_eq_getElem_cons hjl]; rfl
        rw [h2] at h1
        have hxs : ∃ y, xs[j]? = some y := by
          cases hq : xs[j]? with
          | some y => exact ⟨y, rfl⟩
          | none =>
            rw [hq] at h1
            rename_i hxl _ _
            exact absurd (List.getElem?_eq_none_iff.1 hq) (by omega)
        obtain ⟨y, hy⟩ := hxs
        rw [hy] at h1
        obtain ⟨q, hq1, _, hq2⟩ := DataW.trod_int hb h1
        simp only [List.cons.injEq, and_true] at hq1
        exact ⟨q, by rw [List.getElem?_eq_getElem hjl, hq1], (u8_range hq2).1, (u8_range hq2).2⟩
      refine ⟨(List.range m).map fun j => match cs'[j]? with | some (Value.int _ q) => UInt8.ofNat q.toNat | _ => 0, by simp, fun j hj => ?_⟩
      have hjm : j < m := by simpa using hj
      obtain ⟨q, hq, hq0, hq1⟩ := one j hjm
      rw [← Go.Deep.add_add, hat j (by omega), hq]
      simp only [List.getElem_map, List.getElem_range, hq, UInt8.toNat_ofNat']
      congr 2
      omega
    obtain ⟨L, hL⟩ : ∃ L : Nat → List UInt8, ∀ i, i < len → (L i).length = m ∧ ∀ j (hj : j < (L i).length), W.cell? (a.add (i * m + j)) = some (.int .u8 ((L i)[j].toNat : Int)) :=
      ⟨fun i => if h : i < len then (each i h).choose else [], fun i h => by
        have := (each i h).choose_spec
        simp only [h, dif_pos]
        exact this⟩
    have hlen : ∀ x ∈ (List.range len).map L, x.length = m := by
      intro x hx'
      simp only [List.mem_map, List.mem_range] at hx'
      obtain ⟨i, hi', rfl⟩ := hx'
      exact (hL i hi').1
    have hfl : ∀ x ∈ (List.range len).map L, (bvs x).length = m := fun x hx' => by rw [List.length_map]; exact hlen x hx'
    refine ⟨some a, len, M, (List.range len).map L, rfl, hl, hcap, by simp, hlen, ⟨by rw [flatMap_len hfl]; simp, fun hn => ?_⟩⟩
    obtain ⟨u0, hc0⟩ : ∃ u, W.cell? (a.add 0) = some u := ⟨_, by
      have h1 := (hL 0 hn).2 0 (by rw [(hL 0 hn).1]; exact hm0)
      simpa only [Nat.zero_mul, Nat.zero_add] using h1⟩
    have hsp := addr_plain hc0
    refine ⟨a.block, a.off, by cases a; simp_all, ints_block hc0, fun j u hu => ?_⟩
    have hjl : j < len * m := by
      have := (List.getElem?_eq_some_iff.1 hu).1
      rw [flatMap_len hfl] at this
      simpa using this
    have hk : j / m < len := by rw [Nat.div_lt_iff_lt_mul hm0]; exact hjl
    have hj : j % m < m := Nat.mod_lt _ hm0
    have hjj : j = j / m * m + j % m := by rw [Nat.mul_comm]; exact (Nat.div_add_mod j m).symm
    rw [hjj, flatMap_get? hfl (by simpa using hk) hj] at hu
    have h1 := (hL (j / m) hk).2 (j % m) (by rw [(hL _ hk).1]; exact hj)
    rw [← hjj, addr_add_plain hsp] at h1
    rw [h1]
    simp only [List.getElem_map, List.getElem_range, List.getElem?_map] at hu
    rw [List.getElem?_eq_getElem (by rw [(hL _ hk).1]; exact hj)] at hu
    simpa using hu
end
end Go.Proofs.Ytcmgnjdhjnclkaa
