/- Joined texts: LawKit, LawKit2, LawKit3. Conditions: as each part says. -/
import Derived.Test.YtfllkaeaanahmaaGreatBase
import Derived.ProofKit
import Derived.OpenShut
import Derived.SizedLaws
import Derived.Deep.Slices
import Derived.Deep.Fields
import Derived.ChangeSame
import Derived.Lib.SmallJoins
namespace Go.Proofs.YtfllkaeaanahmaaGreat
set_option linter.unusedVariables false
set_option linter.unusedSimpArgs false
section
open Go.RowKit Go.WideShapes Go.ChangeShapes Go.ChangeAt Go.Deep
open Go.WideMaps Go.WideElems
open Go.ChangeMaps (open_string)

section
variable {H : Type} {enc : TypeId × Value → H} {P : Program}
theorem trodAll_stays (hl : laidOutB P = true) {W W' : World} (hb : Below W.heap.size W W') {sp : Nat → Bool} :
  ∀ {ts : List TypeId} {vs : List Value} {ds : List (DataW H)} {ps : List MemPlace}, (∀ t ∈ ts, P.readableRec t = true ∧ t < P.types.size) →
   DataW.TrodAll enc P W 0 (fun _ => true) true ts vs ds ps → (∀ p ∈ ps, p.block < W.heap.size) → (∀ p ∈ ps, sp p.block = true) → DataW.TrodAll enc P W' 0 sp true ts vs ds ps
 | [], vs, ds, ps, _, h, _, _ => by
  obtain ⟨rfl, rfl, rfl⟩ := trodAll_nil h
  exact trodAll_mk0
 | t :: ts, vs, ds, ps, hr, h, hlt, hs => by
  obtain ⟨v, vs', d, ds', p, q, rfl, rfl, rfl, h0, r0⟩ := trodAll_cons h
  refine trodAll_cons_mk ?_ (trodAll_stays hl hb (fun t ht => hr t (by simp [ht])) r0 (fun p hp => hlt p (by simp [hp])) (fun p hp => hs p (by simp [hp])))
  exact Trod_stays hl (hr t (by simp)).1 (hr t (by simp)).2 h0 (fun x hx => hb.same (hlt x (by simp [hx]))) (fun x hx => hs x (by simp [hx]))
theorem post_of_below {f : Func} {s : ChangeSpec} {apart fresh handsOn again : Bool} {W W' : World} {args : Array Value} {v : Value} {ds gs : List (DataW H)} {before pa pv : List MemPlace}
  (hW : DataW.Whole enc P f.params.toList s.vars apart W args.toList ds gs before)
  (hres : ∀ (b : Nat) (sp : Nat → Bool) (hd : Bool), DataW.TrodAll enc P W' b sp hd f.resultTypes.toList (v.resultList f.resultTypes.size) (s.fn H (ds ++ gs)).results [])
  (hargs : ∀ sp : Nat → Bool, (∀ p ∈ before, sp p.block = true) → DataW.TrodAll enc P W' 0 sp true f.params.toList args.toList (s.fn H (ds ++ gs)).args pa)
  (hvars : ∀ sp : Nat → Bool, (∀ p ∈ before, sp p.block = true) → DataW.TrodVars enc P W' sp s.vars (s.fn H (ds ++ gs)).vars pv)
  (hps : before = pa ++ pv) (hb : Below W.heap.size W W')
  (hok : ∀ (j : Nat) (t : TypeId) (r : Value), f.resultTypes[j]? = some t → (v.resultList f.resultTypes.size)[j]? = some r → Value.okWide P W' .any 0 t r) :
  s.post enc P f apart fresh handsOn again W args v W' := by
 have hlt : ∀ p ∈ before, p.block < W.heap.size := fun p hp => hW.lt p hp
 have hold : ∀ p ∈ before, (fun b => decide (b < W.heap.size)) p.block = true := fun p hp => by simpa using hlt p hp
 refine ⟨ds, gs, before, [], pa, pv, hW, hres _ _ _, hargs _ hold, hvars _ hold, World.keptBut_mono (fun p hp => ⟨hp, ?_⟩) (hb.frame (· ∈ before)), fun _ => ?_⟩
 ·
  rw [hps, List.mem_append] at hp
  exact Or.inr hp
 ·
  obtain ⟨_, _, _, _, _, hz, hn⟩ := hW
  refine ⟨hok, _, _, ([] ++ pa) ++ pv, ⟨[] ++ pa, pv, trodAll_append (hargs _ (fun _ _ => rfl)) (hres _ _ _), hvars _ (fun _ _ => rfl), rfl, ?_, ?_⟩, ?_⟩
  ·
   intro b off hp
   have hin : MemPlace.cell b off ∈ before := by rw [hps]; simpa using hp
   rw [hb.frozen (hlt _ hin)]
   exact hz b off hin
  ·
   intro ha
   have := hn ha
   rw [hps] at this
   simpa using this
  ·
   intro p hp _
   rw [hps]
   simpa using hp

theorem law_post {f : Func} {s : ChangeSpec} {W W' : World} {args : Array Value} {ds : List (DataW H)} {before : List MemPlace} {tb : TypeId} (hl : laidOutB P = true) (hvars0 : s.vars = [])
  (hr : f.params.toList.all (fun t => P.readableRec t && decide (t < P.types.size)) = true) (hrt : f.resultTypes = #[tb]) (htb : P.underlying tb = some .bool)
  (hW : DataW.Whole enc P f.params.toList s.vars false W args.toList ds [] before)
  (hres : (s.fn H (ds ++ [])).results = [.lit (.bool true)]) (hargs : (s.fn H (ds ++ [])).args = ds) (hv : (s.fn H (ds ++ [])).vars = []) (hb : Below W.heap.size W W') :
  s.post enc P f false true false false W args (.bool true) W' := by
 have hW0 := hW
 obtain ⟨p, q, hA, hV, rfl, hfz, hnd⟩ := hW
 rw [hvars0] at hV
 obtain ⟨_, rfl⟩ := trodVars_none hV
 rw [List.append_nil] at hW0
 refine post_of_below (pa := p) (pv := []) hW0 (fun b sp hd => ?_) (fun sp hsp => ?_) (fun _ _ => ?_) (by simp) hb ?_
 ·
  rw [hres, hrt]
  exact trodAll_cons_mk (shut_bool htb true) trodAll_mk0
 ·
  rw [hargs]
  refine trodAll_stays hl hb (fun t ht => ?_) hA (fun x hx => hW0.lt x hx) hsp
  have := List.all_eq_true.1 hr t ht
  simpa using this
 ·
  rw [hv, hvars0]; rfl
 ·
  intro j t r h1 h2
  rw [hrt] at h1 h2
  match j, h1, h2 with
  | 0, h1, h2 =>
   simp at h1
   subst h1
   have : r = .bool true := by simpa [Value.resultList] using h2.symm
   subst this
   exact okWide_bool_mk htb true
  | j + 1, h1, h2 => simp at h1
end

section
variable {H : Type} {enc : TypeId × Value → H} {P : Program} {W : World} {t e : TypeId} {v : Value} {d : DataW H} {ps : List MemPlace} {r : Reach} {b0 : Nat}
theorem int_range {x : Int} (w : (Lit.int .i64 x).wf = true) : -9223372036854775808 ≤ x ∧ x ≤ 9223372036854775807 := by
 have h1 : IntKind.i64.min = -9223372036854775808 := rfl
 have h2 : IntKind.i64.max = 9223372036854775807 := rfl
 simp only [Lit.wf, Bool.and_eq_true, decide_eq_true_eq] at w
 omega
theorem u8_range {x : Int} (w : (Lit.int .u8 x).wf = true) : 0 ≤ x ∧ x ≤ 255 := by
 have h1 : IntKind.u8.min = 0 := rfl
 have h2 : IntKind.u8.max = 255 := rfl
 simp only [Lit.wf, Bool.and_eq_true, decide_eq_true_eq] at w
 omega
theorem u32_range {x : Int} (w : (Lit.int .u32 x).wf = true) : 0 ≤ x ∧ x ≤ 4294967295 := by
 have h1 : IntKind.u32.min = 0 := rfl
 have h2 : IntKind.u32.max = 4294967295 := rfl
 simp only [Lit.wf, Bool.and_eq_true, decide_eq_true_eq] at w
 omega
def Sized (P : Program) (t : TypeId) (d : DataW H) : Prop := ∀ n ∈ d.weights P t, n ≤ reachBytes
theorem sized_of {ts : List TypeId} {ds : List (DataW H)} (h : (DataW.weightsEach P ts ds).all (· ≤ reachBytes) = true) {j : Nat} {t : TypeId} {d : DataW H} (ht : ts[j]? = some t) (hd : ds[j]? = some d) : Sized P t d := fun n hn => by
 have := List.all_eq_true.1 h _ (DataW.weights_mem_each ht hd n hn)
 simpa using this

theorem arg_int (ht : P.underlying t = some (.int .i64)) (hval : Value.okWide P W r b0 t v) (hd : DataW.Trod enc P W 0 (fun _ => true) true t v d ps) :
  ∃ n, v = .int .i64 n ∧ -9223372036854775808 ≤ n ∧ n ≤ 9223372036854775807 := by
 obtain ⟨n, hv, _, _, w⟩ := open_int ht hval hd
 exact ⟨n, hv, (int_range w).1, (int_range w).2⟩
theorem ints_block {W : World} {a : Addr} {i : Nat} {u : Value} (h : W.cell? (a.add i) = some u) : a.block < W.heap.size := by
 have := World.block_lt_of_cell? W _ h
 unfold Addr.add at this
 split at this <;> exact this
theorem addr_plain {W : World} {a : Addr} {u : Value} (h : W.cell? (a.add 0) = some u) : a.spot = none := by
 have e : a.add 0 = a := by simp [Addr.add]
 rw [e] at h
 unfold World.cell? at h
 split at h
 ·
  split at h
  ·
   cases h
  ·
   rename_i hs; simpa using hs
 ·
  cases h
theorem addr_add_plain {a : Addr} (h : a.spot = none) (i : Nat) : a.add i = ⟨a.block, a.off + i, none⟩ := by
 unfold Addr.add; split <;> simp_all
 cases a; simp_all

theorem arg_nums {k : IntKind} {bytes : Nat} (ht : P.underlying t = some (.slice e)) (he : P.underlying e = some (.int k)) (hc : P.cellsOf e = 1) (hby : P.bytesOf e = bytes) (hb0 : 0 < bytes)
  (hval : Value.okWide P W r b0 t v) (hd : DataW.Trod enc P W 0 (fun _ => true) true t v d ps) (hs : Sized P t d) :
  ∃ (A : Option Addr) (n c : Nat) (zs : List Int), v = .slice A n c ∧ n ≤ c ∧ c ≤ 140737488355328 ∧ zs.length = n ∧ (∀ z ∈ zs, (Lit.int k z).wf = true) ∧ Rd W W.heap.size 1 A n (zs.map (Value.int k)) := by
 obtain ⟨a0, len, cap, rfl⟩ := okWide_slice ht hval
 obtain ⟨fuel, hf⟩ := hd
 rcases open_ints ht he hc hf with ⟨hcs, hx⟩ | ⟨a, len', cap', zs, hcs, _, hl, hm, hz, hx, hcell, hwz⟩
 ·
  simp [Value.cells] at hcs
  obtain ⟨rfl, rfl, rfl⟩ := hcs
  exact ⟨none, 0, 0, [], rfl, by omega, by omega, rfl, by simp, Rd.nil_ _ _ _ _⟩
 ·
  simp [Value.cells] at hcs
  obtain ⟨rfl, rfl, rfl⟩ := hcs
  simp only [if_true] at hz
  simp only [Prod.mk.injEq] at hx
  obtain ⟨rfl, rfl⟩ := hx
  have hcap : cap ≤ 140737488355328 := by
   have h1 := hs (((lits (H := H) k (zs.take len)).length + (lits (H := H) k (zs.drop len)).length) * P.bytesOf e) (by simp [DataW.weights, ht])
   simp only [lits, List.length_map, List.length_take, List.length_drop, hby] at h1
   have h2 := reachBytes_lt
   have h3 : cap * 1 ≤ cap * bytes := Nat.mul_le_mul_left _ hb0
   have h4 : min len zs.length + (zs.length - len) = cap := by omega
   rw [h4] at h1
   omega
  refine ⟨some a, len, cap, zs.take len, rfl, hl, hcap, by simp; omega, fun z hz' => hwz z (List.mem_of_mem_take hz'), ⟨by simp; omega, fun hn => ?_⟩⟩
  have hc0 := hcell 0 (by omega)
  have hsp := addr_plain hc0
  refine ⟨a.block, a.off, by cases a; simp_all, ints_block hc0, fun j u hu => ?_⟩
  have hj : j < len := by
   have := (List.getElem?_eq_some_iff.1 hu).1
   simp at this; omega
  have := hcell j (by omega)
  rw [addr_add_plain hsp] at this
  rw [this]
  rw [List.getElem?_map, List.getElem?_take, if_pos hj, List.getElem?_eq_getElem (by omega)] at hu
  simp only [Option.map_some, Option.some.injEq] at hu
  rw [← hu]
  simp [List.getD, show j < zs.length by omega]
theorem arg_ints (ht : P.underlying t = some (.slice e)) (he : P.underlying e = some (.int .i64)) (hc : P.cellsOf e = 1) (hby : P.bytesOf e = 8)
  (hval : Value.okWide P W r b0 t v) (hd : DataW.Trod enc P W 0 (fun _ => true) true t v d ps) (hs : Sized P t d) :
  ∃ (A : Option Addr) (n c : Nat) (zs : List Int), v = .slice A n c ∧ n ≤ c ∧ c ≤ 140737488355328 ∧ zs.length = n ∧ (∀ x ∈ zs, -9223372036854775808 ≤ x ∧ x ≤ 9223372036854775807) ∧ Rd W W.heap.size 1 A n (ivs zs) := by
 obtain ⟨A, n, c, zs, hv, h1, h2, h3, h4, h5⟩ := arg_nums ht he hc hby (by omega) hval hd hs
 exact ⟨A, n, c, zs, hv, h1, h2, h3, fun x hx => int_range (h4 x hx), h5⟩
end
end
section
open Go.RowKit Go.WideShapes Go.ChangeShapes Go.ChangeAt Go.Deep
open Go.WideMaps Go.WideElems

section
variable {H : Type} {enc : TypeId × Value → H} {P : Program} {W : World} {t e : TypeId} {v : Value} {d : DataW H} {ps : List MemPlace} {r : Reach} {b0 : Nat}

theorem arg_elems {α : Type} {f : α → List Value} {Q : α → Prop} {m bytes : Nat} (ht : P.underlying t = some (.slice e)) (hc : P.cellsOf e = m) (hby : P.bytesOf e = bytes) (hb0 : 0 < bytes) (hm0 : 0 < m)
  (hel : ∀ fuel cs x, cs.length = m → DataW.trod enc P W 0 (fun _ => true) true fuel e cs = some x → ∃ y : α, cs = f y ∧ Q y)
  (hval : Value.okWide P W r b0 t v) (hd : DataW.Trod enc P W 0 (fun _ => true) true t v d ps) (hs : Sized P t d) :
  ∃ (A : Option Addr) (n c : Nat) (l : List α), v = .slice A n c ∧ n ≤ c ∧ c ≤ 140737488355328 ∧ l.length = n ∧ (∀ x ∈ l, Q x ∧ (f x).length = m) ∧ Rd W W.heap.size m A n (l.flatMap f) := by
 obtain ⟨a0, len, cap, rfl⟩ := okWide_slice ht hval
 obtain ⟨fuel, hf⟩ := hd
 rcases open_slice ht hf with ⟨hcs, hx⟩ | ⟨a, len', cap', M, n, D, Pl, hcs, _, hl, hm, hM, hx, hi⟩
 ·
  simp [Value.cells] at hcs
  obtain ⟨rfl, rfl, rfl⟩ := hcs
  exact ⟨none, 0, 0, [], rfl, by omega, by omega, rfl, by simp, Rd.nil_ _ _ _ _⟩
 ·
  simp [Value.cells] at hcs
  obtain ⟨rfl, rfl, rfl⟩ := hcs
  simp only [if_true] at hM
  subst hM
  have hcap : M ≤ 140737488355328 := by
   simp only [Prod.mk.injEq] at hx
   have h1 := hs ((((List.range len).map D).length + ((List.range (M - len)).map fun j => D (len + j)).length) * P.bytesOf e) (by rw [hx.1]; simp [DataW.weights, ht])
   simp only [List.length_map, List.length_range, hby] at h1
   have h2 := reachBytes_lt
   have h3 : M * 1 ≤ M * bytes := Nat.mul_le_mul_left _ hb0
   have h4 : len + (M - len) = M := by omega
   rw [h4] at h1
   omega
  have each : ∀ i, i < len → ∃ y : α, (f y).length = m ∧ Q y ∧ ∀ j u, (f y)[j]? = some u → W.cell? (a.add (i * m + j)) = some u := by
   intro i hil
   obtain ⟨cs', hcc, htr⟩ := hi i (by omega)
   rw [hc] at hcc
   obtain ⟨_, hcl, hat⟩ := World.cells?_some hcc
   obtain ⟨y, hy, hq⟩ := hel _ _ _ hcl htr
   subst hy
   refine ⟨y, hcl, hq, fun j u hu => ?_⟩
   have hj : j < m := by have := (List.getElem?_eq_some_iff.1 hu).1; omega
   rw [← Go.Deep.add_add, hat j hj, hu]
  rcases Nat.eq_zero_or_pos len with h0 | h0
  ·
   subst h0
   exact ⟨some a, 0, M, [], rfl, by omega, hcap, rfl, by simp, Rd.nil_ _ _ _ _⟩
  obtain ⟨y0, _⟩ := each 0 h0
  obtain ⟨L, hL⟩ : ∃ L : Nat → α, ∀ i, i < len → (f (L i)).length = m ∧ Q (L i) ∧ ∀ j u, (f (L i))[j]? = some u → W.cell? (a.add (i * m + j)) = some u :=
   ⟨fun i => if h : i < len then (each i h).choose else y0, fun i h => by
    have := (each i h).choose_spec
    simp only [h, dif_pos]
    exact this⟩
  have hlen : ∀ x ∈ (List.range len).map L, Q x ∧ (f x).length = m := by
   intro x hx'
   simp only [List.mem_map, List.mem_range] at hx'
   obtain ⟨i, hi', rfl⟩ := hx'
   exact ⟨(hL i hi').2.1, (hL i hi').1⟩
  have hfl : ∀ x ∈ (List.range len).map L, (f x).length = m := fun x hx' => (hlen x hx').2
  refine ⟨some a, len, M, (List.range len).map L, rfl, hl, hcap, by simp, hlen, ⟨by rw [flatMap_len hfl]; simp, fun hn => ?_⟩⟩
  obtain ⟨u0, hc0⟩ : ∃ u, W.cell? (a.add 0) = some u := by
   obtain ⟨h1, _, h3⟩ := hL 0 hn
   have h4 : (f (L 0))[0]? = some ((f (L 0))[0]'(by omega)) := List.getElem?_eq_getElem _
   exact ⟨_, by simpa only [Nat.zero_mul, Nat.zero_add] using h3 0 _ h4⟩
  have hsp := addr_plain hc0
  refine ⟨a.block, a.off, by cases a; simp_all, ints_block hc0, fun j u hu => ?_⟩
  have hjl : j < len * m := by
   have := (List.getElem?_eq_some_iff.1 hu).1
   rw [flatMap_len hfl] at this
   simpa using this
  have hk : j / m < len := by rw [Nat.div_lt_iff_lt_mul hm0]; exact hjl
  have hj : j % m < m := Nat.mod_lt _ hm0
  have hjj : j = j / m * m + j % m := by rw [Nat.mul_comm]; exact (Nat.div_add_mod j m).symm
  rw [hjj, flatMap_get? hfl (by simpa using hk) hj] at hu
  simp only [List.getElem_map, List.getElem_range] at hu
  have h1 := (hL (j / m) hk).2.2 (j % m) u hu
  rw [← hjj, addr_add_plain hsp] at h1
  exact h1

theorem field_int {k : IntKind} {n : Nat} {u : Value} {y : DataW H × List MemPlace} (ht : P.underlying t = some (.int k)) (h : DataW.trod enc P W 0 (fun _ => true) true n t [u] = some y) : ∃ q : Int, u = .int k q ∧ (Lit.int k q).wf = true := by
 obtain ⟨q, hq1, _, hq2⟩ := DataW.trod_int ht h
 simp only [List.cons.injEq, and_true] at hq1
 exact ⟨q, hq1, hq2⟩
end
end
section
open Go.RowKit Go.WideShapes Go.ChangeShapes Go.ChangeAt Go.Deep
open Go.WideMaps Go.WideElems
section
variable {H : Type} {enc : TypeId × Value → H} {P : Program} {W : World} {t e : TypeId} {v : Value} {d : DataW H} {ps : List MemPlace} {r : Reach} {b0 : Nat}
theorem weights_all {es : List (DataW H)} {x : DataW H} (hx : x ∈ es) : ∀ n ∈ x.weights P e, n ∈ DataW.weightsAll P e es := by
 induction es with
 | nil => cases hx
 | cons y es ih =>
  intro n hn
  simp only [DataW.weightsAll, List.mem_append]
  rcases List.mem_cons.1 hx with rfl | hx
  ·
   exact .inl hn
  ·
   exact .inr (ih hx n hn)
theorem field_sz {fs : Array Field} {fuel : Nat} {cs : List Value} {x : DataW H × List MemPlace} (he : P.underlying e = some (.struct fs)) (h : DataW.trod enc P W 0 (fun _ => true) true fuel e cs = some x) {j : Nat} {f : Field} (hj : fs[j]? = some f) :
  ∃ (n : Nat) (y : DataW H × List MemPlace), DataW.trod enc P W 0 (fun _ => true) true n f.type ((cs.drop f.offset).take (P.cellsOf f.type)) = some y ∧ (Sized P e x.1 → Sized P f.type y.1) := by
 obtain ⟨ys, n', _, hx, _, hyl, hf⟩ := DataW.trod_struct he h
 have hjl : j < fs.size := (Array.getElem?_eq_some_iff.1 hj).1
 have h1 := hf j f hj
 rw [List.getElem?_eq_getElem (by omega)] at h1
 refine ⟨_, _, h1, fun hs n hn => hs n ?_⟩
 rw [hx]
 simp only [DataW.weights, he]
 exact DataW.weights_mem_each (j := j) (by rw [List.getElem?_map, Array.getElem?_toList, hj]; rfl) (by rw [List.getElem?_map, List.getElem?_eq_getElem (by omega)]; rfl) n hn
theorem elems_of {α : Type} {f : α → List Value} {Q : α → Prop} {m bytes fuel0 : Nat} {cs0 : List Value} {x0 : DataW H × List MemPlace} (ht : P.underlying t = some (.slice e)) (hc : P.cellsOf e = m) (hby : P.bytesOf e = bytes) (hb0 : 0 < bytes) (hm0 : 0 < m)
  (hel : ∀ fuel cs x, cs.length = m → DataW.trod enc P W 0 (fun _ => true) true fuel e cs = some x → Sized P e x.1 → ∃ y : α, cs = f y ∧ Q y)
  (hf : DataW.trod enc P W 0 (fun _ => true) true fuel0 t cs0 = some x0) (hs : Sized P t x0.1) :
  ∃ (A : Option Addr) (n c : Nat) (l : List α), cs0 = [.slice A n c] ∧ n ≤ c ∧ c * bytes ≤ reachBytes ∧ l.length = n ∧ (∀ x ∈ l, Q x ∧ (f x).length = m) ∧ Rd W W.heap.size m A n (l.flatMap f) := by
 rcases open_slice ht hf with ⟨hcs, hx⟩ | ⟨a, len, M0, M, n, D, Pl, hcs, _, hl, hm, hM, hx, hi⟩
 ·
  subst hcs
  exact ⟨none, 0, 0, [], rfl, Nat.le_refl _, by omega, rfl, by simp, Rd.nil_ _ _ _ _⟩
 ·
  subst hcs
  simp only [if_true] at hM
  subst hM
  have hsz : M * bytes ≤ reachBytes := by
   have h1 := hs ((((List.range len).map D).length + ((List.range (M - len)).map fun j => D (len + j)).length) * P.bytesOf e) (by rw [hx]; simp [DataW.weights, ht])
   simp only [List.length_map, List.length_range, hby] at h1
   have h4 : len + (M - len) = M := by omega
   rw [h4] at h1
   exact h1
  have each : ∀ i, i < len → ∃ y : α, (f y).length = m ∧ Q y ∧ ∀ j u, (f y)[j]? = some u → W.cell? (a.add (i * m + j)) = some u := by
   intro i hil
   obtain ⟨cs', hcc, htr⟩ := hi i (by omega)
   rw [hc] at hcc
   obtain ⟨_, hcl, hat⟩ := World.cells?_some hcc
   obtain ⟨y, hy, hq⟩ := hel _ _ _ hcl htr (fun n hn => hs n (by
    rw [hx]
    simp only [DataW.weights, ht, List.mem_cons, List.mem_append]
    exact .inr (.inl (weights_all (List.mem_map.2 ⟨i, List.mem_range.2 hil, rfl⟩) n hn))))
   subst hy
   refine ⟨y, hcl, hq, fun j u hu => ?_⟩
   have hj : j < m := by have := (List.getElem?_eq_some_iff.1 hu).1; omega
   rw [← Go.Deep.add_add, hat j hj, hu]
  rcases Nat.eq_zero_or_pos len with h0 | h0
  ·
   subst h0
   exact ⟨some a, 0, M, [], rfl, Nat.zero_le _, hsz, rfl, by simp, Rd.nil_ _ _ _ _⟩
  obtain ⟨y0, _⟩ := each 0 h0
  obtain ⟨L, hL⟩ : ∃ L : Nat → α, ∀ i, i < len → (f (L i)).length = m ∧ Q (L i) ∧ ∀ j u, (f (L i))[j]? = some u → W.cell? (a.add (i * m + j)) = some u :=
   ⟨fun i => if h : i < len then (each i h).choose else y0, fun i h => by
    have := (each i h).choose_spec
    simp only [h, dif_pos]
    exact this⟩
  have hlen : ∀ x ∈ (List.range len).map L, Q x ∧ (f x).length = m := by
   intro x hx'
   simp only [List.mem_map, List.mem_range] at hx'
   obtain ⟨i, hi', rfl⟩ := hx'
   exact ⟨(hL i hi').2.1, (hL i hi').1⟩
  have hfl : ∀ x ∈ (List.range len).map L, (f x).length = m := fun x hx' => (hlen x hx').2
  refine ⟨some a, len, M, (List.range len).map L, rfl, hl, hsz, by simp, hlen, ⟨by rw [flatMap_len hfl]; simp, fun hn => ?_⟩⟩
  obtain ⟨u0, hc0⟩ : ∃ u, W.cell? (a.add 0) = some u := by
   obtain ⟨h1, _, h3⟩ := hL 0 hn
   have h4 : (f (L 0))[0]? = some ((f (L 0))[0]'(by omega)) := List.getElem?_eq_getElem _
   exact ⟨_, by simpa only [Nat.zero_mul, Nat.zero_add] using h3 0 _ h4⟩
  have hsp := addr_plain hc0
  refine ⟨a.block, a.off, by cases a; simp_all, ints_block hc0, fun j u hu => ?_⟩
  have hjl : j < len * m := by
   have := (List.getElem?_eq_some_iff.1 hu).1
   rw [flatMap_len hfl] at this
   simpa using this
  have hk : j / m < len := by rw [Nat.div_lt_iff_lt_mul hm0]; exact hjl
  have hj : j % m < m := Nat.mod_lt _ hm0
  have hjj : j = j / m * m + j % m := by rw [Nat.mul_comm]; exact (Nat.div_add_mod j m).symm
  rw [hjj, flatMap_get? hfl (by simpa using hk) hj] at hu
  simp only [List.getElem_map, List.getElem_range] at hu
  have h1 := (hL (j / m) hk).2.2 (j % m) u hu
  rw [← hjj, addr_add_plain hsp] at h1
  exact h1
theorem arg_elems3 {α : Type} {f : α → List Value} {Q : α → Prop} {m bytes : Nat} (ht : P.underlying t = some (.slice e)) (hc : P.cellsOf e = m) (hby : P.bytesOf e = bytes) (hb0 : 0 < bytes) (hm0 : 0 < m)
  (hel : ∀ fuel cs x, cs.length = m → DataW.trod enc P W 0 (fun _ => true) true fuel e cs = some x → Sized P e x.1 → ∃ y : α, cs = f y ∧ Q y)
  (hval : Value.okWide P W r b0 t v) (hd : DataW.Trod enc P W 0 (fun _ => true) true t v d ps) (hs : Sized P t d) :
  ∃ (A : Option Addr) (n c : Nat) (l : List α), v = .slice A n c ∧ n ≤ c ∧ c * bytes ≤ reachBytes ∧ l.length = n ∧ (∀ x ∈ l, Q x ∧ (f x).length = m) ∧ Rd W W.heap.size m A n (l.flatMap f) := by
 obtain ⟨a0, len, cap, rfl⟩ := okWide_slice ht hval
 obtain ⟨fuel, hf⟩ := hd
 obtain ⟨A, n, c, l, h1, h2⟩ := elems_of ht hc hby hb0 hm0 hel hf hs
 simp only [Value.cells, List.cons.injEq, and_true] at h1
 exact ⟨A, n, c, l, h1, h2⟩
end
end
end Go.Proofs.YtfllkaeaanahmaaGreat
