/- BillsReplay: the encodings of a script's bookings are replayed to its ledger, in plain; the walk of play. Conditions: what the arguments are, the tables of SHA-256. -/
import Derived.Test.YtkjomnakolhdcaaDoorBilTr
import Derived.Test.YtkjomnakolhdcaaDoorBilTk
import Derived.Test.YtkjomnakolhdcaaDoorBilQT
namespace Go.Proofs.YtkjomnakolhdcaaDoor
set_option linter.unusedVariables false
set_option linter.unusedSimpArgs false
open Go.RowKit
namespace Bil
/-- the encoding of a booking -/
def enc1 (x : Bk) : List UInt8 := if x.kind = 1 then encClose x.a x.b x.ch else encCredit x.a x.b x.c
/-- those of the bookings that are executed -/
def encs : Lg → List Bk → List (List UInt8)
 | _, [] => []
 | l, x :: xs => (if doErr l x = 0 then [enc1 x] else []) ++ encs (doSt l x) xs
theorem encs_snoc : ∀ (l : Lg) (xs : List Bk) (x : Bk), encs l (xs ++ [x]) = encs l xs ++ (if doErr (run l xs) x = 0 then [enc1 x] else [])
 | l, [], x => by show (if doErr l x = 0 then [enc1 x] else []) ++ [] = [] ++ _; rw [List.append_nil, List.nil_append]; rfl
 | l, y :: ys, x => by
  show (if doErr l y = 0 then [enc1 y] else []) ++ encs (doSt l y) (ys ++ [x]) = _
  rw [encs_snoc (doSt l y) ys x, ← List.append_assoc]
  rfl
theorem run_snoc (l : Lg) (xs : List Bk) (x : Bk) : run l (xs ++ [x]) = doSt (run l xs) x := by rw [run_append]; rfl
structure BkI (x : Bk) : Prop where
 a : i64 x.a
 b : i64 x.b
 c : i64 x.c
 l : x.ch.length ≤ 9223372036854775807
theorem take_enc1 {l : Lg} {x : Bk} (hx : BkI x) (h0 : doErr l x = 0) : ∃ y, take (enc1 x) = some y ∧ doErr l y = 0 ∧ doSt l y = doSt l x := by
 unfold enc1
 by_cases hk : x.kind = 1
 ·
  rw [if_pos hk]
  have hC : I64s x.ch := by
   intro c hc
   obtain ⟨t, ht, e⟩ := List.mem_iff_getElem.1 hc
   have h1 := fits_range ((closing h0 hk).1.2.2.2.1 c hc)
   omega
  refine ⟨_, take_close hx.a hx.b hC hx.l, ?_, ?_⟩
  ·
   unfold doErr at h0 ⊢; rw [if_pos hk] at h0; rw [if_pos rfl]; exact h0
  ·
   unfold doSt; rw [if_pos hk, if_pos rfl]
 ·
  rw [if_neg hk]
  refine ⟨_, take_credit hx.a hx.b hx.c, ?_, ?_⟩
  ·
   unfold doErr at h0 ⊢; rw [if_neg hk] at h0; exact h0
  ·
   unfold doSt; rw [if_neg hk]; rfl
theorem replay_encs : ∀ (xs : List Bk) (l : Lg) (i : Nat), (∀ x ∈ xs, BkI x) → replay l i (encs l xs) = .inl (run l xs)
 | [], l, i, _ => rfl
 | x :: xs, l, i, h => by
  have ih := fun l i => replay_encs xs l i (fun y hy => h y (List.mem_cons_of_mem _ hy))
  show replay l i ((if doErr l x = 0 then [enc1 x] else []) ++ encs (doSt l x) xs) = .inl (run (doSt l x) xs)
  by_cases h0 : doErr l x = 0
  ·
   obtain ⟨y, h1, h2, h3⟩ := take_enc1 (h x (by simp)) h0
   rw [if_pos h0]
   show replay l i (enc1 x :: encs (doSt l x) xs) = _
   unfold replay
   rw [h1]
   simp only [h2, if_true]
   rw [h3, ih]
  ·
   rw [if_neg h0, List.nil_append, doSt_err h0]
   exact ih l i
theorem replay_take : ∀ (hs : List (List UInt8)) (l : Lg) (i : Nat) (l' : Lg), replay l i hs = .inl l' → ∀ k, ∃ l'', replay l i (hs.take k) = .inl l''
 | [], l, i, l', h, k => ⟨l, by simp [replay]⟩
 | s :: hs, l, i, l', h, 0 => ⟨l, rfl⟩
 | s :: hs, l, i, l', h, k + 1 => by
  rw [replay_cons] at h
  rw [List.take_succ_cons, replay_cons]
  by_cases h0 : optErr l (take s) = 0
  ·
   rw [if_pos h0] at h ⊢
   exact replay_take hs _ _ l' h k
  ·
   rw [if_neg h0] at h; cases h
theorem enc1_len {x : Bk} (h : x.ch.length ≤ 20) : (enc1 x).length ≤ 1000 := by
 unfold enc1 encClose encCredit
 have h1 := Wire.enc_length_le 1
 have h2 := Wire.enc_length_le x.a
 have h3 := Wire.enc_length_le x.b
 have h4 := Wire.enc_length_le x.c
 have h5 := Wire.enc_length_le 2
 have h6 := encI_len x.ch
 split <;> simp only [List.length_append] <;> omega
end Bil
theorem belowBS {w W : World} {B : Nat} {y : BkM} (h : BkOk w B y) (hb : Below B w W) : BkOk W B y := ⟨h.a, h.b, h.c, h.len, h.rd.below hb⟩
theorem farBS {w : World} {y : BkM} {col : Nat → Nat} {B : Nat} (h : BkOk w B y) (hc : ∀ b, col b ≠ 0 → B ≤ b) : 0 < y.n → ∀ a, y.A = some a → col a.block = 0 := fun h0 a ha => by
 obtain ⟨b, off, e, hb, _⟩ := h.rd.2 h0
 rw [e] at ha
 obtain rfl := Option.some.inj ha
 rcases Nat.eq_zero_or_pos (col b) with h1 | h1
 ·
  exact h1
 ·
  have := hc b (by omega); omega
theorem infoBS : (Tryd.prog.info? 35).map (fun i => (i.zero, i.size)) = some (some (.agg Z5.toArray), Z5.length) := infoBk
theorem strE : ElemT Tryd.prog 50 9 (.string ByteArray.empty) 1 16 := ⟨Tryd.underlying50, by kernel_rfl, rfl, by decide, by decide⟩
/-- between two bookings; base: where the list's blocks begin -/
structure PlayS (w W : World) (bl : Nat) (col : Nat → Nat) (m : LM) (l : Bil.Lg) (K : Int) (A : Option Addr) (j c : Nat) (H : List ByteArray) : Prop where
 lat : LAt W bl col m l
 f : ∀ b, col b ≠ 0 → w.heap.size ≤ b
 b : Below w.heap.size w W
 inv : Bil.Inv l K
 own : W.ownsRow w.heap.size 9 1 (.slice A j c) j (svs H)
 ca : ∀ a, A = some a → col a.block = 0
section
variable {w W W' : World} {bl : Nat} {col col' : Nat → Nat} {m m' : LM} {l l' : Bil.Lg} {K K' : Int} {A : Option Addr} {j c : Nat} {H : List ByteArray}
theorem PlayS.below (h : PlayS w W bl col m l K A j c H) (hb : Below W.heap.size W W') : PlayS w W' bl col m l K A j c H :=
 ⟨h.lat.below hb, h.f, h.b.trans (hb.mono h.b.size), h.inv, own_below h.own hb, h.ca⟩
theorem PlayS.zero (h : PlayS w W bl col m l K A j c H) {b : Nat} (hb : W.heap.size ≤ b) : col b = 0 := col_zero h.lat hb
/-- a store into a block that has just been made -/
theorem PlayS.fresh (h : PlayS w W bl col m l K A j c H) {W1 : World} (hb : Below W.heap.size W W1) (hg : W1.grownBy W' (some W.heap.size)) : PlayS w W' bl col m l K A j c H := by
 have h1 := h.below hb
 have hz := h.b.size
 have hk : Keep (fun k => k = W.heap.size) W1 W' := Keep.of_grown hg fun k e => (Option.some.inj e).symm
 refine ⟨h1.lat.keeps hk (fun b e => by subst e; exact h.zero (Nat.le_refl _)), h.f, h1.b.grown hg h1.b.size (fun k hk => by have := Option.some.inj hk; omega), h.inv, ?_, h.ca⟩
 refine h1.own.kept hg ?_
 cases hA : A with
 | none => exact .inl rfl
 | some a =>
  refine .inr fun e => ?_
  have h2 := h.own.lt a.block (by rw [hA]; rfl)
  have h3 : a.block = W.heap.size := by
   have : (Value.slice (some a) j c).ownBlock = some a.block := rfl
   rw [this] at e
   exact (Option.some.inj e)
  omega
theorem PlayS.turn (h : PlayS w W bl col m l K A j c H) (hl : LAt W' bl col' m' l') (hk : Keep (fun b => col b ≠ 0) W W') (hc : ∀ b, col' b ≠ 0 → col b ≠ 0 ∨ W.heap.size ≤ b) (hi : Bil.Inv l' K') : PlayS w W' bl col' m' l' K' A j c H := by
 have hz := h.b.size
 refine ⟨hl, fun b hb => (hc b hb).elim (h.f b) (by omega), h.b.trans (hk.below hz fun q hq e => by have := h.f q e; omega), hi, ?_, fun a ha => ?_⟩
 ·
  refine ⟨h.own.1, ?_⟩
  rcases h.own.2 with h0 | ⟨g, cap, cur, hv, hb, hh, r⟩
  ·
   exact .inl h0
  ·
   have hlt := (Array.getElem?_eq_some_iff.1 hh).1
   have hA : A = some ⟨g, 0, none⟩ := by injection hv
   exact .inr ⟨g, cap, cur, hv, hb, (hk.block g hlt (fun e => e (h.ca _ hA))).trans hh, r⟩
 ·
  rcases Nat.eq_zero_or_pos (col' a.block) with h0 | h0
  ·
   exact h0
  ·
   rcases hc a.block (by omega) with h1 | h1
   ·
    exact absurd (h.ca a ha) h1
   ·
    have := h.own.lt a.block (by rw [ha]; rfl); omega
theorem PlayS.app (h : PlayS w W bl col m l K A j c H) {A' : Option Addr} {n' c' : Nat} {H' : List ByteArray} (own : W'.ownsRow w.heap.size 9 1 (.slice A' n' c') n' (svs H')) (gr : W.grownBy W' (Value.slice A j c).ownBlock) (hA : A' = A ∨ ∃ a, A' = some a ∧ W.heap.size ≤ a.block) : PlayS w W' bl col m l K A' n' c' H' := by
 have hq : ∀ k, (Value.slice A j c).ownBlock = some k → col k = 0 ∧ w.heap.size ≤ k := fun k hk => by
  have h2 := h.own.lt k hk
  refine ⟨?_, h2.1⟩
  cases hA : A with
  | none => rw [hA] at hk; cases hk
  | some a =>
   rw [hA] at hk
   have : a.block = k := Option.some.inj hk
   rw [← this]; exact h.ca a hA
 refine ⟨h.lat.keeps (S := fun k => col k = 0) (Keep.of_grown gr fun k e => (hq k e).1) (fun b e => e), h.f, h.b.grown gr h.b.size (fun k e => (hq k e).2), h.inv, own, fun a ha => ?_⟩
 rcases hA with rfl | ⟨a', ha', h2⟩
 ·
  exact h.ca a ha
 ·
  rw [ha'] at ha
  obtain rfl := Option.some.inj ha
  exact h.zero h2
end
/-- what play gives for good arguments -/
def PlayRes (w : World) (N : Nat) (xs : List Bil.Bk) (e : Ending) (w' : World) : Prop := ∃ bl col m A j c H, e = .returned (.tuple #[.pointer (some ⟨bl, 0, none⟩), .slice A j c, .bool true]) ∧ PlayS w w' bl col m (Bil.run (Bil.newOf N (newHead N)) xs) BIG A j c H ∧ (H.map fun s => s.data.toList) = Bil.encs (Bil.newOf N (newHead N)) xs ∧ H.length = j ∧ j ≤ 60 ∧ ∀ s ∈ H, s.size ≤ 1000
theorem Bil6.of {w' : World} {base : Nat} {v : Value} {l : Bil.Lg} {x : Bil.Bk} (h1 : (Bil.doErr l x = 0 ∧ x.kind = 1) → BillV w' base v (Bil.billOf l x.a x.b x.ch)) (h2 : ¬ (Bil.doErr l x = 0 ∧ x.kind = 1) → v = zBill) : ∃ L6 : List Value, v = .agg L6.toArray ∧ L6.length = 6 ∧ L6.all (·.oneCell') = true := by
 by_cases hcc : Bil.doErr l x = 0 ∧ x.kind = 1
 ·
  obtain ⟨A1, A2, A3, c1, c2, c3, hv, _⟩ := h1 hcc
  exact ⟨_, hv, rfl, rfl⟩
 ·
  exact ⟨Z6, h2 hcc, rfl, rfl⟩
/-- the loop's state -/
def PlayL (w W : World) (bl N : Nat) (xs : List Bil.Bk) (k : Nat) (A : Option Addr) (j c : Nat) : Prop := ∃ col m H, PlayS w W bl col m (Bil.run (Bil.newOf N (newHead N)) (xs.take k)) (1099511627776 * (k : Int)) A j c H ∧ (H.map fun s => s.data.toList) = Bil.encs (Bil.newOf N (newHead N)) (xs.take k) ∧ H.length = j ∧ j ≤ k ∧ ∀ s ∈ H, s.size ≤ 1000
set_option maxRecDepth 100000 in
set_option maxHeartbeats 3200000 in
theorem play_any (tn : Int) (A : Option Addr) (n c : Nat) (L : List BkM) (hL : L.length = n) (w : World) (hok : ∀ y ∈ L, BkOk w w.heap.size y) (rd : Rd w w.heap.size 5 A n (L.flatMap bkc)) (hT : Tabs w) (N : Nat) (htn : tn = (N : Int)) (hN1 : 1 ≤ N) (hN2 : N ≤ 16) (hfew : fewB L = true) :
  Calls Tryd.prog 23 #[.int .i64 tn, .slice A n c] w (PlayRes w N (L.map BkM.x)) := by
 subst htn
 have HF := Lib.hid (fun W (hW : Below w.heap.size w W) => few_any A n c L hL w.heap.size W (rd.below hW))
 rw [hfew] at HF
 obtain ⟨hn60, hy20⟩ := fewB_true hfew
 have HL := Lib.hid hL
 have HOK := Lib.hid hok
 have HRD := Lib.hid rd
 have HTT := Lib.hid hT
 have HY20 := Lib.hid hy20
 have HNW := Lib.hid (new_any N hN1 hN2 w hT (RG.of hT))
 have HN60 : Hid (n ≤ 60) := Lib.hid (by omega)
 obtain ⟨xs, hxs⟩ : ∃ xs, L.map BkM.x = xs := ⟨_, rfl⟩
 have HXS := Lib.hid hxs
 rw [hxs]
 clear hL hok rd hT hfew hn60 hy20 hN1 hN2 hxs
 go_enter Tryd.func23, Tryd.ntmps23
 go_upto_region 5 with (first
  | (go_at_call 11; refine HNW.out.mono ?_; rintro e w1 ⟨bl, col0, m0, rfl, hl1, hf1, hb1⟩; have HL1 := Lib.hid (And.intro hl1 (And.intro hf1 hb1)); clear hl1 hf1 hb1)
  | (go_at_call 10; refine (HF.out w1 HL1.out.2.2).mono ?_; rintro e w2 ⟨rfl, hw2⟩; rw [hw2]; clear hw2 w2))
 have HP0 : Hid (PlayL w w1 bl N xs 0 none 0 0) := Lib.hid ⟨col0, m0, [], ⟨HL1.out.1, HL1.out.2.1, HL1.out.2.2, by have h0 := Bil.inv_new N (newHead N) 0 (Int.le_refl _); simpa [Bil.run] using h0, World.ownsRow_nil _ _ _ _, fun a ha => by cases ha⟩, rfl, rfl, Nat.le_refl _, fun s hs => by cases hs⟩
 clear HL1 HNW HF
 go_wp2_with fail
 go_loopw [9, 10] (fun u9 u10 wr => ∃ (k j cA : Nat) (Al : Option Addr), k ≤ n ∧ u9 = .slice Al j cA ∧ u10 = .int .i64 (k : Int) ∧ Hid (PlayL w wr bl N xs k Al j cA)) (fun _ u10 _ => n - (intOf u10).toNat)
 case atStart => exact ⟨0, 0, 0, none, Nat.zero_le _, rfl, rfl, HP0⟩
 case round =>
  clear HP0
  obtain ⟨k, j, cA, Al, hk, rfl, rfl, HPL⟩ := hrel
  have hn60 := HN60.out
  obtain ⟨col, m, H, hps, hH, hHl, hjk, hHs⟩ := HPL.out
  by_cases hlt : k < n
  ·
   obtain ⟨bS, offS, rfl, hbS, hcS⟩ := rdF HRD.out HL.out (by omega)
   have hkl : k < L.length := by rw [HL.out]; exact hlt
   have hcy := hcS k hkl
   have hoky := HOK.out _ (List.getElem_mem hkl)
   have hy20 := HY20.out _ (List.getElem_mem hkl)
   obtain ⟨y, hy⟩ : ∃ y, L[k]'hkl = y := ⟨_, rfl⟩
   rw [hy] at hcy hoky hy20
   have hrg : wr.rangeAt bS (offS + k * 5) (bkc y) := fun j v hv => (hps.b.cell (p := ⟨bS, offS + k * 5 + j, none⟩) hbS).trans (hcy j v hv)
   have htk : xs.take (k + 1) = xs.take k ++ [y.x] := by
    have hkx : k < xs.length := by rw [← HXS.out, List.length_map]; exact hkl
    rw [List.take_succ_eq_append_getElem hkx]
    congr 1
    subst hy
    simp [← HXS.out]
   obtain ⟨l, hl⟩ : ∃ l, Bil.run (Bil.newOf N (newHead N)) (xs.take k) = l := ⟨_, rfl⟩
   rw [hl] at hps
   have hrun : Bil.run (Bil.newOf N (newHead N)) (xs.take (k + 1)) = Bil.doSt l y.x := by rw [htk, Bil.run_snoc, hl]
   have henc : Bil.encs (Bil.newOf N (newHead N)) (xs.take (k + 1)) = Bil.encs (Bil.newOf N (newHead N)) (xs.take k) ++ (if Bil.doErr l y.x = 0 then [Bil.enc1 y.x] else []) := by rw [htk, Bil.encs_snoc, hl]
   rw [← hH] at henc
   have hKb : (1099511627776 : Int) * k ≤ 1152921504606846976 := by omega
   have HDO := Lib.hid (fun (W : World) (hcW : PlayS w W bl col m l (1099511627776 * (k : Int)) Al j cA H) => do_any bl col m l y (by omega) w.heap.size W (belowBS hoky hcW.b) hcW.lat hcW.inv.ok (Bil.sm_big hcW.inv.sm hKb) (HTT.out.below hcW.b) ((RG.of HTT.out).below hcW.b) hcW.b.size (farBS hoky hcW.f))
   have HPS := Lib.hid hps
   have HINV := Lib.hid (show Bil.Inv (Bil.doSt l y.x) (1099511627776 * ((k + 1 : Nat) : Int)) from by
    have h1 := Bil.inv_do hps.inv y.x
    have e : (1099511627776 : Int) * (k : Int) + 1099511627776 = 1099511627776 * ((k + 1 : Nat) : Int) := by omega
    rwa [e] at h1)
   have HYI := Lib.hid hoky
   have HY2 := Lib.hid hy20
   have HRU := Lib.hid (And.intro hrun (And.intro henc (And.intro hHl (And.intro hjk hHs))))
   have i1 : (k : Int) < (n : Int) := by omega
   obtain ⟨er, her⟩ : ∃ er, Bil.doErr l y.x = er := ⟨_, rfl⟩
   have HER := Lib.hid her
   clear hcS hcy hoky hy20 hy her hKb hps htk hl hrun henc hH hHl hHs HPL
   go_upto_region 9 with (first
    | (refine wpList_load_mid rfl _ (.tmp 39) rfl bS (offS + k * 5) rfl (bkc y) _ hrg Tryd.underlying35 rfl (by kernel_rfl) ?_)
    | (refine wpList_allocRow rfl _ rfl _ infoBS ?_; intro w5 r5 b5 z5)
    | (refine wpList_storeRow rfl _ (.tmp 11) (.tmp 40) rfl (l' := bkc y) r5 rfl rfl size5 rfl rfl ?_; intro w6 r6 g6 z6))
   obtain ⟨b11, hb11⟩ : ∃ x, wr.heap.size = x := ⟨_, rfl⟩
   have HP6 := Lib.hid (HPS.out.fresh b5 g6)
   have HZ11 : Hid (col b11 = 0 ∧ w.heap.size ≤ b11) := Lib.hid ⟨HPS.out.zero (Nat.le_of_eq hb11), by have := HPS.out.b.size; omega⟩
   have HOB : Hid (∀ a, Al = some a → a.block ≠ b11) := Lib.hid fun a ha => by have := HPS.out.own.lt a.block (by rw [ha]; rfl); omega
   rw [hb11] at r6 ⊢
   have HR6 := Lib.hid r6
   clear hb11 r5 r6 b5 g6 z5 z6 hrg HPS
   have q6 := HR6.out
   go_upto_region 10 with (first
    | (refine wpList_loadS rfl _ (.tmp 11) rfl q6 rfl Tryd.underlying35 size5 ?_)
    | (have hgd := r8; refine wpList_storeRow rfl _ (.tmp 12) (.tmp 45) rfl (l' := v6) r8 rfl rfl (by rw [hv6]; exact size6) (by rw [hv6]; rfl) ho6 ?_; intro w9 r9 g9 z9)
    | (go_at_call 12; refine (HDO.out w6 HP6.out).mono ?_; rintro e w7 ⟨v, col', m', rfl, h1, h2, hl', hk', hc'⟩; obtain ⟨v6, rfl, hv6, ho6⟩ : ∃ L6 : List Value, v = .agg L6.toArray ∧ L6.length = 6 ∧ L6.all (·.oneCell') = true := (by exact Bil6.of h1 h2); rw [HER.out]; have HP7 := Lib.hid (HP6.out.turn hl' hk' hc' HINV.out); have HR7 := Lib.hid (HR6.out.keep (hk'.block b11 HR6.out.lt (fun e => e HZ11.out.1))); clear h1 h2 hl' hk' hc')
    | (refine wpList_allocRow rfl _ rfl _ info6 ?_; intro w8 r8 b8 z8))
   have HP9 := Lib.hid (HP7.out.fresh b8 g9)
   have q9 : IsRow w9 b11 35 (bkc y) := (HR7.out.below' b8).grown g9 (fun e => by have := HR7.out.lt; have := Option.some.inj e; omega)
   have HQ9 := Lib.hid q9
   clear q9 q6 r8 r9 b8 g9 z8 z9 hv6 ho6
   by_cases h0 : er = 0
   ·
    subst h0
    have HRU2 : Hid ((H.map fun s => s.data.toList) ++ [Bil.enc1 y.x] = Bil.encs (Bil.newOf N (newHead N)) (xs.take (k + 1))) := Lib.hid (by rw [HRU.out.2.1, if_pos HER.out])
    have hEC := HYI.out
    have c0 : w9.cell? ⟨b11, 0, none⟩ = some (.int .i64 y.x.kind) := HQ9.out.cell 0
    have c1 : w9.cell? ⟨b11, 1, none⟩ = some (.int .i64 y.x.a) := HQ9.out.cell 1
    have c2 : w9.cell? ⟨b11, 2, none⟩ = some (.int .i64 y.x.b) := HQ9.out.cell 2
    have c3 : w9.cell? ⟨b11, 3, none⟩ = some (.int .i64 y.x.c) := HQ9.out.cell 3
    have HCR := Lib.hid (fun W => encodeCredit_any y.x.a y.x.b y.x.c hEC.a.1 hEC.a.2 hEC.b.1 hEC.b.2 hEC.c.1 hEC.c.2 W)
    have HSZ : Hid ((⟨(Bil.enc1 y.x).toArray⟩ : ByteArray).size ≤ 1000) := Lib.hid (by
     have := Bil.enc1_len (x := y.x) (by rw [hEC.len]; exact HY2.out)
     show (Bil.enc1 y.x).toArray.size ≤ 1000
     simpa using this)
    have HJ : Hid (j + 1 ≤ 61) := Lib.hid (by have := HRU.out.2.2.2.1; omega)
    have hsize := HP9.out.b.size
    by_cases hk1 : y.x.kind = 1
    ·
     have hC : I64s y.x.ch := by
      intro c hc
      have h1 := fits_range ((Bil.closing HER.out hk1).1.2.2.2.1 c hc)
      omega
     have HCL := Lib.hid (fun (W : World) (hb : Below w9.heap.size w9 W) => encodeClose_any y.x.a y.x.b hEC.a.1 hEC.a.2 hEC.b.1 hEC.b.2 y.A y.n y.c y.x.ch hEC.len (by have := HY2.out; omega) hC w.heap.size W ((hEC.rd.below HP9.out.b).below (hb.mono HP9.out.b.size)) (Nat.le_trans HP9.out.b.size hb.size))
     have HEN : Hid (Bil.enc1 y.x = encClose y.x.a y.x.b y.x.ch) := Lib.hid (by unfold Bil.enc1; rw [if_pos hk1])
     rw [hk1] at c0
     have c4 : w9.cell? ⟨b11, 4, none⟩ = some (.slice y.A y.n y.c) := HQ9.out.cell 4
     clear hEC hC hk1 hsize
     go_upto_region 12 with (go_at_call 51; refine (HCR.out w9).mono ?_; rintro e w10 ⟨rfl, b10⟩)
     have HP10 := Lib.hid (HP9.out.below b10)
     have HB10 := Lib.hid b10
     have c0 : w10.cell? ⟨b11, 0, none⟩ = some (.int .i64 1) := (HB10.out.cell (p := ⟨b11, 0, none⟩) HQ9.out.lt).trans c0
     have c1 : w10.cell? ⟨b11, 1, none⟩ = some (.int .i64 y.x.a) := (HB10.out.cell (p := ⟨b11, 1, none⟩) HQ9.out.lt).trans c1
     have c2 : w10.cell? ⟨b11, 2, none⟩ = some (.int .i64 y.x.b) := (HB10.out.cell (p := ⟨b11, 2, none⟩) HQ9.out.lt).trans c2
     have c4 : w10.cell? ⟨b11, 4, none⟩ = some (.slice y.A y.n y.c) := (HB10.out.cell (p := ⟨b11, 4, none⟩) HQ9.out.lt).trans c4
     clear b10
     go_upto_region 14 with (go_at_call 52; refine (HCL.out w10 HB10.out).mono ?_; rintro e w11 ⟨rfl, b11'⟩; have HP11 := Lib.hid (HP10.out.below b11'); clear b11')
     rw [← HEN.out]
     obtain ⟨sx, hsx⟩ : ∃ s : ByteArray, (⟨(Bil.enc1 y.x).toArray⟩ : ByteArray) = s := ⟨_, rfl⟩
     rw [hsx]
     have HSX := Lib.hid hsx
     have hown := HP11.out.own
     have hb11_ := HP11.out.b.size
     clear hsx
     go_wp2_with (at_builtin; refine wpList_app1 rfl (.tmp 66) (.tmp 68) 50 rfl w.heap.size 9 _ 16 strE Al j cA _ _ rfl rfl hown HP11.out.b rfl (by have := HJ.out; omega) (Nat.le_refl _) hb11_ ?_; intro g4 c4_ w12 own12 hb12 hg12)
     have HP12 : Hid (PlayS w w12 bl col' m' (Bil.doSt l y.x) (1099511627776 * ((k + 1 : Nat) : Int)) (some ⟨g4, 0, none⟩) (j + 1) c4_ (H ++ [sx])) := Lib.hid (HP11.out.app (by rw [show svs (H ++ [sx]) = svs H ++ [.string sx] from by simp [svs]]; exact own12) hg12.1 (hg12.2.imp (fun h => h.symm) fun h => ⟨_, rfl, h⟩))
     clear own12 hb12 hg12 hown
     go_roundw
     case rel => exact ⟨k + 1, j + 1, c4_, some ⟨g4, 0, none⟩, by omega, rfl, by go_num, Lib.hid ⟨col', m', H ++ [sx], by rw [HRU.out.1]; exact HP12.out, by rw [List.map_append, ← HRU2.out, ← HSX.out]; simp, by rw [List.length_append, HRU.out.2.2.1]; rfl, by have := HRU.out.2.2.2.1; omega, fun s hs => by
      rcases List.mem_append.1 hs with h | h
      ·
       exact HRU.out.2.2.2.2 s h
      ·
       obtain rfl := List.mem_singleton.1 h
       rw [← HSX.out]; exact HSZ.out⟩⟩
     case measure => simp [intOf]; omega
    ·
     have HEN : Hid (Bil.enc1 y.x = encCredit y.x.a y.x.b y.x.c) := Lib.hid (by unfold Bil.enc1; rw [if_neg hk1])
     have hkb : (y.x.kind == 1) = false := by rw [beq_eq_false_iff_ne]; exact hk1
     obtain ⟨kd, hkd⟩ : ∃ x, y.x.kind = x := ⟨_, rfl⟩
     rw [hkd] at hkb c0
     clear hEC hk1 hsize hkd
     go_upto_region 12 with (go_at_call 51; refine (HCR.out w9).mono ?_; rintro e w10 ⟨rfl, b10⟩)
     have HP11 := Lib.hid (HP9.out.below b10)
     have c0 : w10.cell? ⟨b11, 0, none⟩ = some (.int .i64 kd) := (b10.cell (p := ⟨b11, 0, none⟩) HQ9.out.lt).trans c0
     clear b10
     go_upto_region 14 with fail
     rw [← HEN.out]
     obtain ⟨sx, hsx⟩ : ∃ s : ByteArray, (⟨(Bil.enc1 y.x).toArray⟩ : ByteArray) = s := ⟨_, rfl⟩
     rw [hsx]
     have HSX := Lib.hid hsx
     have hown := HP11.out.own
     have hb11_ := HP11.out.b.size
     clear hsx
     go_wp2_with (at_builtin; refine wpList_app1 rfl (.tmp 66) (.tmp 68) 50 rfl w.heap.size 9 _ 16 strE Al j cA _ _ rfl rfl hown HP11.out.b rfl (by have := HJ.out; omega) (Nat.le_refl _) hb11_ ?_; intro g4 c4_ w12 own12 hb12 hg12)
     have HP12 : Hid (PlayS w w12 bl col' m' (Bil.doSt l y.x) (1099511627776 * ((k + 1 : Nat) : Int)) (some ⟨g4, 0, none⟩) (j + 1) c4_ (H ++ [sx])) := Lib.hid (HP11.out.app (by rw [show svs (H ++ [sx]) = svs H ++ [.string sx] from by simp [svs]]; exact own12) hg12.1 (hg12.2.imp (fun h => h.symm) fun h => ⟨_, rfl, h⟩))
     clear own12 hb12 hg12 hown
     go_roundw
     case rel => exact ⟨k + 1, j + 1, c4_, some ⟨g4, 0, none⟩, by omega, rfl, by go_num, Lib.hid ⟨col', m', H ++ [sx], by rw [HRU.out.1]; exact HP12.out, by rw [List.map_append, ← HRU2.out, ← HSX.out]; simp, by rw [List.length_append, HRU.out.2.2.1]; rfl, by have := HRU.out.2.2.2.1; omega, fun s hs => by
      rcases List.mem_append.1 hs with h | h
      ·
       exact HRU.out.2.2.2.2 s h
      ·
       obtain rfl := List.mem_singleton.1 h
       rw [← HSX.out]; exact HSZ.out⟩⟩
     case measure => simp [intOf]; omega
   ·
    have hen : (er != 0) = true := by rw [bne_iff_ne]; exact h0
    have HRU2 : Hid ((H.map fun s => s.data.toList) = Bil.encs (Bil.newOf N (newHead N)) (xs.take (k + 1))) := Lib.hid (by rw [HRU.out.2.1, if_neg (by rw [HER.out]; exact h0), List.append_nil])
    clear h0
    go_wp2_with fail
    go_roundw
    case rel => exact ⟨k + 1, j, cA, Al, by omega, rfl, by go_num, Lib.hid ⟨col', m', H, by rw [HRU.out.1]; exact HP9.out, HRU2.out, HRU.out.2.2.1, by have := HRU.out.2.2.2.1; omega, HRU.out.2.2.2.2⟩⟩
    case measure => simp [intOf]; omega
  ·
   obtain rfl : k = n := by omega
   have hta : xs.take k = xs := List.take_of_length_le (by rw [← HXS.out, List.length_map, HL.out]; exact Nat.le_refl _)
   rw [hta] at hps hH
   have HFI := Lib.hid (And.intro hps (And.intro hH (And.intro hHl (And.intro hjk hHs))))
   clear hps hH hHl hHs hta HPL
   go_wp2_with fail
   go_ret3
   have hq := HFI.out.1
   exact ⟨bl, col, m, Al, j, cA, H, rfl, ⟨hq.lat, hq.f, hq.b, inv_mono hq.inv (by unfold BIG; omega), hq.own, hq.ca⟩, HFI.out.2.1, HFI.out.2.2.1, by have := HFI.out.2.2.2.1; omega, HFI.out.2.2.2.2⟩
end Go.Proofs.YtkjomnakolhdcaaDoor
