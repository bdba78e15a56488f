/- The index's Decode. -/
import Derived.Test.YtnehbcopbioenaaINum
namespace Go.Proofs.Ytnehbcopbioenaa
set_option linter.unusedVariables false
set_option linter.unusedSimpArgs false
open Go.RowKit Go.ChangeMaps

/-- what a decoder of the program's comes to -/
def DecPost (w : World) (d : Int × Int × List (Int × Int)) (e : Ending) (w' : World) : Prop :=
  Below w.heap.size w w' ∧ ((d.1 ≠ 0 ∧ e = .returned (.tuple #[.pointer none, .int .i64 d.1])) ∨
    (d.1 = 0 ∧ ∃ bx bm, e = .returned (.tuple #[.pointer (some ⟨bx, 0, none⟩), .int .i64 0]) ∧ HoldsIx w' bx bm d.2.1 d.2.2 ∧ w.heap.size ≤ bx ∧ w.heap.size ≤ bm))
def seenM (l : List (Int × Int)) (x : Int) : Option Value := if x ∈ l.map (·.2) then some (.bool true) else none
theorem seenM_snoc (l : List (Int × Int)) (p c z : Int) : (if z = c then some (Value.bool true) else seenM l z) = seenM (l ++ [(p, c)]) z := by
  unfold seenM
  by_cases h : z = c
  · subst h; simp
  · by_cases h2 : z ∈ l.map (·.2) <;> simp [h, h2]
theorem zeroBool (w : World) : (zeroValue 4).run Try.prog w = .ok (.bool false) w := by kernel_rfl
theorem num_small {b b1 b2 : List UInt8} {cap N e1 e2 : Int} (h1 : num b 0 1 4096 = (cap, b1, e1)) (h2 : num b1 e1 0 cap = (N, b2, e2)) : 0 ≤ N ∧ N ≤ 4096 ∧ IsErr e2 ∧ b2.length ≤ b.length ∧ b1.length ≤ b.length := by
  have a1 := num_any (b := b) (lo := 1) (hi := 4096) (e := 0) (.inl rfl)
  rw [h1] at a1
  simp only at a1
  have a2 := num_any (b := b1) (lo := 0) (hi := cap) a1.1
  rw [h2] at a2
  simp only at a2
  refine ⟨?_, ?_, a2.1, by omega, a1.2.1⟩
  all_goals
    by_cases he : e2 = 0
    · have := a2.2.2.1 he
      by_cases he1 : e1 = 0
      · have := a1.2.2.1 he1; omega
      · have h3 := num_stop (b := b1) (lo := 0) (hi := cap) he1
        rw [h3] at h2
        simp only [Prod.mk.injEq] at h2
        exact absurd (h2.2.2.trans he) he1
    · have := a2.2.2.2 he; omega
theorem dstep_eq {b b1 b2 : List UInt8} {l : List (Int × Int)} {p c e1 e2 : Int} (h1 : num b 0 0 4294967295 = (p, b1, e1)) (h2 : num b1 e1 1 65536 = (c, b2, e2)) :
    dstep (b, 0, l) = (b2, (if e2 = 0 ∧ c ∈ l.map (·.2) then 6 else e2), l ++ [(p, c)]) := by
  unfold dstep; simp only [h1, h2]
theorem num_facts {b b1 b2 : List UInt8} {p c e1 e2 : Int} (h1 : num b 0 0 4294967295 = (p, b1, e1)) (h2 : num b1 e1 1 65536 = (c, b2, e2)) :
    0 ≤ p ∧ p ≤ 4294967295 ∧ 0 ≤ c ∧ c ≤ 65536 ∧ IsErr e2 ∧ b2.length ≤ b.length ∧ b1.length ≤ b.length := by
  have a1 := num_any (b := b) (lo := 0) (hi := 4294967295) (e := 0) (.inl rfl)
  rw [h1] at a1
  simp only at a1
  have a2 := num_any (b := b1) (lo := 1) (hi := 65536) a1.1
  rw [h2] at a2
  simp only at a2
  have q1 : 0 ≤ p ∧ p ≤ 4294967295 := by
    by_cases he : e1 = 0
    · exact a1.2.2.1 he
    · have := a1.2.2.2 he; omega
  have q2 : 0 ≤ c ∧ c ≤ 65536 := by
    by_cases he : e2 = 0
    · have := a2.2.2.1 he; omega
    · have := a2.2.2.2 he; omega
  exact ⟨q1.1, q1.2, q2.1, q2.2, a2.1, by omega, a1.2.1⟩

theorem MapIs.not_cells {α : Type} [DecidableEq α] {w : World} {b n k t : Nat} {m : Nat × Nat} {cs : Array Value} {kv : α → Value} {M : α → Option Value} (h : MapIs w b kv M n) (hx : w.heap[k]? = some (.cells cs t m)) : k ≠ b := by
  rintro rfl
  obtain ⟨es, clock, L, hb, _⟩ := h
  rw [hb] at hx; cases hx
theorem own_not_map {α : Type} [DecidableEq α] {w : World} {base e size n c b nm : Nat} {A : Option Addr} {xs : List Value} {kv : α → Value} {M : α → Option Value} (h : w.ownsRow base e size (.slice A n c) n xs) (hm : MapIs w b kv M nm) : ∀ a, A = some a → ¬ a.block = b := by
  intro a ha hb
  obtain ⟨cs, m, hc⟩ := own_type h a ha
  exact hm.not_cells hc hb

theorem own_ne_block' {w : World} {base e size n : Nat} {v : Value} {xs : List Value} (h : w.ownsRow base e size v n xs) {b t : Nat} {cs : Array Value} {m : Nat × Nat} (hb : w.heap[b]? = some (.cells cs t m)) (ht : t ≠ e) : some b ≠ v.ownBlock := by
  intro he
  rcases h.2 with ⟨rfl, _⟩ | ⟨g, cap, cur, rfl, _, hg, _⟩
  · simp [Value.ownBlock] at he
  · have e1 : b = g := by simpa [Value.ownBlock] using he
    subst e1
    rw [hg] at hb
    injection hb with hb
    injection hb with _ h2 _
    exact ht h2.symm
theorem RdrAt.not_row {w : World} {T rb B : Nat} {b : List UInt8} {e : Int} {base el size n : Nat} {v : Value} {xs : List Value} (h : RdrAt w T rb B b e) (hr : w.ownsRow base el size v n xs) (ht : T ≠ el) : some rb ≠ v.ownBlock := by
  obtain ⟨A, m, c, hb, _⟩ := h
  exact own_ne_block' hr hb ht
theorem MapIs.not_row {α : Type} [DecidableEq α] {w : World} {b n : Nat} {kv : α → Value} {M : α → Option Value} {base el size k : Nat} {v : Value} {xs : List Value} (h : MapIs w b kv M n) (hr : w.ownsRow base el size v k xs) : some b ≠ v.ownBlock := by
  intro he
  obtain ⟨A, c, rfl⟩ := own_slice hr
  cases A with
  | none => simp [Value.ownBlock] at he
  | some a => exact own_not_map hr h a rfl (by simpa [Value.ownBlock] using he.symm)
set_option maxRecDepth 100000 in
set_option maxHeartbeats 6400000 in
theorem decode_any (A : Option Addr) (n c : Nat) (b : List UInt8) (hn : b.length = n) (hnc : n ≤ c) (hcm : c ≤ maxLen) (hL : n ≤ 1099511627776) (w : World) (hr : Rd w w.heap.size 1 A n (bvs b)) :
    Calls Try.prog 31 #[.slice A n c] w (DecPost w (decX b)) := by
  obtain ⟨cap, b1, e1, hs1⟩ : ∃ cap b1 e1, num b 0 1 4096 = (cap, b1, e1) := ⟨_, _, _, rfl⟩
  obtain ⟨N, b2, e2, hs2⟩ : ∃ N b2 e2, num b1 e1 0 cap = (N, b2, e2) := ⟨_, _, _, rfl⟩
  obtain ⟨hN0, hN1, hE2, hl2, hl1⟩ := num_small hs1 hs2
  obtain ⟨d, hd⟩ : ∃ d, decX b = d := ⟨_, rfl⟩
  rw [hd]
  have HD : Hid (d = ((if (dloop N.toNat (b2, e2, [])).2.1 = 0 ∧ (dloop N.toNat (b2, e2, [])).1 ≠ [] then 6 else (dloop N.toNat (b2, e2, [])).2.1), cap, (dloop N.toNat (b2, e2, [])).2.2)) := by
    show _ = _; rw [← hd]; unfold decX; simp only [hs1, hs2]
  have HDX := Lib.hid hd
  have HS1 := Lib.hid (number_any w.heap.size w.heap.size b 0 1 4096 (by omega))
  have HS2 := Lib.hid (number_any w.heap.size w.heap.size b1 e1 0 cap (by omega))
  rw [hs1] at HS1
  rw [hs2] at HS2
  have HN := Lib.hid hn
  have HE2 := Lib.hid hE2
  have hlb : b2.length ≤ n := by omega
  clear hs1 hs2 hd hn hl2 hl1 hE2
  have hmm := @run_makeMap Try.prog
  go_enter Try.func31, Try.ntmps31
  go_wp2_with fail
  have hb0 : Below w.heap.size w (w.alloc (.cells #[.slice A n c, .int .i64 0] 75)) := (Below.refl _ w).alloc (Nat.le_refl _) _
  have hR0 : RdrAt (w.alloc (.cells #[.slice A n c, .int .i64 0] 75)) 75 w.heap.size w.heap.size b 0 :=
    ⟨A, n, c, heap_alloc_new w _, HN.out, hnc, hcm, hr.below hb0, Nat.le_refl _⟩
  refine (HS1.out _ hR0).mono ?_
  rintro e w1 ⟨rfl, hR1, k1⟩
  have hb1 := Below.then_keep hb0 k1 (fun k hk => by subst hk; exact Nat.le_refl _) (Nat.le_refl _)
  clear hR0 k1 hb0
  go_wp2_with fail
  refine (HS2.out _ hR1).mono ?_
  rintro e w2 ⟨rfl, hR2, k2⟩
  have hb2 := Below.then_keep hb1 k2 (fun k hk => by subst hk; exact Nat.le_refl _) (Nat.le_refl _)
  have hrl := hR2.lt
  clear hR1 k2 hb1 HS1 HS2
  have hm3 := (MapIs.made w2 (Value.int .i64)).congr (M' := seenM []) (fun x => by simp [seenM])
  have hR3 := hR2.below ((Below.refl _ w2).alloc (Nat.le_refl _) (.map #[] 0))
  have hb3 := hb2.alloc hb2.size (.map #[] 0)
  clear hR2
  go_wp2_with fail
  go_loopw [7, 9] (fun u7 u9 wr => ∃ (i : Nat) (b' : List UInt8) (e' : Int) (l' : List (Int × Int)) (A' : Option Addr) (c' cnt : Nat), (i : Int) ≤ N ∧ u9 = .int .i64 i ∧ u7 = .slice A' i c' ∧ l'.length = i ∧ b'.length ≤ n ∧ IsErr e' ∧ Hid (dloop N.toNat (b2, e2, []) = dloop (N.toNat - i) (b', e', l')) ∧
      RdrAt wr 75 w.heap.size w.heap.size b' e' ∧ MapIs wr w2.heap.size (Value.int .i64) (seenM l') cnt ∧ wr.ownsRow w2.heap.size 39 2 (.slice A' i c') i (evs l') ∧ Below w.heap.size w wr ∧ w2.heap.size < wr.heap.size) (fun _ u _ => N.toNat - (intOf u).toNat)
  case atStart => exact ⟨0, b2, e2, [], none, 0, 0, by omega, rfl, rfl, rfl, hlb, HE2.out, rfl, hR3, hm3, World.ownsRow_nil _ _ _ _, hb3, by simp⟩
  case round =>
    clear hm3 hR3 hb3
    obtain ⟨i, b', e', l', A', c', cnt, hi, rfl, rfl, hll, hbl, hE', HDL, hR, hm, own, hbel, hsz⟩ := hrel
    have hce := hR.cellE
    have HLL := Lib.hid hll
    clear hll
    by_cases hgo : (i : Int) < N ∧ e' = 0
    · obtain ⟨hlt, he⟩ := hgo
      subst he
      obtain ⟨p, r1, e1', hq1⟩ : ∃ p r e, num b' 0 0 4294967295 = (p, r, e) := ⟨_, _, _, rfl⟩
      obtain ⟨ch, r2, e2', hq2⟩ : ∃ p r e, num r1 e1' 1 65536 = (p, r, e) := ⟨_, _, _, rfl⟩
      obtain ⟨hp0, hp1, hc0, hc1, hE2', hlr2, hlr1⟩ := num_facts hq1 hq2
      have hds := dstep_eq (l := l') hq1 hq2
      have HS1 := Lib.hid (number_any w.heap.size w.heap.size b' 0 0 4294967295 (by omega))
      have HS2 := Lib.hid (number_any w.heap.size w.heap.size r1 e1' 1 65536 (by omega))
      rw [hq1] at HS1
      rw [hq2] at HS2
      have HDS : Hid (dloop N.toNat (b2, e2, []) = dloop (N.toNat - (i + 1)) (dstep (b', 0, l'))) := by
        show _ = _
        rw [HDL.out, show N.toNat - i = (N.toNat - (i + 1)) + 1 by omega, dloop, if_pos rfl]
      rw [hds] at HDS
      have HE2' := Lib.hid hE2'
      have hwp : IntKind.u32.wrap p = p := IntWalk.u32_in _ (by omega)
      clear hq1 hq2 hds hE2' hE'
      go_wp2_with fail
      refine (HS1.out _ hR).mono ?_
      rintro e w5 ⟨rfl, hR5, k5⟩
      have hm5 := hm.keep k5 (by omega)
      have own5 := own_keep own k5 (fun a ha q => by have := (own_block_lt own a ha).1; omega)
      have hb5 := Below.then_keep hbel k5 (fun k hk => by subst hk; exact Nat.le_refl _) (Nat.le_refl _)
      have hs5 := k5.size
      clear hR hm own hbel k5 hce
      go_wp2_with fail
      refine (HS2.out _ hR5).mono ?_
      rintro e w6 ⟨rfl, hR6, k6⟩
      have hm6 := hm5.keep k6 (by omega)
      have own6 := own_keep own5 k6 (fun a ha q => by have := (own_block_lt own5 a ha).1; omega)
      have hb6 := Below.then_keep hb5 k6 (fun k hk => by subst hk; exact Nat.le_refl _) (Nat.le_refl _)
      have hs6 := k6.size
      clear hR5 hm5 own5 hb5 k6 HS1 HS2
      obtain ⟨e3, he3⟩ : ∃ e3, (if e2' = 0 ∧ ch ∈ l'.map (·.2) then 6 else e2') = e3 := ⟨_, rfl⟩
      rw [he3] at HDS
      have HE3 := Lib.hid he3
      clear he3
      have hIs3 : Hid (IsErr e3) := by
        show IsErr e3
        rw [← HE3.out]
        split
        · exact .inr (.inr rfl)
        · exact HE2'.out
      have hR7 := hR6.below ((Below.refl _ w6).alloc (Nat.le_refl _) (.cells #[.int .u32 p, .int .i64 ch] 39))
      have hm7 := hm6.alloc (.cells #[.int .u32 p, .int .i64 ch] 39)
      have own7 := own6.alloc (.cells #[.int .u32 p, .int .i64 ch] 39)
      have hb7 := hb6.alloc hb6.size (.cells #[.int .u32 p, .int .i64 ch] 39)
      have hx7 : (w6.alloc (.cells #[.int .u32 p, .int .i64 ch] 39)).heap[w6.heap.size]? = some (.cells #[.int .u32 p, .int .i64 ch] 39) := heap_alloc_new w6 _
      have hs7 : w6.heap.size < (w6.alloc (.cells #[.int .u32 p, .int .i64 ch] 39)).heap.size := by simp
      have HX7 := Lib.hid hx7
      clear hx7 hR6 hm6 own6 hb6
      have hce7 := hR7.cellE
      obtain ⟨G, hG⟩ : ∃ G, decide (e2' = 0 ∧ ch ∈ l'.map (·.2)) = G := ⟨_, rfl⟩
      obtain ⟨T, hT⟩ : ∃ T, decide (ch ∈ l'.map (·.2)) = T := ⟨_, rfl⟩
      have hlk := hm7.look1 keyInt Try.underlying77 (zeroBool _) ch (v := .bool T) (by
        rw [← hT]; unfold seenM
        by_cases h : ch ∈ l'.map (·.2) <;> simp [h])
      have hxc : (w6.alloc (.cells #[.int .u32 p, .int .i64 ch] 39)).cell? ⟨w6.heap.size, 1, none⟩ = some (.int .i64 ch) := by rw [cell_of_row _ _ _ _ _ _ HX7.out]; rfl
      have HGG : Hid (G = (decide (e2' = 0) && T)) := by show _ = _; rw [← hG, ← hT]; exact Bool.decide_and _ _
      have HG3 : Hid (e3 = if G then 6 else e2') := by
        show _ = _
        rw [← HE3.out, ← hG]
        by_cases h : e2' = 0 ∧ ch ∈ l'.map (·.2)
        · rw [if_pos h, decide_eq_true h]; rfl
        · rw [if_neg h, decide_eq_false h]; rfl
      clear hG hT
      go_upto_region 10 with fail
      go_cut [51] (fun u wx => u = .bool G ∧ w6.alloc (.cells #[.int .u32 p, .int .i64 ch] 39) = wx)
      case first =>
        by_cases he2 : e2' = 0
        · have h1 : (e2' == 0) = true := by simpa using he2
          have hg : Hid (G = T) := by show _ = _; rw [HGG.out, decide_eq_true he2]; rfl
          clear he2
          go_wp2
          go_meet
          exact ⟨by rw [hg.out], rfl⟩
        · have h1 : (e2' == 0) = false := by simpa using he2
          have hg : Hid (G = false) := by show _ = _; rw [HGG.out, decide_eq_false he2]; rfl
          clear he2
          go_wp2
          go_meet
          exact ⟨by rw [hg.out], rfl⟩
      case rest =>
        obtain ⟨rfl, hwc⟩ := hcut
        rw [hwc] at hR7 hm7 own7 hb7 hs7 hce7 hxc HX7
        clear hlk hwc HGG HE3
        go_upto_if 51 with fail
        go_cut [] (fun wx => RdrAt wx 75 w.heap.size w.heap.size r2 e3 ∧ MapIs wx w2.heap.size (Value.int .i64) (seenM l') cnt ∧ wx.ownsRow w2.heap.size 39 2 (.slice A' i c') i (evs l') ∧ Below w.heap.size w wx ∧
          wx.heap[w6.heap.size]? = some (.cells #[.int .u32 p, .int .i64 ch] 39) ∧ w6.heap.size < wx.heap.size)
        case first =>
          cases G with
          | true =>
            have hfz := hR7.frozen 1
            go_wp2
            go_meet
            have h6 : e3 = 6 := HG3.out
            rw [h6]
            have kk := setE_keep wc w.heap.size 1 (.int .i64 6)
            exact ⟨hR7.setE 6, hm7.keep kk (by omega), own_keep own7 kk (fun a ha q => by have := (own_block_lt own7 a ha).1; omega), Below.then_keep hb7 kk (fun k hk => by subst hk; exact Nat.le_refl _) (Nat.le_refl _), (kk.block _ hs7 (by omega)).trans HX7.out, by have := kk.size; omega⟩
          | false =>
            go_wp2
            go_meet
            have h6 : e3 = e2' := HG3.out
            rw [h6]
            exact ⟨hR7, hm7, own7, hb7, HX7.out, hs7⟩
        case rest =>
          clear hR7 hm7 own7 hb7 hs7 hce7 hxc HX7
          obtain ⟨hR, hm, own, hbel, hx, hsx⟩ := hcut
          have hx1 : wc.cell? ⟨w6.heap.size, 1, none⟩ = some (.int .i64 ch) := by rw [cell_of_row _ _ _ _ _ _ hx]; rfl
          have HX := Lib.hid hx
          have hs2c : w2.heap.size < wc.heap.size := hm.lt
          have hi4 : i ≤ 4096 := by omega
          clear hx
          go_wp2_with (first
            | (at_mapUpdate; refine wpList_store rfl (.tmp 55) (.tmp 57) (.const (.bool true)) 77 rfl keyInt Try.underlying77 hm rfl ch rfl (.bool true) rfl ?_; intro w8 hm8 ht8; have hx8 := ((ht8.grown.block _ hsx (fun e => by injection e with e; exact hm.not_cells HX.out e)).trans HX.out); have hy0 : w8.cell? ⟨w6.heap.size, 0, none⟩ = some (.int .u32 p) := (by rw [cell_of_row _ _ _ _ _ _ hx8]; rfl); have hy1 : w8.cell? ⟨w6.heap.size, 1, none⟩ = some (.int .i64 ch) := (by rw [cell_of_row _ _ _ _ _ _ hx8]; rfl); have k8 : Keep (fun k => k = w2.heap.size) wc w8 := ((Keep.refl _ _).turned ht8 (.inl rfl)); have own8 := own_keep own k8 (fun a ha q => own_not_map own hm a ha q); have hb8 := Below.then_keep hbel k8 (fun k hk => by subst hk; exact Nat.le_of_lt hrl) (Nat.le_refl _); have hR8 := hR.keep k8 (by omega) (fun k hk q => by omega); have hs8 : w2.heap.size < w8.heap.size := (by have := k8.size; omega); clear hx8)
            | (at_builtin; refine wpList_appN rfl (.tmp 58) (.tmp 60) 27 rfl w2.heap.size 39 _ 2 16 entryT A' i c' _ (ev (p, ch)) _ rfl rfl rfl own8 hb8 rfl (ev_one (p, ch)) (by omega) (Nat.le_of_lt hrl) (Nat.le_of_lt hs8) ?_; intro g9 c9 w9 own9 hbel9 hgr9))
          have k9 : Keep (fun k => some k = (Value.slice A' i c').ownBlock) w8 w9 := Keep.of_grown hgr9.1 fun k h => h.symm
          have hR9 := hR8.keep k9 (fun h => hR8.not_row own8 (by decide) h) (fun k hk h => by have := own8.lt k h.symm; omega)
          have hm9 := (hm8.congr (fun z => seenM_snoc l' p ch z)).keep k9 (fun h => hm8.not_row own8 h)
          go_roundw
          case rel =>
            refine ⟨i + 1, r2, e3, l' ++ [(p, ch)], some ⟨g9, 0, none⟩, c9, _, by omega, by go_num, rfl, by rw [List.length_append, HLL.out]; rfl, by omega, hIs3.out, HDS, hR9, hm9, by rw [← evs_snoc]; exact own9, hbel9, by have := k9.size; omega⟩
          case measure => simp [intOf] <;> omega
    · have hst : Hid (dloop (N.toNat - i) (b', e', l') = (b', e', l')) := by
        show _ = _
        by_cases he : e' = 0
        · rw [show N.toNat - i = 0 by omega]; rfl
        · exact dloop_stop he
      obtain ⟨D1, D2, D3⟩ : d.1 = (if e' = 0 ∧ b' ≠ [] then 6 else e') ∧ d.2.1 = cap ∧ d.2.2 = l' := by
        rw [HD.out, HDL.out, hst.out]; exact ⟨rfl, rfl, rfl⟩
      have HD1 := Lib.hid D1
      have HD2 := Lib.hid D2
      have HD3 := Lib.hid D3
      have HE' := Lib.hid hE'
      clear D1 D2 D3 hE' hst HDL
      obtain ⟨f, hf⟩ : ∃ f, d.1 = f := ⟨_, rfl⟩
      rw [hf] at HD1
      have HF := Lib.hid hf
      clear hf
      have hcase : ¬ (i : Int) < N ∨ ((i : Int) < N ∧ e' ≠ 0) := by
        by_cases h : (i : Int) < N
        · exact .inr ⟨h, fun he => hgo ⟨h, he⟩⟩
        · exact .inl h
      clear hgo
      have hi4 : i ≤ 4096 := by omega
      rcases hcase with hc1 | ⟨hc1, hc2⟩
      case' inr => have hc2' : (e' == 0) = false := by simpa using hc2
      case' inr => clear hc2
      all_goals
        go_upto_region 14 with fail
        go_cut [74] (fun u wx => u = .bool (decide (e' = 0) && decide (b' ≠ [])) ∧ wr = wx)
        case first =>
          obtain ⟨Ab, nb, cb, hbb, hnb, hcb, hcmb, hrb, hBb⟩ := hR
          have hcs : wr.cell? ⟨w.heap.size, 0, none⟩ = some (.slice Ab nb cb) := by rw [cell_of_row _ _ _ _ _ _ hbb]; rfl
          obtain ⟨T, hT⟩ : ∃ T, decide (b' ≠ []) = T := ⟨_, rfl⟩
          have hTn : decide (0 < nb) = T := by
            rw [← hT, ← hnb, decide_eq_decide]
            cases b' <;> simp
          obtain ⟨E, hE⟩ : ∃ E, decide (e' = 0) = E := ⟨_, rfl⟩
          have hEe : (e' == 0) = E := by rw [← hE]; exact Bool.beq_eq_decide_eq _ _
          have HT := Lib.hid hT
          have HE := Lib.hid hE
          clear hT hE
          cases E
          all_goals
            cases T
            all_goals
              first
              | exact absurd (hc2'.symm.trans hEe) (by decide)
              | (go_wp2
                 go_meet
                 exact ⟨by rw [HT.out, HE.out]; rfl, rfl⟩)
        case rest =>
          obtain ⟨rfl, rfl⟩ := hcut
          have HFV : Hid (f = if (decide (e' = 0) && decide (b' ≠ [])) = true then 6 else e') := by
            show _ = _
            rw [HD1.out]
            by_cases h : e' = 0 ∧ b' ≠ []
            · rw [if_pos h, decide_eq_true h.1, decide_eq_true h.2]; rfl
            · rw [if_neg h, ← Bool.decide_and, decide_eq_false h]; rfl
          obtain ⟨V, hV⟩ : ∃ V, (decide (e' = 0) && decide (b' ≠ [])) = V := ⟨_, rfl⟩
          rw [hV] at HFV ⊢
          clear hV HD1
          go_upto_if 74 with fail
          go_cut [] (fun wx => RdrAt wx 75 w.heap.size w.heap.size b' f ∧ wx.ownsRow w2.heap.size 39 2 (.slice A' i c') i (evs l') ∧ Below w.heap.size w wx ∧ w2.heap.size < wx.heap.size)
          case first =>
            cases V with
            | true =>
              have hfz := hR.frozen 1
              go_wp2
              go_meet
              have h6 : f = 6 := HFV.out
              rw [h6]
              have kk := setE_keep wr w.heap.size 1 (.int .i64 6)
              exact ⟨hR.setE 6, own_keep own kk (fun a ha q => by have := (own_block_lt own a ha).1; omega), Below.then_keep hbel kk (fun k hk => by subst hk; exact Nat.le_refl _) (Nat.le_refl _), by have := kk.size; omega⟩
            | false =>
              go_wp2
              go_meet
              have h6 : f = e' := HFV.out
              rw [h6]
              exact ⟨hR, own, hbel, hsz⟩
          case rest =>
            clear hR own hbel hsz hm hce HFV
            obtain ⟨hR, own, hbel, hsz⟩ := hcut
            have hce := hR.cellE
            by_cases hf0 : f = 0
            · have hd0 : d = (0, cap, l') := by rw [← HD2.out, ← HD3.out, ← hf0, ← HF.out]
              have hdx := HDX.out
              rw [hd0] at hdx
              obtain ⟨_, hcap1, hcap2, hI⟩ := decX_ok hdx
              have HI := Lib.hid hI
              have HD0 := Lib.hid hd0
              subst hf0
              clear hdx hd0 HDX HD HD2 HD3 HF hI
              have rd := Rd.of_own own
              have hAb := own_block_lt own
              go_wp2_with fail
              refine (new_holds cap hcap1 hcap2 _).mono ?_
              rintro e w10 ⟨bx, bm, rfl, hx, hbx, hbm, b10⟩
              have hb10 := hbel.trans (b10.mono hbel.size)
              have rd10 := rd.below b10
              have hs10 := b10.size
              have hwl := hbel.size
              go_wp2_with fail
              go_loopw [13] (fun u wr => ∃ k : Nat, k ≤ i ∧ u = .int .i64 ((k : Int) - 1) ∧ HoldsIx wr bx bm cap (l'.drop k) ∧ Rd wr wc.heap.size 2 A' i (evs l') ∧ w10.heap.size ≤ wr.heap.size ∧ Below w.heap.size w wr) (fun u _ => (intOf u + 1).toNat)
              case atStart => exact ⟨i, Nat.le_refl _, rfl, by rw [List.drop_of_length_le (by rw [HLL.out]; exact Nat.le_refl _)]; exact hx, rd10, Nat.le_refl _, hb10⟩
              case round =>
                clear hx rd10 hb10
                obtain ⟨k, hk, rfl, hIx, rdk, hszk, hbk⟩ := hrel
                cases k with
                | zero =>
                  go_wp2
                  go_ret2
                  exact ⟨hbk, .inr ⟨by rw [HD0.out], bx, bm, rfl, by rw [HD0.out]; simpa using hIx, by omega, by omega⟩⟩
                | succ k =>
                  obtain ⟨bb, off, rfl, hbb, hcp, hcc⟩ := ev_cells rdk (show k < l'.length by rw [HLL.out]; omega) (by omega)
                  have hkl : k < l'.length := by rw [HLL.out]; omega
                  have hch := HI.out.chunk l'[k] (List.getElem_mem hkl)
                  have HFr := Lib.hid (lput_front (cap := cap) HI.out.good HI.out.len hkl)
                  obtain ⟨p, hp⟩ : ∃ p, l'[k].1 = p := ⟨_, rfl⟩
                  obtain ⟨ch, hc⟩ : ∃ ch, l'[k].2 = ch := ⟨_, rfl⟩
                  rw [hp, hc] at HFr
                  rw [hp] at hcp
                  rw [hc] at hcc hch
                  clear hp hc
                  have e1 : ((k + 1 : Nat) : Int) - 1 = k := by omega
                  rw [e1]
                  have hk0 : (0 : Int) ≤ k := by omega
                  have hk1 : (k : Int) < i := by omega
                  have HEE := Lib.hid e1
                  clear e1
                  go_wp2
                  go_still_tail 11, (by kernel_rfl)
                  change wpList _ _ _ _ _ (World.drew _)
                  generalize hwd : World.drew _ = w13
                  have hI3 : HoldsIx w13 bx bm cap (l'.drop (k + 1)) := by rw [← hwd]; exact hIx
                  have hbb3 : Below w.heap.size w w13 := by rw [← hwd]; exact hbk.drew
                  have rd3 : Rd w13 wc.heap.size 2 (some ⟨bb, off, none⟩) i (evs l') := by rw [← hwd]; exact rdk.drew
                  have hsz3 : w10.heap.size ≤ w13.heap.size := by rw [← hwd]; exact hszk
                  clear hIx hbk rdk hszk hcp hcc hwd
                  go_wp2_with fail
                  refine (put_holds bx bm cap (l'.drop (k + 1)) p ch hch.1 hch.2 hcap1 _ hI3).mono ?_
                  rintro e w14 ⟨rfl, hI4, hk4⟩
                  rw [HFr.out] at hI4
                  go_wp2_with fail
                  go_roundw
                  case rel =>
                    refine ⟨k, by omega, rfl, hI4, rd3.keepS hk4 (by omega) ?_, Nat.le_trans hsz3 hk4.size, ?_⟩
                    · intro a ha
                      obtain ⟨q1, q2⟩ := hAb a ha
                      rintro (q | q)
                      · omega
                      · omega
                    · exact Below.then_keep hbb3 hk4 (fun k hk => by rcases hk with hk | hk <;> omega) (Nat.le_refl _)
                  case measure => simp [intOf]
            · have hf1 : (f != 0) = true := by simpa using hf0
              have HF0 := Lib.hid hf0
              clear hf0
              go_wp2_with fail
              go_quiet (fail)
              go_wp2_with fail
              go_ret2
              exact ⟨below_drewN hbel _, .inl ⟨by rw [HF.out]; exact HF0.out, by rw [HF.out]; rfl⟩⟩
end Go.Proofs.Ytnehbcopbioenaa
