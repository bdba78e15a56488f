/- Joined texts: ChkW, ChkW2, ChkX, ChkY. Conditions: as each part says. -/
import Derived.Test.YtfllkaeaanahmaaGreatChkWi
namespace Go.Proofs.YtfllkaeaanahmaaGreat
set_option linter.unusedVariables false
set_option linter.unusedSimpArgs false
section
open Go.RowKit
theorem ckCells_refs (c : Chk.Ck) (v : Value) (rs : List Chk.Rf) : ckCells { c with refs := rs } v = ckCells c v := rfl
theorem TAt.refd {w W5 : World} {F S : Nat → Prop} {a : Nat} {t : TM} {l : List Chk.Ck} (h : TAt w F S a t l) (hb : ∀ b, F b ∨ S b → b < w.heap.size) {g k c' : Nat} {x : CR} {rs : List Chk.Rf} {A' : Option Addr} (hA : t.A = some ⟨g, 0, none⟩) (hx : t.D[k]? = some x) (hk : k < l.length)
  (hB5 : Below w.heap.size w W5) (ho : W5.ownsRow w.heap.size 76 2 (.slice A' rs.length c') rs.length (rfs rs)) (hr : Chk.RefsOk rs) (hne : rs ≠ []) :
  ∃ F' : Nat → Prop, (∃ t', TAt (W5.setCell ⟨g, k * 23 + 22, none⟩ (.slice A' rs.length c')) F' S a t' (Chk.setRefs l k rs)) ∧ Keep S w (W5.setCell ⟨g, k * 23 + 22, none⟩ (.slice A' rs.length c')) ∧ (∀ b, F' b ∨ S b → b < (W5.setCell ⟨g, k * 23 + 22, none⟩ (.slice A' rs.length c')).heap.size) ∧ (∀ b, F' b → F b ∨ w.heap.size ≤ b) := by
 have hgS := h.sg _ hA
 have hag := h.ag _ hA
 have h5 := h.below hB5
 have hs5 := hB5.size
 have hgw : g < w.heap.size := hb _ (.inr hgS)
 have hlx : l[k]? = some x.c := by rw [← h.d, List.getElem?_map, hx]; rfl
 have hnx : Chk.nth l k = x.c := by have := Chk.nth_get hk; rw [hlx] at this; exact (Option.some.inj this).symm
 have hok := h.inv.ok x.c (List.mem_of_getElem? hlx)
 obtain ⟨gr, cap, hv, hgr, hgrl⟩ := ho.form (by cases rs with | nil => exact absurd rfl hne | cons _ _ => simp)
 obtain rfl : A' = some ⟨gr, 0, none⟩ := by injection hv
 have hK : Keep S w (W5.setCell ⟨g, k * 23 + 22, none⟩ (.slice (some ⟨gr, 0, none⟩) rs.length c')) := (Keep.of_below hB5).setCell (a := ⟨g, k * 23 + 22, none⟩) (.inl hgS) _
 have hi := h.inv.setRefs hk hr hne
 have hsz : (W5.setCell ⟨g, k * 23 + 22, none⟩ (.slice (some ⟨gr, 0, none⟩) rs.length c')).heap.size = W5.heap.size := by simp [World.setCell]
 refine ⟨fun b => F b ∨ b = gr, ⟨{ t with D := t.D.set k ⟨{ x.c with refs := rs }, some ⟨gr, 0, none⟩, rs.length, c'⟩ }, ?_, ?_, ?_, ?_, fun z hz => ?_, h.sa, h.sm, h.sg, h.am, h.ag, fun b hF hS => ?_, hi⟩, hK, fun b e => ?_, fun b e => ?_⟩
 ·
  exact (h5.row.setOther (p := ⟨g, k * 23 + 22, none⟩) hag.1 _)
 ·
  have ho5 := h5.own
  rw [hA] at ho5
  obtain ⟨o1, _, _⟩ := own_step (y := ⟨{ x.c with refs := rs }, some ⟨gr, 0, none⟩, rs.length, c'⟩) (v := .slice (some ⟨gr, 0, none⟩) rs.length c') ho5 h.dl hx (j := 22) (by decide) (by
   show ckCells { x.c with refs := rs } _ = _
   rw [ckCells_refs]
   exact (ckCells_set x.c _ _ hok.dg).symm)
  show World.ownsRow _ 0 _ 23 (.slice t.A t.n t.c) t.n (crs (t.D.set k ⟨{ x.c with refs := rs }, some ⟨gr, 0, none⟩, rs.length, c'⟩))
  rw [hA]
  exact o1
 ·
  show (t.D.set k ⟨{ x.c with refs := rs }, some ⟨gr, 0, none⟩, rs.length, c'⟩).map CR.c = _
  rw [List.map_set, h.d]
  unfold Chk.setRefs
  rw [hnx]
 ·
  have hu := Chk.unitAt_refs hk rs h.inv hi
  exact (h5.map.setCell (show t.m ≠ g from fun e => hag.2 e.symm) _).congr fun y => by show unM l y = unM (Chk.setRefs l k rs) y; unfold unM; rw [hu]
 ·
  rcases List.mem_or_eq_of_mem_set hz with hz | rfl
  ·
   exact ((h.ok z hz).keep hK h.fs).mono fun b e => .inl e
  ·
   refine ⟨?_, rfl, (own_cap ho).1, (own_cap ho).2, fun p hp => .inr (by rw [← Option.some.inj hp])⟩
   have hrd := Rd.of_own ho
   rw [hsz]
   exact hrd.setCell_far (fun p hp => by rw [← Option.some.inj hp]; show gr ≠ g; omega) _
 ·
  rcases hF with hF | rfl
  ·
   exact h.fs b hF hS
  ·
   have := hb _ (.inr hS); omega
 ·
  rw [hsz]
  rcases e with (e | e) | e
  ·
   have := hb b (.inl e); omega
  ·
   omega
  ·
   have := hb b (.inr e); omega
 ·
  rcases e with e | rfl
  ·
   exact .inl e
  ·
   exact .inr hgr
def OpRes (w : World) (F S : Nat → Prop) (a : Nat) (l : List Chk.Ck) (w' : World) : Prop :=
 ∃ F' S' : Nat → Prop, (∃ t', TAt w' F' S' a t' l) ∧ Keep S w w' ∧ (∀ b, F' b ∨ S' b → b < w'.heap.size) ∧ (∀ b, S' b → S b ∨ w.heap.size ≤ b) ∧ (∀ b, F' b → F b ∨ w.heap.size ≤ b)
theorem OpRes.same {w w' : World} {F S : Nat → Prop} {a : Nat} {t : TM} {l : List Chk.Ck} (h : TAt w F S a t l) (hb : ∀ b, F b ∨ S b → b < w.heap.size) (hw : Below w.heap.size w w') : OpRes w F S a l w' :=
 ⟨F, S, ⟨t, h.below hw⟩, Keep.of_below hw, fun b hb' => Nat.lt_of_lt_of_le (hb b hb') hw.size, fun _ h => .inl h, fun _ h => .inl h⟩
def ErrRes (w : World) (F S : Nat → Prop) (a : Nat) (l : List Chk.Ck) (c : Int) (e : Ending) (w' : World) : Prop := e = .returned (.int .i64 c) ∧ OpRes w F S a l w'
section
variable {w : World} {F S : Nat → Prop} {a : Nat} {t : TM} {l : List Chk.Ck}
theorem change_none (h : TAt w F S a t l) (id tn n : Int) (hp : Chk.pos (Chk.ids l) id = none) :
  Calls Tryz.prog 66 #[.pointer (some ⟨a, 0, none⟩), .int .i64 id, .int .i64 tn, .int .i64 n] w fun e w' => e = .returned (.tuple #[.pointer none, .int .i64 12]) ∧ Below w.heap.size w w' := by
 have HF := Lib.hid (find_none h id hp)
 clear h hp
 go_enter Tryz.func66, Tryz.ntmps66
 go_wp2_with (go_at_call 73; refine HF.out.mono ?_; rintro e w1 ⟨rfl, b1⟩)
 go_ret2
 exact ⟨rfl, b1⟩
set_option maxHeartbeats 800000 in
theorem change_bad (h : TAt w F S a t l) (id tn n : Int) (k : Nat) (hp : Chk.pos (Chk.ids l) id = some k) (hbad : ¬ (Chk.tenant tn ∧ 1 ≤ n ∧ n ≤ Chk.most)) :
  Calls Tryz.prog 66 #[.pointer (some ⟨a, 0, none⟩), .int .i64 id, .int .i64 tn, .int .i64 n] w fun e w' => e = .returned (.tuple #[.pointer none, .int .i64 1]) ∧ Below w.heap.size w w' := by
 have hkn : k < t.n := by rw [← h.len.1]; exact (Chk.pos_lt hp).1
 obtain ⟨g, x, hA, _⟩ := h.at hkn
 have HF := Lib.hid (find_some h id k hp g hA)
 have HT := Lib.hid (fun W S hS => tenant_any tn W S hS)
 clear h hp hkn hA
 by_cases ht : Chk.tenant tn
 ·
  have HN := Lib.hid (decide_eq_true ht)
  by_cases h1 : 1 ≤ n
  ·
   have h2 : 2147483647 < n := by
    have : Chk.most = 2147483647 := rfl
    have : ¬ n ≤ Chk.most := fun e => hbad ⟨ht, h1, e⟩
    omega
   clear ht hbad
   go_enter Tryz.func66, Tryz.ntmps66
   go_wp2_with (first
    | (go_at_call 73; refine HF.out.mono ?_; rintro e w1 ⟨rfl, b1⟩)
    | (go_at_call 62; refine (HT.out _ true HN.out).mono ?_; rintro e w2 ⟨rfl, rfl⟩))
   go_ret2
   exact ⟨rfl, b1⟩
  ·
   have h2 : n < 1 := by omega
   clear ht hbad
   go_enter Tryz.func66, Tryz.ntmps66
   go_wp2_with (first
    | (go_at_call 73; refine HF.out.mono ?_; rintro e w1 ⟨rfl, b1⟩)
    | (go_at_call 62; refine (HT.out _ true HN.out).mono ?_; rintro e w2 ⟨rfl, rfl⟩))
   go_ret2
   exact ⟨rfl, b1⟩
 ·
  have HN := Lib.hid (decide_eq_false ht)
  clear ht hbad
  go_enter Tryz.func66, Tryz.ntmps66
  go_wp2_with (first
   | (go_at_call 73; refine HF.out.mono ?_; rintro e w1 ⟨rfl, b1⟩)
   | (go_at_call 62; refine (HT.out _ false HN.out).mono ?_; rintro e w2 ⟨rfl, rfl⟩))
  go_ret2
  exact ⟨rfl, b1⟩
set_option maxHeartbeats 800000 in
theorem change_ok (h : TAt w F S a t l) (id tn n : Int) (k : Nat) (hp : Chk.pos (Chk.ids l) id = some k) (ht : Chk.tenant tn) (h1 : 1 ≤ n) (h2 : n ≤ Chk.most) (g : Nat) (hA : t.A = some ⟨g, 0, none⟩) :
  Calls Tryz.prog 66 #[.pointer (some ⟨a, 0, none⟩), .int .i64 id, .int .i64 tn, .int .i64 n] w fun e w' => e = .returned (.tuple #[.pointer (some ⟨g, k * 23, none⟩), .int .i64 0]) ∧ Below w.heap.size w w' := by
 have HF := Lib.hid (find_some h id k hp g hA)
 have HT := Lib.hid (tenant_any tn)
 have HN := Lib.hid (decide_eq_true ht)
 have h3 : ¬ n < 1 := by omega
 have h4 : ¬ 2147483647 < n := by have : Chk.most = 2147483647 := rfl; omega
 clear h hp hA ht h1 h2
 go_enter Tryz.func66, Tryz.ntmps66
 go_wp2_with (first
  | (go_at_call 73; refine HF.out.mono ?_; rintro e w1 ⟨rfl, b1⟩)
  | (go_at_call 62; refine (HT.out _ true HN.out).mono ?_; rintro e w2 ⟨rfl, rfl⟩))
 go_ret2
 exact ⟨rfl, b1⟩
end
end
section
open Go.RowKit
section
variable {w : World} {F S : Nat → Prop} {a : Nat} {t : TM} {l : List Chk.Ck}
theorem refer_no (h : TAt w F S a t l) (hb : ∀ b, F b ∨ S b → b < w.heap.size) (id tn n c : Int) (hc : (c == 0) = false) (HC : Calls Tryz.prog 66 #[.pointer (some ⟨a, 0, none⟩), .int .i64 id, .int .i64 tn, .int .i64 n] w fun e w' => e = .returned (.tuple #[.pointer none, .int .i64 c]) ∧ Below w.heap.size w w') :
  Calls Tryz.prog 31 #[.pointer (some ⟨a, 0, none⟩), .int .i64 id, .int .i64 tn, .int .i64 n] w (ErrRes w F S a l c) := by
 have HC := Lib.hid HC
 have HS := Lib.hid (fun W hW => OpRes.same h hb (w' := W) hW)
 have hc' : ¬ c = 0 := by simpa using hc
 clear h hb hc
 go_enter Tryz.func31, Tryz.ntmps31
 go_wp2_with (go_at_call 66; refine HC.out.mono ?_; rintro e w1 ⟨rfl, b1⟩)
 go_ret
 exact ⟨rfl, HS.out _ b1⟩
structure RfOf (w : World) (x : CR) (b off : Nat) : Prop where
 A : x.A = some ⟨b, off, none⟩
 pos : 0 < x.n
 ln : x.c.refs.length = x.n
 n16 : x.n ≤ 16
 k : x.n ≤ x.k
 km : x.k ≤ maxLen
 rd : Rd w w.heap.size 2 (some ⟨b, off, none⟩) x.n (rfs x.c.refs)
 up : Chk.Up (Chk.keys x.c.refs)
 one : ∀ r ∈ x.c.refs, 1 ≤ r.n
 tot : Chk.total x.c.refs ≤ Chk.most
theorem TAt.rfOf (h : TAt w F S a t l) {k : Nat} {x : CR} (hx : t.D[k]? = some x) : ∃ b off, RfOf w x b off := by
 have hxm := List.mem_of_getElem? hx
 have hok := h.inv.ok x.c (by rw [← h.d]; exact List.mem_map_of_mem hxm)
 have hcr := h.ok x hxm
 have h0 : 0 < x.n := by rw [← hcr.n]; exact List.length_pos_iff.2 hok.some
 obtain ⟨b, off, hA, _⟩ := hcr.lt h0
 exact ⟨b, off, hA, h0, hcr.n, by rw [← hcr.n]; exact refs_len hok.refs, hcr.k, hcr.km, hA ▸ hcr.rd, hok.refs.up, hok.refs.pos, hok.refs.tot⟩
theorem RfOf.total {x : CR} {b off : Nat} (h : RfOf w x b off) (W : World) (hW : Below w.heap.size w W) : Calls Tryz.prog 67 #[.slice (some ⟨b, off, none⟩) x.n x.k] W fun e w' => e = .returned (.int .i64 (Chk.total x.c.refs)) ∧ Below W.heap.size W w' :=
 total_any _ _ _ _ h.ln (by have := h.n16; omega) h.one h.tot w.heap.size W (h.rd.below hW) hW.size
theorem RfOf.held {x : CR} {b off : Nat} (h : RfOf w x b off) (tn : Int) (W : World) (hW : Below w.heap.size w W) : Calls Tryz.prog 69 #[.slice (some ⟨b, off, none⟩) x.n x.k, .int .i64 tn] W fun e w' => e = .returned (.int .i64 (Chk.held x.c.refs tn)) ∧ Below W.heap.size W w' :=
 held_any _ _ _ _ h.ln (by have := h.n16; omega) h.k h.up w.heap.size W (h.rd.below hW) hW.size tn
theorem RfOf.with_ {x : CR} {b off : Nat} (h : RfOf w x b off) (tn m : Int) (hm : 0 < m ∨ (m = 0 ∧ (Chk.keys x.c.refs)[Chk.lb (Chk.keys x.c.refs) tn]? = some tn)) (W : World) (hW : Below w.heap.size w W) :
  Calls Tryz.prog 68 #[.slice (some ⟨b, off, none⟩) x.n x.k, .int .i64 tn, .int .i64 m] W (WithRes (Chk.withR x.c.refs tn m) W) :=
 with_any b off x.n x.k x.c.refs h.ln h.pos (by have := h.n16; omega) h.k h.km h.up W ((h.rd.below hW).more hW.size) tn m hm
theorem TAt.cell22 (h : TAt w F S a t l) {g k : Nat} {x : CR} (hA : t.A = some ⟨g, 0, none⟩) (hx : t.D[k]? = some x) (W : World) (hW : Below w.heap.size w W) : W.cell? ⟨g, k * 23 + 22, none⟩ = some (.slice x.A x.n x.k) ∧ W.frozen? ⟨g, k * 23 + 22, none⟩ = false := by
 have hkn : k < t.n := by rw [← h.len.2]; exact (List.getElem?_eq_some_iff.1 hx).1
 have h' := h.below hW
 obtain ⟨g', x', hA', _, hx', _, hxm, hrg⟩ := h'.at hkn
 rw [hA] at hA'
 obtain rfl : g = g' := congrArg Addr.block (Option.some.inj hA')
 rw [hx] at hx'
 obtain rfl := Option.some.inj hx'
 have hok := h.inv.ok x.c (by rw [← h.d]; exact List.mem_map_of_mem hxm)
 refine ⟨hrg 22 _ (ckCells_at x.c (.slice x.A x.n x.k) hok.dg).2.2.2.2.2.2, ?_⟩
 have ho := h'.own
 rw [hA] at ho
 exact ho.frozenAt _
set_option maxRecDepth 100000 in
set_option maxHeartbeats 1600000 in
theorem refer_lim (h : TAt w F S a t l) (hb : ∀ b, F b ∨ S b → b < w.heap.size) (id tn n : Int) (k : Nat) (hp : Chk.pos (Chk.ids l) id = some k) (ht : Chk.tenant tn) (h1 : 1 ≤ n) (h2 : n ≤ Chk.most) (hl : Chk.most < Chk.total (Chk.nth l k).refs + n) :
  Calls Tryz.prog 31 #[.pointer (some ⟨a, 0, none⟩), .int .i64 id, .int .i64 tn, .int .i64 n] w (ErrRes w F S a l 2) := by
 have hkl := (Chk.pos_lt hp).1
 have hkn : k < t.n := by rw [← h.len.1]; exact hkl
 obtain ⟨g, x, hA, hgl, hx, hlx, hxm, _⟩ := h.at hkn
 have hnx : Chk.nth l k = x.c := by have := Chk.nth_get hkl; rw [hlx] at this; exact (Option.some.inj this).symm
 obtain ⟨b, off, hrf⟩ := h.rfOf hx
 have HC := Lib.hid (change_ok h id tn n k hp ht h1 h2 g hA)
 have H22 := Lib.hid (fun W hW => by have := h.cell22 hA hx W hW; rw [hrf.A] at this; exact this)
 have HTO := Lib.hid (fun W hW => hrf.total W hW)
 have HHE := Lib.hid (fun W hW => hrf.held tn W hW)
 have hmost : Chk.most = 2147483647 := rfl
 have ht0 := Chk.total_nonneg hrf.one
 have ht1 := hrf.tot
 have hh0 := Chk.held_nonneg hrf.one tn
 have hh1 := Chk.held_le hrf.one hrf.up tn
 have HS := Lib.hid (fun W hW => OpRes.same h hb (w' := W) hW)
 rw [hnx] at hl
 obtain ⟨X, hX⟩ : ∃ X, Chk.total x.c.refs = X := ⟨_, rfl⟩
 rw [hX] at HTO ht0 ht1 hh1
 obtain ⟨N, hN⟩ : ∃ N, x.n = N := ⟨_, rfl⟩
 obtain ⟨C, hC⟩ : ∃ C, x.k = C := ⟨_, rfl⟩
 rw [hX] at hl
 rw [hN, hC] at H22 HTO
 have e1 : IntKind.i64.wrap (2147483647 - X) = 2147483647 - X := IntWalk.i64_in _ (by omega)
 have e2 : 2147483647 - X < n := by omega
 clear hX hN hC hl hnx hA hgl hx hlx hxm hkn hkl hp ht h1 h2 hmost ht0 ht1 hh0 hh1 hrf hb h HHE
 go_enter Tryz.func31, Tryz.ntmps31
 go_upto_region 4 with (go_at_call 66; refine HC.out.mono ?_; rintro e w1 ⟨rfl, b1⟩)
 have k22 := (H22.out w1 b1).1
 go_wp2_with (go_at_call 67; refine (HTO.out _ b1).mono ?_; rintro e w2 ⟨rfl, b2⟩)
 go_ret
 exact ⟨rfl, HS.out _ (b1.trans (b2.mono b1.size))⟩
set_option maxRecDepth 100000 in
set_option maxHeartbeats 1600000 in
theorem refer_ok (h : TAt w F S a t l) (hb : ∀ b, F b ∨ S b → b < w.heap.size) (id tn n : Int) (k : Nat) (hp : Chk.pos (Chk.ids l) id = some k) (ht : Chk.tenant tn) (h1 : 1 ≤ n) (h2 : n ≤ Chk.most) (hl : Chk.total (Chk.nth l k).refs + n ≤ Chk.most) :
  Calls Tryz.prog 31 #[.pointer (some ⟨a, 0, none⟩), .int .i64 id, .int .i64 tn, .int .i64 n] w (ErrRes w F S a (Chk.setRefs l k (Chk.withR (Chk.nth l k).refs tn (Chk.held (Chk.nth l k).refs tn + n))) 0) := by
 have hkl := (Chk.pos_lt hp).1
 have hkn : k < t.n := by rw [← h.len.1]; exact hkl
 obtain ⟨g, x, hA, hgl, hx, hlx, hxm, _⟩ := h.at hkn
 have hnx : Chk.nth l k = x.c := by have := Chk.nth_get hkl; rw [hlx] at this; exact (Option.some.inj this).symm
 obtain ⟨b, off, hrf⟩ := h.rfOf hx
 have HC := Lib.hid (change_ok h id tn n k hp ht h1 h2 g hA)
 have H22 := Lib.hid (fun W hW => by have := h.cell22 hA hx W hW; rw [hrf.A] at this; exact this)
 have HTO := Lib.hid (fun W hW => hrf.total W hW)
 have HHE := Lib.hid (fun W hW => hrf.held tn W hW)
 have hmost : Chk.most = 2147483647 := rfl
 have ht0 := Chk.total_nonneg hrf.one
 have ht1 := hrf.tot
 have hh0 := Chk.held_nonneg hrf.one tn
 have hh1 := Chk.held_le hrf.one hrf.up tn
 rw [hnx] at hl ⊢
 have hmm : 0 < Chk.held x.c.refs tn + n := by omega
 have HWI := Lib.hid (fun W hW => hrf.with_ tn (Chk.held x.c.refs tn + n) (.inl hmm) W hW)
 have hok := h.inv.ok x.c (List.mem_of_getElem? hlx)
 have hrok := Chk.refsOk_with hok.refs ht (show 0 ≤ Chk.held x.c.refs tn + n by omega) (by omega)
 have hne : Chk.withR x.c.refs tn (Chk.held x.c.refs tn + n) ≠ [] := fun e => by
  have := Chk.held_with hok.refs.up tn (Chk.held x.c.refs tn + n) tn (by omega)
  rw [e, if_pos rfl] at this
  have e0 : Chk.held [] tn = 0 := rfl
  omega
 have HRE := Lib.hid (fun (W5 : World) (A' : Option Addr) (c' : Nat) hB5 ho => h.refd hb (W5 := W5) (A' := A') (c' := c') hA hx hkl hB5 ho hrok hne)
 obtain ⟨X, hX⟩ : ∃ X, Chk.total x.c.refs = X := ⟨_, rfl⟩
 rw [hX] at HTO ht0 ht1 hh1
 obtain ⟨N, hN⟩ : ∃ N, x.n = N := ⟨_, rfl⟩
 obtain ⟨C, hC⟩ : ∃ C, x.k = C := ⟨_, rfl⟩
 rw [hX] at hl
 obtain ⟨Y, hY⟩ : ∃ Y, Chk.held x.c.refs tn = Y := ⟨_, rfl⟩
 rw [hY] at HHE hh0 hh1 hmm HWI HRE ⊢
 obtain ⟨M, hM⟩ : ∃ M, Y + n = M := ⟨_, rfl⟩
 obtain ⟨rs, hrs⟩ : ∃ rs, Chk.withR x.c.refs tn (Y + n) = rs := ⟨_, rfl⟩
 rw [hrs] at HWI HRE ⊢
 rw [hM] at HWI
 rw [hN, hC] at H22 HTO HHE HWI
 have e1 : IntKind.i64.wrap (2147483647 - X) = 2147483647 - X := IntWalk.i64_in _ (by omega)
 have e2 : ¬ 2147483647 - X < n := by omega
 have e3 : IntKind.i64.wrap (Y + n) = M := by rw [hM]; exact IntWalk.i64_in _ (by omega)
 have HSU := Lib.hid h.sa
 have HGL := Lib.hid hgl
 clear hX hN hC hl hnx hA hgl hx hlx hxm hkn hkl hp ht h1 h2 hmost ht0 ht1 hh0 hh1 hrf hb h hmm hok hrok hne hY hM hrs
 go_enter Tryz.func31, Tryz.ntmps31
 go_upto_region 4 with (go_at_call 66; refine HC.out.mono ?_; rintro e w1 ⟨rfl, b1⟩)
 have k22 := (H22.out w1 b1).1
 go_upto_region 6 with (go_at_call 67; refine (HTO.out _ b1).mono ?_; rintro e w2 ⟨rfl, b2⟩)
 have hb2 : Below w.heap.size w w2 := b1.trans (b2.mono b1.size)
 have HB2 := Lib.hid hb2
 clear b1 b2 hb2 k22 e1 e2
 have hv0 : Below w2.heap.size w2 w2.drew := (Below.refl _ _).drew
 refine wp_region_late (fun W => Below w2.heap.size w2 W) [17] (by kernel_rfl) (hv0) (fun hHeld => ?_)
 refine wpAnyL_take (i := 0) (oi := { dst := some 30, op := Op.move (Operand.tmp 9), type := 122, pos := "chunks.go:179", after := #[], guard := none }) (v := ?v0_1) rfl (by kernel_rfl) (by kernel_rfl) (by kernel_rfl) (by kernel_rfl) (fun _ _ _ h => h) (Or.inl ⟨by rfl, ?h0_1⟩) (by assumption) ?r0_1
 case h0_1 =>
  intro W hSW
  try dsimp only at hSW
  go_simp
  try with_reducible rfl
 try simp only [PT]
 refine wpAnyL_take (i := 1) (oi := { dst := some 31, op := Op.move (Operand.tmp 9), type := 122, pos := "chunks.go:179", after := #[], guard := none }) (v := ?v1_2) rfl (by kernel_rfl) (by kernel_rfl) (by kernel_rfl) (by kernel_rfl) (fun _ _ _ h => h) (Or.inl ⟨by rfl, ?h1_2⟩) (by assumption) ?r1_2
 case h1_2 =>
  intro W hSW
  try dsimp only at hSW
  go_simp
  try with_reducible rfl
 try simp only [PT]
 refine wpAnyL_take (i := 2) (oi := { dst := some 32, op := Op.nilCheck (Operand.tmp 31), type := 0, pos := "chunks.go:179", after := #[{ on := 1, ground := Ground.data }], guard := none }) (v := ?v2_3) rfl (by kernel_rfl) (by kernel_rfl) (by kernel_rfl) (by kernel_rfl) (fun _ _ _ h => h) (Or.inl ⟨by rfl, ?h2_3⟩) (by assumption) ?r2_3
 case h2_3 =>
  intro W hSW
  try dsimp only at hSW
  go_simp
  try with_reducible rfl
 try simp only [PT]
 refine wpAnyL_take (i := 3) (oi := { dst := some 33, op := Op.fieldAddr 68 (Operand.tmp 32) 5, type := 0, pos := "chunks.go:179", after := #[{ on := 2, ground := Ground.data }], guard := none }) (v := ?v3_4) rfl (by kernel_rfl) (by kernel_rfl) (by kernel_rfl) (by kernel_rfl) (fun _ _ _ h => h) (Or.inl ⟨by rfl, ?h3_4⟩) (by assumption) ?r3_4
 case h3_4 =>
  intro W hSW
  try dsimp only at hSW
  go_simp
  try with_reducible rfl
 try simp only [PT]
 refine wpAnyL_take (i := 4) (oi := { dst := some 34, op := Op.load 66 (Operand.tmp 33), type := 66, pos := "chunks.go:179", after := #[{ on := 3, ground := Ground.data }], guard := none }) (v := ?v4_5) rfl (by kernel_rfl) (by kernel_rfl) (by kernel_rfl) (by kernel_rfl) (fun _ _ _ h => h) (Or.inl ⟨by rfl, ?h4_5⟩) (by assumption) ?r4_5
 case h4_5 =>
  intro W hSW
  try dsimp only at hSW
  have hcc := (H22.out W (HB2.out.trans (hSW.mono HB2.out.size))).1
  go_simp
  try with_reducible rfl
 try simp only [PT]
 refine wpAnyL_take (i := 5) (oi := { dst := some 35, op := Op.move (Operand.tmp 2), type := 3, pos := "chunks.go:179", after := #[], guard := none }) (v := ?v5_6) rfl (by kernel_rfl) (by kernel_rfl) (by kernel_rfl) (by kernel_rfl) (fun _ _ _ h => h) (Or.inl ⟨by rfl, ?h5_6⟩) (by assumption) ?r5_6
 case h5_6 =>
  intro W hSW
  try dsimp only at hSW
  go_simp
  try with_reducible rfl
 try simp only [PT]
 refine wpAnyL_take (i := 6) (oi := { dst := some 36, op := Op.move (Operand.tmp 9), type := 122, pos := "chunks.go:179", after := #[], guard := none }) (v := ?v6_7) rfl (by kernel_rfl) (by kernel_rfl) (by kernel_rfl) (by kernel_rfl) (fun _ _ _ h => h) (Or.inl ⟨by rfl, ?h6_7⟩) (by assumption) ?r6_7
 case h6_7 =>
  intro W hSW
  try dsimp only at hSW
  go_simp
  try with_reducible rfl
 try simp only [PT]
 refine wpAnyL_take (i := 7) (oi := { dst := some 37, op := Op.nilCheck (Operand.tmp 36), type := 0, pos := "chunks.go:179", after := #[{ on := 6, ground := Ground.data }], guard := none }) (v := ?v7_8) rfl (by kernel_rfl) (by kernel_rfl) (by kernel_rfl) (by kernel_rfl) (fun _ _ _ h => h) (Or.inl ⟨by rfl, ?h7_8⟩) (by assumption) ?r7_8
 case h7_8 =>
  intro W hSW
  try dsimp only at hSW
  go_simp
  try with_reducible rfl
 try simp only [PT]
 refine wpAnyL_take (i := 8) (oi := { dst := some 38, op := Op.fieldAddr 68 (Operand.tmp 37) 5, type := 0, pos := "chunks.go:179", after := #[{ on := 7, ground := Ground.data }], guard := none }) (v := ?v8_9) rfl (by kernel_rfl) (by kernel_rfl) (by kernel_rfl) (by kernel_rfl) (fun _ _ _ h => h) (Or.inl ⟨by rfl, ?h8_9⟩) (by assumption) ?r8_9
 case h8_9 =>
  intro W hSW
  try dsimp only at hSW
  go_simp
  try with_reducible rfl
 try simp only [PT]
 refine wpAnyL_take (i := 9) (oi := { dst := some 39, op := Op.load 66 (Operand.tmp 38), type := 66, pos := "chunks.go:179", after := #[{ on := 8, ground := Ground.data }], guard := none }) (v := ?v9_10) rfl (by kernel_rfl) (by kernel_rfl) (by kernel_rfl) (by kernel_rfl) (fun _ _ _ h => h) (Or.inl ⟨by rfl, ?h9_10⟩) (by assumption) ?r9_10
 case h9_10 =>
  intro W hSW
  try dsimp only at hSW
  have hcc := (H22.out W (HB2.out.trans (hSW.mono HB2.out.size))).1
  go_simp
  try with_reducible rfl
 try simp only [PT]
 refine wpAnyL_take (i := 10) (oi := { dst := some 40, op := Op.move (Operand.tmp 2), type := 3, pos := "chunks.go:179", after := #[], guard := none }) (v := ?v10_11) rfl (by kernel_rfl) (by kernel_rfl) (by kernel_rfl) (by kernel_rfl) (fun _ _ _ h => h) (Or.inl ⟨by rfl, ?h10_11⟩) (by assumption) ?r10_11
 case h10_11 =>
  intro W hSW
  try dsimp only at hSW
  go_simp
  try with_reducible rfl
 try simp only [PT]
 refine wpAnyL_take (i := 12) (oi := { dst := some 42, op := Op.move (Operand.tmp 3), type := 3, pos := "chunks.go:179", after := #[], guard := none }) (v := ?v12_12) rfl (by kernel_rfl) (by kernel_rfl) (by kernel_rfl) (by kernel_rfl) (fun _ _ _ h => h) (Or.inl ⟨by rfl, ?h12_12⟩) (by assumption) ?r12_12
 case h12_12 =>
  intro W hSW
  try dsimp only at hSW
  go_simp
  try with_reducible rfl
 try simp only [PT]
 refine wpAnyL_ready (rs := [11]) (by kernel_rfl) (by simp) ?_
 refine AllReadyL.cons (o := { dst := some 41, op := Op.call { callee := Callee.value (Operand.func 69), args := #[Operand.tmp 39, Operand.tmp 40], argTypes := #[66, 3] }, type := 3, pos := "chunks.go:179", after := #[{ on := 9, ground := Ground.data }, { on := 10, ground := Ground.data }], guard := none }) rfl (fun K hK => ?_) AllReadyL.nil
 go_simp
 refine (HHE.out _ (HB2.out.trans ((hv0).mono HB2.out.size))).mono ?_
 rintro e w90 ⟨rfl, b90⟩
 have hv90 : Below w2.heap.size w2 w90 := (hv0).trans (b90.mono (hv0).size)
 clear b90
 refine hK.out _ _ (hv90) (fun hHeld => ?_)
 clear hK K
 try simp only [PT]
 refine wpAnyL_take (i := 13) (oi := { dst := some 43, op := Op.binOp BinOp.add 3 (Operand.tmp 41) (Operand.tmp 42) 3, type := 3, pos := "chunks.go:179", after := #[{ on := 11, ground := Ground.data }, { on := 12, ground := Ground.data }], guard := none }) (v := ?v13_13) rfl (by kernel_rfl) (by kernel_rfl) (by kernel_rfl) (by kernel_rfl) (fun _ _ _ h => h) (Or.inl ⟨by rfl, ?h13_13⟩) (by assumption) ?r13_13
 case h13_13 =>
  intro W hSW
  try dsimp only at hSW
  go_simp
  try with_reducible rfl
 try simp only [PT]
 refine wpAnyL_ready (rs := [14]) (by kernel_rfl) (by simp) ?_
 refine AllReadyL.cons (o := { dst := some 44, op := Op.call { callee := Callee.value (Operand.func 68), args := #[Operand.tmp 34, Operand.tmp 35, Operand.tmp 43], argTypes := #[66, 3, 3] }, type := 66, pos := "chunks.go:179", after := #[{ on := 4, ground := Ground.data }, { on := 5, ground := Ground.data }, { on := 13, ground := Ground.data }, { on := 11, ground := Ground.chain }], guard := none }) rfl (fun K hK => ?_) AllReadyL.nil
 go_simp
 refine (HWI.out _ (HB2.out.trans ((hv90).mono HB2.out.size))).mono ?_
 rintro e w91 ⟨A', c', rfl, own', b91⟩
 have hv91 : Below w2.heap.size w2 w91 := (hv90).trans (b91.mono (hv90).size)
 have hbw := HB2.out.trans (hv91.mono HB2.out.size)
 have HO := Lib.hid (own_base own' (HB2.out.trans ((hv90).mono HB2.out.size)).size)
 have k22 := (H22.out w91 hbw).1
 have f22 := (H22.out w91 hbw).2
 have HBW := Lib.hid hbw
 clear b91 own' hbw
 refine hK.out _ _ (hv91) (fun hHeld => ?_)
 clear hK K
 try simp only [PT]
 refine wpAnyL_take (i := 15) (oi := { dst := some 45, op := Op.nilCheck (Operand.tmp 30), type := 0, pos := "chunks.go:179", after := #[{ on := 0, ground := Ground.data }, { on := 0, ground := Ground.phase }, { on := 1, ground := Ground.phase }, { on := 2, ground := Ground.phase }, { on := 3, ground := Ground.phase }, { on := 4, ground := Ground.phase }, { on := 5, ground := Ground.phase }, { on := 6, ground := Ground.phase }, { on := 7, ground := Ground.phase }, { on := 8, ground := Ground.phase }, { on := 9, ground := Ground.phase }, { on := 10, ground := Ground.phase }, { on := 11, ground := Ground.phase }, { on := 12, ground := Ground.phase }, { on := 13, ground := Ground.phase }, { on := 14, ground := Ground.phase }], guard := none }) (v := ?v15_14) rfl (by kernel_rfl) (by kernel_rfl) (by kernel_rfl) (by kernel_rfl) (fun _ _ _ h => h) (Or.inl ⟨by rfl, ?h15_14⟩) (by assumption) ?r15_14
 case h15_14 =>
  intro W hSW
  try dsimp only at hSW
  go_simp
  try with_reducible rfl
 try simp only [PT]
 refine wpAnyL_take (i := 16) (oi := { dst := some 46, op := Op.fieldAddr 68 (Operand.tmp 45) 5, type := 0, pos := "chunks.go:179", after := #[{ on := 15, ground := Ground.data }, { on := 0, ground := Ground.phase }, { on := 1, ground := Ground.phase }, { on := 2, ground := Ground.phase }, { on := 3, ground := Ground.phase }, { on := 4, ground := Ground.phase }, { on := 5, ground := Ground.phase }, { on := 6, ground := Ground.phase }, { on := 7, ground := Ground.phase }, { on := 8, ground := Ground.phase }, { on := 9, ground := Ground.phase }, { on := 10, ground := Ground.phase }, { on := 11, ground := Ground.phase }, { on := 12, ground := Ground.phase }, { on := 13, ground := Ground.phase }, { on := 14, ground := Ground.phase }], guard := none }) (v := ?v16_15) rfl (by kernel_rfl) (by kernel_rfl) (by kernel_rfl) (by kernel_rfl) (fun _ _ _ h => h) (Or.inl ⟨by rfl, ?h16_15⟩) (by assumption) ?r16_15
 case h16_15 =>
  intro W hSW
  try dsimp only at hSW
  go_simp
  try with_reducible rfl
 try simp only [PT]
 refine wpAnyL_ready (rs := [17]) (by kernel_rfl) (by simp) ?_
 refine AllReadyL.late (o := { dst := none, op := Op.store 66 (Operand.tmp 46) (Operand.tmp 44), type := 0, pos := "chunks.go:179", after := #[{ on := 16, ground := Ground.data }, { on := 14, ground := Ground.data }, { on := 14, ground := Ground.chain }, { on := 0, ground := Ground.phase }, { on := 1, ground := Ground.phase }, { on := 2, ground := Ground.phase }, { on := 3, ground := Ground.phase }, { on := 4, ground := Ground.phase }, { on := 5, ground := Ground.phase }, { on := 6, ground := Ground.phase }, { on := 7, ground := Ground.phase }, { on := 8, ground := Ground.phase }, { on := 9, ground := Ground.phase }, { on := 10, ground := Ground.phase }, { on := 11, ground := Ground.phase }, { on := 12, ground := Ground.phase }, { on := 13, ground := Ground.phase }, { on := 14, ground := Ground.phase }], guard := none }) rfl (by rfl) (fun K hK => ?_) AllReadyL.nil
 go_simp
 have HEX := Lib.hid (HRE.out w91 A' c' HBW.out HO.out)
 try clear k22 f22 e3
 refine hK.out _ _ ?_
 clear hK K
 try simp only [PT]
 refine wpAnyL_done (by kernel_rfl) ?_ _
 go_wp2
 go_ret
 obtain ⟨F', h1, h2, h3, h4⟩ := HEX.out
 exact ⟨rfl, F', S, h1, h2, h3, fun _ h => .inl h, h4⟩
theorem refer_any (h : TAt w F S a t l) (hb : ∀ b, F b ∨ S b → b < w.heap.size) (id tn n : Int) :
  Calls Tryz.prog 31 #[.pointer (some ⟨a, 0, none⟩), .int .i64 id, .int .i64 tn, .int .i64 n] w (ErrRes w F S a (Chk.refer l id tn n).1 (Chk.refer l id tn n).2.2) := by
 cases hp : Chk.pos (Chk.ids l) id with
 | none =>
  have e : Chk.refer l id tn n = (l, 0, 12) := by unfold Chk.refer; rw [hp]
  rw [e]
  exact refer_no h hb id tn n 12 rfl (change_none h id tn n hp)
 | some k =>
  by_cases hbad : Chk.tenant tn ∧ 1 ≤ n ∧ n ≤ Chk.most
  ·
   by_cases hl : Chk.most < Chk.total (Chk.nth l k).refs + n
   ·
    have e : Chk.refer l id tn n = (l, 0, 2) := by unfold Chk.refer; rw [hp]; show ite _ _ _ = _; rw [if_neg (fun e => e hbad), if_pos hl]
    rw [e]
    exact refer_lim h hb id tn n k hp hbad.1 hbad.2.1 hbad.2.2 hl
   ·
    have e : Chk.refer l id tn n = (Chk.setRefs l k (Chk.withR (Chk.nth l k).refs tn (Chk.held (Chk.nth l k).refs tn + n)), 0, 0) := by unfold Chk.refer; rw [hp]; show ite _ _ _ = _; rw [if_neg (fun e => e hbad), if_neg hl]
    rw [e]
    exact refer_ok h hb id tn n k hp hbad.1 hbad.2.1 hbad.2.2 (by omega)
  ·
   have e : Chk.refer l id tn n = (l, 0, 1) := by unfold Chk.refer; rw [hp]; show ite _ _ _ = _; rw [if_pos hbad]
   rw [e]
   exact refer_no h hb id tn n 1 rfl (change_bad h id tn n k hp hbad)
end
end
section
open Go.RowKit
def setsL : List Value → Nat → List Value → List Value
 | xs, _, [] => xs
 | xs, o, v :: vs => setsL (xs.set o v) (o + 1) vs
theorem setsL_eq : ∀ (vs xs : List Value) (o : Nat), o + vs.length ≤ xs.length → setsL xs o vs = xs.take o ++ vs ++ xs.drop (o + vs.length)
 | [], xs, o, _ => by simp [setsL]
 | v :: vs, xs, o, h => by
  rw [List.length_cons] at h
  rw [setsL, setsL_eq vs (xs.set o v) (o + 1) (by rw [List.length_set]; omega)]
  have h1 : (xs.set o v).take (o + 1) = xs.take o ++ [v] := by
   rw [List.take_succ_eq_append_getElem (by rw [List.length_set]; omega), List.take_set_of_le (Nat.le_refl _)]; simp
  have h2 : (xs.set o v).drop (o + 1 + vs.length) = xs.drop (o + (v :: vs).length) := by
   rw [List.drop_set_of_lt (by omega), List.length_cons]; congr 1; omega
  rw [h1, h2]; simp
theorem own_sets {base n c size g : Nat} {e : TypeId} : ∀ (vs xs : List Value) (o : Nat) (w : World), w.ownsRow base e size (.slice (some ⟨g, 0, none⟩) n c) n xs → o + vs.length ≤ xs.length → (w.setCells g o vs).ownsRow base e size (.slice (some ⟨g, 0, none⟩) n c) n (setsL xs o vs)
 | [], _, _, _, h, _ => h
 | v :: vs, xs, o, w, h, hl => by
  rw [List.length_cons] at hl
  exact own_sets vs (xs.set o v) (o + 1) _ (own_set h (by omega) v) (by rw [List.length_set]; omega)
theorem grown_sets (b : Nat) : ∀ (vs : List Value) (o : Nat) (w : World), w.grownBy (w.setCells b o vs) (some b)
 | [], _, w => World.grownBy.refl w _
 | v :: vs, o, w => World.grownBy.trans (grown_set_ w b o v) (grown_sets b vs (o + 1) (w.setCell ⟨b, o, none⟩ v))
theorem own_elem {α : Type} {f : α → List Value} {sz base n c g k : Nat} {e : TypeId} {w : World} {D : List α} (h : w.ownsRow base e sz (.slice (some ⟨g, 0, none⟩) n c) n (D.flatMap f)) (hf : ∀ d ∈ D, (f d).length = sz) (hk : k < D.length) (y : α) (hy : (f y).length = sz) :
  (w.setCells g (k * sz) (f y)).ownsRow base e sz (.slice (some ⟨g, 0, none⟩) n c) n ((D.set k y).flatMap f) := by
 have hl : (D.flatMap f).length = D.length * sz := flatMap_len hf
 have hm := Nat.mul_le_mul_right sz (show k + 1 ≤ D.length from hk)
 rw [Nat.succ_mul] at hm
 have h1 := own_sets (f y) (D.flatMap f) (k * sz) w h (by rw [hy, hl]; exact hm)
 rw [setsL_eq _ _ _ (by rw [hy, hl]; exact hm), hy, flat_take hf, show k * sz + sz = (k + 1) * sz by rw [Nat.succ_mul], flat_drop hf] at h1
 rw [List.set_eq_take_append_cons_drop, if_pos hk, List.flatMap_append, List.flatMap_cons]
 rwa [List.append_assoc] at h1
theorem own_less {w : World} {base sz n m c : Nat} {A : Option Addr} {e : TypeId} {xs : List Value} (h : w.ownsRow base e sz (.slice A n c) n xs) (hm : m ≤ n) : w.ownsRow base e sz (.slice A m c) m (xs.take (m * sz)) := by
 have hmm := Nat.mul_le_mul_right sz hm
 refine ⟨by rw [List.length_take, h.1]; exact Nat.min_eq_left hmm, ?_⟩
 rcases h.2 with ⟨h1, h2⟩ | ⟨g, cap, cur, hv, hg, hh, h1, h2, h3, h4⟩
 ·
  obtain ⟨rfl, rfl, rfl⟩ : A = none ∧ n = 0 ∧ c = 0 := by injection h1 with a b c; exact ⟨a, b, c⟩
  obtain rfl : m = 0 := by omega
  exact .inl ⟨rfl, by simp⟩
 ·
  injection hv with a b d
  subst a d
  exact .inr ⟨g, c, cur, rfl, hg, hh, Nat.le_trans hm h1, h2, h3, by rw [← h4, List.take_take, Nat.min_eq_left hmm]⟩
theorem zeroCk (w : World) : (zeroValue 68).run Tryz.prog w = .ok (.agg zCk.toArray) w := by kernel_rfl
theorem run_clear1 (w : World) (ty : TypeId) (b o c : Nat) (h : w.there b o 23) : (Builtin.clear_ #[56] ty #[.slice (some ⟨b, o, none⟩) 1 c]).run Tryz.prog w = .ok (.tuple #[]) (w.setCells b o zCk) := by
 have hzc : (Builtin.zeroCells (Value.agg zCk.toArray).cells 1).toList = zCk := by kernel_rfl
 have hst := run_storeCells_cells (P := Tryz.prog) b o zCk 0 w (fun j hj => (h j hj).1) (fun j hj => (h j hj).2) (ckCells_one _ _ rfl)
 simp only [Nat.add_zero] at hst
 have key : ∀ (Z : Value) (zs : List Value), (∀ w, (zeroValue 68).run Tryz.prog w = .ok Z w) → (Builtin.zeroCells Z.cells 1).toList = zs → (storeCells ⟨b, o, none⟩ zs).run Tryz.prog w = .ok () (w.setCells b o zs) → (Builtin.clear_ #[56] ty #[.slice (some ⟨b, o, none⟩) 1 c]).run Tryz.prog w = .ok (.tuple #[]) (w.setCells b o zs) := fun Z zs hv hz hs => by
  simp [Builtin.clear_, run_underlying Tryz.underlying56, hv, hz, hs]
 exact key _ zCk zeroCk hzc hst
abbrev delC (bk : Nat) : Value := .func (.func 72) #[] #[.pointer (some ⟨bk, 0, none⟩)]
theorem isId_any (cs : List Value) (a id : Int) (h0 : cs[0]? = some (.int .i64 a)) (bk : Nat) (w : World) (hk : w.cell? ⟨bk, 0, none⟩ = some (.int .i64 id)) (hkl : bk < w.heap.size) :
  Calls Tryz.prog 72 #[.agg cs.toArray, .pointer (some ⟨bk, 0, none⟩)] w fun e w' => e = .returned (.bool (a == id)) ∧ Below w.heap.size w w' := by
 have R0 := (IsRow.new w 68 cs).cell 0
 rw [h0] at R0
 have hb0 : Below w.heap.size w (w.alloc (.cells cs.toArray 68)) := (Below.refl _ w).alloc (Nat.le_refl _) _
 have hk0 := (hb0.cell (p := ⟨bk, 0, none⟩) hkl).trans hk
 generalize cs.toArray = va at *
 obtain ⟨w0, hw0⟩ : ∃ w0, w.alloc (.cells va 68) = w0 := ⟨_, rfl⟩
 rw [hw0] at R0 hb0 hk0
 have HW0 := Lib.hid hw0
 clear hw0 h0 hk
 go_enter Tryz.func72, Tryz.ntmps72
 go_upto_region 1 with fail
 rw [HW0.out]
 go_wp2_with fail
 go_ret
 exact ⟨rfl, hb0⟩
structure OneId (D : List CR) (k : Nat) (id : Int) : Prop where
 lt : k < D.length
 len : ∀ x ∈ D, x.cells.length = 23
 id : ∀ j x, D[j]? = some x → (x.c.id = id ↔ j = k)
theorem cr_one (x : CR) : ∀ u ∈ x.cells, u.oneCell' = true := ckCells_one x.c _ rfl
set_option maxRecDepth 100000 in
set_option maxHeartbeats 1600000 in
theorem indexC (g n c : Nat) (D : List CR) (hD : D.length = n) (hn : n ≤ 65536) (hnc : n ≤ c) (k : Nat) (id : Int) (ho : OneId D k id) (bk : Nat) (w : World) (hr : Rd w w.heap.size 23 (some ⟨g, 0, none⟩) n (crs D)) (hk : w.cell? ⟨bk, 0, none⟩ = some (.int .i64 id)) (hkl : bk < w.heap.size) :
  Calls Tryz.prog 101 #[.slice (some ⟨g, 0, none⟩) n c, delC bk] w fun e w' => e = .returned (.int .i64 (k : Int)) ∧ Below w.heap.size w w' := by
 have HO := Lib.hid ho
 have HD := Lib.hid hD
 have HR := Lib.hid hr
 have HK := Lib.hid (And.intro hk hkl)
 have hkn : k < n := by rw [← hD]; exact ho.lt
 clear ho hD hr hk hkl
 go_enter Tryz.func101, Tryz.ntmps101
 go_wp2_with fail
 go_loopw [8] (fun u wr => ∃ j : Nat, j ≤ k ∧ u = .int .i64 (j : Int) ∧ Hid (Below w.heap.size w wr)) (fun u _ => k - (intOf u).toNat)
 case atStart => exact ⟨0, Nat.zero_le _, rfl, Lib.hid (Below.refl _ _)⟩
 case round =>
  obtain ⟨j, hj, rfl, HB⟩ := hrel
  have hjn : j < n := by omega
  have hjD : j < D.length := by rw [HD.out]; exact hjn
  have hget : D[j]? = some D[j] := List.getElem?_eq_getElem hjD
  have hid := HO.out.id j D[j] hget
  obtain ⟨b, off, hA, hbb, hrg⟩ := HR.out.elem (f := CR.cells) HO.out.len hjD hjn
  obtain ⟨rfl, rfl⟩ : g = b ∧ 0 = off := by have := Option.some.inj hA; exact ⟨congrArg Addr.block this, congrArg Addr.off this⟩
  rw [Nat.zero_add] at hrg
  have hrw : wr.rangeAt g (j * 23) D[j].cells := fun q u hu => (HB.out.cell (p := ⟨g, j * 23 + q, none⟩) hbb).trans (hrg q u hu)
  have hlen := HO.out.len D[j] (List.getElem_mem hjD)
  have h0 : D[j].cells[0]? = some (.int .i64 D[j].c.id) := rfl
  obtain ⟨y, hy⟩ : ∃ y, D[j].c.id = y := ⟨_, rfl⟩
  rw [hy] at h0 hid
  obtain ⟨cs, hcs⟩ : ∃ cs, D[j].cells = cs := ⟨_, rfl⟩
  rw [hcs] at h0 hlen hrw
  have HX := Lib.hid (isId_any cs y id h0 bk wr ((HB.out.cell (p := ⟨bk, 0, none⟩) HK.out.2).trans HK.out.1) (Nat.lt_of_lt_of_le HK.out.2 HB.out.size))
  have HLEN := Lib.hid hlen
  obtain ⟨q, hq⟩ : ∃ q, (y == id) = q := ⟨_, rfl⟩
  have e1 : (0 : Int) ≤ (j : Int) := by omega
  have e2 : (j : Int) < (n : Int) := by omega
  by_cases hjk : j = k
  ·
   obtain rfl : q = true := by rw [← hq, hid.2 hjk]; simp
   rw [hq] at HX
   subst hjk
   clear hq hid h0 hlen hcs hy hrg hA hget hjD hbb
   go_wp2_with (first
    | (refine wpList_load_mid rfl _ (.tmp 14) rfl g (j * 23) rfl cs _ hrw Tryz.underlying68 rfl (by rw [HLEN.out]; exact sizeCk) ?_)
    | (go_at_call 72; refine HX.out.mono ?_; rintro e w1 ⟨rfl, b1⟩))
   go_ret
   exact ⟨rfl, HB.out.trans (b1.mono HB.out.size)⟩
  ·
   obtain rfl : q = false := by rw [← hq]; exact beq_eq_false_iff_ne.2 (fun e => hjk (hid.1 e))
   rw [hq] at HX
   clear hq hid h0 hlen hcs hy hrg hA hget hjD hbb
   go_wp2_with (first
    | (refine wpList_load_mid rfl _ (.tmp 14) rfl g (j * 23) rfl cs _ hrw Tryz.underlying68 rfl (by rw [HLEN.out]; exact sizeCk) ?_)
    | (go_at_call 72; refine HX.out.mono ?_; rintro e w1 ⟨rfl, b1⟩))
   go_roundw
   case rel => exact ⟨j + 1, by omega, by go_num, Lib.hid (HB.out.trans (b1.mono HB.out.size))⟩
   case measure => simp [intOf]; omega
theorem stage_set (D : List CR) (k j : Nat) (hk : k < j) (hj : j < D.length) : ((D.eraseIdx k).take (j - 1) ++ D.drop (j - 1)).set (j - 1) D[j] = (D.eraseIdx k).take j ++ D.drop j := by
 have hl : (D.eraseIdx k).length = D.length - 1 := List.length_eraseIdx_of_lt (by omega)
 have h1 : ((D.eraseIdx k).take (j - 1)).length = j - 1 := by rw [List.length_take, hl]; omega
 rw [List.set_append_right _ _ (by omega), h1, Nat.sub_self]
 have h2 : D.drop (j - 1) = D[j - 1] :: D.drop j := by rw [List.drop_eq_getElem_cons (by omega), show j - 1 + 1 = j by omega]
 rw [h2, List.set_cons_zero]
 have h3 : (D.eraseIdx k).take j = (D.eraseIdx k).take (j - 1) ++ [D[j]] := by
  have := List.take_succ_eq_append_getElem (l := D.eraseIdx k) (i := j - 1) (by omega)
  rw [show j - 1 + 1 = j by omega] at this
  rw [this, List.getElem_eraseIdx_of_ge _ (by omega)]
  simp only [show j - 1 + 1 = j by omega]
 rw [h3]; simp
theorem stage_get (D : List CR) (k j : Nat) (hk : k < j) (hj : j < D.length) : ((D.eraseIdx k).take (j - 1) ++ D.drop (j - 1))[j]? = some D[j] := by
 have hl : (D.eraseIdx k).length = D.length - 1 := List.length_eraseIdx_of_lt (by omega)
 have h1 : ((D.eraseIdx k).take (j - 1)).length = j - 1 := by rw [List.length_take, hl]; omega
 rw [List.getElem?_append_right (by omega), h1, List.getElem?_drop, show j - 1 + (j - (j - 1)) = j by omega, List.getElem?_eq_getElem hj]
theorem stage_len (D : List CR) (k j : Nat) (hk : k < j) (hj : j ≤ D.length) : ((D.eraseIdx k).take (j - 1) ++ D.drop (j - 1)).length = D.length := by
 have hl : (D.eraseIdx k).length = D.length - 1 := List.length_eraseIdx_of_lt (by omega)
 rw [List.length_append, List.length_take, List.length_drop, hl]; omega
theorem stage_mem {D : List CR} {k j : Nat} {x : CR} (h : x ∈ (D.eraseIdx k).take (j - 1) ++ D.drop (j - 1)) : x ∈ D := by
 rcases List.mem_append.1 h with h | h
 ·
  exact (List.eraseIdx_sublist D k).subset (List.mem_of_mem_take h)
 ·
  exact List.mem_of_mem_drop h
theorem stage_first (D : List CR) (k : Nat) (hk : k < D.length) : (D.eraseIdx k).take (k + 1 - 1) ++ D.drop (k + 1 - 1) = D := by
 rw [Nat.add_sub_cancel, List.eraseIdx_eq_take_drop_succ, List.take_append_of_le_length (by rw [List.length_take]; omega), List.take_take, Nat.min_self, List.take_append_drop]
theorem grown_of_below {w w' : World} (h : Below w.heap.size w w') (r : Option Nat) : w.grownBy w' r := ⟨h.os, h.tape, h.output, h.size, fun k hk _ => h.block k hk⟩
def DelResC (g n c : Nat) (D : List CR) (w : World) (e : Ending) (w' : World) : Prop := e = .returned (.slice (some ⟨g, 0, none⟩) (n - 1) c) ∧ w'.ownsRow 0 68 23 (.slice (some ⟨g, 0, none⟩) (n - 1) c) (n - 1) (crs D) ∧ w.grownBy w' (some g)
set_option maxRecDepth 100000 in
set_option maxHeartbeats 1600000 in
theorem deleteC (g n c : Nat) (D : List CR) (hD : D.length = n) (hn : n ≤ 65536) (k : Nat) (id : Int) (ho : OneId D k id) (bk : Nat) (w : World) (hr : w.ownsRow 0 68 23 (.slice (some ⟨g, 0, none⟩) n c) n (crs D)) (hk : w.cell? ⟨bk, 0, none⟩ = some (.int .i64 id)) (hkl : bk < w.heap.size) (hne : bk ≠ g) :
  Calls Tryz.prog 71 #[.slice (some ⟨g, 0, none⟩) n c, delC bk] w (DelResC g n c (D.eraseIdx k) w) := by
 have hcap := own_cap hr
 have hcm : c ≤ 9223372036854775807 := hcap.2
 have HI := Lib.hid (indexC g n c D hD hn hcap.1 k id ho bk w (Rd.of_own hr) hk hkl)
 have hkn : k < n := by rw [← hD]; exact ho.lt
 obtain ⟨_, _, hv0, _, hgl⟩ := hr.form (by omega)
 have hgl : g < w.heap.size := by injection hv0 with h1; have := congrArg Addr.block (Option.some.inj h1); dsimp only at this; omega
 have HO := Lib.hid ho
 have HD := Lib.hid hD
 have HR := Lib.hid hr
 have HK := Lib.hid (And.intro hk (And.intro hkl (And.intro hne hgl)))
 have HC := Lib.hid hcap.1
 clear ho hD hr hk hkl hne hgl hv0 hcap
 go_enter Tryz.func71, Tryz.ntmps71
 have hn1 : ((k : Int) == -1) = false := by rw [beq_eq_false_iff_ne]; omega
 go_wp2_with (go_at_call 101; refine HI.out.mono ?_; rintro e w1 ⟨rfl, b1⟩)
 have HB1 := Lib.hid b1
 clear b1 hn1
 go_loopw [5, 6] (fun u5 u6 wx => ∃ (wr : World) (i j : Nat), wr = wx ∧ k < j ∧ j ≤ n ∧ Hid (i = j - 1) ∧ u5 = .int .i64 (i : Int) ∧ u6 = .int .i64 (j : Int) ∧ Hid (wr.ownsRow 0 68 23 (.slice (some ⟨g, 0, none⟩) n c) n (crs ((D.eraseIdx k).take (j - 1) ++ D.drop (j - 1)))) ∧ Hid (w.grownBy wr (some g))) (fun _ u6 _ => n - (intOf u6).toNat)
 case atStart =>
  refine ⟨_, k, k + 1, rfl, by omega, by omega, Lib.hid rfl, rfl, by go_num, Lib.hid ?_, Lib.hid (grown_of_below HB1.out _)⟩
  rw [stage_first D k (by rw [HD.out]; omega)]
  exact own_below HR.out HB1.out
 case round =>
  obtain ⟨wr, i, j, rfl, hkj, hjn, HI', rfl, rfl, HOW, HGR⟩ := hrel
  have hij := HI'.out
  have hin : i < n := by omega
  by_cases hlt : j < n
  ·
   have hjD : j < D.length := by rw [HD.out]; exact hlt
   have hEl := stage_len D k j hkj (by rw [HD.out]; exact hjn)
   have hEj := stage_get D k j hkj hjD
   have hEs := stage_set D k j hkj hjD
   have hEm : ∀ x ∈ (D.eraseIdx k).take (j - 1) ++ D.drop (j - 1), x.cells.length = 23 := fun x hx => HO.out.len x (stage_mem hx)
   have hjE : j < ((D.eraseIdx k).take (j - 1) ++ D.drop (j - 1)).length := by rw [hEl]; exact hjD
   obtain ⟨b, off, hA, hbb, hrg⟩ := (Rd.of_own HOW.out).elem (f := CR.cells) hEm hjE hlt
   obtain ⟨rfl, rfl⟩ : g = b ∧ 0 = off := by have := Option.some.inj hA; exact ⟨congrArg Addr.block this, congrArg Addr.off this⟩
   rw [List.getElem?_eq_getElem hjE] at hEj
   rw [Option.some.inj hEj, Nat.zero_add] at hrg
   have hid := HO.out.id j D[j] (List.getElem?_eq_getElem hjD)
   have hdx : D[j].cells.length = 23 := HO.out.len D[j] (List.getElem_mem hjD)
   have h0 : D[j].cells[0]? = some (.int .i64 D[j].c.id) := rfl
   have hall : D[j].cells.all (·.oneCell') = true := List.all_eq_true.2 (cr_one D[j])
   have HST := Lib.hid (fun (W : World) (hW : W.ownsRow 0 68 23 (.slice (some ⟨g, 0, none⟩) n c) n (crs ((D.eraseIdx k).take (j - 1) ++ D.drop (j - 1)))) => show (W.setCells g (i * 23) D[j].cells).ownsRow 0 68 23 (.slice (some ⟨g, 0, none⟩) n c) n (crs ((D.eraseIdx k).take (j + 1 - 1) ++ D.drop (j + 1 - 1))) from by
    have := own_elem (f := CR.cells) hW hEm (k := i) (by rw [hEl, HD.out]; exact hin) D[j] hdx
    rw [hij, hEs] at this
    rw [hij, Nat.add_sub_cancel]
    exact this)
   have hni : (D[j].c.id == id) = false := beq_eq_false_iff_ne.2 (fun e => by have := hid.1 e; omega)
   obtain ⟨y, hy⟩ : ∃ y, D[j].c.id = y := ⟨_, rfl⟩
   rw [hy] at h0 hni
   obtain ⟨cs, hcs⟩ : ∃ cs, D[j].cells = cs := ⟨_, rfl⟩
   rw [hcs] at h0 hdx hrg hall HST
   have HX := Lib.hid (fun W hk hl => isId_any cs y id h0 bk W hk hl)
   rw [hni] at HX
   have HLEN := Lib.hid hdx
   have HALL := Lib.hid hall
   have HHK : Hid (wr.cell? ⟨bk, 0, none⟩ = some (.int .i64 id) ∧ bk < wr.heap.size ∧ g < wr.heap.size) := Lib.hid ⟨(World.cell?_of_block (a := ⟨bk, 0, none⟩) (HGR.out.block bk HK.out.2.1 (fun e => HK.out.2.2.1 (Option.some.inj e)))).trans HK.out.1, Nat.lt_of_lt_of_le HK.out.2.1 HGR.out.size, Nat.lt_of_lt_of_le HK.out.2.2.2 HGR.out.size⟩
   have e1 : (0 : Int) ≤ (j : Int) := by omega
   have e2 : (j : Int) < (n : Int) := by omega
   have e3 : (0 : Int) ≤ (i : Int) := by omega
   have e4 : (i : Int) < (n : Int) := by omega
   have HIJ := Lib.hid hij
   clear hij hjD hEl hEj hEs hEm hjE hA hbb hid hdx h0 hall hni hy hcs HI'
   go_upto_region 8 with (first
    | (refine wpList_load_mid rfl _ (.tmp 24) rfl g (j * 23) rfl cs _ hrg Tryz.underlying68 rfl (by rw [HLEN.out]; exact sizeCk) ?_)
    | (refine wpList_allocRow rfl _ rfl _ infoCk' ?_; intro w2 rz2 b2 z2)
    | (refine wpList_storeRow rfl _ (.tmp 7) (.tmp 25) rfl (l' := cs) rz2 rfl rfl (by rw [HLEN.out]; exact sizeCk) (by rw [HLEN.out]; rfl) HALL.out ?_; intro w3 rz3 g3 z3))
   have hb3 : Below wr.heap.size wr w3 := b2.grown g3 b2.size (fun i hi => by have := Option.some.inj hi; omega)
   obtain ⟨bv, hbv⟩ : ∃ x, wr.heap.size = x := ⟨_, rfl⟩
   rw [hbv] at rz3 ⊢
   have hr3 : w3.rangeAt bv 0 cs := fun q u hu => by rw [Nat.zero_add, rz3.cell]; exact hu
   have HX3 := Lib.hid (HX.out w3 ((hb3.cell (p := ⟨bk, 0, none⟩) HHK.out.2.1).trans HHK.out.1) (Nat.lt_of_lt_of_le HHK.out.2.1 hb3.size))
   have HB3 := Lib.hid hb3
   have HR3 := Lib.hid rz3
   clear b2 z2 rz2 g3 z3 hb3 hrg rz3
   try simp only [PT]
   go_upto_region 9 with (first
    | (refine wpList_load_mid rfl _ (.tmp 7) rfl bv 0 rfl cs _ hr3 Tryz.underlying68 rfl (by rw [HLEN.out]; exact sizeCk) ?_)
    | (go_at_call 72; refine HX3.out.mono ?_; rintro e w4 ⟨rfl, b4⟩))
   have hr4 : w4.rangeAt bv 0 cs := fun q u hu => by rw [Nat.zero_add, (HR3.out.below' b4).cell]; exact hu
   have HB4 := Lib.hid (HB3.out.trans (b4.mono HB3.out.size))
   have HO4 := Lib.hid (own_below HOW.out HB4.out)
   have ht4 : w4.there g (i * 23) cs.toArray.size := fun q hq => by
    rw [List.size_toArray, HLEN.out] at hq
    have hl := HO4.out.1
    have hm := Nat.mul_le_mul_right 23 (show i + 1 ≤ n from hin)
    rw [Nat.succ_mul] at hm
    refine ⟨?_, HO4.out.frozenAt _⟩
    have := HO4.out.cells (g := g) rfl (i * 23 + q) _ (List.getElem?_eq_getElem (by rw [hl]; omega))
    rw [Addr.add_lit, Nat.zero_add] at this
    rw [this]; rfl
   have HT4 := Lib.hid ht4
   clear hr3 b4 ht4
   try simp only [PT]
   go_wp2_with (first
    | (refine wpList_load_mid rfl _ (.tmp 7) rfl bv 0 rfl cs _ hr4 Tryz.underlying68 rfl (by rw [HLEN.out]; exact sizeCk) ?_)
    | (refine wpList_store_mid rfl _ (.tmp 33) (.tmp 32) rfl g (i * 23) cs.toArray rfl rfl HT4.out (by rw [List.size_toArray, HLEN.out]; exact sizeCk) (by simpa using HALL.out) ?_))
   go_roundw
   case rel =>
    refine ⟨_, i + 1, j + 1, rfl, by omega, by omega, Lib.hid (by have := HIJ.out; omega), by go_num, by go_num, Lib.hid (HST.out _ HO4.out), Lib.hid ?_⟩
    exact (HGR.out.trans (grown_of_below HB4.out _)).trans (grown_sets g cs (i * 23) w4)
   case measure => simp [intOf]; omega
  ·
   obtain rfl : j = n := by omega
   have hEl := stage_len D k j hkj (by rw [HD.out]; exact hjn)
   have hlD : (D.eraseIdx k).length = j - 1 := by rw [List.length_eraseIdx_of_lt (by rw [HD.out]; omega), HD.out]
   have HO4 := HOW
   have ht : wr.there g (i * 23) 23 := fun q hq => by
    have hl := HO4.out.1
    have hm := Nat.mul_le_mul_right 23 (show i + 1 ≤ j from hin)
    rw [Nat.succ_mul] at hm
    refine ⟨?_, HO4.out.frozenAt _⟩
    have := HO4.out.cells (g := g) rfl (i * 23 + q) _ (List.getElem?_eq_getElem (by rw [hl]; omega))
    rw [Addr.add_lit, Nat.zero_add] at this
    rw [this]; rfl
   have hcl := fun ty => run_clear1 wr ty g (i * 23) (c - i) ht
   have hcut1 := fun W => run_cutFrom (P := Tryz.prog) W chunkT (some ⟨g, 0, none⟩) j c i .i64 (by omega)
   have hcut2 := fun W => run_cutHi (P := Tryz.prog) W chunkT g j c i .i64 (by have := HC.out; omega) (by have := HC.out; omega)
   have hji : j - i = 1 := by omega
   have hci : ¬ c = i := by have := HC.out; omega
   rw [hji] at hcut1
   simp only [if_neg hci, Option.map_some, Addr.add_lit, Nat.zero_add] at hcut1
   have HE : Hid (i = j - 1 ∧ (wr.setCells g (i * 23) zCk).ownsRow 0 68 23 (.slice (some ⟨g, 0, none⟩) i c) i (crs (D.eraseIdx k))) := Lib.hid ⟨hij, by
    have h1 := own_sets zCk _ (i * 23) wr HOW.out (by
     rw [HOW.out.1]
     have hm := Nat.mul_le_mul_right 23 (show i + 1 ≤ j from hin)
     rw [Nat.succ_mul] at hm
     exact hm)
    have h2 := own_less h1 (m := i) (by omega)
    rw [setsL_eq _ _ _ (by
     rw [HOW.out.1]
     have hm := Nat.mul_le_mul_right 23 (show i + 1 ≤ j from hin)
     rw [Nat.succ_mul] at hm
     exact hm), List.append_assoc, List.take_append_of_le_length (by
     rw [List.length_take, HOW.out.1]
     have hm := Nat.mul_le_mul_right 23 (show i ≤ j by omega)
     omega), List.take_take, Nat.min_self, flat_take (fun x hx => HO.out.len x (stage_mem hx)), List.take_append_of_le_length (by rw [List.length_take, hlD]; omega), List.take_take, ← hij, Nat.min_self, List.take_of_length_le (by rw [hlD]; omega)] at h2
    exact h2⟩
   clear hEl hlD hij ht hji HI'
   go_wp2_with (simp only [hcl])
   go_ret
   obtain ⟨h1, h2⟩ := HE.out
   rw [h1] at h2 ⊢
   exact ⟨rfl, h2, HGR.out.trans (grown_sets g zCk _ wr)⟩
end
section
open Go.RowKit
theorem cell_set_ne (w : World) {g i j : Nat} (v : Value) (h : i ≠ j) : (w.setCell ⟨g, i, none⟩ v).cell? ⟨g, j, none⟩ = w.cell? ⟨g, j, none⟩ := World.cell?_setCell_other _ _ _ _ (fun e => h (congrArg (·.off) e))
theorem cell_set_eq (w : World) {g i : Nat} {u : Value} (v : Value) (h : w.cell? ⟨g, i, none⟩ = some u) : (w.setCell ⟨g, i, none⟩ v).cell? ⟨g, i, none⟩ = some v := World.cell?_setCell_same _ _ _ h
theorem map_erase {α β : Type} (f : α → β) (l : List α) (k : Nat) : (l.eraseIdx k).map f = (l.map f).eraseIdx k := by
 rw [List.eraseIdx_eq_take_drop_succ, List.eraseIdx_eq_take_drop_succ, List.map_append, List.map_take, List.map_drop]
theorem TAt.erased {w W : World} {F S : Nat → Prop} {a : Nat} {t : TM} {l : List Chk.Ck} (h : TAt w F S a t l) {g k N' : Nat} {x : CR} (hA : t.A = some ⟨g, 0, none⟩) (hx : t.D[k]? = some x)
  (hrow : IsRow W a 116 [.slice (some ⟨g, 0, none⟩) (t.n - 1) t.c, .map (some t.m)]) (ho : W.ownsRow 0 68 23 (.slice (some ⟨g, 0, none⟩) (t.n - 1) t.c) (t.n - 1) (crs (t.D.eraseIdx k)))
  (hm : MapIs W t.m unV (fun y => if x.c.lost = false ∧ y = x.c.at_ then none else unM l y) N') (hK : Keep S w W) : ∃ t', TAt W F S a t' (l.eraseIdx k) := by
 have hkl : k < l.length := by rw [h.len.1, ← h.len.2]; exact (List.getElem?_eq_some_iff.1 hx).1
 have hlx : l[k]? = some x.c := by rw [← h.d, List.getElem?_map, hx]; rfl
 have hnx : Chk.nth l k = x.c := by have := Chk.nth_get hkl; rw [hlx] at this; exact (Option.some.inj this).symm
 have hi := h.inv.erase k
 refine ⟨⟨some ⟨g, 0, none⟩, t.n - 1, t.c, t.m, N', t.D.eraseIdx k⟩, hrow, ho, ?_, hm.congr fun y => ?_, fun z hz => (h.ok z ((List.eraseIdx_sublist _ _).subset hz)).keep hK h.fs, h.sa, h.sm, fun p hp => h.sg p (hA.trans hp), h.am, fun p hp => h.ag p (hA.trans hp), h.fs, hi⟩
 ·
  show (t.D.eraseIdx k).map CR.c = _
  rw [← h.d, map_erase]
 ·
  have hu := congrFun (Chk.unitAt_erase h.inv hkl) y
  show _ = unM (l.eraseIdx k) y
  unfold unM
  rw [hu, hnx]
  unfold Chk.leave
  split <;> rfl
theorem TAt.oneId {w : World} {F S : Nat → Prop} {a : Nat} {t : TM} {l : List Chk.Ck} (h : TAt w F S a t l) {k : Nat} {id : Int} {x y : CR} (hp : Chk.pos (Chk.ids l) id = some k) (hx : t.D[k]? = some x) (hy : y.c.id = x.c.id) (hl : y.cells.length = 23) : OneId (t.D.set k y) k id := by
 have hkD := (List.getElem?_eq_some_iff.1 hx).1
 have hget : ∀ (j : Nat) (z : CR), t.D[j]? = some z → l[j]? = some z.c := fun j z hz => by rw [← h.d, List.getElem?_map, hz]; rfl
 have hidk : x.c.id = id := by
  have h1 := Chk.pos_some hp
  rw [List.getElem?_map, hget k x hx] at h1
  exact Option.some.inj h1
 refine ⟨by rw [List.length_set]; exact hkD, fun z hz => ?_, fun j z hz => ?_⟩
 ·
  rcases List.mem_or_eq_of_mem_set hz with hz | rfl
  ·
   exact h.dl z hz
  ·
   exact hl
 ·
  by_cases e : j = k
  ·
   subst e
   rw [List.getElem?_set_self hkD] at hz
   obtain rfl := Option.some.inj hz
   exact ⟨fun _ => rfl, fun _ => hy.trans hidk⟩
  ·
   rw [List.getElem?_set_ne (fun h => e h.symm)] at hz
   refine ⟨fun h2 => ?_, fun h2 => absurd h2 e⟩
   exact h.inv.idx (hget j z hz) (hget k x hx) (h2.trans hidk.symm)
def UnRes (w : World) (F S : Nat → Prop) (a : Nat) (l : List Chk.Ck) (g : Bool) (c : Int) (e : Ending) (w' : World) : Prop := e = .returned (.tuple #[.bool g, .int .i64 c]) ∧ OpRes w F S a l w'
section
variable {w : World} {F S : Nat → Prop} {a : Nat} {t : TM} {l : List Chk.Ck}
theorem unrefer_no (h : TAt w F S a t l) (hb : ∀ b, F b ∨ S b → b < w.heap.size) (id tn n c : Int) (hc : (c == 0) = false) (HC : ∀ W, Below w.heap.size w W → Calls Tryz.prog 66 #[.pointer (some ⟨a, 0, none⟩), .int .i64 id, .int .i64 tn, .int .i64 n] W fun e w' => e = .returned (.tuple #[.pointer none, .int .i64 c]) ∧ Below W.heap.size W w') :
  Calls Tryz.prog 32 #[.pointer (some ⟨a, 0, none⟩), .int .i64 id, .int .i64 tn, .int .i64 n] w (UnRes w F S a l false c) := by
 have HC := Lib.hid HC
 have HS := Lib.hid (fun W hW => OpRes.same h hb (w' := W) hW)
 have hc' : ¬ c = 0 := by simpa using hc
 clear h hb hc
 go_enter Tryz.func32, Tryz.ntmps32
 go_wp2_with (go_at_call 66; refine (HC.out _ ((Below.refl _ _).alloc (Nat.le_refl _) _)).mono ?_; rintro e w1 ⟨rfl, b1⟩)
 go_ret2
 exact ⟨rfl, HS.out _ (((Below.refl _ _).alloc (Nat.le_refl _) _).trans (b1.mono (by simp)))⟩
set_option maxRecDepth 100000 in
set_option maxHeartbeats 1600000 in
theorem unrefer_few (h : TAt w F S a t l) (hb : ∀ b, F b ∨ S b → b < w.heap.size) (id tn n : Int) (k : Nat) (hp : Chk.pos (Chk.ids l) id = some k) (ht : Chk.tenant tn) (h1 : 1 ≤ n) (h2 : n ≤ Chk.most) (hl : Chk.held (Chk.nth l k).refs tn < n) :
  Calls Tryz.prog 32 #[.pointer (some ⟨a, 0, none⟩), .int .i64 id, .int .i64 tn, .int .i64 n] w (UnRes w F S a l false 12) := by
 have hkl := (Chk.pos_lt hp).1
 have hkn : k < t.n := by rw [← h.len.1]; exact hkl
 obtain ⟨g, x, hA, hgl, hx, hlx, hxm, hrg⟩ := h.at hkn
 have hnx : Chk.nth l k = x.c := by have := Chk.nth_get hkl; rw [hlx] at this; exact (Option.some.inj this).symm
 obtain ⟨b, off, hrf⟩ := h.rfOf hx
 have HC := Lib.hid (fun W hW => change_ok (h.below (w' := W) hW) id tn n k hp ht h1 h2 g hA)
 have H22 := Lib.hid (fun W hW => by have := h.cell22 hA hx W hW; rw [hrf.A] at this; exact this)
 have HHE := Lib.hid (fun W hW => hrf.held tn W hW)
 have hmost : Chk.most = 2147483647 := rfl
 have ht1 := hrf.tot
 have hh0 := Chk.held_nonneg hrf.one tn
 have hh1 := Chk.held_le hrf.one hrf.up tn
 have hz := (IsRow.new w 3 [.int .i64 id]).cell 0
 have hbz : Below w.heap.size w (w.alloc (.cells #[.int .i64 id] 3)) := (Below.refl _ _).alloc (Nat.le_refl _) _
 have hlz : w.heap.size < (w.alloc (.cells #[.int .i64 id] 3)).heap.size := by simp
 obtain ⟨w0, hw0⟩ : ∃ z, w.alloc (.cells #[.int .i64 id] 3) = z := ⟨_, rfl⟩
 rw [show (([.int .i64 id] : List Value).toArray) = #[.int .i64 id] from rfl, hw0] at hz
 rw [hw0] at hbz hlz
 have HW0 := Lib.hid hw0
 have HZ := Lib.hid (And.intro hz (And.intro hbz hlz))
 have HCH := Lib.hid (HC.out w0 hbz)
 obtain ⟨N, hN⟩ : ∃ N, x.n = N := ⟨_, rfl⟩
 obtain ⟨C, hC⟩ : ∃ C, x.k = C := ⟨_, rfl⟩
 have e3' : IntKind.i64.wrap (Chk.held x.c.refs tn - n) = Chk.held x.c.refs tn - n := IntWalk.i64_in _ (by omega)
 have HS := Lib.hid (fun W hW => OpRes.same h hb (w' := W) hW)
 rw [hnx] at hl
 obtain ⟨Y, hY⟩ : ∃ Y, Chk.held x.c.refs tn = Y := ⟨_, rfl⟩
 rw [hY] at HHE hl e3'
 rw [hN, hC] at H22 HHE
 have e4 : Y - n < 0 := by omega
 clear hY hN hC hl hnx hA hgl hx hlx hxm hkn hkl hp ht h1 h2 hmost ht1 hh0 hh1 hrf hb h hrg hz hbz hlz hw0
 go_enter Tryz.func32, Tryz.ntmps32
 go_upto_region 1 with fail
 rw [HW0.out]
 have z0 : w0.cell? ⟨w.heap.size, 0, none⟩ = some (.int .i64 id) := HZ.out.1
 go_upto_region 4 with (go_at_call 66; refine HCH.out.mono ?_; rintro e w1 ⟨rfl, b1⟩)
 have hb1 : Below w.heap.size w w1 := HZ.out.2.1.trans (b1.mono (Nat.le_of_lt HZ.out.2.2))
 have z1 := (b1.cell (p := ⟨w.heap.size, 0, none⟩) HZ.out.2.2).trans HZ.out.1
 have k22 := (H22.out w1 hb1).1
 have HB1 := Lib.hid hb1
 clear hb1
 go_wp2_with (go_at_call 69; refine (HHE.out _ HB1.out).mono ?_; rintro e w2 ⟨rfl, b2⟩)
 go_ret2
 exact ⟨rfl, HS.out _ (HB1.out.trans (b2.mono HB1.out.size))⟩
set_option maxRecDepth 100000 in
set_option maxHeartbeats 1600000 in
theorem unrefer_some (h : TAt w F S a t l) (hb : ∀ b, F b ∨ S b → b < w.heap.size) (id tn n : Int) (k : Nat) (hp : Chk.pos (Chk.ids l) id = some k) (ht : Chk.tenant tn) (h1 : 1 ≤ n) (h2 : n ≤ Chk.most) (hl : n ≤ Chk.held (Chk.nth l k).refs tn) (hem : Chk.withR (Chk.nth l k).refs tn (Chk.held (Chk.nth l k).refs tn - n) ≠ []) :
  Calls Tryz.prog 32 #[.pointer (some ⟨a, 0, none⟩), .int .i64 id, .int .i64 tn, .int .i64 n] w (UnRes w F S a (Chk.setRefs l k (Chk.withR (Chk.nth l k).refs tn (Chk.held (Chk.nth l k).refs tn - n))) false 0) := by
 have hkl := (Chk.pos_lt hp).1
 have hkn : k < t.n := by rw [← h.len.1]; exact hkl
 obtain ⟨g, x, hA, hgl, hx, hlx, hxm, hrg⟩ := h.at hkn
 have hnx : Chk.nth l k = x.c := by have := Chk.nth_get hkl; rw [hlx] at this; exact (Option.some.inj this).symm
 obtain ⟨b, off, hrf⟩ := h.rfOf hx
 have HC := Lib.hid (fun W hW => change_ok (h.below (w' := W) hW) id tn n k hp ht h1 h2 g hA)
 have H22 := Lib.hid (fun W hW => by have := h.cell22 hA hx W hW; rw [hrf.A] at this; exact this)
 have HHE := Lib.hid (fun W hW => hrf.held tn W hW)
 have hmost : Chk.most = 2147483647 := rfl
 have ht1 := hrf.tot
 have hh0 := Chk.held_nonneg hrf.one tn
 have hh1 := Chk.held_le hrf.one hrf.up tn
 have hz := (IsRow.new w 3 [.int .i64 id]).cell 0
 have hbz : Below w.heap.size w (w.alloc (.cells #[.int .i64 id] 3)) := (Below.refl _ _).alloc (Nat.le_refl _) _
 have hlz : w.heap.size < (w.alloc (.cells #[.int .i64 id] 3)).heap.size := by simp
 obtain ⟨w0, hw0⟩ : ∃ z, w.alloc (.cells #[.int .i64 id] 3) = z := ⟨_, rfl⟩
 rw [show (([.int .i64 id] : List Value).toArray) = #[.int .i64 id] from rfl, hw0] at hz
 rw [hw0] at hbz hlz
 have HW0 := Lib.hid hw0
 have HZ := Lib.hid (And.intro hz (And.intro hbz hlz))
 have HCH := Lib.hid (HC.out w0 hbz)
 obtain ⟨N, hN⟩ : ∃ N, x.n = N := ⟨_, rfl⟩
 obtain ⟨C, hC⟩ : ∃ C, x.k = C := ⟨_, rfl⟩
 have e3' : IntKind.i64.wrap (Chk.held x.c.refs tn - n) = Chk.held x.c.refs tn - n := IntWalk.i64_in _ (by omega)
 rw [hnx] at hl hem ⊢
 have hmm : 0 < Chk.held x.c.refs tn - n ∨ (Chk.held x.c.refs tn - n = 0 ∧ (Chk.keys x.c.refs)[Chk.lb (Chk.keys x.c.refs) tn]? = some tn) := by
  rcases Int.lt_or_le 0 (Chk.held x.c.refs tn - n) with hq | hq
  ·
   exact .inl hq
  ·
   refine .inr ⟨by omega, Classical.byContradiction fun hf => ?_⟩
   have := Chk.held_lb (t := tn) hrf.up
   rw [if_neg hf] at this
   omega
 have HWI := Lib.hid (fun W hW => hrf.with_ tn (Chk.held x.c.refs tn - n) hmm W hW)
 have hok := h.inv.ok x.c (List.mem_of_getElem? hlx)
 have hrok := Chk.refsOk_with hok.refs ht (show 0 ≤ Chk.held x.c.refs tn - n by omega) (by omega)
 have HRE := Lib.hid (fun (W5 : World) (A' : Option Addr) (c' : Nat) hB5 ho => h.refd hb (W5 := W5) (A' := A') (c' := c') hA hx hkl hB5 ho hrok hem)
 obtain ⟨Y, hY⟩ : ∃ Y, Chk.held x.c.refs tn = Y := ⟨_, rfl⟩
 rw [hY] at HHE hl e3' HWI HRE hem ⊢
 obtain ⟨M, hM⟩ : ∃ M, Y - n = M := ⟨_, rfl⟩
 rw [hM] at HWI HRE hem e3' ⊢
 obtain ⟨rs, hrs⟩ : ∃ rs, Chk.withR x.c.refs tn M = rs := ⟨_, rfl⟩
 rw [hrs] at HWI HRE hem ⊢
 obtain ⟨L, hL⟩ : ∃ L, rs.length = L := ⟨_, rfl⟩
 have hLp : 0 < L := by rw [← hL]; exact List.length_pos_iff.2 hem
 have HL := Lib.hid hL
 have e5 : (0 : Int) < (L : Int) := by omega
 rw [hN, hC] at H22 HHE HWI
 have e4 : ¬ M < 0 := by omega
 have e6 : IntKind.i64.wrap (Y - n) = M := by rw [hM]; exact e3'
 clear hY hM hrs hN hC hl hnx hA hgl hx hlx hxm hkn hkl hp ht h1 h2 hmost ht1 hh0 hh1 hrf hb h hrg hz hbz hlz hw0 hmm hok hrok hem hL hLp e3'
 go_enter Tryz.func32, Tryz.ntmps32
 go_upto_region 1 with fail
 rw [HW0.out]
 have z0 : w0.cell? ⟨w.heap.size, 0, none⟩ = some (.int .i64 id) := HZ.out.1
 go_upto_region 4 with (go_at_call 66; refine HCH.out.mono ?_; rintro e w1 ⟨rfl, b1⟩)
 have hb1 : Below w.heap.size w w1 := HZ.out.2.1.trans (b1.mono (Nat.le_of_lt HZ.out.2.2))
 have z1 := (b1.cell (p := ⟨w.heap.size, 0, none⟩) HZ.out.2.2).trans HZ.out.1
 have k22 := (H22.out w1 hb1).1
 have HB1 := Lib.hid hb1
 clear hb1
 go_upto_region 7 with (go_at_call 69; refine (HHE.out _ HB1.out).mono ?_; rintro e w2 ⟨rfl, b2⟩)
 have hb2 := HB1.out.trans (b2.mono HB1.out.size)
 have k22 := (H22.out w2 hb2).1
 have HB2 := Lib.hid hb2
 clear hb2 b2 b1
 go_upto_region 8 with (go_at_call 68; refine (HWI.out _ HB2.out).mono ?_; rintro e w3 ⟨A', c', rfl, own', b3⟩; rw [HL.out] at own' ⊢; have k22 := (H22.out w3 (HB2.out.trans (b3.mono HB2.out.size))).1; have f22 := (H22.out w3 (HB2.out.trans (b3.mono HB2.out.size))).2)
 have hex := HRE.out w3 A' c' (HB2.out.trans (b3.mono HB2.out.size)) (by rw [HL.out]; exact own_base own' HB2.out.size)
 rw [HL.out] at hex
 have HEX := Lib.hid hex
 clear hex own' b3
 go_wp2
 go_ret2
 obtain ⟨F', h1, h2, h3, h4⟩ := HEX.out
 exact ⟨rfl, F', S, h1, h2, h3, fun _ h => .inl h, h4⟩
set_option maxRecDepth 100000 in
set_option maxHeartbeats 1600000 in
theorem unrefer_last (h : TAt w F S a t l) (hb : ∀ b, F b ∨ S b → b < w.heap.size) (id tn n : Int) (k : Nat) (hp : Chk.pos (Chk.ids l) id = some k) (ht : Chk.tenant tn) (h1 : 1 ≤ n) (h2 : n ≤ Chk.most) (hl : n ≤ Chk.held (Chk.nth l k).refs tn) (hem : Chk.withR (Chk.nth l k).refs tn (Chk.held (Chk.nth l k).refs tn - n) = []) :
  Calls Tryz.prog 32 #[.pointer (some ⟨a, 0, none⟩), .int .i64 id, .int .i64 tn, .int .i64 n] w (UnRes w F S a (l.eraseIdx k) true 0) := by
 have hkl := (Chk.pos_lt hp).1
 have hkn : k < t.n := by rw [← h.len.1]; exact hkl
 obtain ⟨g, x, hA, hgl, hx, hlx, hxm, hrg⟩ := h.at hkn
 have hnx : Chk.nth l k = x.c := by have := Chk.nth_get hkl; rw [hlx] at this; exact (Option.some.inj this).symm
 obtain ⟨b, off, hrf⟩ := h.rfOf hx
 have HC := Lib.hid (fun W hW => change_ok (h.below (w' := W) hW) id tn n k hp ht h1 h2 g hA)
 have H22 := Lib.hid (fun W hW => by have := h.cell22 hA hx W hW; rw [hrf.A] at this; exact this)
 have HHE := Lib.hid (fun W hW => hrf.held tn W hW)
 have hmost : Chk.most = 2147483647 := rfl
 have ht1 := hrf.tot
 have hh0 := Chk.held_nonneg hrf.one tn
 have hh1 := Chk.held_le hrf.one hrf.up tn
 have hz := (IsRow.new w 3 [.int .i64 id]).cell 0
 have hbz : Below w.heap.size w (w.alloc (.cells #[.int .i64 id] 3)) := (Below.refl _ _).alloc (Nat.le_refl _) _
 have hlz : w.heap.size < (w.alloc (.cells #[.int .i64 id] 3)).heap.size := by simp
 obtain ⟨w0, hw0⟩ : ∃ z, w.alloc (.cells #[.int .i64 id] 3) = z := ⟨_, rfl⟩
 rw [show (([.int .i64 id] : List Value).toArray) = #[.int .i64 id] from rfl, hw0] at hz
 rw [hw0] at hbz hlz
 have HW0 := Lib.hid hw0
 have HZ := Lib.hid (And.intro hz (And.intro hbz hlz))
 have HCH := Lib.hid (HC.out w0 hbz)
 obtain ⟨N, hN⟩ : ∃ N, x.n = N := ⟨_, rfl⟩
 obtain ⟨C, hC⟩ : ∃ C, x.k = C := ⟨_, rfl⟩
 have e3' : IntKind.i64.wrap (Chk.held x.c.refs tn - n) = Chk.held x.c.refs tn - n := IntWalk.i64_in _ (by omega)
 rw [hnx] at hl hem
 have hmm : 0 < Chk.held x.c.refs tn - n ∨ (Chk.held x.c.refs tn - n = 0 ∧ (Chk.keys x.c.refs)[Chk.lb (Chk.keys x.c.refs) tn]? = some tn) := by
  rcases Int.lt_or_le 0 (Chk.held x.c.refs tn - n) with hq | hq
  ·
   exact .inl hq
  ·
   refine .inr ⟨by omega, Classical.byContradiction fun hf => ?_⟩
   have := Chk.held_lb (t := tn) hrf.up
   rw [if_neg hf] at this
   omega
 have HWI := Lib.hid (fun W hW => hrf.with_ tn (Chk.held x.c.refs tn - n) hmm W hW)
 have hok := h.inv.ok x.c (List.mem_of_getElem? hlx)
 rw [hem] at HWI
 obtain ⟨Y, hY⟩ : ∃ Y, Chk.held x.c.refs tn = Y := ⟨_, rfl⟩
 rw [hY] at HHE hl e3' HWI
 obtain ⟨M, hM⟩ : ∃ M, Y - n = M := ⟨_, rfl⟩
 rw [hM] at HWI e3'
 rw [hN, hC] at H22 HHE HWI
 have e4 : ¬ M < 0 := by omega
 have e6 : IntKind.i64.wrap (Y - n) = M := by rw [hM]; exact e3'
 have hcc := ckCells_at x.c (.slice x.A x.n x.k) hok.dg
 have HCC := Lib.hid (And.intro (hrg 18 _ hcc.2.2.1) (And.intro (hrg 19 _ hcc.2.2.2.1) (And.intro (hrg 20 _ hcc.2.2.2.2.1) (hrg 21 _ hcc.2.2.2.2.2.1))))
 have hag := h.ag _ hA
 have hgS := h.sg _ hA
 have HNE : Hid (g < w.heap.size ∧ a < w.heap.size ∧ t.m < w.heap.size ∧ g ≠ a ∧ g ≠ t.m ∧ a ≠ t.m) := Lib.hid ⟨hgl, h.row.lt, h.map.lt, hag.1, hag.2, h.am⟩
 have HT := Lib.hid h
 have HOWN : Hid (∀ (W : World) (A' : Option Addr) (c' : Nat), Below w.heap.size w W → (W.setCell ⟨g, k * 23 + 22, none⟩ (.slice A' 0 c')).ownsRow 0 68 23 (.slice (some ⟨g, 0, none⟩) t.n t.c) t.n (crs (t.D.set k ⟨{ x.c with refs := [] }, A', 0, c'⟩))) := Lib.hid (fun W A' c' hW => by
  have ho5 := (h.below hW).own
  rw [hA] at ho5
  exact (own_step (y := ⟨{ x.c with refs := [] }, A', 0, c'⟩) (v := .slice A' 0 c') ho5 h.dl hx (j := 22) (by decide) (by
   show ckCells { x.c with refs := [] } _ = _
   rw [ckCells_refs]
   exact (ckCells_set x.c _ _ hok.dg).symm)).1)
 have HDEL := Lib.hid (fun (W : World) (A' : Option Addr) (c' : Nat) hr hk hkl => deleteC g t.n t.c (t.D.set k ⟨{ x.c with refs := [] }, A', 0, c'⟩) (by rw [List.length_set, h.len.2]) h.max k id (h.oneId hp hx rfl (ckCells_len hok.dg _)) w.heap.size W hr hk hkl (by omega))
 have HER := Lib.hid (fun (W : World) (N' : Nat) hrow ho hm hK => h.erased (W := W) (N' := N') hA hx hrow ho hm hK)
 have HSS := Lib.hid (And.intro h.sa (And.intro h.sm hgS))
 have HRW : Hid (∀ W, Below w.heap.size w W → IsRow W a 116 [.slice (some ⟨g, 0, none⟩) t.n t.c, .map (some t.m)]) := Lib.hid (fun W hW => by have := (h.below hW).row; rw [hA] at this; exact this)
 have HMP := Lib.hid (fun W hW => (h.below (w' := W) hW).map)
 have HBB := Lib.hid hb
 have hnn : t.n - 1 + 1 = t.n := by omega
 obtain ⟨n0, hn0⟩ : ∃ z, t.n = z := ⟨_, rfl⟩
 obtain ⟨c0, hc0⟩ : ∃ z, t.c = z := ⟨_, rfl⟩
 obtain ⟨m, hm⟩ : ∃ z, t.m = z := ⟨_, rfl⟩
 rw [hn0] at HOWN HDEL HER HRW
 rw [hc0] at HOWN HDEL HER HRW
 rw [hm] at HNE HER HRW HMP HSS
 clear hnn hn0 hc0 hm hY hM hN hC hl hnx hA hgl hx hlx hxm hkn hkl hp ht h1 h2 hmost ht1 hh0 hh1 hrf hb h hrg hz hbz hlz hw0 hmm hok hem e3' hcc hag hgS
 go_enter Tryz.func32, Tryz.ntmps32
 go_upto_region 1 with fail
 rw [HW0.out]
 have z0 : w0.cell? ⟨w.heap.size, 0, none⟩ = some (.int .i64 id) := HZ.out.1
 go_upto_region 4 with (go_at_call 66; refine HCH.out.mono ?_; rintro e w1 ⟨rfl, b1⟩)
 have hb1 : Below w.heap.size w w1 := HZ.out.2.1.trans (b1.mono (Nat.le_of_lt HZ.out.2.2))
 have z1 := (b1.cell (p := ⟨w.heap.size, 0, none⟩) HZ.out.2.2).trans HZ.out.1
 have k22 := (H22.out w1 hb1).1
 have HB1 := Lib.hid hb1
 clear hb1
 go_upto_region 7 with (go_at_call 69; refine (HHE.out _ HB1.out).mono ?_; rintro e w2 ⟨rfl, b2⟩)
 have hb2 := HB1.out.trans (b2.mono HB1.out.size)
 have k22 := (H22.out w2 hb2).1
 have HB2 := Lib.hid hb2
 have HZ2 := Lib.hid (And.intro ((b2.cell (p := ⟨w.heap.size, 0, none⟩) (Nat.lt_of_lt_of_le HZ.out.2.2 b1.size)).trans z1) (Nat.lt_of_lt_of_le (Nat.lt_of_lt_of_le HZ.out.2.2 b1.size) b2.size))
 clear hb2 b2 b1 z0 z1
 go_upto_region 8 with (go_at_call 68; refine (HWI.out _ HB2.out).mono ?_; rintro e w3 ⟨A', c', rfl, own', b3⟩; have HB3 := Lib.hid (HB2.out.trans (b3.mono HB2.out.size)); have k22 := (H22.out w3 HB3.out).1; have f22 := (H22.out w3 HB3.out).2; dsimp only [List.length_nil]; clear own')
 have HO3 := Lib.hid (HOWN.out w3 A' c' HB3.out)
 have HZ3 := Lib.hid (And.intro ((b3.cell (p := ⟨w.heap.size, 0, none⟩) HZ2.out.2).trans HZ2.out.1) (Nat.lt_of_lt_of_le HZ2.out.2 b3.size))
 have hn := HNE.out
 have hs3 := HB3.out.size
 have hK4 : Keep (fun b => b = g) w3 (w3.setCell ⟨g, k * 23 + 22, none⟩ (.slice A' 0 c')) := Keep.of_grown (grown_set_ w3 g _ _) fun q e => (Option.some.inj e).symm
 obtain ⟨w4, hw4⟩ : ∃ z, w3.setCell ⟨g, k * 23 + 22, none⟩ (.slice A' 0 c') = z := ⟨_, rfl⟩
 have k18 : w4.cell? ⟨g, k * 23 + 18, none⟩ = some (.int .i64 x.c.at_.r) := by rw [← hw4]; exact (cell_set_ne _ _ (by omega)).trans ((HB3.out.cell (p := ⟨g, k * 23 + 18, none⟩) hn.1).trans HCC.out.1)
 have k19 : w4.cell? ⟨g, k * 23 + 19, none⟩ = some (.int .i64 x.c.at_.g) := by rw [← hw4]; exact (cell_set_ne _ _ (by omega)).trans ((HB3.out.cell (p := ⟨g, k * 23 + 19, none⟩) hn.1).trans HCC.out.2.1)
 have k20 : w4.cell? ⟨g, k * 23 + 20, none⟩ = some (.int .i64 x.c.at_.u) := by rw [← hw4]; exact (cell_set_ne _ _ (by omega)).trans ((HB3.out.cell (p := ⟨g, k * 23 + 20, none⟩) hn.1).trans HCC.out.2.2.1)
 have k21 : w4.cell? ⟨g, k * 23 + 21, none⟩ = some (.bool x.c.lost) := by rw [← hw4]; exact (cell_set_ne _ _ (by omega)).trans ((HB3.out.cell (p := ⟨g, k * 23 + 21, none⟩) hn.1).trans HCC.out.2.2.2)
 rw [hw4] at HO3 hK4 ⊢
 have k22' : w4.cell? ⟨g, k * 23 + 22, none⟩ = some (.slice A' 0 c') := by rw [← hw4]; exact cell_set_eq _ _ k22
 have hrw4 := (HRW.out w3 HB3.out).keep (hK4.block a (by omega) (fun e => hn.2.2.2.1 e.symm))
 have hmp4 := (HMP.out w3 HB3.out).keep hK4 (fun e => hn.2.2.2.2.1 e.symm)
 have c14 := hrw4.cell 1
 have HLV := Lib.hid (leave_any a g (k * 23) m t.N x.c.lost x.c.at_ (unM l) w4 k21 c14 k18 k19 k20 hrw4.lt (by have := hK4.size; omega) hmp4)
 have HRW4 := Lib.hid hrw4
 have HK4 := Lib.hid hK4
 have HZ4 := Lib.hid (And.intro ((hK4.cell (p := ⟨w.heap.size, 0, none⟩) HZ3.out.2 (show w.heap.size ≠ g by omega)).trans HZ3.out.1) (Nat.lt_of_lt_of_le HZ3.out.2 hK4.size))
 clear hK4 k18 k19 k20 k21 hmp4 hrw4 c14 b3 hs3 hn hw4 k22 f22
 go_upto_region 11 with (go_at_call 70; refine HLV.out.mono ?_; rintro e w5 ⟨rfl, N5, hm5, hk5⟩)
 have hn := HNE.out
 have hs3 := HB3.out.size
 have hs4 := HK4.out.size
 have hrw5 := HRW4.out.keep (hk5.block a HRW4.out.lt hn.2.2.2.2.2)
 have ho5 := own_kb HO3.out (fun e => hk5.block g e hn.2.2.2.2.1)
 have hz5 := (hk5.cell (p := ⟨w.heap.size, 0, none⟩) HZ4.out.2 (show w.heap.size ≠ m by omega)).trans HZ4.out.1
 have c05 := hrw5.cell 0
 have HDL := Lib.hid (HDEL.out w5 A' c' ho5 hz5 (Nat.lt_of_lt_of_le HZ4.out.2 hk5.size))
 have HRW5 := Lib.hid hrw5
 have HM5 := Lib.hid hm5
 have HK5 := Lib.hid hk5
 clear hrw5 ho5 hm5 hk5 hz5 hs3 hs4 hn
 go_upto_region 12 with (go_at_call 71; refine HDL.out.mono ?_; rintro e w6 ⟨rfl, own6, g6⟩; have HO6 := Lib.hid own6; have HG6 := Lib.hid g6; have hrw6 := HRW5.out.grown g6 (fun e => HNE.out.2.2.2.1 (Option.some.inj e)); have c06 := hrw6.cell 0; have f06 := hrw6.frozen 0; have HRW6 := Lib.hid hrw6; clear own6 g6 hrw6)
 go_wp2
 go_ret2
 have hn := HNE.out
 have hk6 : Keep (fun b => b = g) w5 w6 := Keep.of_grown HG6.out fun q e => (Option.some.inj e).symm
 have hs3 := HB3.out.size
 have hs4 := HK4.out.size
 have hs5 := HK5.out.size
 have hs6 := hk6.size
 have hKS : Keep S w (w6.setCell ⟨a, 0, none⟩ (.slice (some ⟨g, 0, none⟩) (n0 - 1) c0)) := Keep.setCell (a := ⟨a, 0, none⟩) ((((Keep.of_below HB3.out).trans (HK4.out.mono fun q _ e => by rw [e]; exact HSS.out.2.2)).trans (HK5.out.mono fun q _ e => by rw [e]; exact HSS.out.2.1)).trans (hk6.mono fun q _ e => by rw [e]; exact HSS.out.2.2)) (.inl HSS.out.1) _
 have ho6 := HO6.out
 rw [List.eraseIdx_set_eq] at ho6
 have hfin := HER.out (w6.setCell ⟨a, 0, none⟩ (.slice (some ⟨g, 0, none⟩) (n0 - 1) c0)) _ (HRW6.out.set 0 _) (own_kb ho6 (fun e => Below.heap_setCell _ _ _ _ hn.2.2.2.1)) ((HM5.out.keep hk6 (fun e => hn.2.2.2.2.1 e.symm)).setCell (show m ≠ a from fun e => hn.2.2.2.2.2 e.symm) _) hKS
 exact ⟨rfl, F, S, hfin, hKS, fun q hq => Nat.lt_of_lt_of_le (HBB.out q hq) hKS.size, fun _ h => .inl h, fun _ h => .inl h⟩
theorem unrefer_any (h : TAt w F S a t l) (hb : ∀ b, F b ∨ S b → b < w.heap.size) (id tn n : Int) :
  Calls Tryz.prog 32 #[.pointer (some ⟨a, 0, none⟩), .int .i64 id, .int .i64 tn, .int .i64 n] w (UnRes w F S a (Chk.unrefer l id tn n).1 (decide ((Chk.unrefer l id tn n).2.1 = 1)) (Chk.unrefer l id tn n).2.2) := by
 cases hp : Chk.pos (Chk.ids l) id with
 | none =>
  have e : Chk.unrefer l id tn n = (l, 0, 12) := by unfold Chk.unrefer; rw [hp]
  rw [e]
  exact unrefer_no h hb id tn n 12 rfl (fun W hW => change_none (h.below hW) id tn n hp)
 | some k =>
  by_cases hbad : Chk.tenant tn ∧ 1 ≤ n ∧ n ≤ Chk.most
  ·
   by_cases hl : Chk.held (Chk.nth l k).refs tn < n
   ·
    have e : Chk.unrefer l id tn n = (l, 0, 12) := by unfold Chk.unrefer; rw [hp]; show ite _ _ _ = _; rw [if_neg (fun e => e hbad), if_pos hl]
    rw [e]
    exact unrefer_few h hb id tn n k hp hbad.1 hbad.2.1 hbad.2.2 hl
   ·
    by_cases hem : Chk.withR (Chk.nth l k).refs tn (Chk.held (Chk.nth l k).refs tn - n) = []
    ·
     have e : Chk.unrefer l id tn n = (l.eraseIdx k, 1, 0) := by unfold Chk.unrefer; rw [hp]; show ite _ _ _ = _; rw [if_neg (fun e => e hbad), if_neg hl, if_pos hem]
     rw [e]
     exact unrefer_last h hb id tn n k hp hbad.1 hbad.2.1 hbad.2.2 (by omega) hem
    ·
     have e : Chk.unrefer l id tn n = (Chk.setRefs l k (Chk.withR (Chk.nth l k).refs tn (Chk.held (Chk.nth l k).refs tn - n)), 0, 0) := by unfold Chk.unrefer; rw [hp]; show ite _ _ _ = _; rw [if_neg (fun e => e hbad), if_neg hl, if_neg hem]
     rw [e]
     exact unrefer_some h hb id tn n k hp hbad.1 hbad.2.1 hbad.2.2 (by omega) hem
  ·
   have e : Chk.unrefer l id tn n = (l, 0, 1) := by unfold Chk.unrefer; rw [hp]; show ite _ _ _ = _; rw [if_pos hbad]
   rw [e]
   exact unrefer_no h hb id tn n 1 rfl (fun W hW => change_bad (h.below hW) id tn n k hp hbad)
end
end
def I64 (x : Int) : Prop := -9223372036854775808 ≤ x ∧ x ≤ 9223372036854775807
end Go.Proofs.YtfllkaeaanahmaaGreat
