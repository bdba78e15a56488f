/- digest.ProvePrefix: a walk of its text. -/
import Derived.Test.YtfnbcchmembomaaDoorPrefP
namespace Go.Proofs.YtfnbcchmembomaaDoor
set_option linter.unusedVariables false
set_option linter.unusedSimpArgs false
open Go.RowKit
def lenOf : Value → Nat
  | .slice _ n _ => n
  | _ => 0
section
variable {w : World} {ops : Array Oper} {rest : List Oper} {o : Oper} {a : Act} {Q : Exit → Act → World → Prop}
theorem wpList_build16 (hgd : o.guard = none) (x : Operand) (ho : o.op = .buildSlice 34 1 #[(0, x)]) (cs : List Value) (hl : cs.length = 16) (hx : a.eval x = .agg cs.toArray)
    (h : wpList Tryd.prog ops Q rest (a.put o.dst (.slice (some ⟨w.heap.size, 0, none⟩) 1 1)) (w.alloc (.cells cs.toArray 30))) : wpList Tryd.prog ops Q (o :: rest) a w :=
  wpList_plain hgd fun _ hK => wp_build16 x ho cs hl hx (hK _ _ h)
/-- append of one digest that a literal has just laid -/
theorem wpList_app16 {w0 : World} (hgd : o.guard = none) (s x : Operand)
    (ho : o.op = .call { callee := .builtin .append, args := #[s, x], argTypes := #[34, 34] })
    (base : Nat) (v : Value) (n : Nat) (os : List (List UInt8)) (hs : a.eval s = v) (hown : w0.ownsRow base 30 16 v n (dvs os))
    (d : List UInt8) (hd : d.length = 16) (hx : a.eval x = .slice (some ⟨w0.heap.size, 0, none⟩) 1 1) (h63 : n ≤ 1099511627776) (hbase : base ≤ w0.heap.size)
    (h : ∀ v' w', w'.ownsRow base 30 16 v' (n + 1) (dvs (os ++ [d])) → w0.grownBy w' v.ownBlock → wpList Tryd.prog ops Q rest (a.put o.dst v') w') :
    wpList Tryd.prog ops Q (o :: rest) a (w0.alloc (.cells (bvs d).toArray 30)) := by
  refine wpList_plain hgd fun K hK => ?_
  refine wp_app16 s x ho base v n (dvs os) hs (hown.alloc _) w0.heap.size 1 (bvs d) hx (by rw [bvs_len, hd]) (range_new _ _ _) (List.all_eq_true.1 (bvs_all _)) h63 (by rw [alloc_size1]; omega) ?_
  intro v' w' h1 h2
  refine hK _ _ (h v' w' ?_ ((World.grownBy_alloc w0 _ _).trans h2))
  have e : dvs (os ++ [d]) = dvs os ++ bvs d := by simp [dvs, List.flatMap_append]
  rw [e]; exact h1
end
theorem D16.snoc {l : List (List UInt8)} {d : List UInt8} (h : D16 l) (hd : d.length = 16) : D16 (l ++ [d]) := fun x hx => by
  rcases List.mem_append.1 hx with hx | hx
  · exact h x hx
  · rw [List.mem_singleton.1 hx]; exact hd
set_option maxRecDepth 100000 in
set_option maxHeartbeats 2000000 in
theorem provePrefix_ok (n c m : Nat) (A : Option Addr) (l : List (List UInt8)) (hl : l.length = n) (hn : n ≤ 1099511627776) (hd : D16 l) (hc : n ≤ c) (hcm : c ≤ maxLen) (hm1 : 1 ≤ m) (hmn : m ≤ n) (B : Nat) (w : World) (hT : Tabs w) (hr : Rd w B 16 A n (dvs l)) (hB : B ≤ w.heap.size) :
    Calls Tryd.prog 17 #[.slice A n c, .int .i64 (m : Int)] w fun e w' => ∃ A' m' c', e = .returned (.tuple #[.slice A' m' c', .int .i64 0]) ∧ m' = (Mk.pref l m).length ∧ m' ≤ c' ∧ c' ≤ maxLen ∧ Rd w' w'.heap.size 16 A' m' (dvs (Mk.pref l m)) ∧ Below w.heap.size w w' := by
  unfold maxLen at hcm
  have i0 : ¬ ((m : Int) < 1) := by omega
  have i1 : ¬ ((n : Int) < (m : Int)) := by omega
  have hr0 := hr.more hB
  have HL := Lib.hid hl
  have HD0 := Lib.hid hd
  clear hl hd hr
  go_enter Tryd.func17, Tryd.ntmps17
  go_wp2
  go_loopw [0, 1, 6, 7] (fun u0 u1 u6 u7 wr => ∃ (q mm k c' : Nat) (A' : Option Addr) (cur os : List (List UInt8)) (vo : Value) (wh : Bool), u0 = .slice A' q c' ∧ u1 = .int .i64 mm ∧ u6 = vo ∧ u7 = .bool wh ∧ Hid (cur.length = q) ∧ Hid (D16 cur) ∧ Rd wr w.heap.size 16 A' q (dvs cur) ∧ q ≤ c' ∧ c' ≤ c ∧ 1 ≤ mm ∧ mm ≤ q ∧ k + q ≤ n ∧ Hid (os.length = k) ∧
      wr.ownsRow w.heap.size 30 16 vo k (dvs os) ∧ Hid (k = 0 → vo = .slice none 0 0) ∧ Hid (D16 os) ∧ Hid (Below w.heap.size w wr) ∧ Hid (os ++ Mk.prefD cur mm wh = Mk.prefD l m true))
    (fun u0 _ _ _ _ => lenOf u0)
  case atStart => exact ⟨n, m, 0, c, A, l, [], .slice none 0 0, true, rfl, rfl, rfl, rfl, HL, HD0, hr0, hc, Nat.le_refl _, hm1, hmn, by omega, Lib.hid rfl, ⟨rfl, .inl ⟨rfl, rfl⟩⟩, Lib.hid fun _ => rfl, Lib.hid (by intro d hd; cases hd), Lib.hid (Below.refl _ _), Lib.hid rfl⟩
  case round =>
    obtain ⟨q, mm, k, c', A', cur, os, vo, wh, rfl, rfl, rfl, rfl, HCL, HCD, rd, hqc, hcc, hm1', hmq, hkq, HOL, own, HNIL, HOD, HB, HP⟩ := hrel
    have HT := Lib.hid (fun (W : World) (h : Below wr.heap.size wr W) => (hT.below HB.out).below h)
    have hBw : w.heap.size ≤ wr.heap.size := HB.out.size
    obtain ⟨ad, rfl⟩ : ∃ ad, A' = some ad := by
      obtain ⟨b, off, e, _⟩ := rd.2 (by omega)
      exact ⟨_, e⟩
    by_cases hlt : mm < q
    · have hsp := split_any q (by omega) (by omega)
      have hs1 := Mk.split_pos q
      have hs2 := Mk.split_lt (n := q) (by omega)
      have hlo := Mk.prefD_lo (l := cur) (m := mm) wh hm1' (by rw [HCL.out]; exact hlt)
      have hhi := Mk.prefD_hi (l := cur) (m := mm) wh hm1' (by rw [HCL.out]; exact hlt)
      rw [HCL.out] at hlo hhi
      have rdlo := rd.first HCD.out (k := Mk.split q) (by omega)
      have rdhi := rd.rest HCD.out hs2
      have hrl := fun (W : World) (h : Below wr.heap.size wr W) => root_any (Mk.split q) c' (some ad) (cur.take (Mk.split q)) (by rw [List.length_take, HCL.out]; omega) (by omega) w.heap.size W (rdlo.below (h.mono hBw)) (HCD.out.take _) (Nat.le_trans hBw h.size) (by omega) (by unfold maxLen; omega) (HT.out W h)
      have hrh := fun (W : World) (h : Below wr.heap.size wr W) => root_any (q - Mk.split q) (c' - Mk.split q) (some (ad.add (Mk.split q * 16))) (cur.drop (Mk.split q)) (by rw [List.length_drop, HCL.out]) (by omega) w.heap.size W (rdhi.below (h.mono hBw)) (HCD.out.drop _) (Nat.le_trans hBw h.size) (by omega) (by unfold maxLen; omega) (HT.out W h)
      have hl1 : (cur.take (Mk.split q)).length = Mk.split q := by rw [List.length_take, HCL.out]; omega
      have hl2 : (cur.drop (Mk.split q)).length = q - Mk.split q := by rw [List.length_drop, HCL.out]
      have hd1 := HCD.out.take (Mk.split q)
      have hd2 := HCD.out.drop (Mk.split q)
      generalize cur.take (Mk.split q) = ct at *
      generalize cur.drop (Mk.split q) = cd at *
      generalize Mk.split q = sp at *
      have HSP := Lib.hid hsp
      have HRL := Lib.hid hrl
      have HRH := Lib.hid hrh
      have HLO := Lib.hid hlo
      have HHI := Lib.hid hhi
      have HL1 := Lib.hid hl1
      have HL2 := Lib.hid hl2
      have HD1 := Lib.hid hd1
      have HD2 := Lib.hid hd2
      have hck : ¬ c' = sp := by omega
      have hkc : sp ≤ c' := by omega
      have hkn : sp ≤ q := by omega
      clear hsp hrl hrh hlo hhi hl1 hl2 hd1 hd2
      by_cases hms : mm ≤ sp
      · have h16 := Mk.root_len cd
        generalize Mk.root cd = r at *
        have H16 := Lib.hid h16
        clear h16
        go_wp2_with (first
          | (go_at_call 43; refine (HSP.out _).mono ?_; rintro e w' ⟨rfl, rfl⟩)
          | (go_at_call 19; refine (HRH.out _ (Below.refl _ _)).mono ?_; rintro e w1 ⟨rfl, b1⟩)
          | (refine wpList_build16 rfl (.tmp 31) rfl (bvs r) (by rw [bvs_len]; exact H16.out) rfl ?_)
          | (at_builtin; refine wpList_app16 rfl (.tmp 27) (.tmp 32) rfl w.heap.size _ k os rfl (own_below own b1) r H16.out rfl (by omega) (by have := b1.size; omega) ?_; intro v2 w2 own2 g2; have b2 : Below w.heap.size wr w2 := (b1.mono hBw).grown g2 (by have := b1.size; omega) (fun j hj => (own.lt j hj).1))
          | fail)
        go_roundw
        case rel => exact ⟨sp, mm, k + 1, c', some ad, ct, os ++ [r], v2, wh, rfl, rfl, rfl, rfl, HL1, HD1, rdlo.below b2, by omega, by omega, hm1', hms, by omega, Lib.hid (by rw [List.length_append, HOL.out]; rfl), own2, Lib.hid (by intro h; omega), Lib.hid (HOD.out.snoc H16.out), Lib.hid (HB.out.trans b2), Lib.hid (by rw [← HP.out, HLO.out hms, List.append_assoc]; rfl)⟩
        case measure => simp [lenOf]; omega
      · have h16 := Mk.root_len ct
        generalize Mk.root ct = r at *
        have H16 := Lib.hid h16
        clear h16
        go_wp2_with (first
          | (go_at_call 43; refine (HSP.out _).mono ?_; rintro e w' ⟨rfl, rfl⟩)
          | (go_at_call 19; refine (HRL.out _ (Below.refl _ _)).mono ?_; rintro e w1 ⟨rfl, b1⟩)
          | (refine wpList_build16 rfl (.tmp 41) rfl (bvs r) (by rw [bvs_len]; exact H16.out) rfl ?_)
          | (at_builtin; refine wpList_app16 rfl (.tmp 37) (.tmp 42) rfl w.heap.size _ k os rfl (own_below own b1) r H16.out rfl (by omega) (by have := b1.size; omega) ?_; intro v2 w2 own2 g2; have b2 : Below w.heap.size wr w2 := (b1.mono hBw).grown g2 (by have := b1.size; omega) (fun j hj => (own.lt j hj).1))
          | fail)
        go_roundw
        case rel => exact ⟨q - sp, mm - sp, k + 1, c' - sp, some (ad.add (sp * 16)), cd, os ++ [r], v2, false, rfl, by go_num, rfl, rfl, HL2, HD2, rdhi.below b2, by omega, by omega, by omega, by omega, by omega, Lib.hid (by rw [List.length_append, HOL.out]; rfl), own2, Lib.hid (by intro h; omega), Lib.hid (HOD.out.snoc H16.out), Lib.hid (HB.out.trans b2), Lib.hid (by rw [← HP.out, HHI.out hms, List.append_assoc]; rfl)⟩
        case measure => simp [lenOf]; omega
    · have hmq' : mm = q := by omega
      subst hmq'
      have hend := Mk.prefD_end (l := cur) (m := mm) wh (by rw [HCL.out]; exact Nat.le_refl _)
      have HE : Hid (os ++ (if wh then [] else [Mk.root cur]) = Mk.prefD l m true) := Lib.hid (by rw [← hend]; exact HP.out)
      have HRC := Lib.hid (root_any mm c' (some ad) cur HCL.out (by omega) w.heap.size wr rd HCD.out hBw hqc (by unfold maxLen; omega) (HT.out wr (Below.refl _ _)))
      clear hend
      have HQ : Hid (Mk.pref l m = (Mk.prefD l m true).reverse) := Lib.hid rfl
      cases wh with
      | true =>
        have HE2 : Hid (os = Mk.prefD l m true) := Lib.hid (by have := HE.out; simpa using this)
        go_wp2_with (go_at_call 41; refine (reverse_own wr _ k os HOD.out HOL.out (by omega) w.heap.size own HNIL.out).mono ?_; rintro e w3 ⟨⟨v3, rfl⟩, g3, A', c3, rfl, hc1, hc2, rd3⟩)
        exact bodyPost_ret (results_tmp2 rfl _ _ _) rfl ⟨A', k, c3, rfl, by rw [HQ.out, ← HE2.out, List.length_reverse, HOL.out], hc1, hc2, by rw [HQ.out, ← HE2.out]; exact rd3, HB.out.grown g3 HB.out.size (fun j hj => (own.lt j hj).1)⟩
      | false =>
        have HE2 : Hid (os ++ [Mk.root cur] = Mk.prefD l m true) := Lib.hid (by have := HE.out; simpa using this)
        have h16 := Mk.root_len cur
        generalize Mk.root cur = r at *
        have H16 := Lib.hid h16
        clear h16 HE
        go_wp2_with (first
          | (go_at_call 19; refine HRC.out.mono ?_; rintro e w1 ⟨rfl, b1⟩)
          | (refine wpList_build16 rfl (.tmp 54) rfl (bvs r) (by rw [bvs_len]; exact H16.out) rfl ?_)
          | (at_builtin; refine wpList_app16 rfl (.tmp 52) (.tmp 55) rfl w.heap.size _ k os rfl (own_below own b1) r H16.out rfl (by omega) (by have := b1.size; omega) ?_; intro v2 w2 own2 g2; have b2 : Below w.heap.size wr w2 := (b1.mono hBw).grown g2 (by have := b1.size; omega) (fun j hj => (own.lt j hj).1))
          | (go_at_call 41; refine (reverse_own w2 v2 (k + 1) (os ++ [r]) (HOD.out.snoc H16.out) (by rw [List.length_append, HOL.out]; rfl) (by omega) w.heap.size own2 (fun h => by omega)).mono ?_; rintro e w3 ⟨⟨v3, rfl⟩, g3, A', c3, rfl, hc1, hc2, rd3⟩)
          | fail)
        have hb2 := HB.out.trans b2
        exact bodyPost_ret (results_tmp2 rfl _ _ _) rfl ⟨A', k + 1, c3, rfl, by rw [HQ.out, ← HE2.out, List.length_reverse, List.length_append, HOL.out]; rfl, hc1, hc2, by rw [HQ.out, ← HE2.out]; exact rd3, hb2.grown g3 hb2.size (fun j hj => (own2.lt j hj).1)⟩
end Go.Proofs.YtfnbcchmembomaaDoor
