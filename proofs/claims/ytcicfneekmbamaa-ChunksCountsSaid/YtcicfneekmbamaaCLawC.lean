/- The law ChunksCounts. Conditions: none beside the argument's form. -/
import Derived.Test.YtcicfneekmbamaaCLawU
namespace Go.Proofs.Ytcicfneekmbamaa
set_option linter.unusedVariables false
set_option linter.unusedSimpArgs false
open Go.RowKit
namespace Chk
theorem count_out {l : List Ck} (h : Inv l) {t : Int} (ht : ¬ tenant t) : count l t = 0 := by
  unfold count
  have : ∀ m : List Ck, (∀ c ∈ m, CkOk c) → (m.map fun c => held c.refs t).sum = 0 := fun m => by
    induction m with
    | nil => intro _; rfl
    | cons c m ih =>
      intro hm
      rw [List.map_cons, List.sum_cons, ih fun x hx => hm x (List.mem_cons_of_mem _ hx)]
      have hc := (hm c (List.mem_cons_self ..)).refs
      have : held c.refs t = 0 := by
        unfold held
        have : c.refs.find? (fun r => decide (r.t = t)) = none := List.find?_eq_none.2 fun r hr e => ht (by have := hc.ten r hr; rwa [of_decide_eq_true e] at this)
        rw [this]; rfl
      omega
  exact this l h.ok
theorem count_bd {l : List Ck} (h : Inv l) (hl : l.length ≤ 65536) (t : Int) : 0 ≤ count l t ∧ count l t ≤ 140737488355328 := by
  have := count_bound h t l.length (Nat.le_refl _)
  rw [List.take_length] at this
  omega
def cnts (l : List Ck) : List Value := (List.range 16).map fun k => Value.int .i64 (count l (k : Nat))
theorem cnts_len (l : List Ck) : (cnts l).length = 16 := by unfold cnts; simp
theorem cnts_get (l : List Ck) {k : Nat} (hk : k < 16) : (cnts l)[k]? = some (.int .i64 (count l (k : Nat))) := by
  unfold cnts; rw [List.getElem?_map, List.getElem?_range hk]; rfl
theorem cnts_one (l : List Ck) : (cnts l).all (·.oneCell') = true := by unfold cnts; simp [Value.oneCell']
theorem cnts_nil : cnts [] = List.replicate 16 (.int .i64 0) := by kernel_rfl
theorem cnts_same {l l' : List Ck} (h : ∀ k : Nat, k < 16 → count l' (k : Nat) = count l (k : Nat)) : cnts l' = cnts l := by
  unfold cnts
  exact List.map_congr_left fun k hk => by rw [h k (List.mem_range.1 hk)]
theorem cnts_set {l l' : List Ck} {t : Nat} (ht : t < 16) (h : ∀ k : Nat, k < 16 → k ≠ t → count l' (k : Nat) = count l (k : Nat)) : cnts l' = (cnts l).set t (.int .i64 (count l' (t : Nat))) := by
  apply List.ext_getElem?
  intro k
  by_cases hk : k < 16
  · by_cases e : k = t
    · subst e; rw [List.getElem?_set_self (by rw [cnts_len]; exact hk), cnts_get l' hk]
    · rw [List.getElem?_set_ne (fun h => e h.symm), cnts_get l' hk, cnts_get l hk, h k hk e]
  · rw [List.getElem?_eq_none (by rw [cnts_len]; omega), List.getElem?_eq_none (by rw [List.length_set, cnts_len]; omega)]
end Chk
theorem info16 : (Try.prog.info? 59).map (fun i => (i.zero, i.size)) = some (some (.agg (List.replicate 16 (Value.int .i64 0)).toArray), (List.replicate 16 (Value.int .i64 0)).length) := by kernel_rfl
theorem size16i : (Try.prog.info? 59).map (·.size) = some 16 := by kernel_rfl
theorem sizeI1 : (Try.prog.info? 3).map (·.size) = some 1 := by kernel_rfl
set_option maxRecDepth 100000 in
set_option maxHeartbeats 3200000 in
theorem counts_long (A : Option Addr) (n c : Nat) (w : World) (hn : 120 < n) :
    Calls Try.prog 4 #[.slice A n c] w fun e w' => e = .returned (.bool true) ∧ Below w.heap.size w w' := by
  have HSN := Lib.hid sanity_any
  have HN := Lib.hid (new_new w)
  have e1 : (120 : Int) < (n : Int) := by omega
  clear hn
  go_enter Try.func4, Try.ntmps4
  go_wp2_with (first
    | (go_at_call 27; refine HN.out.mono ?_; rintro e w1 ⟨a, rfl, h1⟩; have b1 := h1.g.b; clear h1)
    | (go_at_call 12; refine (HSN.out _).mono ?_; rintro e w2 ⟨rfl, b2⟩))
  go_ret
  exact ⟨rfl, b1.trans (b2.mono b1.size)⟩
set_option maxRecDepth 100000 in
set_option maxHeartbeats 6400000 in
theorem lawCounts (A : Option Addr) (n c : Nat) (ops : List Chk.Op) (hl : ops.length = n) (hnc : n ≤ c) (hc : c ≤ 140737488355328) (hok : ∀ o ∈ ops, OpOk o) (w : World) (hr : Rd w w.heap.size 9 A n (ops.flatMap opL)) :
    Calls Try.prog 4 #[.slice A n c] w fun e w' => e = .returned (.bool true) ∧ Below w.heap.size w w' := by
  by_cases hn : 120 < n
  · exact counts_long A n c w hn
  have HSN := Lib.hid sanity_any
  have HN := Lib.hid (new_new w)
  have HO := Lib.hid (And.intro hr (And.intro hl hok))
  have e0 : ¬ (120 : Int) < (n : Int) := by omega
  have hn1 : n ≤ 120 := by omega
  clear hr hl hok hn hc
  go_enter Try.func4, Try.ntmps4
  go_upto_region 8 with (first
    | (go_at_call 27; refine HN.out.mono ?_; rintro e w1 ⟨a, rfl, h1⟩; have H1 := Lib.hid h1.g; clear h1)
    | (refine wpList_allocRow rfl _ rfl _ info16 ?_; intro w2 rz2 b2 z2; clear z2))
  obtain ⟨bw, hbw⟩ : ∃ y, w1.heap.size = y := ⟨_, rfl⟩
  have hT2 := (H1.out.more b2 bw (by omega) (by rw [← hbw]; exact rz2.lt)).less (G' := fun b => b = bw) fun b e => .inr e
  have HWB : Hid (w.heap.size ≤ bw) := Lib.hid (by rw [← hbw]; exact H1.out.b.size)
  rw [hbw] at rz2 ⊢
  rw [← Chk.cnts_nil] at rz2
  have HT2 := Lib.hid hT2
  have HR2 := Lib.hid rz2
  clear b2 rz2 hT2 hbw H1 e0
  try simp only [Act.put, List.setIfInBounds_toArray, List.set_cons_zero, List.set_cons_succ]
  go_loopw [20] (fun u20 wx => ∃ (wr : World) (j : Nat) (l : List Chk.Ck), wr = wx ∧ j ≤ n ∧ u20 = .int .i64 (j : Int) ∧ Hid (TabG w wr a l (fun b => b = bw)) ∧ Hid (IsRow wr bw 59 (Chk.cnts l))) (fun u20 _ => n - (intOf u20).toNat)
  case atStart => exact ⟨_, 0, [], rfl, Nat.zero_le _, rfl, HT2, HR2⟩
  case round =>
    obtain ⟨wr, j, l, rfl, hj, rfl, HT, HRW⟩ := hrel
    by_cases hlt : j < n
    · have hjl : j < ops.length := by rw [HO.out.2.1]; exact hlt
      have hbr := HT.out.b
      obtain ⟨b, off, rfl, hbb, hrg⟩ := HO.out.1.elem (f := opL) (fun _ _ => rfl) hjl hlt
      have hoo := HO.out.2.2 ops[j] (List.getElem_mem hjl)
      obtain ⟨o, ho⟩ : ∃ o, ops[j] = o := ⟨_, rfl⟩
      rw [ho] at hrg hoo
      have hrw : wr.rangeAt b (off + j * 9) (opL o) := fun q u hq => (hbr.cell (p := ⟨b, off + j * 9 + q, none⟩) hbb).trans (hrg q u hq)
      have HDO := Lib.hid (fun (W : World) (hW : Below wr.heap.size wr W) (x : Nat) (hx1 : wr.heap.size ≤ x) (hx2 : x < W.heap.size) => (HT.out.more hW x hx1 hx2).do_ o hoo.2.2.2.2.2)
      obtain ⟨R, hR⟩ : ∃ R, Chk.step l o = R := ⟨_, rfl⟩
      rw [hR] at HDO
      have hcs : ∀ x, Chk.count R.1 x = Chk.count l x + Chk.delta o R.2.2 x := fun x => Chk.count_step HT.out.inv o x hR
      have hbd := Chk.count_bd HT.out.inv HT.out.max
      have HCS := Lib.hid (And.intro hcs hbd)
      obtain ⟨os, hos⟩ : ∃ os, opL o = os := ⟨_, rfl⟩
      have HOV : Hid (opV o = .agg os.toArray) := Lib.hid (by rw [← hos]; rfl)
      have HOC : Hid (os[0]? = some (.int .i64 o.kind) ∧ os[2]? = some (.int .i64 o.t) ∧ os[3]? = some (.int .i64 o.n)) := Lib.hid (by rw [← hos]; exact ⟨rfl, rfl, rfl⟩)
      rw [HOV.out] at HDO
      rw [hos] at hrw
      have HLN := Lib.hid (show os.length = 9 by rw [← hos]; rfl)
      have HON := Lib.hid (show os.all (·.oneCell') = true by rw [← hos]; rfl)
      have e1 : (0 : Int) ≤ (j : Int) := by omega
      have e2 : (j : Int) < (n : Int) := by omega
      clear hjl hbr hbb hrg hoo ho hos hcs hbd hR
      go_upto_region 10 with (first
        | (refine wpList_load_mid rfl _ (.tmp 22) rfl b (off + j * 9) rfl os _ hrw Try.underlying37 rfl (by rw [HLN.out]; exact sizeOp) ?_)
        | (refine wpList_allocRow rfl _ rfl _ infoOp ?_; intro w3 rz3 b3 z3; clear z3)
        | (refine wpList_storeRow rfl _ (.tmp 6) (.tmp 23) rfl (l' := os) rz3 rfl rfl (by rw [HLN.out]; exact sizeOp) (by rw [HLN.out]; rfl) HON.out ?_; intro w4 rz4 g4 z4; clear z4))
      have hb4 : Below wr.heap.size wr w4 := b3.grown g4 b3.size (fun i hi => by have := Option.some.inj hi; omega)
      obtain ⟨b6, hb6⟩ : ∃ y, wr.heap.size = y := ⟨_, rfl⟩
      have HD4 := Lib.hid (HDO.out w4 hb4 b6 (by omega) (by rw [← hb6]; exact rz4.lt))
      rw [hb6] at rz4 ⊢
      have hr4 : w4.rangeAt b6 0 os := fun q u hu => by rw [Nat.zero_add, rz4.cell]; exact hu
      have HR4 := Lib.hid rz4
      have HW4 := Lib.hid (HRW.out.below' hb4)
      clear rz3 b3 g4 hrw hb4 hb6 rz4
      try simp only [Act.put, List.setIfInBounds_toArray, List.set_cons_zero, List.set_cons_succ]
      go_upto_region 11 with (first
        | (refine wpList_load_mid rfl _ (.tmp 6) rfl b6 0 rfl os _ hr4 Try.underlying37 rfl (by rw [HLN.out]; exact sizeOp) ?_)
        | (go_at_call 28; refine HD4.out.mono ?_; rintro e w5 ⟨rfl, h5, s5⟩))
      have r5 := s5.row HR4.out (.inr rfl)
      have c0 := (r5.cell 0).trans HOC.out.1
      have c2 := (r5.cell 2).trans HOC.out.2.1
      have c3 := (r5.cell 3).trans HOC.out.2.2
      have HT5 : Hid (TabG w w5 a R.1 (fun b => b = bw)) := Lib.hid (h5.less fun b e => .inl e)
      have HW5 := Lib.hid (s5.row HW4.out (.inl rfl))
      clear h5 s5 r5 hr4 HR4 HW4
      obtain ⟨l', N, E⟩ := R
      dsimp only at HT5 HCS ⊢
      by_cases hE : E = 0
      · subst hE
        have hE0 : ((0 : Int) != 0) = false := rfl
        by_cases ht : 0 ≤ o.t ∧ o.t ≤ 15
        · obtain ⟨ht0, ht1⟩ := ht
          obtain ⟨t, htt⟩ : ∃ t : Nat, o.t = (t : Int) := ⟨o.t.toNat, by omega⟩
          have ht16 : t < 16 := by omega
          have hoth : ∀ k : Nat, k < 16 → k ≠ t → Chk.count l' (k : Nat) = Chk.count l (k : Nat) := fun k _ hk => by
            rw [HCS.out.1, Chk.delta, if_neg (fun e => hk (by have := e.2; omega))]; omega
          have hset := Chk.cnts_set ht16 hoth
          have hct := HCS.out.1 (t : Int)
          have hb0 := HCS.out.2 (t : Int)
          have hbI := Chk.count_bd HT5.out.inv HT5.out.max (t : Int)
          rw [Chk.delta, if_pos ⟨rfl, htt⟩] at hct
          have kc := (HW5.out.cell t).trans (Chk.cnts_get l ht16)
          have kf := HW5.out.frozen t
          have hrs := HW5.out.set t (.int .i64 (Chk.count l' (t : Nat)))
          rw [← hset] at hrs
          have HRS := Lib.hid hrs
          have HTD := Lib.hid (fun v => HT5.out.turn (x := bw) rfl HWB.out (Keep.of_grown (grown_set_ w5 bw t v) fun q e => (Option.some.inj e).symm).drew)
          have HTS := Lib.hid (fun v => HT5.out.turn (x := bw) rfl HWB.out (Keep.of_grown (grown_set_ w5 bw t v) fun q e => (Option.some.inj e).symm))
          obtain ⟨C0, hC0⟩ : ∃ C0, Chk.count l (t : Int) = C0 := ⟨_, rfl⟩
          obtain ⟨C1, hC1⟩ : ∃ C1, Chk.count l' (t : Int) = C1 := ⟨_, rfl⟩
          rw [hC0] at kc hct hb0
          rw [hC1] at hct hbI HRS
          rw [htt] at c2
          have t0 : (0 : Int) ≤ (t : Int) := by omega
          have t1 : (t : Int) < 16 := by omega
          have t2 : ¬ (15 : Int) < (t : Int) := by omega
          have t3 : ¬ (t : Int) < 0 := by omega
          have HSM : Hid (C1 = C0 → Chk.cnts l' = Chk.cnts l) := Lib.hid (fun e => Chk.cnts_same fun k hk => by
            by_cases e2 : k = t
            · subst e2; rw [hC1, hC0]; exact e
            · exact hoth k hk e2)
          clear hC0 hC1 htt hset hrs hoth ht0 ht1
          obtain ⟨k, hk⟩ : ∃ k, o.kind = k := ⟨_, rfl⟩
          rw [hk] at c0 hct
          obtain ⟨m, hm⟩ : ∃ m, o.n = m := ⟨_, rfl⟩
          rw [hm] at c3 hct
          clear hk hm
          by_cases k1 : k = 1
          · subst k1
            rw [if_pos rfl] at hct
            have hw1 : IntKind.i64.wrap (C0 + 1) = C1 := by rw [← hct]; exact IntWalk.i64_in _ (by omega)
            clear hct hb0 hbI
            go_wp2_with fail
            go_roundw
            case rel => exact ⟨_, j + 1, l', rfl, by omega, by go_num, Lib.hid (HTS.out _), HRS⟩
            case measure => simp [intOf]; omega
          · by_cases k2 : k = 2
            · subst k2
              rw [if_neg (by omega), if_pos rfl] at hct
              have hw1 : IntKind.i64.wrap (C0 + m) = C1 := by rw [← hct]; exact IntWalk.i64_in _ (by omega)
              clear hct hb0 hbI k1
              go_upto_region 16 with fail
              go_region
              go_wp2_with fail
              go_roundw
              case rel => exact ⟨_, j + 1, l', rfl, by omega, by go_num, Lib.hid (HTD.out _), Lib.hid HRS.out⟩
              case measure => simp [intOf]; omega
            · by_cases k3 : k = 3
              · subst k3
                rw [if_neg (by omega), if_neg (by omega), if_pos rfl] at hct
                have hw1 : IntKind.i64.wrap (C0 - m) = C1 := by rw [show C0 - m = C1 by omega]; exact IntWalk.i64_in _ (by omega)
                clear hct hb0 hbI k1 k2
                go_upto_region 18 with fail
                go_region
                go_wp2_with fail
                go_roundw
                case rel => exact ⟨_, j + 1, l', rfl, by omega, by go_num, Lib.hid (HTD.out _), Lib.hid HRS.out⟩
                case measure => simp [intOf]; omega
              · rw [if_neg k1, if_neg k2, if_neg k3] at hct
                have HC := Lib.hid (show C1 = C0 by omega)
                have d1 : (k == 1) = false := by simpa using k1
                have d2 : (k == 2) = false := by simpa using k2
                have d3 : (k == 3) = false := by simpa using k3
                clear hct hb0 hbI k1 k2 k3
                go_wp2_with fail
                go_roundw
                case rel => exact ⟨_, j + 1, l', rfl, by omega, by go_num, HT5, Lib.hid (by rw [HSM.out HC.out]; exact HW5.out)⟩
                case measure => simp [intOf]; omega
        · have HSM : Hid (Chk.cnts l' = Chk.cnts l) := Lib.hid (Chk.cnts_same fun k hk => by
            rw [HCS.out.1, Chk.delta, if_neg (fun e => ht (by have := e.2; omega))]; omega)
          obtain ⟨t, htt⟩ : ∃ t, o.t = t := ⟨_, rfl⟩
          rw [htt] at c2 ht
          clear htt
          by_cases h0 : 0 ≤ t
          · have h1 : (15 : Int) < t := by omega
            clear ht
            go_wp2_with fail
            go_roundw
            case rel => exact ⟨_, j + 1, l', rfl, by omega, by go_num, HT5, Lib.hid (by rw [HSM.out]; exact HW5.out)⟩
            case measure => simp [intOf]; omega
          · have h1 : t < 0 := by omega
            clear ht h0
            go_wp2_with fail
            go_roundw
            case rel => exact ⟨_, j + 1, l', rfl, by omega, by go_num, HT5, Lib.hid (by rw [HSM.out]; exact HW5.out)⟩
            case measure => simp [intOf]; omega
      · have HSM : Hid (Chk.cnts l' = Chk.cnts l) := Lib.hid (Chk.cnts_same fun k hk => by
          rw [HCS.out.1, Chk.delta, if_neg (fun e => hE e.1)]; omega)
        have hE0 : (E != 0) = true := by simpa using hE
        clear hE
        go_wp2_with fail
        go_roundw
        case rel => exact ⟨_, j + 1, l', rfl, by omega, by go_num, HT5, Lib.hid (by rw [HSM.out]; exact HW5.out)⟩
        case measure => simp [intOf]; omega
    · obtain rfl : j = n := by omega
      have HCL := Lib.hid (Chk.cnts_len l)
      have HCG := Lib.hid (fun k hk => Chk.cnts_get l (k := k) hk)
      obtain ⟨L16, hL16⟩ : ∃ y, Chk.cnts l = y := ⟨_, rfl⟩
      have hrw := HRW.out
      rw [hL16] at HCL HCG hrw
      have HO16 := Lib.hid (Chk.count_out HT.out.inv (t := 16) (by unfold Chk.tenant Chk.inR; omega))
      have HOM := Lib.hid (Chk.count_out HT.out.inv (t := -1) (by unfold Chk.tenant Chk.inR; omega))
      clear hL16
      go_upto_region 21 with (refine wpList_loadRow rfl _ (.tmp 4) rfl hrw rfl Try.underlying59 (by rw [HCL.out]; exact size16i) ?_)
      try simp only [Act.put, List.setIfInBounds_toArray, List.set_cons_zero, List.set_cons_succ]
      clear hrw
      go_loopw [74] (fun u74 wx => ∃ (wi : World) (i : Nat), wi = wx ∧ i ≤ 16 ∧ u74 = .int .i64 (i : Int) ∧ Hid (TabG w wi a l (fun b => b = bw))) (fun u74 _ => 16 - (intOf u74).toNat)
      case atStart => exact ⟨_, 0, rfl, by omega, rfl, HT⟩
      case round =>
        obtain ⟨wi, i, rfl, hi, rfl, HTI⟩ := hrel
        by_cases hil : i < 16
        · have hix := fun W => run_indexArr (P := Try.prog) 59 3 16 .i64 Try.underlying59 Try.underlying3 sizeI1 W L16.toArray .i64 i hil _ (by rw [List.getElem?_toArray]; exact HCG.out i hil)
          have HCO := Lib.hid (fun W hW => (HTI.out.below (w' := W) hW).count_ (i : Int) _ rfl)
          obtain ⟨v, hv⟩ : ∃ v, Chk.count l (i : Int) = v := ⟨_, rfl⟩
          rw [hv] at HCO
          simp only [hv] at hix
          have i1 : (i : Int) < 16 := by omega
          clear hv
          go_wp2_with (go_at_call 25; refine (HCO.out _ (Below.refl _ _)).mono ?_; rintro e w6 ⟨rfl, b6⟩)
          go_roundw
          case rel => exact ⟨_, i + 1, rfl, by omega, by go_num, Lib.hid (HTI.out.below b6)⟩
          case measure => simp [intOf]; omega
        · obtain rfl : i = 16 := by omega
          have HC1 := Lib.hid (fun W hW => (HTI.out.below (w' := W) hW).count_ 16 0 HO16.out)
          have HC2 := Lib.hid (fun W hW => (HTI.out.below (w' := W) hW).count_ (-1) 0 HOM.out)
          go_wp2_with (first
            | (go_at_call 12; refine (HSN.out _).mono ?_; rintro e w7 ⟨rfl, b7⟩)
            | (have tok := b8; go_at_call 25; refine (HC2.out _ (b7.trans (b8.mono b7.size))).mono ?_; rintro e w9 ⟨rfl, b9⟩)
            | (go_at_call 25; refine (HC1.out _ b7).mono ?_; rintro e w8 ⟨rfl, b8⟩))
          go_ret
          have hb := HTI.out.b
          have q8 := b7.trans (b8.mono b7.size)
          have q9 := q8.trans (b9.mono q8.size)
          exact ⟨rfl, hb.trans (q9.mono hb.size)⟩
end Go.Proofs.Ytcicfneekmbamaa
