/- The walk of the statement IndexPlays: it returns true. Conditions: none beyond what the arguments are. -/
import Derived.Test.YtnehbcopbioenaaILawInc
namespace Go.Proofs.Ytnehbcopbioenaa
set_option linter.unusedVariables false
set_option linter.unusedSimpArgs false
open Go.RowKit Go.ChangeMaps

/-- the program's index and the reference's, and a copy of each -/
structure St (w : World) (bx bm br ax am ar : Nat) (cap : Int) (Lx Ly La : List (Int × Int)) : Prop where
  x : HoldsIx w bx bm cap Lx
  y : RefAt w br cap Ly
  a : HoldsIx w ax am cap La
  b : RefAt w ar cap La
  ne : ax ≠ bx ∧ ax ≠ bm ∧ am ≠ bx ∧ am ≠ bm ∧ ar ≠ br
section
variable {w w' : World} {bx bm br ax am ar : Nat} {cap : Int} {Lx Ly La L' : List (Int × Int)}
theorem RefAt.refOther {cap' : Int} (h : RefAt w ar cap La) (h' : RefAt w br cap' Ly) (hk : Keep (fun k => k = br) w w') (hne : ar ≠ br) : RefAt w' ar cap La := by
  refine h.keep hk hne ?_
  rintro g cs m hg rfl
  obtain ⟨A, c, hb, _⟩ := h'
  rw [hg] at hb; cases hb
theorem St.xop (h : St w bx bm br ax am ar cap Lx Ly La) (hk : Keep (fun k => k = bx ∨ k = bm) w w') (hx : HoldsIx w' bx bm cap L') : St w' bx bm br ax am ar cap L' Ly La :=
  ⟨hx, h.y.prog h.x hk, h.a.keep hk (fun q => by rcases q with q | q; exact h.ne.1 q; exact h.ne.2.1 q) (fun q => by rcases q with q | q; exact h.ne.2.2.1 q; exact h.ne.2.2.2.1 q), h.b.prog h.x hk, h.ne⟩
theorem St.yop (h : St w bx bm br ax am ar cap Lx Ly La) (hk : Keep (fun k => k = br) w w') (hy : RefAt w' br cap L') : St w' bx bm br ax am ar cap Lx L' La :=
  ⟨h.x.ref h.y hk, hy, h.a.ref h.y hk, h.b.refOther h.y hk h.ne.2.2.2.2, h.ne⟩
theorem St.below (h : St w bx bm br ax am ar cap Lx Ly La) (hb : Below w.heap.size w w') : St w' bx bm br ax am ar cap Lx Ly La :=
  ⟨h.x.below hb h.x.lt.1 h.x.lt.2, h.y.below hb, h.a.below hb h.a.lt.1 h.a.lt.2, h.b.below hb, h.ne⟩
theorem St.drew (h : St w bx bm br ax am ar cap Lx Ly La) : St w.drew bx bm br ax am ar cap Lx Ly La := h.below (Below.refl _ _).drew
theorem St.drewN (h : St w bx bm br ax am ar cap Lx Ly La) (n : Nat) : St (w.drewN n) bx bm br ax am ar cap Lx Ly La := h.below (below_of_drewN _ _ _)
end
def opCells (o : IOp) : Array Value := #[.bool o.1, .int .u32 o.2.1, .int .i64 o.2.2]

set_option maxRecDepth 100000 in
set_option maxHeartbeats 6400000 in
theorem lawPlays (cap : Int) (A : Option Addr) (n c : Nat) (os : List IOp) (hn : os.length = n) (hnc : n ≤ c) (hc : c ≤ 140737488355328) (hok : OpsOk os) (t : Int) (ht0 : 0 ≤ t) (ht1 : t ≤ 255) (w : World) (hr : Rd w w.heap.size 3 A n (ovs os)) :
    Calls Try.prog 6 #[.int .i64 cap, .slice A n c, .int .u8 t] w fun e w' => e = .returned (.bool true) ∧ Below w.heap.size w w' := by
  by_cases hn80 : 80 < n
  · have hn' : (80 : Int) < n := by omega
    go_enter Try.func6, Try.ntmps6
    go_wp2_with (go_at_call 9; refine (sanity_any _).mono ?_; rintro e w1 ⟨rfl, b1⟩)
    go_ret
    exact ⟨rfl, b1⟩
  have hn' : ¬ (80 : Int) < n := by omega
  by_cases hv1 : cap < 1 ∨ 4096 < cap
  · go_enter Try.func6, Try.ntmps6
    go_wp2_with (go_at_call 9; refine (sanity_any _).mono ?_; rintro e w1 ⟨rfl, b1⟩)
    refine (new_bad cap hv1 _).mono ?_
    rintro e w2 ⟨rfl, rfl⟩
    go_wp2_with fail
    refine (refNew_bad cap hv1 _).mono ?_
    rintro e w2 ⟨rfl, rfl⟩
    go_wp2_with fail
    go_ret
    exact ⟨rfl, b1⟩
  have HN := Lib.hid hn
  have HOK := Lib.hid hok
  clear hn hok
  go_enter Try.func6, Try.ntmps6
  go_wp2_with (go_at_call 9; refine (sanity_any _).mono ?_; rintro e w1 ⟨rfl, b1⟩)
  refine (new_holds cap (by omega) (by omega) _).mono ?_
  rintro e w2 ⟨bx, bm, rfl, hx2, hbx, hbm, b2⟩
  have b2' := b1.trans (b2.mono b1.size)
  have hs1 := b1.size
  go_wp2_with fail
  refine (refNew_any cap (by omega) (by omega) _).mono ?_
  rintro e w3 ⟨br, rfl, hy3, hbr, b3⟩
  have b3' := b2'.trans (b3.mono b2'.size)
  have hx3 := hx2.below b3 hx2.lt.1 hx2.lt.2
  have hs2 := b2'.size
  clear b1 b2 b3 b2' hx2
  go_wp2_with fail
  refine (clone_any bx bm cap [] (by omega) (by omega) (by simp; omega) (by simp) _ hx3).mono ?_
  rintro e w4 ⟨ax, am, rfl, ha4, hax, ham, b4⟩
  have b4' := b3'.trans (b4.mono b3'.size)
  have hlx := hx3.lt
  have hx4 := hx3.below b4 hlx.1 hlx.2
  have hy4 := hy3.below b4
  have hyl := hy3.lt
  clear hx3 hy3 b4
  go_wp2_with fail
  refine (refClone_any br cap [] (by simp) _ hy4).mono ?_
  rintro e w5 ⟨ar, rfl, hb5, har, b5⟩
  have b5' := b4'.trans (b5.mono b4'.size)
  have hst : St w5 bx bm br ax am ar cap [] [] [] := ⟨hx4.below b5 hx4.lt.1 hx4.lt.2, hy4.below b5, ha4.below b5 ha4.lt.1 ha4.lt.2, hb5, by omega, by omega, by omega, by omega, by have := hy4.lt; omega⟩
  clear hx4 hy4 ha4 hb5 b5 b3' b4'
  go_wp2_with fail
  go_loopw [12, 13, 14] (fun u12 u13 u14 wr => ∃ (k ax am ar : Nat) (La : List (Int × Int)), k ≤ n ∧ u14 = .int .i64 k ∧ u12 = .pointer (some ⟨ax, 0, none⟩) ∧ u13 = .pointer (some ⟨ar, 0, none⟩) ∧
      St wr bx bm br ax am ar cap (playL cap (os.take k)) (playL cap (os.take k)) La ∧ (La.length : Int) ≤ cap ∧ Below w.heap.size w wr) (fun _ _ u _ => n - (intOf u).toNat)
  case atStart => exact ⟨0, ax, am, ar, [], by omega, rfl, rfl, rfl, by simpa [playL] using hst, by simp; omega, b5'⟩
  case round =>
    clear hst b5'
    obtain ⟨k, ax, am, ar, La, hk, rfl, rfl, rfl, hst, hLa, hbel⟩ := hrel
    have hI := Inv.play (cap := cap) (by omega) (os := os.take k) (fun o ho => HOK.out o (List.mem_of_mem_take ho))
    by_cases hlt : k < n
    · obtain ⟨bb, off, rfl, hb, hc0, hc1, hc2⟩ := ov_cells (hr.below hbel) (k := k) (by rw [HN.out]; exact hlt) hlt
      have HT := Lib.hid (List.take_succ_eq_append_getElem (show k < os.length by rw [HN.out]; exact hlt))
      have HO := Lib.hid (HOK.out _ (List.getElem_mem (show k < os.length by rw [HN.out]; exact hlt)))
      obtain ⟨o, ho⟩ : ∃ o, os[k]'(by rw [HN.out]; exact hlt) = o := ⟨_, rfl⟩
      rw [ho] at hc0 hc1 hc2 HT HO
      have HS : Hid (playL cap (os.take (k + 1)) = stepL cap (playL cap (os.take k)) o) := by show _ = _; rw [HT.out, playL_snoc]
      clear ho HT
      obtain ⟨L, hL⟩ : ∃ L, playL cap (os.take k) = L := ⟨_, rfl⟩
      rw [hL] at HS hst hI
      clear hL
      obtain ⟨d, p, ch⟩ := o
      simp only at hc0 hc1 hc2
      have HI := Lib.hid hI
      have hll := hI.len
      clear hI
      have hk0 : (0 : Int) ≤ k := by omega
      have hk1 : (k : Int) < n := by omega
      have hltx := hst.x.lt
      have hlty := hst.y.lt
      go_upto_if 71 with fail
      have hst0 := hst.below ((Below.refl _ wr).alloc (Nat.le_refl _) (.cells #[.bool d, .int .u32 p, .int .i64 ch] 34))
      have hbl0 := hbel.alloc hbel.size (.cells #[.bool d, .int .u32 p, .int .i64 ch] 34)
      have HK0 : Hid ((wr.alloc (.cells #[.bool d, .int .u32 p, .int .i64 ch] 34)).heap[wr.heap.size]? = some (.cells #[.bool d, .int .u32 p, .int .i64 ch] 34)) := heap_alloc_new wr _
      have hzs : wr.heap.size < (wr.alloc (.cells #[.bool d, .int .u32 p, .int .i64 ch] 34)).heap.size := by simp
      clear hst hbel hc0 hc1 hc2
      go_cut [12, 13] (fun u12 u13 wx => ∃ (ax am ar : Nat) (La : List (Int × Int)), u12 = .pointer (some ⟨ax, 0, none⟩) ∧ u13 = .pointer (some ⟨ar, 0, none⟩) ∧ St wx bx bm br ax am ar cap L L La ∧ (La.length : Int) ≤ cap ∧ Below w.heap.size w wx ∧
        wx.heap[wr.heap.size]? = some (.cells #[.bool d, .int .u32 p, .int .i64 ch] 34) ∧ wr.heap.size < wx.heap.size)
      case first =>
        generalize hW0 : wr.alloc (.cells #[.bool d, .int .u32 p, .int .i64 ch] 34) = W0 at *
        clear hW0
        by_cases hkt : (k : Int) = t
        · have hkt' : ((k : Int) == t) = true := by simpa using hkt
          clear hkt
          have hcl := clone_any bx bm cap L (by omega) (by omega) hll HI.out.chunk W0 hst0.x
          go_wp2_with fail
          refine hcl.mono ?_
          rintro e w6 ⟨ax', am', rfl, ha6, hax', ham', b6⟩
          have hst6 := hst0.below b6
          have hxl := hst0.x.lt
          have hyl := hst0.y.lt
          have hb6 := (b6.block _ hzs).trans HK0.out
          have hbl6 := hbl0.trans (b6.mono hbl0.size)
          have hz6 : wr.heap.size < w6.heap.size := by have := b6.size; omega
          have hrc := refClone_any br cap L (by omega) w6 hst6.y
          have HK6 := Lib.hid hb6
          clear hcl b6 hst0 hbl0 HK0 hb6
          go_wp2_with fail
          refine hrc.mono ?_
          rintro e w7 ⟨ar', rfl, hb7, har', b7⟩
          have hst7 := hst6.below b7
          have hyl6 := hst6.y.lt
          have ha7 := ha6.below b7 ha6.lt.1 ha6.lt.2
          go_wp2_with fail
          go_meet
          exact ⟨ax', am', ar', L, rfl, rfl, ⟨hst7.x, hst7.y, ha7, hb7, by omega, by omega, by omega, by omega, by omega⟩, hll, hbl6.trans (b7.mono hbl6.size), (b7.block _ hz6).trans HK6.out, by have := b7.size; omega⟩
        · have hkt' : ((k : Int) == t) = false := by simpa using hkt
          clear hkt
          go_wp2_with fail
          go_meet
          exact ⟨ax, am, ar, La, rfl, rfl, hst0, hLa, hbl0, HK0.out, hzs⟩
      case rest =>
        clear hst0 hbl0 HK0 hzs
        obtain ⟨ax, am, ar, La, rfl, rfl, hst, hLa, hbel, hblk, hzs⟩ := hcut
        have hz0 : wc.cell? ⟨wr.heap.size, 0, none⟩ = some (.bool d) := by rw [cell_of_row _ _ _ _ _ _ hblk]; rfl
        have hz1 : wc.cell? ⟨wr.heap.size, 1, none⟩ = some (.int .u32 p) := by rw [cell_of_row _ _ _ _ _ _ hblk]; rfl
        have hz2 : wc.cell? ⟨wr.heap.size, 2, none⟩ = some (.int .i64 ch) := by rw [cell_of_row _ _ _ _ _ _ hblk]; rfl
        have HK := Lib.hid hblk
        clear hblk
        obtain ⟨L', hL'⟩ : ∃ L', stepL cap L (d, p, ch) = L' := ⟨_, rfl⟩
        have HSL := Lib.hid hL'
        clear hL'
        have HI' : Hid (Inv cap L') := by show Inv cap L'; rw [← HSL.out]; exact HI.out.step (by omega) ⟨HO.out.1, HO.out.2.1⟩
        go_upto_if 77 with fail
        go_cut [] (fun wx => St wx bx bm br ax am ar cap L' L' La ∧ Below w.heap.size w wx ∧
          wx.heap[wr.heap.size]? = some (.cells #[.bool d, .int .u32 p, .int .i64 ch] 34) ∧ wr.heap.size < wx.heap.size)
        case first =>
          cases d with
          | true =>
            have HLR : Hid (L' = del ch L) := by show _ = _; rw [← HSL.out]; rfl
            obtain ⟨S, hS⟩ : ∃ S, decide (ch ∈ L.map (·.2)) = S := ⟨_, rfl⟩
            have HP1 := Lib.hid (drop_holds bx bm cap L ch)
            have HP2 := Lib.hid (refDrop_any ch br cap L (by omega))
            rw [hS] at HP1 HP2
            clear hS
            have hz2d : wc.drew.cell? ⟨wr.heap.size, 2, none⟩ = some (.int .i64 ch) := hz2
            have hstd := hst.drew
            have hzsd : wr.heap.size < wc.drew.heap.size := hzs
            have HKd : Hid (wc.drew.heap[wr.heap.size]? = some (.cells #[.bool true, .int .u32 p, .int .i64 ch] 34)) := HK.out
            have hbeld : Below w.heap.size w wc.drew := hbel.drew
            go_wp2_with fail
            go_region_held3 (fun w' => w'.cell? ⟨wr.heap.size, 2, none⟩ = some (.int .i64 ch)) (first | assumption) (first
              | (go_at_call 16; refine (HP1.out _ hstd.x).mono ?_; rintro e w6 ⟨rfl, hx6, k6⟩; have hst6 := hstd.xop k6 hx6; have hb6 := (k6.block _ hzsd (by omega)).trans HKd.out; have hbl6 := Below.then_keep hbeld k6 (fun k hk => by rcases hk with hk | hk <;> omega) (Nat.le_refl _); have hz6 : wr.heap.size < w6.heap.size := (by have := k6.size; omega); have hy2 : w6.cell? ⟨wr.heap.size, 2, none⟩ = some (.int .i64 ch) := (by rw [cell_of_row _ _ _ _ _ _ hb6]; rfl); have HK6 := Lib.hid hb6; clear hb6)
              | (go_at_call 22; refine (HP2.out _ hst6.y).mono ?_; rintro e w7 ⟨rfl, hy7, k7⟩; have hst7 := hst6.yop k7 hy7; have hb7 := (k7.block _ hz6 (by omega)).trans HK6.out; have hy3 : w7.cell? ⟨wr.heap.size, 2, none⟩ = some (.int .i64 ch) := (by rw [cell_of_row _ _ _ _ _ _ hb7]; rfl)))
            cases S
            all_goals
              go_wp2_with fail
              go_meet
              exact ⟨by rw [HLR.out]; exact hst7, Below.then_keep hbl6 k7 (fun k hk => by subst hk; omega) (Nat.le_refl _), hb7, by have := k7.size; omega⟩
          | false =>
            have hp1 := put_step bx bm cap L p ch (by omega) wc hst.x
            obtain ⟨R, hR⟩ : ∃ R, putR cap L p ch = R := ⟨_, rfl⟩
            have HLR : Hid (L' = R.1) := by show _ = _; rw [← HSL.out, ← hR]; rfl
            have HR := Lib.hid hR
            rw [hR] at hp1
            clear hR
            go_wp2_with fail
            refine hp1.mono ?_
            rintro e w6 ⟨rfl, hx6, k6⟩
            rw [← HLR.out] at hx6
            have hst6 := hst.xop k6 hx6
            have hb6 := (k6.block _ hzs (by omega)).trans HK.out
            have hbl6 := Below.then_keep hbel k6 (fun k hk => by rcases hk with hk | hk <;> omega) (Nat.le_refl _)
            have hz6 : wr.heap.size < w6.heap.size := by have := k6.size; omega
            have hp2 := refPut_step br cap L p ch (by omega) (by omega) w6 hst6.y
            rw [HR.out] at hp2
            have hy1 : w6.cell? ⟨wr.heap.size, 1, none⟩ = some (.int .u32 p) := by rw [cell_of_row _ _ _ _ _ _ hb6]; rfl
            have hy2 : w6.cell? ⟨wr.heap.size, 2, none⟩ = some (.int .i64 ch) := by rw [cell_of_row _ _ _ _ _ _ hb6]; rfl
            have HK6 := Lib.hid hb6
            clear hp1 hst hbel HK hb6 hx6 k6 hz0 hz1 hz2
            go_wp2_with fail
            refine hp2.mono ?_
            rintro e w7 ⟨rfl, hy7, k7⟩
            rw [← HLR.out] at hy7
            have hst7 := hst6.yop k7 hy7
            go_wp2_with fail
            go_meet
            exact ⟨hst7, Below.then_keep hbl6 k7 (fun k hk => by subst hk; omega) (Nat.le_refl _), (k7.block _ hz6 (by omega)).trans HK6.out, by have := k7.size; omega⟩
        case rest =>
          have HSF := HSL
          clear hst hbel HK hzs hz0 hz1 hz2 HI HSL HO hll
          obtain ⟨hst, hbel, hblk, hzs⟩ := hcut
          have hz1 : wc.cell? ⟨wr.heap.size, 1, none⟩ = some (.int .u32 p) := by rw [cell_of_row _ _ _ _ _ _ hblk]; rfl
          have HK := Lib.hid hblk
          clear hblk
          obtain ⟨F, hF⟩ : ∃ F, findL p L' = F := ⟨_, rfl⟩
          have hle := findL_le p L'
          have hll' := HI'.out.len
          rw [hF] at hle
          obtain ⟨f, hf⟩ : ∃ f, F.length = f := ⟨_, rfl⟩
          obtain ⟨l, hl⟩ : ∃ l, L'.length = l := ⟨_, rfl⟩
          rw [hf, hl] at hle
          rw [hl] at hll'
          have HF1 := Lib.hid (find_holds p bx bm cap L' (by omega))
          have HF2 := Lib.hid (refFind_any p br cap L' (by omega))
          rw [hF, hf] at HF1 HF2
          have HFL := Lib.hid hf
          have HL := Lib.hid hl
          have HA1 := Lib.hid (all_holds bx bm cap L' (by omega))
          have HA2 := Lib.hid (fun w => @refAll_any w br cap L' (by omega))
          rw [hl] at HA1 HA2
          clear hF hf hl
          have hz1d : wc.drew.cell? ⟨wr.heap.size, 1, none⟩ = some (.int .u32 p) := hz1
          have hstd := hst.drew
          have hzsd : wr.heap.size < wc.drew.heap.size := hzs
          have hbeld : Below w.heap.size w wc.drew := hbel.drew
          go_wp2_with fail
          go_upto_region 22 with fail
          go_cut [20] (fun u wx => u = .bool true ∧ St wx bx bm br ax am ar cap L' L' La ∧ Below w.heap.size w wx)
          case first =>
            go_region_held3 (fun w' => w'.cell? ⟨wr.heap.size, 1, none⟩ = some (.int .u32 p)) (first | assumption) (first
              | (go_at_call 13; refine (HF1.out _ hstd.x).mono ?_; rintro e w6 ⟨A6, c6, rfl, own6, b6⟩; have hst6 := hstd.below b6; have hy1 := (b6.cell (p := ⟨wr.heap.size, 1, none⟩) hzsd).trans hz1d; have hz6 : wr.heap.size < w6.heap.size := (by have := b6.size; omega); have rd6 := Rd.of_own own6; have hbl6 := hbeld.trans (b6.mono hbeld.size))
              | (go_at_call 24; refine (HF2.out _ hst6.y).mono ?_; rintro e w7 ⟨A7, c7, rfl, own7, b7⟩; have hst7 := hst6.below b7; have hy3 := (b7.cell (p := ⟨wr.heap.size, 1, none⟩) hz6).trans hy1; have rd7 := Rd.of_own own7; have rd67 := rd6.below b7; have hbl7 := hbl6.trans (b7.mono hbl6.size))
              | (go_at_call 14; refine (sameInts_len A6 A7 c6 c7 f f F F _ HFL.out HFL.out (by unfold maxLen; omega) _ _ rd67 rd7 true (by simp)).mono ?_; rintro e w8 ⟨rfl, n8, hw8⟩; have hst8 : St w8 bx bm br ax am ar cap L' L' La := (by rw [hw8]; exact hst7.drewN n8); have hbl8 : Below w.heap.size w w8 := (by rw [hw8]; exact below_drewN hbl7 _); have hy4 : w8.cell? ⟨wr.heap.size, 1, none⟩ = some (.int .u32 p) := (by rw [hw8]; exact hy3); clear hw8))
            go_wp2_with fail
            go_meet
            exact ⟨rfl, hst8, hbl8⟩
          case rest =>
            clear hst hbel HK hzs hz1 hz1d hstd hzsd hbeld HF1 HF2
            obtain ⟨rfl, hst, hbel⟩ := hcut
            go_wp2_with fail
            refine (HA1.out _ hst.x).mono ?_
            rintro e w6 ⟨A6, c6, rfl, own6, b6⟩
            have hst6 := hst.below b6
            have rd6 := Rd.of_own own6
            have hbl6 := hbel.trans (b6.mono hbel.size)
            clear HA1 hst hbel own6
            go_wp2_with fail
            refine (HA2.out _ hst6.y).mono ?_
            rintro e w7 ⟨A7, c7, rfl, own7, b7⟩
            have hst7 := hst6.below b7
            have rd7 := Rd.of_own own7
            have rd67 := rd6.below b7
            have hbl7 := hbl6.trans (b7.mono hbl6.size)
            clear HA2 hst6 hbl6 own7 rd6 b6 b7
            go_wp2_with fail
            refine (refSame_len A6 A7 c6 c7 l l L' L' _ HL.out HL.out (by unfold maxLen; omega) _ _ rd67 rd7 true (by simp)).mono ?_
            rintro e w8 ⟨rfl, n8, hw8⟩
            have hst8 : St w8 bx bm br ax am ar cap L' L' La := by rw [hw8]; exact hst7.drewN n8
            have hbl8 : Below w.heap.size w w8 := by rw [hw8]; exact below_drewN hbl7 _
            clear hw8 hst7 hbl7 rd67 rd7
            have hq1 := len_holds bx bm cap L' w8 hst8.x
            have hq2 := refLen_any hst8.y
            rw [HL.out] at hq1 hq2
            go_wp2_with (first
              | (go_at_call 26; refine hq1.mono ?_; rintro e w9 ⟨rfl, rfl⟩)
              | (go_at_call 27; refine hq2.mono ?_; rintro e w9 ⟨rfl, rfl⟩)
              | (go_at_call 28; refine (cap_holds bx bm cap L' w8 hst8.x).mono ?_; rintro e w9 ⟨rfl, rfl⟩)
              | (go_at_call 29; refine (refCap_any hst8.y).mono ?_; rintro e w9 ⟨rfl, rfl⟩))
            clear hq1 hq2
            go_roundw
            case rel => exact ⟨k + 1, ax, am, ar, La, by omega, by go_num, rfl, rfl, by rw [HS.out, HSF.out]; exact hst8, hLa, hbl8⟩
            case measure => simp [intOf]; omega
    · have hk1 : ¬ (k : Int) < n := by omega
      clear hI
      obtain ⟨l, hl⟩ : ∃ l, La.length = l := ⟨_, rfl⟩
      rw [hl] at hLa
      have HL := Lib.hid hl
      have HA1 := Lib.hid (all_holds ax am cap La (by omega))
      have HA2 := Lib.hid (fun w => @refAll_any w ar cap La (by omega))
      rw [hl] at HA1 HA2
      clear hl
      go_wp2_with fail
      refine (HA1.out _ hst.a).mono ?_
      rintro e w6 ⟨A6, c6, rfl, own6, b6⟩
      have hst6 := hst.below b6
      have rd6 := Rd.of_own own6
      have hbl6 := hbel.trans (b6.mono hbel.size)
      clear HA1 hst hbel own6
      go_wp2_with fail
      refine (HA2.out _ hst6.b).mono ?_
      rintro e w7 ⟨A7, c7, rfl, own7, b7⟩
      have hst7 := hst6.below b7
      have rd7 := Rd.of_own own7
      have rd67 := rd6.below b7
      have hbl7 := hbl6.trans (b7.mono hbl6.size)
      clear HA2 hst6 hbl6 own7 rd6 b6 b7
      go_wp2_with fail
      refine (refSame_len A6 A7 c6 c7 l l La La _ HL.out HL.out (by unfold maxLen; omega) _ _ rd67 rd7 true (by simp)).mono ?_
      rintro e w8 ⟨rfl, n8, hw8⟩
      have ha8 := (hst7.drewN n8).a
      have hb8 := (hst7.drewN n8).b
      have hbl8 : Below w.heap.size w w8 := by rw [hw8]; exact below_drewN hbl7 _
      rw [← hw8] at ha8 hb8
      clear hw8 hst7 hbl7 rd67 rd7
      go_wp2_with (first
        | (go_at_call 28; refine (cap_holds ax am cap La w8 ha8).mono ?_; rintro e w9 ⟨rfl, rfl⟩)
        | (go_at_call 29; refine (refCap_any hb8).mono ?_; rintro e w9 ⟨rfl, rfl⟩))
      go_ret
      exact ⟨rfl, hbl8⟩
end Go.Proofs.Ytnehbcopbioenaa
