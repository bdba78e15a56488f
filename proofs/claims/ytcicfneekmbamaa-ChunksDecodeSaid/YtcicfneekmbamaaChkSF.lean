/- The program's decoder: what lies in memory while a chunk is read; total at any counts that are not negative. Conditions: as each says. -/
import Derived.Test.YtcicfneekmbamaaChkSD
import Derived.Test.YtcicfneekmbamaaChkSE
namespace Go.Proofs.Ytcicfneekmbamaa
set_option linter.unusedVariables false
set_option linter.unusedSimpArgs false
open Go.RowKit
theorem Chk.total_nonneg0 {l : List Rf} (h : ∀ r ∈ l, 0 ≤ r.n) : 0 ≤ Chk.total l := by
  induction l with
  | nil => exact Int.le_refl _
  | cons r l ih => rw [Chk.total]; have := h r (List.mem_cons_self ..); have := ih fun x hx => h x (List.mem_cons_of_mem _ hx); omega
set_option maxHeartbeats 1600000 in
theorem total0_any (A : Option Addr) (n c : Nat) (l : List Chk.Rf) (hl : l.length = n) (hn : n ≤ 65536) (hp : ∀ r ∈ l, 0 ≤ r.n) (ht : Chk.total l ≤ Chk.most) (B : Nat) (w : World) (hr : Rd w B 2 A n (rfs l)) (hB : B ≤ w.heap.size) :
    Calls Try.prog 73 #[.slice A n c] w fun e w' => e = .returned (.int .i64 (Chk.total l)) ∧ Below w.heap.size w w' := by
  have HL := Lib.hid (And.intro hl (And.intro hp ht))
  have HR := Lib.hid hr
  clear hl hp ht hr
  go_enter Try.func73, Try.ntmps73
  go_upto_region 3 with fail
  go_loopw [3, 8] (fun u3 u8 wr => ∃ j : Nat, j ≤ n ∧ u8 = .int .i64 (j : Int) ∧ u3 = .int .i64 (Chk.total (l.take j)) ∧ Hid (Below w.heap.size w wr)) (fun _ u8 _ => n - (intOf u8).toNat)
  case atStart => exact ⟨0, Nat.zero_le _, rfl, rfl, Lib.hid (Below.refl _ _)⟩
  case round =>
    obtain ⟨j, hj, rfl, rfl, HB⟩ := hrel
    obtain ⟨hl, hp, ht⟩ := HL.out
    by_cases hlt : j < n
    · have hjl : j < l.length := by omega
      obtain ⟨b, off, rfl, hb, hrg⟩ := HR.out.elem (f := rfCells) (fun _ _ => rfl) hjl hlt
      have ht1 := total_take l hjl
      have hsub : ∀ i, Chk.total (l.take i) ≤ Chk.total l ∧ 0 ≤ Chk.total (l.take i) := fun i => by
        have h1 := Chk.total_app (l.take i) (l.drop i)
        rw [List.take_append_drop] at h1
        have h2 := Chk.total_nonneg0 (l := l.drop i) fun r hr => hp r (List.mem_of_mem_drop hr)
        have h3 := Chk.total_nonneg0 (l := l.take i) fun r hr => hp r (List.mem_of_mem_take hr)
        omega
      have hs0 := hsub j
      have hs1 := hsub (j + 1)
      obtain ⟨r, hr2⟩ : ∃ r, l.getD j ⟨0, 0⟩ = r := ⟨_, rfl⟩
      have hrw : l[j] = r := by rw [← hr2, List.getD, List.getElem?_eq_getElem hjl]; rfl
      rw [hrw] at hrg
      rw [hr2] at ht1
      have k0 : wr.cell? ⟨b, off + j * 2, none⟩ = some (.int .i64 r.t) := (HB.out.cell (p := ⟨b, off + j * 2, none⟩) (show b < w.heap.size by omega)).trans (hrg 0 _ rfl)
      have k1 : wr.cell? ⟨b, off + j * 2 + 1, none⟩ = some (.int .i64 r.n) := (HB.out.cell (p := ⟨b, off + j * 2 + 1, none⟩) (show b < w.heap.size by omega)).trans (hrg 1 _ rfl)
      obtain ⟨T0, hT0⟩ : ∃ x, Chk.total (l.take j) = x := ⟨_, rfl⟩
      obtain ⟨T1, hT1⟩ : ∃ x, Chk.total (l.take (j + 1)) = x := ⟨_, rfl⟩
      rw [hT0] at ht1 hs0
      rw [hT1] at ht1 hs1
      try rw [hT0]
      have e1 : (0 : Int) ≤ (j : Int) := by omega
      have e2 : (j : Int) < (n : Int) := by omega
      have e3 : IntKind.i64.wrap (T0 + r.n) = T1 := by rw [← ht1]; exact IntWalk.i64_in _ (by have : Chk.most = 2147483647 := rfl; omega)
      have HT1 := Lib.hid hT1
      clear hrw hr2 hrg hsub hs0 hs1 ht1 hT0 hT1 hl hp ht hjl hb
      go_wp2_with fail
      go_roundw
      case rel => exact ⟨j + 1, by omega, by go_num, by rw [HT1.out], Lib.hid (HB.out.alloc HB.out.size _)⟩
      case measure => simp [intOf]; omega
    · obtain rfl : j = n := by omega
      have HE : Hid (Chk.total (l.take j) = Chk.total l) := Lib.hid (by rw [List.take_of_length_le (by omega)])
      clear hl hp ht
      go_wp2_with fail
      go_ret
      exact ⟨by rw [HE.out]; rfl, HB.out⟩
/-- what lies in memory while the program reads a chunk: bc the chunk (its cells C), br the result, the reader, the map of the units -/
structure PSt (w : World) (rb B m bc br : Nat) (C : List Value) (s : Chk.Rdr) (M : Chk.Un → Option Value) (W : World) : Prop where
  row : IsRow W bc 45 C
  res : IsRow W br 45 zCk
  rd : RdrAt W 100 rb B s
  mp : ∃ N, MapIs W m unV M N
  kp : Keep (fun q => q = rb ∨ q = m) w W
  o : rb ≠ m ∧ rb < w.heap.size ∧ m < w.heap.size ∧ w.heap.size ≤ br ∧ br < bc ∧ B ≤ rb ∧ B ≤ m
section
variable {w W W' : World} {rb B m bc br : Nat} {C : List Value} {s s' : Chk.Rdr} {M : Chk.Un → Option Value}
theorem PSt.read (h : PSt w rb B m bc br C s M W) (hs : RdrAt W' 100 rb B s') (hk : Keep (fun q => q = rb) W W') : PSt w rb B m bc br C s' M W' := by
  obtain ⟨o1, o2, o3, o4, o5, o6, o7⟩ := h.o
  obtain ⟨N, hN⟩ := h.mp
  exact ⟨h.row.keep (hk.block bc h.row.lt (by omega)), h.res.keep (hk.block br h.res.lt (by omega)), hs, ⟨N, hN.keep hk (fun e => o1 e.symm)⟩, h.kp.then hk (fun k e => .inl (.inl e)), h.o⟩
theorem PSt.put (h : PSt w rb B m bc br C s M W) (j : Nat) (v : Value) : PSt w rb B m bc br (C.set j v) s M (W.setCell ⟨bc, j, none⟩ v) := by
  obtain ⟨o1, o2, o3, o4, o5, o6, o7⟩ := h.o
  obtain ⟨N, hN⟩ := h.mp
  have hk : Keep (fun q => q = bc) W (W.setCell ⟨bc, j, none⟩ v) := setE_keep W bc j v
  exact ⟨h.row.set j v, h.res.setOther (p := ⟨bc, j, none⟩) (by show bc ≠ br; omega) v, h.rd.keep hk (by show ¬ rb = bc; omega) (fun k hk => by show ¬ k = bc; omega), ⟨N, hN.setCell (a := ⟨bc, j, none⟩) (by show m ≠ bc; omega) v⟩, h.kp.then hk (fun k e => .inr (by omega)), h.o⟩
theorem PSt.turn {M' : Chk.Un → Option Value} {N' : Nat} (h : PSt w rb B m bc br C s M W) (hm : MapIs W' m unV M' N') (ht : W.mapTurned W' m) : PSt w rb B m bc br C s M' W' := by
  obtain ⟨o1, o2, o3, o4, o5, o6, o7⟩ := h.o
  have hk : Keep (fun q => q = m) W W' := (Keep.refl _ _).turned ht (.inl rfl)
  exact ⟨h.row.keep (hk.block bc h.row.lt (by omega)), h.res.keep (hk.block br h.res.lt (by omega)), h.rd.keep hk (by show ¬ rb = m; omega) (fun k hk => by show ¬ k = m; omega), ⟨N', hm⟩, h.kp.then hk (fun k e => .inl (.inr e)), h.o⟩
theorem PSt.below (h : PSt w rb B m bc br C s M W) (hb : Below W.heap.size W W') : PSt w rb B m bc br C s M W' := by
  obtain ⟨N, hN⟩ := h.mp
  exact ⟨h.row.below' hb, h.res.below' hb, h.rd.below hb, ⟨N, hN.below hb hN.lt⟩, h.kp.trans (Keep.of_below hb), h.o⟩
theorem PSt.lt (h : PSt w rb B m bc br C s M W) : rb < W.heap.size ∧ m < W.heap.size ∧ br < W.heap.size ∧ bc < W.heap.size := ⟨h.rd.lt, h.mp.elim fun _ h => h.lt, h.res.lt, h.row.lt⟩
/-- another row grows -/
theorem PSt.grow {row : Option Nat} (h : PSt w rb B m bc br C s M W) (hg : W.grownBy W' row) (hr : ∀ k, row = some k → bc < k) : PSt w rb B m bc br C s M W' := by
  obtain ⟨o1, o2, o3, o4, o5, o6, o7⟩ := h.o
  obtain ⟨N, hN⟩ := h.mp
  have hk : Keep (fun q => bc < q) W W' := Keep.of_grown hg hr
  exact ⟨h.row.keep (hk.block bc h.row.lt (by omega)), h.res.keep (hk.block br h.res.lt (by omega)), h.rd.keep hk (by omega) (fun k hk => by omega), ⟨N, hN.keep hk (by omega)⟩, h.kp.then hk (fun k e => .inr (by omega)), h.o⟩
end
theorem built_ck2 (id : Int) (D : List Value) (hD : D.length = 16) : Try.prog.built 45 [(0, .int .i64 id), (1, .agg D.toArray)] = some (([.int .i64 id] ++ (D ++ [.int .u32 0, .int .i64 0, .int .i64 0, .int .i64 0, .bool false, .slice none 0 0]) : List Value)).toArray := by
  obtain ⟨a0, a1, a2, a3, a4, a5, a6, a7, a8, a9, b0, b1, b2, b3, b4, b5, rfl⟩ := list16' D hD
  kernel_rfl
theorem built_ck0 (id : Int) (dg : List UInt8) (hd : dg.length = 16) : Try.prog.built 45 [(0, .int .i64 id), (1, .agg (bvs dg).toArray)] = some (ckCells ⟨id, dg, 0, Chk.z, false, []⟩ (.slice none 0 0)).toArray := built_ck2 id (bvs dg) (by rw [bvs_length, hd])
theorem ckCells_pr (c : Chk.Ck) (v : Value) (h : c.dg.length = 16) (p : Int) : (ckCells c v).set 17 (.int .u32 p) = ckCells { c with pr := p } v := by
  unfold ckCells
  have hl : (bvs c.dg).length = 16 := by rw [bvs_length, h]
  rw [List.set_append_right _ _ (by show 1 ≤ 17; omega), List.set_append_right _ _ (by rw [hl]; show 16 ≤ 17 - 1; omega), hl]
  rfl
theorem num_range {s s' : Chk.Rdr} {lo hi x : Int} (h : Chk.num s lo hi = (x, s')) : x = 0 ∨ (lo ≤ x ∧ x ≤ hi) := by
  unfold Chk.num at h
  split at h
  · exact .inl (Prod.mk.inj h).1.symm
  · split at h
    · exact .inl (Prod.mk.inj h).1.symm
    · split at h
      · rename_i h3; rw [(Prod.mk.inj h).1] at h3; exact .inr h3
      · exact .inl (Prod.mk.inj h).1.symm
theorem dgs_16 {s s' : Chk.Rdr} {D : List UInt8} (h : Chk.dgs s = (D, s')) : D.length = 16 := by
  unfold Chk.dgs at h
  split at h
  · rw [← (Prod.mk.inj h).1]; simp
  · split at h
    · rw [← (Prod.mk.inj h).1]; simp
    · rename_i h3; rw [← (Prod.mk.inj h).1, List.length_take]; omega
theorem unit_len {s s' : Chk.Rdr} {u : Chk.Un} (h : Chk.unit s = (u, s')) : s'.b.length ≤ s.b.length := by
  obtain ⟨x1, s1, h1⟩ : ∃ x s1, Chk.num s 0 4095 = (x, s1) := ⟨_, _, rfl⟩
  obtain ⟨x2, s2, h2⟩ : ∃ x s2, Chk.num s1 0 63 = (x, s2) := ⟨_, _, rfl⟩
  obtain ⟨x3, s3, h3⟩ : ∃ x s3, Chk.num s2 0 31 = (x, s3) := ⟨_, _, rfl⟩
  have e : Chk.unit s = (⟨x1, x2, x3⟩, s3) := by unfold Chk.unit; simp only [h1, h2, h3]
  rw [h] at e
  obtain ⟨rfl, rfl⟩ := Prod.mk.inj e
  have l1 := num_len h1
  have l2 := num_len h2
  have l3 := num_len h3
  omega
end Go.Proofs.Ytcicfneekmbamaa
