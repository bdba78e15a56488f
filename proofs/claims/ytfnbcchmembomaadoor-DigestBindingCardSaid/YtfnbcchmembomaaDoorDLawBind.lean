/- The walk of the statement DigestBinding: it returns true. Conditions: what the argument is, the tables of SHA-256. -/
import Derived.Test.YtfnbcchmembomaaDoorDLawBindF
import Derived.Test.YtfnbcchmembomaaDoorDLawBindT
import Derived.Test.YtfnbcchmembomaaDoorRefTree2
namespace Go.Proofs.YtfnbcchmembomaaDoor
set_option linter.unusedVariables false
set_option linter.unusedSimpArgs false
open Go.RowKit
theorem lawBind (y : BindArg) (w : World) (h : y.Ok w) (hT : Tabs w) (hRT : RTab w) :
    Calls Tryd.prog 6 #[.agg y.cells.toArray] w fun e w' => e = .returned (.bool true) ∧ Below w.heap.size w w' := by
  obtain ⟨N, I, a, b, A, p, pc, pr, B, q, qc, qr⟩ := y
  obtain ⟨ha, hb, hN, hI, p1, p2, p3, p4, p5, q1, q2, q3, q4, q5⟩ := h
  simp only at ha hb hN hI p1 p2 p3 p4 p5 q1 q2 q3 q4 q5
  show Calls Tryd.prog _ #[.agg (bics N I a b (.slice A p pc) (.slice B q qc)).toArray] w _
  by_cases hbig : 70 < p ∨ 70 < q
  · exact lawBind_big a b ha hb N I A p pc B q qc w hT hbig
  · have h1 : ¬ (70 : Int) < p := by omega
    have h2 : ¬ (70 : Int) < q := by omega
    have HC := Lib.hid (fun (W : World) (hW : Below w.heap.size w W) => clash_any N I hN.2 a b ha hb A p pc pr p3 p4 B q qc qr q3 q4 w.heap.size W (p5.below hW) (q5.below hW) hW.size (hT.below hW))
    have HR := Lib.hid (fun (W : World) (hW : Below w.heap.size w W) => refClash_any N I hN.2 a b ha hb A p pc pr p3 p4 p1 (by omega) (by omega) B q qc qr q3 q4 q1 (by omega) (by omega) w.heap.size W (p5.below hW) (q5.below hW) hW.size (hRT.below hW))
    by_cases hi : Mk.inOk N I pr
    · have hfs := Mk.clash_isSome (b := b) (q := qr) ha hb p4 q4 hi
      obtain ⟨i0, i1, i2⟩ := hi
      obtain ⟨n', rfl⟩ : ∃ n' : Nat, N = n' := ⟨N.toNat, by omega⟩
      obtain ⟨i', rfl⟩ : ∃ i' : Nat, I = i' := ⟨I.toNat, by omega⟩
      have hv1 : Mk.verify (Mk.short (Mk.lastIn n' i' a pr)) n' i' a pr = true := by
        unfold Mk.verify; rw [if_pos ⟨i0, i1⟩, if_pos i2]; exact beq_self_eq_true _
      rw [Int.toNat_natCast, Int.toNat_natCast] at i2 hfs
      rw [hv1, Bool.true_and] at hfs
      have hin : i' < n' := by omega
      have hl : p = (Mk.steps 0 n' i').length := by omega
      have h63 := Mk.steps_63 0 n' i' (by omega)
      have hsl : (Mk.sides n' i').length = p := by rw [Mk.sides_count, hl]
      have hx := Mk.ins_get a (Mk.sides n' i') pr p p (Nat.le_refl _)
      have hle := Mk.climb_le a ha (Mk.sides n' i') pr p4 p (by omega) (by omega)
      rw [Mk.climb_done _ _ _ _ (by omega)] at hx hle
      have HI := Lib.hid (fun (W : World) (hW : Below w.heap.size w W) => (refInputs_any a ha n' i' p pc A pr p3 p4 hin (by omega) p1 (by omega) (by omega) w.heap.size W (p5.below hW) hW.size (hRT.below hW)).1 hl)
      have hs16 := Mk.short_len (Mk.lastIn n' i' a pr)
      have HV1 := Lib.hid (fun (W : World) (hW : Below w.heap.size w W) => verify_any n' i' hN.2 (Mk.short (Mk.lastIn n' i' a pr)) a hs16 ha A p pc pr p3 p4 w.heap.size W (p5.below hW) hW.size (hT.below hW))
      rw [hv1] at HV1
      have HV2 := Lib.hid (fun (W : World) (hW : Below w.heap.size w W) => verify_any n' i' hN.2 (Mk.short (Mk.lastIn n' i' a pr)) b hs16 hb B q qc qr q3 q4 w.heap.size W (q5.below hW) hW.size (hT.below hW))
      have HSM := Lib.hid (fun (W : World) (hW : Below w.heap.size w W) => refSame2_any A B p q pc qc pr qr p3 q3 (by omega) W p4 q4 ((p5.below hW).more hW.size) ((q5.below hW).more hW.size))
      have hab : (a == b) = decide (a = b) := by by_cases e : a = b <;> simp [e]
      have hpair : ∀ u v, Mk.clash n' i' a b pr qr = some (u, v) → u ≠ v ∧ Mk.short u = Mk.short v ∧ u.length ≤ 100000 ∧ v.length ≤ 100000 := fun u v hh => by
        have e1 := Mk.clash_pair p4 q4 hh
        have e2 := clash_len ha hb p4 q4 hh
        exact ⟨e1.1, e1.2, by omega, by omega⟩
      generalize decide (a = b) = eab at hab hfs
      generalize decide (pr = qr) = epq at HSM hfs
      generalize Mk.verify (Mk.short (Mk.lastIn n' i' a pr)) n' i' b qr = v2 at HV2 hfs
      cases v2
      · exact lawBind_f a b ha hb n' i' A p pc B q qc w hT h1 h2 _ HC HR p (by omega) _ (Mk.lastIn n' i' a pr) hx hle eab epq hab hfs hpair hRT HI HV1 HV2 HSM
      · exact lawBind_t a b ha hb n' i' A p pc B q qc w hT h1 h2 _ HC HR p (by omega) _ (Mk.lastIn n' i' a pr) hx hle eab epq hab hfs hpair hRT HI HV1 HV2 HSM
    · refine lawBind_no a b ha hb N I A p pc B q qc w hT h1 h2 _ HC HR (Mk.clash_out hi) (Lib.hid fun W hW => ?_)
      by_cases hr : 0 ≤ I ∧ I < N
      · obtain ⟨n', rfl⟩ : ∃ n' : Nat, N = n' := ⟨N.toNat, by omega⟩
        obtain ⟨i', rfl⟩ : ∃ i' : Nat, I = i' := ⟨I.toNat, by omega⟩
        exact (refInputs_any a ha n' i' p pc A pr p3 p4 (by omega) (by omega) p1 (by omega) (by omega) w.heap.size W (p5.below hW) hW.size (hRT.below hW)).2 fun e => hi ⟨hr.1, hr.2, by rw [Int.toNat_natCast, Int.toNat_natCast]; omega⟩
      · exact refIn_out N I (by omega) a _ W
end Go.Proofs.YtfnbcchmembomaaDoor
