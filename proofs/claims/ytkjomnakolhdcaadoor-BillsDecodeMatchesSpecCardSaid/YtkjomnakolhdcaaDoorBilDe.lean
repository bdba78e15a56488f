/- Layer 35: the reference's Decode. Conditions: at most 2000 bytes; the tables lie in older memory. -/
import Derived.Test.YtkjomnakolhdcaaDoorBilDb
import Derived.Test.YtkjomnakolhdcaaDoorBilDg
import Derived.Test.YtkjomnakolhdcaaDoorBilDd
namespace Go.Proofs.YtkjomnakolhdcaaDoor
set_option linter.unusedVariables false
set_option linter.unusedSimpArgs false
open Go.RowKit
/-- what Decode gives -/
def RDecRes (w : World) (R : Bil.Lg ⊕ Int) (e : Ending) (w' : World) : Prop := Below w.heap.size w w' ∧ ((∃ l bl col m, R = .inl l ∧ e = .returned (.tuple #[.pointer (some ⟨bl, 0, none⟩), .int .i64 0]) ∧ RAt w' bl col m l ∧ ∀ b, col b ≠ 0 → w.heap.size ≤ b) ∨ (∃ er : Int, R = .inr er ∧ er ≠ 0 ∧ e = .returned (.tuple #[.pointer none, .int .i64 er])))
theorem Bil.rdec {b b1 b2 b3 b4 b5 : List UInt8} {n p e1 e2 e3 e4 e5 : Int} {hd : List UInt8} {x y : List Int} (h1 : Bil.num b 0 1 16 = (n, b1, e1)) (h2 : Bil.num b1 e1 0 65536 = (p, b2, e2)) (h3 : Bil.dgs b2 e2 = (hd, b3, e3)) (h4 : (Bil.lst b3 e3 n.toNat fun _ => 9223372036854775807) = (x, b4, e4)) (h5 : (Bil.lst b4 e4 n.toNat fun _ => 9223372036854775807) = (y, b5, e5)) :
    (e5 ≠ 0 → Bil.dec b = .inr e5) ∧ (e5 = 0 → (1 ≤ n ∧ n ≤ 16 ∧ 0 ≤ p ∧ p ≤ 65536 ∧ hd.length = 16 ∧ x.length = n.toNat ∧ y.length = n.toNat) ∧ Bil.dec b = if (Bil.accts (min p.toNat 16) (p - (min p.toNat 16 : Nat)) b5 n.toNat).2.2 = 0 then (if (Bil.accts (min p.toNat 16) (p - (min p.toNat 16 : Nat)) b5 n.toNat).2.1 = [] then .inl ⟨n.toNat, p.toNat, (Bil.accts (min p.toNat 16) (p - (min p.toNat 16 : Nat)) b5 n.toNat).1, x, y, hd⟩ else .inr 6) else .inr (Bil.accts (min p.toNat 16) (p - (min p.toNat 16 : Nat)) b5 n.toNat).2.2) := by
  unfold Bil.dec
  simp only [h1, h2]
  by_cases hz : e2 = 0
  · subst hz
    unfold Bil.dgs at h3
    rw [if_pos rfl] at h3 ⊢
    by_cases hs : b2.length < 16
    · rw [if_pos hs] at h3 ⊢
      simp only [Prod.mk.injEq] at h3
      obtain ⟨_, rfl, rfl⟩ := h3
      rw [lst_err (by decide)] at h4
      simp only [Prod.mk.injEq] at h4
      obtain ⟨_, rfl, rfl⟩ := h4
      rw [lst_err (by decide)] at h5
      simp only [Prod.mk.injEq] at h5
      obtain ⟨_, rfl, rfl⟩ := h5
      exact ⟨fun _ => rfl, fun h => absurd h (by decide)⟩
    · rw [if_neg hs] at h3 ⊢
      simp only [Prod.mk.injEq] at h3
      obtain ⟨rfl, rfl, rfl⟩ := h3
      simp only [h4, h5]
      refine ⟨fun h => by rw [if_neg h], fun h => ⟨?_, by rw [if_pos h]⟩⟩
      subst h
      have q5 := Bil.lst_ok (b := b4) (e := e4) (n := n.toNat) (mx := fun _ => 9223372036854775807) (by rw [h5])
      have q4 := Bil.lst_ok (b := b2.drop 16) (e := 0) (n := n.toNat) (mx := fun _ => 9223372036854775807) (by rw [h4]; exact q5.1)
      have q2 := Bil.num_ok (b := b1) (e := e1) (lo := 0) (hi := 65536) (by rw [h2])
      have q1 := Bil.num_ok (b := b) (e := 0) (lo := 1) (hi := 16) (by rw [h1]; exact q2.1)
      rw [h5] at q5
      rw [h4] at q4
      rw [h2] at q2
      rw [h1] at q1
      exact ⟨q1.2.1, q1.2.2.1, q2.2.1, q2.2.2.1, by rw [List.length_take]; omega, q4.2.1, q5.2.1⟩
  · unfold Bil.dgs at h3
    rw [if_neg hz] at h3 ⊢
    simp only [Prod.mk.injEq] at h3
    obtain ⟨_, rfl, rfl⟩ := h3
    rw [lst_err hz] at h4
    simp only [Prod.mk.injEq] at h4
    obtain ⟨_, rfl, rfl⟩ := h4
    rw [lst_err hz] at h5
    simp only [Prod.mk.injEq] at h5
    obtain ⟨_, rfl, rfl⟩ := h5
    exact ⟨fun _ => rfl, fun h => absurd h hz⟩
/-- the reference's ledger while it is decoded, before its bills -/
theorem rat_dec {w' : World} {g2 g3 c2 c3 bl n P : Nat} {hd : List UInt8} {x y : List Int} (h23 : g2 ≠ g3) (h2b : g2 ≠ bl) (h3b : g3 ≠ bl) (h1 : 1 ≤ n) (h2 : n ≤ 16) (hP : P ≤ 65536) (r1 : FRow w' g2 n (fun t => x.getD t 0)) (r2 : FRow w' g3 n (fun t => y.getD t 0)) (hx : x.length = n) (hy : y.length = n) (hd16 : hd.length = 16)
    (hr : IsRow w' bl 76 (rl4 (n : Int) (P : Int) hd (.slice (some ⟨g2, 0, none⟩) n c2) (.slice (some ⟨g3, 0, none⟩) n c3) (.slice none 0 0) (.slice none 0 0))) (B : Nat) (ht1 : 2 < B) (ht2 : 0 < B) (ht3 : 1 < B) (b1 : B ≤ bl) (b2 : B ≤ g2) (b3 : B ≤ g3) :
    ∃ col m, RAt w' bl col m ⟨n, P, [], x, y, hd⟩ ∧ (∀ b, col b ≠ 0 → b = bl ∨ b = g2 ∨ b = g3) := by
  refine ⟨fun b => if b = bl then 1 else if b = g2 then 2 else if b = g3 then 3 else 0, ⟨none, 0, none, 0, [], g2, c2, g3, c3⟩, ⟨hr, hd16, h1, h2, hP, by simp, r1, r2, hx, hy, rfl, ORow.nil _ _ _, ORow.nil _ _ _, by simp, by simp, ?_, ?_, by simp, by simp, ?_, ?_⟩, ?_⟩
  · simp [h2b]
  · simp [h3b, h23.symm]
  · intro k hk
    split at hk
    · subst k; exact hr.lt
    · split at hk
      · subst k; exact r1.lt
      · split at hk
        · subst k; exact r2.lt
        · exact absurd rfl hk
  · refine ⟨?_, ?_, ?_⟩ <;> (rw [if_neg (by omega), if_neg (by omega), if_neg (by omega)])
  · intro b hb
    dsimp only at hb
    split at hb
    · exact .inl (by assumption)
    · split at hb
      · exact .inr (.inl (by assumption))
      · split at hb
        · exact .inr (.inr (by assumption))
        · exact absurd rfl hb
/-- the memory of Decode: the reader's variable br, the ledger's bl -/
structure RdS (w W : World) (br bl : Nat) (b : List UInt8) (e : Int) (L : List Value) : Prop where
  bw : Below w.heap.size w W
  row : IsRow W bl 76 L
  st : RSt W br b e
  o : w.heap.size = br ∧ br < bl
section
variable {w W W' : World} {br bl : Nat} {b b' : List UInt8} {e e' : Int} {L : List Value}
theorem RdS.next (h : RdS w W br bl b e L) (hs : RSt W' br b' e') (hk : Keep (fun q => q = br) W W') : RdS w W' br bl b' e' L := by
  have ho := h.o
  exact ⟨h.bw.trans (hk.below h.bw.size fun q hq e => by omega), h.row.keep (hk.block bl h.row.lt (by omega)), hs, ho⟩
theorem RdS.put (h : RdS w W br bl b e L) (j : Nat) (v : Value) : RdS w (W.setCell ⟨bl, j, none⟩ v) br bl b e (L.set j v) := by
  have ho := h.o
  have hk : Keep (fun q => q = bl) W (W.setCell ⟨bl, j, none⟩ v) := Keep.of_grown (grown_setCell _ _ _ _) fun k e => (Option.some.inj e).symm
  exact ⟨h.bw.grown (grown_setCell W bl j v) h.bw.size fun k e => by have := Option.some.inj e; omega, h.row.set j v, h.st.keeps hk (fun q hq e => by omega), ho⟩
end
theorem RdS.head {w W : World} {br bl : Nat} {b : List UInt8} {e : Int} {n p : Int} {v0 v1 v2 v3 : Value} {Z hd : List UInt8} (h : RdS w W br bl b e (rl4 n p Z v0 v1 v2 v3)) (hZ : Z.length = hd.length) : RdS w (W.setCells bl 2 (bvs hd)) br bl b e (rl4 n p hd v0 v1 v2 v3) := by
  have ho := h.o
  obtain ⟨r3, g3, z3⟩ := IsRow.setCells (bvs hd) _ 2 W h.row
  have e4 : setL (rl4 n p Z v0 v1 v2 v3) 2 (bvs hd) = rl4 n p hd v0 v1 v2 v3 := setL_mid [v0, v1, v2, v3] [.int .i64 n, .int .i64 p] (bvs Z) (bvs hd) (by simp [hZ])
  rw [e4] at r3
  have hk : Keep (fun q => q = bl) W (W.setCells bl 2 (bvs hd)) := Keep.of_grown g3 fun k e => (Option.some.inj e).symm
  exact ⟨h.bw.grown g3 h.bw.size fun k e => by have := Option.some.inj e; omega, r3, h.st.keeps hk (fun q hq e => by omega), ho⟩
/-- the memory of Decode between two bills -/
structure RdL (w W : World) (br bl : Nat) (b : List UInt8) (col : Nat → Nat) (m : RM) (l : Bil.Lg) : Prop where
  lat : RAt W bl col m l
  f : ∀ q, col q ≠ 0 → br < q
  bw : Below w.heap.size w W
  st : RSt W br b 0
  o : w.heap.size = br
def RDLoop (w W : World) (br bl : Nat) (b : List UInt8) (N P K p0 : Nat) (b4 : List UInt8) (e4 : Int) (x y : List Int) (hd : List UInt8) (i : Nat) : Prop :=
  (∃ col m ks b', e4 = 0 ∧ RdL w W br bl b' col m ⟨N, P, ks, x, y, hd⟩ ∧ ks.length = i ∧ Bil.accts K (p0 : Int) b4 N = (ks ++ (Bil.accts (K - i) ((p0 + i : Nat) : Int) b' N).1, (Bil.accts (K - i) ((p0 + i : Nat) : Int) b' N).2)) ∨
  (∃ (e : Int) (b' : List UInt8), e ≠ 0 ∧ Bil.dec b = .inr e ∧ Below w.heap.size w W ∧ RSt W br b' e ∧ W.cell? ⟨bl, 1, none⟩ = some (.int .i64 (P : Int)))
set_option maxRecDepth 100000 in
set_option maxHeartbeats 3200000 in
theorem rdecode_any (b : List UInt8) (A : Option Addr) (n0 c : Nat) (hb : b.length = n0) (hL : n0 ≤ 2000) (hc : n0 ≤ c) (hcm : c ≤ maxLen) (w : World) (rd : Rd w w.heap.size 1 A n0 (bvs b)) (hTs : 2 < w.heap.size ∧ 0 < w.heap.size ∧ 1 < w.heap.size) :
    Calls Tryd.prog 28 #[.slice A n0 c] w (RDecRes w (Bil.dec b)) := by
  obtain ⟨n, b1, e1, h1⟩ : ∃ x y z, Bil.num b 0 1 16 = (x, y, z) := ⟨_, _, _, rfl⟩
  obtain ⟨p, b2, e2, h2⟩ : ∃ x y z, Bil.num b1 e1 0 65536 = (x, y, z) := ⟨_, _, _, rfl⟩
  obtain ⟨hd, b3, e3, h3⟩ : ∃ x y z, Bil.dgs b2 e2 = (x, y, z) := ⟨_, _, _, rfl⟩
  obtain ⟨x, b4, e4, h4⟩ : ∃ u v z, (Bil.lst b3 e3 n.toNat fun _ => 9223372036854775807) = (u, v, z) := ⟨_, _, _, rfl⟩
  obtain ⟨y, b5, e5, h5⟩ : ∃ u v z, (Bil.lst b4 e4 n.toNat fun _ => 9223372036854775807) = (u, v, z) := ⟨_, _, _, rfl⟩
  have hrd := Bil.rdec h1 h2 h3 h4 h5
  have hd16 : hd.length = 16 := by
    have : (Bil.dgs b2 e2).1.length = 16 := by
      unfold Bil.dgs
      split
      · split
        · simp
        · rw [List.length_take]; omega
      · simp
    rwa [h3] at this
  have hnr : 0 ≤ n ∧ n ≤ 16 := by
    by_cases hz : e1 = 0
    · have q1 := Bil.num_ok (b := b) (e := 0) (lo := 1) (hi := 16) (by rw [h1]; exact hz)
      rw [h1] at q1
      have := q1.2.1
      have := q1.2.2.1
      simp only at *
      omega
    · have := num_zero (b := b) (e := 0) (lo := 1) (hi := 16) (by rw [h1]; exact hz)
      rw [h1] at this
      simp only at this
      omega
  have hpr : 0 ≤ p ∧ p ≤ 65536 := by
    by_cases hz : e2 = 0
    · have q1 := Bil.num_ok (b := b1) (e := e1) (lo := 0) (hi := 65536) (by rw [h2]; exact hz)
      rw [h2] at q1
      exact ⟨q1.2.1, q1.2.2.1⟩
    · have := num_zero (b := b1) (e := e1) (lo := 0) (hi := 65536) (by rw [h2]; exact hz)
      rw [h2] at this
      simp only at this
      omega
  obtain ⟨N, rfl⟩ : ∃ N : Nat, n = (N : Int) := ⟨n.toNat, by omega⟩
  obtain ⟨P, rfl⟩ : ∃ P : Nat, p = (P : Int) := ⟨p.toNat, by omega⟩
  rw [Int.toNat_natCast] at h4 h5
  simp only [Int.toNat_natCast] at hrd
  have hN16 : N ≤ 16 := by omega
  have HT1 : Hid (∀ W br, RSt W br b 0 → Calls Tryd.prog 64 #[.pointer (some ⟨br, 0, none⟩), .int .i64 1, .int .i64 16] W fun r w' => r = .returned (.int .i64 (N : Int)) ∧ RSt w' br b1 e1 ∧ Keep (fun q => q = br) W w') := Lib.hid (fun W br hst => by have := rnumber_any br b 0 1 16 W hst; rw [h1] at this; exact this)
  have HT2 : Hid (∀ W br, RSt W br b1 e1 → Calls Tryd.prog 64 #[.pointer (some ⟨br, 0, none⟩), .int .i64 0, .int .i64 65536] W fun r w' => r = .returned (.int .i64 (P : Int)) ∧ RSt w' br b2 e2 ∧ Keep (fun q => q = br) W w') := Lib.hid (fun W br hst => by have := rnumber_any br b1 e1 0 65536 W hst; rw [h2] at this; exact this)
  have HT3 : Hid (∀ W br, RSt W br b2 e2 → Calls Tryd.prog 65 #[.pointer (some ⟨br, 0, none⟩)] W fun r w' => r = .returned (.agg (bvs hd).toArray) ∧ RSt w' br b3 e3 ∧ Keep (fun q => q = br) W w') := Lib.hid (fun W br hst => by have := rdigest_any br b2 e2 W hst; rw [h3] at this; exact this)
  have HT4 : Hid (∀ W br, RSt W br b3 e3 → Calls Tryd.prog 66 #[.pointer (some ⟨br, 0, none⟩), .int .i64 (N : Int), .slice none 0 0] W fun r w' => ∃ A c, r = .returned (.slice A x.length c) ∧ w'.ownsRow W.heap.size 3 1 (.slice A x.length c) x.length (ivs x) ∧ RSt w' br b4 e4 ∧ Keep (fun q => q = br) W w') := Lib.hid (fun W br hst => by have := rlist_nil br b3 e3 N hN16 W hst; rw [h4] at this; exact this)
  have HT5 : Hid (∀ W br, RSt W br b4 e4 → Calls Tryd.prog 66 #[.pointer (some ⟨br, 0, none⟩), .int .i64 (N : Int), .slice none 0 0] W fun r w' => ∃ A c, r = .returned (.slice A y.length c) ∧ w'.ownsRow W.heap.size 3 1 (.slice A y.length c) y.length (ivs y) ∧ RSt w' br b5 e5 ∧ Keep (fun q => q = br) W w') := Lib.hid (fun W br hst => by have := rlist_nil br b4 e4 N hN16 W hst; rw [h5] at this; exact this)
  have HRD := Lib.hid hrd
  have H16 := Lib.hid hd16
  have HPR : Hid (P ≤ 65536) := Lib.hid (by omega)
  have r0 := IsRow.new w 107 [.slice A n0 c, .int .i64 0]
  have b0w : Below w.heap.size w (w.alloc (.cells #[.slice A n0 c, .int .i64 0] 107)) := (Below.refl _ _).alloc (Nat.le_refl _) _
  obtain ⟨w0, hw0⟩ : ∃ x, w.alloc (.cells #[.slice A n0 c, .int .i64 0] 107) = x := ⟨_, rfl⟩
  rw [show ([.slice A n0 c, .int .i64 0] : List Value).toArray = #[.slice A n0 c, .int .i64 0] from rfl, hw0] at r0
  rw [hw0] at b0w
  obtain ⟨br, hbr⟩ : ∃ x, w.heap.size = x := ⟨_, rfl⟩
  have hst : RSt w0 br b 0 := ⟨A, n0, c, hbr ▸ r0, hb, hc, hcm, by omega, by have := rd.below b0w; rwa [hbr] at this⟩
  have HS0 := Lib.hid (And.intro hst (And.intro b0w (And.intro hw0 hbr)))
  have HTS := Lib.hid hTs
  clear h1 h2 h3 h4 h5 hrd hd16 hnr hpr hN16 r0 b0w hw0 hst hTs hb hL hc hcm rd hbr
  go_enter Tryd.func28, Tryd.ntmps28
  go_upto_region 2 with fail
  rw [show w.alloc (.cells #[.slice A n0 c, .int .i64 0] 107) = w0 from HS0.out.2.2.1, show w.heap.size = br from HS0.out.2.2.2]
  go_upto_region 3 with (go_at_call 64; refine (HT1.out w0 br HS0.out.1).mono ?_; rintro r w1 ⟨rfl, s1, k1⟩; have HS1 := Lib.hid (And.intro s1 k1); clear s1 k1)
  have r3 := IsRow.new w1 76 [.int .i64 (N : Int), .int .i64 0, .int .u8 0, .int .u8 0, .int .u8 0, .int .u8 0, .int .u8 0, .int .u8 0, .int .u8 0, .int .u8 0, .int .u8 0, .int .u8 0, .int .u8 0, .int .u8 0, .int .u8 0, .int .u8 0, .int .u8 0, .int .u8 0, .slice none 0 0, .slice none 0 0, .slice none 0 0, .slice none 0 0]
  have b3' : Below w1.heap.size w1 (w1.alloc (.cells #[.int .i64 (N : Int), .int .i64 0, .int .u8 0, .int .u8 0, .int .u8 0, .int .u8 0, .int .u8 0, .int .u8 0, .int .u8 0, .int .u8 0, .int .u8 0, .int .u8 0, .int .u8 0, .int .u8 0, .int .u8 0, .int .u8 0, .int .u8 0, .int .u8 0, .slice none 0 0, .slice none 0 0, .slice none 0 0, .slice none 0 0] 76)) := (Below.refl _ _).alloc (Nat.le_refl _) _
  obtain ⟨w3, hw3⟩ : ∃ x, w1.alloc (.cells #[.int .i64 (N : Int), .int .i64 0, .int .u8 0, .int .u8 0, .int .u8 0, .int .u8 0, .int .u8 0, .int .u8 0, .int .u8 0, .int .u8 0, .int .u8 0, .int .u8 0, .int .u8 0, .int .u8 0, .int .u8 0, .int .u8 0, .int .u8 0, .int .u8 0, .slice none 0 0, .slice none 0 0, .slice none 0 0, .slice none 0 0] 76) = x := ⟨_, rfl⟩
  rw [show ([.int .i64 (N : Int), .int .i64 0, .int .u8 0, .int .u8 0, .int .u8 0, .int .u8 0, .int .u8 0, .int .u8 0, .int .u8 0, .int .u8 0, .int .u8 0, .int .u8 0, .int .u8 0, .int .u8 0, .int .u8 0, .int .u8 0, .int .u8 0, .int .u8 0, .slice none 0 0, .slice none 0 0, .slice none 0 0, .slice none 0 0] : List Value).toArray = #[.int .i64 (N : Int), .int .i64 0, .int .u8 0, .int .u8 0, .int .u8 0, .int .u8 0, .int .u8 0, .int .u8 0, .int .u8 0, .int .u8 0, .int .u8 0, .int .u8 0, .int .u8 0, .int .u8 0, .int .u8 0, .int .u8 0, .int .u8 0, .int .u8 0, .slice none 0 0, .slice none 0 0, .slice none 0 0, .slice none 0 0] from rfl, hw3] at r3
  rw [hw3] at b3' ⊢
  obtain ⟨bl, hbl⟩ : ∃ x, w1.heap.size = x := ⟨_, rfl⟩
  rw [hbl] at r3 ⊢
  have HS3 : Hid (RdS w w3 br bl b1 e1 (rl4 (N : Int) 0 (List.replicate 16 0) (.slice none 0 0) (.slice none 0 0) (.slice none 0 0) (.slice none 0 0))) := Lib.hid (by
    have h0 := HS0.out.1.lt
    have h1 := HS0.out.2.2.2
    have hk := HS1.out.2.size
    exact ⟨(HS0.out.2.1.trans (HS1.out.2.below HS0.out.2.1.size fun q hq e => by omega)).trans (b3'.mono (by have := HS0.out.2.1.size; omega)), r3, HS1.out.1.below b3', h1, by omega⟩)
  clear r3 b3' hw3 hbl HS0 HS1 HT1
  go_upto_region 4 with (go_at_call 64; refine (HT2.out w3 br HS3.out.st).mono ?_; rintro r w4 ⟨rfl, s1, k1⟩; have HS4 := Lib.hid (HS3.out.next s1 k1); have q1 : w4.cell? ⟨bl, 1, none⟩ = some (.int .i64 0) := HS4.out.row.cell 1; have f1 : w4.frozen? ⟨bl, 1, none⟩ = false := HS4.out.row.frozen 1; clear s1 k1)
  obtain ⟨w5, hw5⟩ : ∃ z, w4.setCell ⟨bl, 1, none⟩ (.int .i64 (P : Int)) = z := ⟨_, rfl⟩
  have HS5 : Hid (RdS w (w4.setCell ⟨bl, 1, none⟩ (.int .i64 (P : Int))) br bl b2 e2 (rl4 (N : Int) (P : Int) (List.replicate 16 0) (.slice none 0 0) (.slice none 0 0) (.slice none 0 0) (.slice none 0 0))) := Lib.hid (HS4.out.put 1 (.int .i64 (P : Int)))
  rw [hw5] at HS5 ⊢
  clear hw5 q1 f1 HT2 HS3 HS4
  go_upto_region 5 with (first
    | (go_at_call 65; refine (HT3.out w5 br HS5.out.st).mono ?_; rintro r w6 ⟨rfl, s1, k1⟩; have HS6 := Lib.hid (HS5.out.next s1 k1); clear s1 k1)
    | (refine wpList_store_mid rfl _ (.tmp 23) (.tmp 21) rfl bl 2 (bvs hd).toArray rfl rfl (by have := HS6.out.row.there (o := 2) (n := 16) (by simp [rl4]); simpa [H16.out] using this) (by rw [List.size_toArray, bvs_len, H16.out]; exact size16) (all_oneCell_toArray (bvs_one _)) ?_))
  have HS7 := Lib.hid (HS6.out.head (hd := hd) (by rw [H16.out]; simp))
  obtain ⟨w7, hw7⟩ : ∃ z, w6.setCells bl 2 (bvs hd) = z := ⟨_, rfl⟩
  rw [hw7] at HS7 ⊢
  clear hw7 HT3 HS5 HS6
  have q0 : w7.cell? ⟨bl, 0, none⟩ = some (.int .i64 (N : Int)) := HS7.out.row.cell 0
  go_upto_region 6 with (go_at_call 66; refine (HT4.out w7 br HS7.out.st).mono ?_; rintro r w8 ⟨A3, c3, rfl, own3, s1, k1⟩; have HS8 := Lib.hid (HS7.out.next s1 k1); have HO3 := Lib.hid own3; have HZ3 : Hid (∀ a, A3 = some a → a.block < w8.heap.size) := Lib.hid (fun a ha => (own3.lt a.block (by rw [ha]; rfl)).2); have q2 : w8.cell? ⟨bl, 18, none⟩ = some (.slice none 0 0) := (HS8.out.row.cell 18).trans (rl4_tail H16.out _ _ _ _ _ _ 0); have f2 : w8.frozen? ⟨bl, 18, none⟩ = false := HS8.out.row.frozen 18; clear s1 k1 own3)
  obtain ⟨w9, hw9⟩ : ∃ z, w8.setCell ⟨bl, 18, none⟩ (.slice A3 x.length c3) = z := ⟨_, rfl⟩
  have HBL : Hid (bl < w7.heap.size ∧ br < bl) := Lib.hid ⟨HS7.out.row.lt, HS7.out.o.2⟩
  have HS9 : Hid (RdS w (w8.setCell ⟨bl, 18, none⟩ (.slice A3 x.length c3)) br bl b4 e4 (rl4 (N : Int) (P : Int) hd (.slice A3 x.length c3) (.slice none 0 0) (.slice none 0 0) (.slice none 0 0))) := Lib.hid (by have := HS8.out.put 18 (.slice A3 x.length c3); rw [(rl4_set H16.out _ _ _ _ _ _ _).1] at this; exact this)
  have HO3 := Lib.hid (own_far HO3.out (grown_setCell w8 bl 18 (.slice A3 x.length c3)) HBL.out.1)
  have HZ3 : Hid (∀ a, A3 = some a → a.block < (w8.setCell ⟨bl, 18, none⟩ (.slice A3 x.length c3)).heap.size) := Lib.hid (fun a ha => Nat.lt_of_lt_of_le (HZ3.out a ha) (grown_setCell _ _ _ _).size)
  rw [hw9] at HS9 HO3 HZ3 ⊢
  clear hw9 q0 q2 f2 HT4 HS8
  have q0 : w9.cell? ⟨bl, 0, none⟩ = some (.int .i64 (N : Int)) := HS9.out.row.cell 0
  go_upto_region 7 with (go_at_call 66; refine (HT5.out w9 br HS9.out.st).mono ?_; rintro r w10 ⟨A4, c4, rfl, own4, s1, k1⟩; have HSA := Lib.hid (HS9.out.next s1 k1); have HO4 := Lib.hid own4; have HO3 := Lib.hid (own_keepD HO3.out k1 (fun q e => by have := HBL.out; omega)); have q2 : w10.cell? ⟨bl, 19, none⟩ = some (.slice none 0 0) := (HSA.out.row.cell 19).trans (rl4_tail H16.out _ _ _ _ _ _ 1); have f2 : w10.frozen? ⟨bl, 19, none⟩ = false := HSA.out.row.frozen 19; clear s1 k1 own4)
  obtain ⟨w11, hw11⟩ : ∃ z, w10.setCell ⟨bl, 19, none⟩ (.slice A4 y.length c4) = z := ⟨_, rfl⟩
  have HB9 : Hid (bl < w9.heap.size) := Lib.hid HS9.out.row.lt
  have HSB : Hid (RdS w (w10.setCell ⟨bl, 19, none⟩ (.slice A4 y.length c4)) br bl b5 e5 (rl4 (N : Int) (P : Int) hd (.slice A3 x.length c3) (.slice A4 y.length c4) (.slice none 0 0) (.slice none 0 0))) := Lib.hid (by have := HSA.out.put 19 (.slice A4 y.length c4); rw [(rl4_set H16.out _ _ _ _ _ _ _).2.1] at this; exact this)
  have HO3 := Lib.hid (own_far HO3.out (grown_setCell w10 bl 19 (.slice A4 y.length c4)) HBL.out.1)
  have HO4 := Lib.hid (own_far HO4.out (grown_setCell w10 bl 19 (.slice A4 y.length c4)) HB9.out)
  rw [hw11] at HSB HO3 HO4 ⊢
  clear hw11 q0 q2 f2 HT5 HSA
  obtain ⟨K, hK⟩ : ∃ K, min P 16 = K := ⟨_, rfl⟩
  obtain ⟨p0, hp0⟩ : ∃ p0 : Nat, P - K = p0 := ⟨_, rfl⟩
  have HPK : Hid (p0 + K = P ∧ K ≤ 16 ∧ ((P : Int) - (K : Nat) = (p0 : Int)) ∧ K = min P 16) := Lib.hid (by omega)
  have hPb := HPR.out
  obtain ⟨y16, hy16⟩ : ∃ z, (P : Int) - 16 = z := ⟨_, rfl⟩
  have m1 : IntKind.i64.wrap ((P : Int) - 16) = y16 := by rw [hy16]; exact IntWalk.i64_in _ (by omega)
  have hmx : max (0 : Int) y16 = (p0 : Int) := by omega
  have q1 : w11.cell? ⟨bl, 1, none⟩ = some (.int .i64 (P : Int)) := HSB.out.row.cell 1
  have hrd := HRD.out
  simp only [hK, show (P : Int) - ((K : Nat) : Int) = (p0 : Int) from HPK.out.2.2.1] at hrd
  have HRD := Lib.hid hrd
  clear hK hp0 hy16 hrd hPb
  have HD0 : Hid (RDLoop w w11 br bl b N P K p0 b5 e5 x y hd 0) := Lib.hid (by
    by_cases hz : e5 = 0
    · obtain ⟨⟨hn1, hn2, _, hP, hd16, hxl, hyl⟩, _⟩ := HRD.out.2 hz
      have o3 := HO3.out
      have o4 := HO4.out
      rw [hxl] at o3
      rw [hyl] at o4
      obtain ⟨g2, hA3, hg2, fr2⟩ := FRow.of_own o3 (by omega)
      obtain ⟨g3, hA4, hg3, fr3⟩ := FRow.of_own o4 (by omega)
      have hlt2 : g2 < w9.heap.size := HZ3.out _ hA3
      have hbl := HBL.out
      have ho := HSB.out.o
      have hr9 : IsRow w11 bl 76 (rl4 (N : Int) (P : Int) hd (.slice (some ⟨g2, 0, none⟩) N c3) (.slice (some ⟨g3, 0, none⟩) N c4) (.slice none 0 0) (.slice none 0 0)) := by
        have := HSB.out.row
        rw [hA3, hA4, hxl, hyl] at this; exact this
      obtain ⟨col, m, hlat, hcol⟩ := rat_dec (B := w.heap.size) (show g2 ≠ g3 by omega) (show g2 ≠ bl by omega) (show g3 ≠ bl by omega) (by omega) (by omega) (by omega) fr2 fr3 hxl hyl hd16 hr9 HTS.out.1 HTS.out.2.1 HTS.out.2.2 (by omega) (by omega) (by omega)
      refine .inl ⟨col, m, [], b5, hz, ⟨hlat, fun q hq => ?_, HSB.out.bw, by have := HSB.out.st; rwa [hz] at this, ho.1⟩, rfl, by simp⟩
      rcases hcol q hq with rfl | rfl | rfl <;> omega
    · exact .inr ⟨e5, b5, hz, HRD.out.1 hz, HSB.out.bw, HSB.out.st, HSB.out.row.cell 1⟩)
  have HDE : Hid (∀ ks b', Bil.accts K (p0 : Int) b5 N = (ks, b', 0) → e5 = 0 → Bil.dec b = if b' = [] then .inl ⟨N, P, ks, x, y, hd⟩ else .inr 6) := Lib.hid (fun ks b' h1 h2 => by
    have := (HRD.out.2 h2).2
    rw [h1] at this
    simpa using this)
  have HDF : Hid (∀ ks b' e, e ≠ 0 → Bil.accts K (p0 : Int) b5 N = (ks, b', e) → e5 = 0 → Bil.dec b = .inr e) := Lib.hid (fun ks b' e h0 h1 h2 => by
    have := (HRD.out.2 h2).2
    rw [h1] at this
    simp only [if_neg h0] at this
    exact this)
  clear HSB HO3 HO4 HZ3 HS7 HS9 HRD HB9
  go_wp2_with fail
  go_loopw [6] (fun u6 wr => ∃ i : Nat, i ≤ K ∧ u6 = .int .i64 ((p0 + i : Nat) : Int) ∧ Hid (RDLoop w wr br bl b N P K p0 b5 e5 x y hd i)) (fun u6 _ => P + 1 - (intOf u6).toNat)
  case atStart => exact ⟨0, Nat.zero_le _, rfl, HD0⟩
  case round =>
    clear HD0 q1 m1 hmx
    obtain ⟨i, hi, rfl, HD⟩ := hrel
    have hpk := HPK.out.1
    have hP65 := HPR.out
    obtain ⟨pi, hpi⟩ : ∃ z, p0 + i = z := ⟨_, rfl⟩
    rw [hpi]
    rcases HD.out with ⟨col, m, ks, b', hz4, hdl, hml, hac⟩ | ⟨e, b', he, hdec, hbw, hst, hc0⟩
    · have HDL := Lib.hid hdl
      have q0 : wr.cell? ⟨bl, 1, none⟩ = some (.int .i64 (P : Int)) := hdl.lat.row.cell 1
      have qe : wr.cell? ⟨br, 1, none⟩ = some (.int .i64 0) := hdl.st.cell1
      by_cases hlt : i < K
      · have i1 : ((pi : Nat) : Int) < (P : Int) := by omega
        have hki : K - i = (K - (i + 1)) + 1 := by omega
        have mpi : IntKind.i64.wrap ((pi : Int) + 1) = (pi : Int) + 1 := IntWalk.i64_in _ (by omega)
        have hpis : ((pi : Nat) : Int) + 1 = ((p0 + (i + 1) : Nat) : Int) := by omega
        have hac1 := hac
        rw [hki, hpi] at hac1
        have HC := Lib.hid (rbill_any br bl b' (pi : Int) N col m ⟨N, P, ks, x, y, hd⟩ rfl (by show ks.length < 16; have := HPK.out.2.1; omega) hdl.f wr hdl.st hdl.lat (by have h1 := HTS.out; have h2 := hdl.bw.size; omega))
        have HN2 : Hid (∀ w2, RbRes wr w2 br bl col ⟨N, P, ks, x, y, hd⟩ (Bil.acct b' (pi : Int) N) → RDLoop w w2 br bl b N P K p0 b5 e5 x y hd (i + 1)) := Lib.hid (fun w2 hr => by
          obtain ⟨col', m', l', hl', hn', hp', hcl', hst', hk', heq'⟩ := hr
          have hbs := hdl.bw.size
          have ho := hdl.o
          have hbw' : Below w.heap.size w w2 := hdl.bw.trans (hk'.below hbs fun q hq e => e.elim (fun e => by omega) (fun e => by have := hdl.f q e; omega))
          by_cases hok : (Bil.acct b' (pi : Int) N).2.2 = 0
          · rw [Bil.accts_ok1 hok] at hac1
            have hl2 := heq' hok
            subst hl2
            rw [hok] at hst'
            refine .inl ⟨col', m', ks ++ [(Bil.acct b' (pi : Int) N).1], (Bil.acct b' (pi : Int) N).2.1, hz4, ⟨hl', fun q hq => (hcl' q hq).elim (hdl.f q) (fun h => by have := hdl.lat.row.lt; have := hdl.f bl (by rw [hdl.lat.cbl]; decide); omega), hbw', hst', ho⟩, by rw [List.length_append, List.length_singleton, hml], ?_⟩
            rw [hac1, ← hpis, List.append_assoc]; rfl
          · rw [Bil.accts_err1 hok] at hac1
            have hc1 : w2.cell? ⟨bl, 1, none⟩ = some (.int .i64 (l'.periods : Int)) := hl'.row.cell 1
            rw [hp'] at hc1
            exact .inr ⟨(Bil.acct b' (pi : Int) N).2.2, (Bil.acct b' (pi : Int) N).2.1, hok, HDF.out ks _ _ hok (hac1.trans (by rw [List.append_nil])) hz4, hbw', hst', hc1⟩)
        have HPI := Lib.hid (And.intro hpi (And.intro hlt hpis))
        clear hdl hml hac hac1 hki hpi hpis hpk
        go_wp2_with (go_at_call 67; refine HC.out.mono ?_; rintro r w2 ⟨rfl, hr⟩; have HR := Lib.hid (HN2.out w2 hr); clear hr)
        go_roundw
        case rel => exact ⟨i + 1, by have := HPI.out.2.1; omega, by rw [← HPI.out.2.2], HR⟩
        case measure => have h1 := HPI.out; have h2 := HPK.out.1; simp [intOf, mpi]; omega
      · obtain rfl : i = K := by omega
        have i1 : ¬ (((pi : Nat) : Int) < (P : Int)) := by omega
        have HFI := Lib.hid (by
          have := hac
          rw [Nat.sub_self] at this
          exact (this.trans (by show (ks ++ [], (b', (0 : Int))) = (ks, b', 0); rw [List.append_nil]) : Bil.accts i (p0 : Int) b5 N = (ks, b', 0)))
        have HQ := Lib.hid (HDE.out ks b' HFI.out hz4)
        obtain ⟨A2, n2, c2, hr2, hn2, hnc2, hcm2, hn402, hrd2⟩ := hdl.st.row
        have q1 : wr.cell? ⟨br, 0, none⟩ = some (.slice A2 n2 c2) := hr2.cell 0
        have fe : wr.frozen? ⟨br, 1, none⟩ = false := hr2.frozen 1
        by_cases hbe : b' = []
        · subst hbe
          obtain rfl : 0 = n2 := hn2
          clear hr2 hnc2 hcm2 hn402 hrd2 hdl hml hac hpk hpi
          go_wp2_with fail
          go_ret2
          rw [HQ.out, if_pos True.intro]
          have ho := HDL.out.o
          exact ⟨HDL.out.bw, .inl ⟨_, bl, col, m, rfl, rfl, HDL.out.lat, fun q hq => by have := HDL.out.f q hq; omega⟩⟩
        · have hn0 : (0 : Int) < (n2 : Int) := by have : n2 ≠ 0 := (fun h => hbe (List.eq_nil_of_length_eq_zero (by omega))); omega
          have HNE := Lib.hid hbe
          clear hr2 hn2 hnc2 hcm2 hn402 hrd2 hdl hml hac hpk hpi hbe
          go_upto_region 14 with fail
          obtain ⟨wf, hwf⟩ : ∃ z, wr.setCell ⟨br, 1, none⟩ (.int .i64 6) = z := ⟨_, rfl⟩
          have qe : (wr.setCell ⟨br, 1, none⟩ (.int .i64 6)).cell? ⟨br, 1, none⟩ = some (.int .i64 6) := (HDL.out.st.fail 6).cell1
          have HBF : Hid (Below w.heap.size w (wr.setCell ⟨br, 1, none⟩ (.int .i64 6))) := Lib.hid (HDL.out.bw.grown (grown_setCell _ _ _ _) HDL.out.bw.size fun k e => by have := Option.some.inj e; have := HDL.out.o; omega)
          rw [hwf] at qe HBF ⊢
          clear hwf
          go_wp2_with fail
          go_quiet (fail)
          go_wp2
          go_ret2
          rw [HQ.out, if_neg HNE.out]
          exact ⟨below_drewN HBF.out _, .inr ⟨6, rfl, by decide, rfl⟩⟩
    · have HX := Lib.hid (And.intro he (And.intro hdec hbw))
      have qe : wr.cell? ⟨br, 1, none⟩ = some (.int .i64 e) := hst.cell1
      have hne : (e == 0) = false := by rw [beq_eq_false_iff_ne]; exact he
      have hne2 : (e != 0) = true := by rw [bne_iff_ne]; exact he
      by_cases hlt : i < K
      · have i1 : ((pi : Nat) : Int) < (P : Int) := by omega
        clear he hdec hbw hst hlt hpk hpi
        go_upto_region 14 with fail
        go_wp2_with fail
        go_quiet (fail)
        go_wp2
        go_ret2
        rw [HX.out.2.1]
        exact ⟨below_drewN HX.out.2.2 _, .inr ⟨e, rfl, HX.out.1, rfl⟩⟩
      · have i1 : ¬ (((pi : Nat) : Int) < (P : Int)) := by omega
        clear he hdec hbw hst hlt hpk hpi
        go_upto_region 14 with fail
        go_wp2_with fail
        go_quiet (fail)
        go_wp2
        go_ret2
        rw [HX.out.2.1]
        exact ⟨below_drewN HX.out.2.2 _, .inr ⟨e, rfl, HX.out.1, rfl⟩⟩
end Go.Proofs.YtkjomnakolhdcaaDoor
