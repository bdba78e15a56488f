/- The readers of both decoders: fail, number. Conditions: at most 2^40 bytes are read. -/
import Derived.Test.YtcicfneekmbamaaChkRL
import Derived.Test.YtcicfneekmbamaaWireGetInt
import Derived.Test.YtcicfneekmbamaaWireDec
namespace Go.Proofs.Ytcicfneekmbamaa
set_option linter.unusedVariables false
set_option linter.unusedSimpArgs false
open Go.RowKit
theorem wGet_len (A : Option Addr) (c n0 : Nat) (b : List UInt8) (w : World) (B : Nat) (hn0 : b.length = n0) (hr : Rd w B 1 A n0 (bvs b)) (hL : n0 ≤ 1099511627776) (hc : n0 ≤ c) (hcm : c ≤ maxLen)
    (n : Int) (u : Nat) (er : Int) (hd : Wire.dec b = (n, u, er)) :
    Calls Try.prog 85 #[.slice A n0 c] w fun e w' => e = .returned (.tuple #[.int .i64 n, .int .i64 u, .int .i64 er]) ∧ w' = w := by
  subst hn0
  refine (wireGetInt_any A c b w B hr hL hc hcm n u er hd).mono ?_
  rintro e w' ⟨rfl, rfl⟩
  exact ⟨rfl, rfl⟩
theorem rGet_len (A : Option Addr) (c n0 : Nat) (b : List UInt8) (w : World) (B : Nat) (hn0 : b.length = n0) (hr : Rd w B 1 A n0 (bvs b)) (hL : n0 ≤ 1099511627776) (hc : n0 ≤ c) (hcm : c ≤ maxLen)
    (n : Int) (u : Nat) (er : Int) (hd : Wire.dec b = (n, u, er)) (hB : B ≤ w.heap.size) :
    Calls Try.prog 88 #[.slice A n0 c] w fun e w' => e = .returned (.tuple #[.int .i64 n, .int .i64 u, .int .i64 er]) ∧ Below w.heap.size w w' := by
  subst hn0; exact refGetInt_any A c b w B hB hr hL hc hcm n u er hd
/-- a reader lies in block rb, behind block B: it reads the bytes s.b, its first error is s.e -/
def RdrAt (w : World) (T : TypeId) (rb B : Nat) (s : Chk.Rdr) : Prop :=
  ∃ A n c, IsRow w rb T [.slice A n c, .int .i64 s.e] ∧ s.b.length = n ∧ n ≤ c ∧ c ≤ maxLen ∧ Rd w B 1 A n (bvs s.b) ∧ B ≤ rb
section
variable {w w' : World} {T : TypeId} {rb B : Nat} {s : Chk.Rdr}
theorem RdrAt.keep {S : Nat → Prop} (h : RdrAt w T rb B s) (hk : Keep S w w') (h1 : ¬ S rb) (h2 : ∀ k, k < B → ¬ S k) : RdrAt w' T rb B s := by
  obtain ⟨A, n, c, hb, hn, hc, hm, hr, hB⟩ := h
  have hlt := hb.lt
  exact ⟨A, n, c, hb.keep (hk.block rb hlt h1), hn, hc, hm, hr.keep fun p hp => hk.cell (by omega) (h2 _ hp), hB⟩
theorem RdrAt.below (h : RdrAt w T rb B s) (hb : Below w.heap.size w w') : RdrAt w' T rb B s := h.keep (S := fun _ => False) (Keep.of_below hb) id fun _ _ h => h
theorem RdrAt.lt (h : RdrAt w T rb B s) : rb < w.heap.size := by obtain ⟨A, n, c, hb, _⟩ := h; exact hb.lt
theorem RdrAt.cellE (h : RdrAt w T rb B s) : w.cell? ⟨rb, 1, none⟩ = some (.int .i64 s.e) := by obtain ⟨A, n, c, hb, _⟩ := h; exact hb.cell 1
theorem RdrAt.frozen (h : RdrAt w T rb B s) (k : Nat) : w.frozen? ⟨rb, k, none⟩ = false := by obtain ⟨A, n, c, hb, _⟩ := h; exact hb.frozen k
theorem RdrAt.setE (h : RdrAt w T rb B s) (e' : Int) : RdrAt (w.setCell ⟨rb, 1, none⟩ (.int .i64 e')) T rb B ⟨s.b, e'⟩ := by
  obtain ⟨A, n, c, hb, hn, hc, hm, hr, hB⟩ := h
  exact ⟨A, n, c, hb.set 1 (.int .i64 e'), hn, hc, hm, hr.setCell (p := ⟨rb, 1, none⟩) hB _, hB⟩
end
theorem setE_keep (w : World) (rb : Nat) (k : Nat) (v : Value) : Keep (fun k => k = rb) w (w.setCell ⟨rb, k, none⟩ v) := Keep.setCell (S := fun k => k = rb) (Keep.refl _ w) (a := ⟨rb, k, none⟩) (.inl rfl) v
/-- the ending of a reader's call that returns v -/
def RdRes (T : TypeId) (rb B : Nat) (v : Value) (s : Chk.Rdr) (w : World) (e : Ending) (w' : World) : Prop := e = .returned v ∧ RdrAt w' T rb B s ∧ Keep (fun k => k = rb) w w'
def failS (s : Chk.Rdr) (is : Bool) (er : Int) : Chk.Rdr := if s.e = 0 ∧ is = false then ⟨s.b, er⟩ else s
set_option maxHeartbeats 1600000 in
theorem fail_any (rb B : Nat) (s : Chk.Rdr) (is : Bool) (er : Int) (S : Bool) (hS : ((failS s is er).e == 0) = S) (w : World) (h : RdrAt w 100 rb B s) :
    Calls Try.prog 63 #[.pointer (some ⟨rb, 0, none⟩), .bool is, .int .i64 er] w (RdRes 100 rb B (.bool S) (failS s is er) w) := by
  have hce := h.cellE
  have hf := h.frozen 1
  have H := Lib.hid h
  obtain ⟨b, e⟩ := s
  dsimp only at hce
  by_cases he : e = 0
  · subst he
    cases is with
    | false =>
      have hx : failS ⟨b, 0⟩ false er = ⟨b, er⟩ := by unfold failS; rw [if_pos ⟨rfl, rfl⟩]
      rw [hx] at hS ⊢
      have hS' : (er == 0) = S := hS
      have HE := Lib.hid (H.out.setE er)
      clear hx h hS
      go_enter Try.func63, Try.ntmps63
      go_wp2
      go_ret
      exact ⟨rfl, HE.out, setE_keep w rb 1 _⟩
    | true =>
      have hx : failS ⟨b, 0⟩ true er = ⟨b, 0⟩ := by unfold failS; rw [if_neg (fun h => by cases h.2)]
      rw [hx] at hS ⊢
      obtain rfl : S = true := by rw [← hS]; rfl
      clear hx h hS
      go_enter Try.func63, Try.ntmps63
      go_wp2
      go_ret
      exact ⟨rfl, H.out, Keep.refl _ _⟩
  · have hx : failS ⟨b, e⟩ is er = ⟨b, e⟩ := by unfold failS; rw [if_neg (fun h => he h.1)]
    rw [hx] at hS ⊢
    have he' : (e == 0) = false := by simpa using he
    obtain rfl : S = false := by rw [← hS]; exact he'
    clear hx h hS he
    go_enter Try.func63, Try.ntmps63
    go_wp2
    go_ret
    exact ⟨rfl, H.out, Keep.refl _ _⟩
end Go.Proofs.Ytcicfneekmbamaa
