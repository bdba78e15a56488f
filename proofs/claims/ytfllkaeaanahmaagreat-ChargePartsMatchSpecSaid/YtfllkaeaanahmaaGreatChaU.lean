/- Joined texts: ChaW, ChaP, ChaM, ChaU. Conditions: as each part says. -/
import Derived.Test.YtfllkaeaanahmaaGreatSpl6
import Derived.Test.YtfllkaeaanahmaaGreatChkTab
import Derived.Test.YtfllkaeaanahmaaGreatStrD
import Derived.Test.YtfllkaeaanahmaaGreatChkRJK
import Derived.Test.YtfllkaeaanahmaaGreatStrVA
import Derived.Test.YtfllkaeaanahmaaGreatCLawHP
import Derived.Test.YtfllkaeaanahmaaGreatSpl5
namespace Go.Proofs.YtfllkaeaanahmaaGreat
set_option linter.unusedVariables false
set_option linter.unusedSimpArgs false
section
open Go.RowKit
namespace Cha
open Spl (Ordr Bef Fst)
theorem bef_trans {key : Nat → Int} {i j k : Nat} (h : Bef key i j) (h' : Bef key j k) : Bef key i k := by unfold Bef at *; omega
theorem ordr_ex (key : Nat → Int) : ∀ n, ∃ p, Ordr key n p
 | 0 => ⟨id, ⟨fun t h => absurd h (Nat.not_lt_zero t), fun s t h => absurd h (Nat.not_lt_zero s), fun s t _ h => absurd h (Nat.not_lt_zero t)⟩⟩
 | n + 1 => by
  obtain ⟨p, O⟩ := ordr_ex key n
  have key' : ∀ m, m ≤ n → (∀ s, s < m → Bef key (p s) n) ∨ ∃ c, c < m ∧ ¬ Bef key (p c) n ∧ ∀ s, s < c → Bef key (p s) n := fun m => by
   induction m with
   | zero => intro _; exact .inl fun s h => absurd h (Nat.not_lt_zero s)
   | succ m ih =>
    intro hm
    rcases ih (by omega) with h | ⟨c, h1, h2, h3⟩
    ·
     by_cases hb : Bef key (p m) n
     ·
      exact .inl fun s hs => by
       rcases Nat.lt_or_ge s m with e | e
       ·
        exact h s e
       ·
        obtain rfl : s = m := by omega
        exact hb
     ·
      exact .inr ⟨m, by omega, hb, h⟩
    ·
     exact .inr ⟨c, by omega, h2, h3⟩
  obtain ⟨c, hc, h1, h2⟩ : ∃ c, c ≤ n ∧ (∀ s, s < c → Bef key (p s) n) ∧ ∀ s, c ≤ s → s < n → Bef key n (p s) := by
   rcases key' n (Nat.le_refl n) with h | ⟨c, h1, h2, h3⟩
   ·
    exact ⟨n, Nat.le_refl n, h, fun s a b => absurd b (by omega)⟩
   ·
    have hb : Bef key n (p c) := (Spl.bef_total (show p c ≠ n from fun e => by have := O.lt c h1; omega)).resolve_left h2
    refine ⟨c, by omega, h3, fun s a b => ?_⟩
    rcases Nat.lt_or_ge c s with e | e
    ·
     exact bef_trans hb (O.srt c s e b)
    ·
     obtain rfl : s = c := by omega
     exact hb
  obtain ⟨F, hF⟩ : ∃ F : Nat → Nat, (fun t => if t < c then p t else if t = c then n else p (t - 1)) = F := ⟨_, rfl⟩
  have f1 : ∀ t, t < c → F t = p t := fun t h => by rw [← hF]; exact if_pos h
  have f2 : F c = n := by rw [← hF]; show (if c < c then p c else if c = c then n else p (c - 1)) = n; rw [if_neg (Nat.lt_irrefl c), if_pos rfl]
  have f3 : ∀ t, c < t → F t = p (t - 1) := fun t h => by rw [← hF]; show (if t < c then p t else if t = c then n else p (t - 1)) = _; rw [if_neg (by omega), if_neg (by omega)]
  refine ⟨F, ⟨fun t ht => ?_, fun s t hs ht e => ?_, fun s t hst ht => ?_⟩⟩
  ·
   rcases Nat.lt_trichotomy t c with a | a | a
   ·
    rw [f1 t a]; have := O.lt t (by omega); omega
   ·
    subst a; rw [f2]; omega
   ·
    rw [f3 t a]; have := O.lt (t - 1) (by omega); omega
  ·
   rcases Nat.lt_trichotomy s c with a | a | a <;> rcases Nat.lt_trichotomy t c with b | b | b
   ·
    rw [f1 s a, f1 t b] at e; exact O.inj s t (by omega) (by omega) e
   ·
    subst b; rw [f1 s a, f2] at e; have := O.lt s (by omega); omega
   ·
    rw [f1 s a, f3 t b] at e; have := O.inj s (t - 1) (by omega) (by omega) e; omega
   ·
    subst a; rw [f2, f1 t b] at e; have := O.lt t (by omega); omega
   ·
    omega
   ·
    subst a; rw [f2, f3 t b] at e; have := O.lt (t - 1) (by omega); omega
   ·
    rw [f3 s a, f1 t b] at e; have := O.inj (s - 1) t (by omega) (by omega) e; omega
   ·
    subst b; rw [f3 s a, f2] at e; have := O.lt (s - 1) (by omega); omega
   ·
    rw [f3 s a, f3 t b] at e; have := O.inj (s - 1) (t - 1) (by omega) (by omega) e; omega
  ·
   rcases Nat.lt_trichotomy s c with a | a | a
   ·
    rw [f1 s a]
    rcases Nat.lt_trichotomy t c with b | b | b
    ·
     rw [f1 t b]; exact O.srt s t hst (by omega)
    ·
     subst b; rw [f2]; exact h1 s a
    ·
     rw [f3 t b]; exact O.srt s (t - 1) (by omega) (by omega)
   ·
    subst a; rw [f2, f3 t (by omega)]; exact h2 (t - 1) (by omega) (by omega)
   ·
    rw [f3 s a, f3 t (by omega)]; exact O.srt (s - 1) (t - 1) (by omega) (by omega)
theorem ordr_eq {key : Nat → Int} {n : Nat} {p p' : Nat → Nat} (O : Ordr key n p) (O' : Ordr key n p') : ∀ t, t < n → p t = p' t := fun t => by
 induction t using Nat.strongRecOn with
 | ind t ih =>
  intro ht
  obtain ⟨s, hs, es⟩ := Spl.surj n p O.lt O.inj (p' t) (O'.lt t ht)
  obtain ⟨s', hs', es'⟩ := Spl.surj n p' O'.lt O'.inj (p t) (O.lt t ht)
  have g1 : ¬ s < t := fun h => by
   have e := ih s h hs
   have := O'.inj s t hs ht (e.symm.trans es)
   omega
  have g2 : ¬ s' < t := fun h => by
   have e := ih s' h hs'
   have := O.inj s' t hs' ht (e.trans es')
   omega
  rcases Nat.lt_or_ge t s with h3 | h3
  ·
   rcases Nat.lt_or_ge t s' with h4 | h4
   ·
    have b1 := O.srt t s h3 hs
    have b2 := O'.srt t s' h4 hs'
    rw [es] at b1
    rw [es'] at b2
    exact (Spl.bef_asym b1 b2).elim
   ·
    obtain rfl : s' = t := by omega
    exact es'.symm
  ·
   obtain rfl : s = t := by omega
   exact es
noncomputable def ordP (key : Nat → Int) (n : Nat) : Nat → Nat := (ordr_ex key n).choose
theorem ordP_is (key : Nat → Int) (n : Nat) : Ordr key n (ordP key n) := (ordr_ex key n).choose_spec
def good (T : Int) (ws : List Int) : Prop := 0 ≤ T ∧ T ≤ 2147483647 ∧ W.OkTo ws ws.length ∧ Spl.sumTo (W.wOf ws) ws.length ≠ 0
def kOf (T : Int) (ws : List Int) : Nat := (T - Spl.sumTo (W.baseOf T (Spl.sumTo (W.wOf ws) ws.length) ws) ws.length).toNat
open Classical in
noncomputable def wsh (T : Int) (ws : List Int) : List Int := if good T ws then W.rowL ws.length (W.shOf T ws ws.length (ordP (fun t => T * ws.getD t 0 % Spl.sumTo (W.wOf ws) ws.length) ws.length) (kOf T ws)) else []
theorem shOf_eq {T : Int} {ws : List Int} {n k : Nat} {p p' : Nat → Nat} (O : Ordr (fun t => T * ws.getD t 0 % Spl.sumTo (W.wOf ws) n) n p) (O' : Ordr (fun t => T * ws.getD t 0 % Spl.sumTo (W.wOf ws) n) n p') (hk : k ≤ n) {t : Nat} (ht : t < n) : W.shOf T ws n p k t = W.shOf T ws n p' k t := by
 rw [W.sh_eq O hk ht, W.sh_eq O' hk ht]
 have e : Fst p k t ↔ Fst p' k t := by
  constructor
  ·
   rintro ⟨s, hs, es⟩; exact ⟨s, hs, by rw [← ordr_eq O O' s (by omega)]; exact es⟩
  ·
   rintro ⟨s, hs, es⟩; exact ⟨s, hs, by rw [ordr_eq O O' s (by omega)]; exact es⟩
 by_cases h : Fst p k t
 ·
  rw [if_pos h, if_pos (e.1 h)]
 ·
  rw [if_neg h, if_neg (fun h' => h (e.2 h'))]
theorem wsh_bad {T : Int} {ws : List Int} (h : ¬ good T ws) : wsh T ws = [] := by unfold wsh; rw [if_neg h]
theorem wsh_good {T : Int} {ws : List Int} (h : good T ws) {p : Nat → Nat} {k : Nat} (O : Ordr (fun t => T * ws.getD t 0 % Spl.sumTo (W.wOf ws) ws.length) ws.length p) (hk : (k : Int) = T - Spl.sumTo (W.baseOf T (Spl.sumTo (W.wOf ws) ws.length) ws) ws.length) (hkn : k ≤ ws.length) :
  wsh T ws = W.rowL ws.length (W.shOf T ws ws.length p k) := by
 have ek : kOf T ws = k := by unfold kOf; rw [← hk]; simp
 unfold wsh
 rw [if_pos h, ek]
 unfold W.rowL
 refine List.map_congr_left fun t ht => ?_
 exact shOf_eq (ordP_is _ _) O hkn (List.mem_range.1 ht)
theorem wsh_len {T : Int} {ws : List Int} (h : good T ws) : (wsh T ws).length = ws.length := by unfold wsh; rw [if_pos h]; simp [W.rowL]
end Cha
open W in
theorem weighted_any (T : Int) (A : Option Addr) (n c : Nat) (ws : List Int) (hl : ws.length = n) (hn : n ≤ 1000) (B : Nat) (w : World) (hr : Rd w B 1 A n (ivs ws)) (hB : B ≤ w.heap.size) :
  Calls Tryz.prog 51 #[.int .i64 T, .slice A n c] w fun e w' => ∃ A' c' er, e = .returned (.tuple #[.slice A' (Cha.wsh T ws).length c', .int .i64 er]) ∧ Rd w' w'.heap.size 1 A' (Cha.wsh T ws).length (ivs (Cha.wsh T ws)) ∧ (∀ p, A' = some p → w.heap.size ≤ p.block) ∧ (er = 0 ↔ Cha.good T ws) ∧ Below w.heap.size w w' := by
 by_cases hv : Cha.good T ws
 ·
  subst hl
  refine (weighted_ok T A ws.length c ws rfl hn B w hr hB hv.1 hv.2.1 hv.2.2.1 hv.2.2.2).mono ?_
  rintro e w' ⟨g, c', p, k, rfl, _, F, O, hk, hkn, hg, hb⟩
  have r := (show FRow w' g ws.length (shOf T ws ws.length p k) from F).rdL
  rw [← Cha.wsh_good hv O hk hkn] at r
  refine ⟨some ⟨g, 0, none⟩, c', 0, by rw [Cha.wsh_len hv], by rw [Cha.wsh_len hv]; exact r, fun p e => by have := Option.some.inj e; subst this; exact hg, by simp [hv], hb⟩
 ·
  refine (weighted_bad T A n c ws hl hn B w hr hB (not_val (by subst hl; exact hv))).mono ?_
  rintro e w' ⟨rfl, hb⟩
  refine ⟨none, 0, 1, by rw [Cha.wsh_bad hv]; rfl, by rw [Cha.wsh_bad hv]; exact ⟨rfl, fun h => absurd h (Nat.not_lt_zero _)⟩, fun p e => (by cases e), by simp [hv], hb⟩
theorem Cha.k_range {T : Int} {ws : List Int} (hv : Cha.good T ws) : ((Cha.kOf T ws : Nat) : Int) = T - Spl.sumTo (W.baseOf T (Spl.sumTo (W.wOf ws) ws.length) ws) ws.length ∧ Cha.kOf T ws ≤ ws.length := by
 have hp := (W.val_pos (T := T) (ws := ws) (n := ws.length) hv).1
 have hn0 : 0 < ws.length := by
  rcases Nat.eq_zero_or_pos ws.length with h | h
  ·
   rw [h] at hp; exact absurd hp (Int.lt_irrefl 0)
  ·
   exact h
 have h : 0 ≤ T - Spl.sumTo (W.baseOf T (Spl.sumTo (W.wOf ws) ws.length) ws) ws.length ∧ T - Spl.sumTo (W.baseOf T (Spl.sumTo (W.wOf ws) ws.length) ws) ws.length < ws.length := Spl.left_range (T := T) (w := W.wOf ws) (n := ws.length) rfl hp hn0
 unfold Cha.kOf
 omega
open W in
theorem rweighted_any (T : Int) (A : Option Addr) (n c : Nat) (ws : List Int) (hl : ws.length = n) (hn : n ≤ 1000) (B : Nat) (w : World) (hr : Rd w B 1 A n (ivs ws)) (hB : B ≤ w.heap.size) :
  Calls Tryz.prog 53 #[.int .i64 T, .slice A n c] w fun e w' => ∃ A' c' er, e = .returned (.tuple #[.slice A' (Cha.wsh T ws).length c', .int .i64 er]) ∧ Rd w' w'.heap.size 1 A' (Cha.wsh T ws).length (ivs (Cha.wsh T ws)) ∧ (∀ p, A' = some p → w.heap.size ≤ p.block) ∧ (er = 0 ↔ Cha.good T ws) ∧ Below w.heap.size w w' := by
 by_cases hv : Cha.good T ws
 ·
  subst hl
  have hk := Cha.k_range hv
  refine (refWeighted_new T A ws.length c ws rfl hn B w hr hB hv _ _ (Cha.ordP_is _ _) hk.1 hk.2).mono ?_
  rintro e w' ⟨g, c', rfl, hg, r, hb⟩
  rw [← Cha.wsh_good hv (Cha.ordP_is _ _) hk.1 hk.2] at r
  exact ⟨some ⟨g, 0, none⟩, c', 0, by rw [Cha.wsh_len hv], by rw [Cha.wsh_len hv]; exact r, fun p e => by have := Option.some.inj e; subst this; exact hg, by simp [hv], hb⟩
 ·
  refine (refWeighted_bad T A n c ws hl hn B w hr (not_val (by subst hl; exact hv))).mono ?_
  rintro e w' ⟨rfl, hb⟩
  exact ⟨none, 0, 1, by rw [Cha.wsh_bad hv]; rfl, by rw [Cha.wsh_bad hv]; exact ⟨rfl, fun h => absurd h (Nat.not_lt_zero _)⟩, fun p e => (by cases e), by simp [hv], hb⟩
end
section
open Go.RowKit
namespace Cha
noncomputable section
structure Sh where
 t : Nat → Int
 h : Int
abbrev wr (x : Int) : Int := wrap64 x
def zero : Sh := ⟨fun _ => 0, 0⟩
def put1 (t : Nat → Int) (who : Nat) (x : Int) : Nat → Int := fun j => if j = who then wr (t who + x) else t j
def who (rs : List Chk.Rf) (k : Nat) : Nat := (rs.getD k ⟨0, 0⟩).t.toNat
def dist (rs : List Chk.Rf) (sh : List Int) (t : Nat → Int) : Nat → Nat → Int
 | 0 => t
 | k + 1 => put1 (dist rs sh t k) (who rs k) (sh.getD k 0)
def cnts (rs : List Chk.Rf) : List Int := rs.map (·.n)
def shares (c : Chk.Ck) (cost : Int) : List Int := wsh cost (cnts c.refs)
def chunkS (c : Chk.Ck) (cost : Int) (t : Nat → Int) : Nat → Int := dist c.refs (shares c cost) t (shares c cost).length
def ckOf (l : List Chk.Ck) (id : Int) : Chk.Ck := Chk.nth l ((Chk.pos (Chk.ids l) id).getD 0)
def liveS (l : List Chk.Ck) (live : List Int) (cost : Int) (t : Nat → Int) : Nat → Nat → Int
 | 0 => t
 | k + 1 => chunkS (ckOf l (live.getD k 0)) (W.evenOf cost live.length k) (liveS l live cost t k)
def stripeS (l : List Chk.Ck) (r g cost : Int) (s : Sh) : Sh :=
 if (Chk.live l r g).length = 0 then ⟨s.t, wr (s.h + cost)⟩ else ⟨liveS l (Chk.live l r g) cost s.t (Chk.live l r g).length, s.h⟩
def usedS (l : List Chk.Ck) (r : Int) (us : List S.Str.Us) (d : Int) : Nat → Sh
 | 0 => zero
 | k + 1 => stripeS l r (us.getD k ⟨0, 0, 0⟩).g (W.evenOf d us.length k) (usedS l r us d k)
def rowS (l : List Chk.Ck) (r : Int) (us : List S.Str.Us) (d : Int) : Sh := usedS l r us d us.length
def addS (a b : Sh) : Sh := ⟨fun j => wr (a.t j + b.t j), wr (a.h + b.h)⟩
def rowAt (l : List Chk.Ck) (rs : List S.Str.Rw) (d : Int) (k : Nat) : Sh := rowS l k (rs.getD k S.Str.free).used d
def ofS (l : List Chk.Ck) (rs : List S.Str.Rw) (d : Int) (m : Sh) : Nat → Sh
 | 0 => m
 | k + 1 => addS (ofS l rs d m k) (rowAt l rs d k)
def metaT (c : S.Str.Cfg) : Int := c.d * (c.log + 2 * c.img)
def metaS (c : S.Str.Cfg) (bs : List Int) : Sh := if ∀ x ∈ bs, x = 0 then ⟨fun _ => 0, metaT c⟩ else ⟨fun j => (wsh (metaT c) bs).getD j 0, 0⟩
def blocksOk (c : S.Str.Cfg) (bs : List Int) : Prop := bs.length = 16 ∧ ((∀ x ∈ bs, x = 0) ∨ good (metaT c) bs)
theorem meta_range {c : S.Str.Cfg} (h : c.ok = true) : 0 ≤ c.d ∧ c.d ≤ 64 ∧ 0 ≤ c.log ∧ c.log ≤ 65536 ∧ 0 ≤ c.img ∧ c.img ≤ 65536 ∧ 0 ≤ metaT c ∧ metaT c ≤ 12582912 := by
 unfold S.Str.Cfg.ok at h
 simp only [Bool.and_eq_true, decide_eq_true_iff] at h
 obtain ⟨⟨⟨⟨⟨⟨h1, h2⟩, h3⟩, h4⟩, h5⟩, h6⟩, h7⟩ := h
 have a1 := S.Str.within_t h1
 have a2 := S.Str.within_t h5
 have a3 := S.Str.within_t h6
 refine ⟨by omega, a1.2, by omega, a2.2, by omega, a3.2, Int.mul_nonneg (by omega) (by omega), ?_⟩
 unfold metaT
 calc c.d * (c.log + 2 * c.img) ≤ 64 * (c.log + 2 * c.img) := Int.mul_le_mul_of_nonneg_right a1.2 (by omega)
  _ ≤ 12582912 := by omega
theorem even_range {T : Int} {n k : Nat} (h0 : 0 ≤ T) (h1 : T ≤ 2000000000) (hn : 0 < n) : 0 ≤ W.evenOf T n k ∧ W.evenOf T n k ≤ T + 1 := by
 unfold W.evenOf
 have := Int.ediv_nonneg h0 (show (0 : Int) ≤ (n : Int) by omega)
 have := Int.ediv_le_self (n : Int) h0
 split <;> omega
theorem live_pos {l : List Chk.Ck} {r g id : Int} (h : id ∈ Chk.live l r g) : ∃ j, Chk.pos (Chk.ids l) id = some j ∧ ckOf l id = Chk.nth l j := by
 unfold Chk.live at h
 obtain ⟨n, _, hn⟩ := List.mem_flatMap.1 h
 obtain ⟨c, hc, rfl⟩ : ∃ c, c ∈ l ∧ c.id = id := by
  unfold Chk.unitAt at hn
  cases hf : l.find? (fun c => !c.lost && decide (c.at_ = ⟨r, g, (n : Nat)⟩)) with
  | none => rw [hf] at hn; simp at hn
  | some c =>
   rw [hf] at hn
   have e : id = c.id := by simpa using hn
   exact ⟨c, List.mem_of_find?_eq_some hf, e.symm⟩
 cases hp : Chk.pos (Chk.ids l) c.id with
 | none => exact absurd rfl (Chk.pos_none hp c.id (List.mem_map_of_mem hc))
 | some j => exact ⟨j, rfl, by unfold ckOf; rw [hp]; rfl⟩
theorem live_le (l : List Chk.Ck) (r g : Int) : (Chk.live l r g).length ≤ 32 := liveN_le l r g 32
theorem getD_mem {xs : List Int} {k : Nat} (h : k < xs.length) : xs.getD k 0 ∈ xs := by
 rw [List.getD, List.getElem?_eq_getElem h]; exact List.getElem_mem h
end
end Cha
end
section
open Go.RowKit
open W (FRow)
def shL (g : Nat) (h : Int) : List Value := [.slice (some ⟨g, 0, none⟩) 16 16, .int .i64 h]
def zShL : List Value := [.slice none 0 0, .int .i64 0]
def z16 : List Int := List.replicate 16 0
theorem infoSR : (Tryz.prog.info? 39).map (fun i => (i.zero, i.size)) = some (some (.agg zShL.toArray), zShL.length) := by kernel_rfl
theorem sizeSR : (Tryz.prog.info? 39).map (·.size) = some 2 := by kernel_rfl
theorem infoSP : (Tryz.prog.info? 35).map (fun i => (i.zero, i.size)) = some (some (.agg zShL.toArray), zShL.length) := by kernel_rfl
theorem sizeSP : (Tryz.prog.info? 35).map (·.size) = some 2 := by kernel_rfl
theorem mk16 (W : World) : (Instr.makeSlice 27 (.int .i64 16) (.int .i64 16)).run Tryz.prog W = .ok (.slice (some ⟨W.heap.size, 0, none⟩) 16 16) (W.alloc (.cells (ivs z16).toArray 3)) := by kernel_rfl
theorem resultRowH {P : Program} {fn : Func} {p : Tmp} {ty : TypeId} (h : fn.results = #[.cell p ty]) (tmps : Array Value) (w : World) {b t : Nat} {fs : Array Field} {l : List Value} (hr : IsRow w b t l)
  (hp : tmps.getD p undef = .pointer (some ⟨b, 0, none⟩)) (hu : P.underlying ty = some (.struct fs)) (hi : (P.info? ty).map (·.size) = some l.length) : (results fn tmps).run P w = .ok (.agg l.toArray) w :=
 results_cell_row h tmps w b t l.toArray (0, 0) _ hp hr hu rfl (by simpa using hi)
theorem frow_of {w : World} {g T n : Nat} {l : List Int} (h : IsRow w g T (ivs l)) (hl : l.length = n) : FRow w g n (fun t => l.getD t 0) :=
 ⟨h.lt, fun t ht => by rw [h.cell]; simp [ivs, List.getD, List.getElem?_eq_getElem (show t < l.length by omega)], fun t _ => h.frozen t⟩
theorem z16_get (t : Nat) : z16.getD t 0 = 0 := by
 rcases Nat.lt_or_ge t z16.length with h | h
 ·
  rw [List.getD, List.getElem?_eq_getElem h]
  exact List.eq_of_mem_replicate (List.getElem_mem h)
 ·
  rw [List.getD, List.getElem?_eq_none h]; rfl
theorem frow_zero {w : World} {g T : Nat} (h : IsRow w g T (ivs z16)) : FRow w g 16 Cha.zero.t := (frow_of h rfl).congr fun t _ => (z16_get t).symm
structure BoxS (T : TypeId) (w : World) (b g : Nat) (s : Cha.Sh) : Prop where
 row : IsRow w b T (shL g s.h)
 ten : FRow w g 16 s.t
 ne : b ≠ g
section
variable {T : TypeId} {w w' : World} {b g : Nat} {s : Cha.Sh}
theorem BoxS.below (h : BoxS T w b g s) (hb : Below w.heap.size w w') : BoxS T w' b g s := ⟨h.row.below' hb, h.ten.below hb, h.ne⟩
theorem BoxS.drewN (h : BoxS T w b g s) (n : Nat) : BoxS T (w.drewN n) b g s := ⟨h.row.drewN n, h.ten.drewN n, h.ne⟩
theorem BoxS.setT (h : BoxS T w b g s) {k : Nat} (hk : k < 16) (v : Int) : BoxS T (w.setCell ⟨g, k, none⟩ (.int .i64 v)) b g ⟨fun j => if j = k then v else s.t j, s.h⟩ :=
 ⟨h.row.setOther (p := ⟨g, k, none⟩) (fun e => h.ne e.symm) _, h.ten.set hk v, h.ne⟩
theorem BoxS.setH (h : BoxS T w b g s) (v : Int) : BoxS T (w.setCell ⟨b, 1, none⟩ (.int .i64 v)) b g ⟨s.t, v⟩ :=
 ⟨h.row.set 1 _, h.ten.keep (Below.heap_setCell _ _ _ g (fun e => h.ne e.symm)), h.ne⟩
theorem BoxS.put (h : BoxS T w b g s) {k : Nat} (hk : k < 16) (x : Int) : BoxS T (w.setCell ⟨g, k, none⟩ (.int .i64 (Cha.wr (s.t k + x)))) b g ⟨Cha.put1 s.t k x, s.h⟩ := h.setT hk _
theorem BoxS.cells (h : BoxS T w b g s) : w.cell? ⟨b, 0, none⟩ = some (.slice (some ⟨g, 0, none⟩) 16 16) ∧ w.cell? ⟨b, 1, none⟩ = some (.int .i64 s.h) ∧ w.frozen? ⟨b, 1, none⟩ = false := ⟨h.row.cell 0, h.row.cell 1, h.row.frozen 1⟩
theorem BoxS.lt (h : BoxS T w b g s) : b < w.heap.size ∧ g < w.heap.size := ⟨h.row.lt, h.ten.lt⟩
end
abbrev two (b g : Nat) : Nat → Prop := fun x => x = b ∨ x = g
theorem keep_two1 {w w1 : World} {b g k : Nat} {v : Value} (h : Keep (two b g) w w1) : Keep (two b g) w (w1.setCell ⟨g, k, none⟩ v) := h.setCell (.inl (.inr rfl)) v
theorem keep_two0 {w w1 : World} {b g k : Nat} {v : Value} (h : Keep (two b g) w w1) : Keep (two b g) w (w1.setCell ⟨b, k, none⟩ v) := h.setCell (.inl (.inl rfl)) v
theorem keep_rd {S : Nat → Prop} {w w' : World} {B b sz n : Nat} {A : Option Addr} {xs : List Value} (h : Rd w B sz A n xs) (hf : ∀ p, A = some p → b ≤ p.block) (hk : Keep S w w') (hS : ∀ x, S x → x < b) (hB : B ≤ w.heap.size) : Rd w' B sz A n xs :=
 h.keepS hk hB fun a e hs => by have := hf a e; have := hS _ hs; omega
theorem own_fr {w : World} {base size n c : Nat} {e : TypeId} {A : Option Addr} {xs : List Value} (h : w.ownsRow base e size (.slice A n c) n xs) : ∀ p, A = some p → base ≤ p.block := by
 rcases h.2 with ⟨h0, _⟩ | ⟨g, cap, cur, hv, hg, _⟩
 ·
  intro p e; cases h0; cases e
 ·
  intro p e
  cases hv
  have := Option.some.inj e
  subst this; exact hg
def ShNew (w : World) (s : Cha.Sh) (e : Ending) (w' : World) : Prop := ∃ g, e = .returned (.agg (shL g s.h).toArray) ∧ FRow w' g 16 s.t ∧ w.heap.size ≤ g ∧ Below w.heap.size w w'
theorem rnone34 (w : World) : Calls Tryz.prog 46 #[] w (ShNew w Cha.zero) := by
 have hm := mk16
 go_enter Tryz.func46, Tryz.ntmps46
 go_upto_region 1 with (refine wpList_allocRow rfl _ rfl _ infoSR ?_; intro w1 r1 b1 z1)
 have r2 := IsRow.new w1 3 (ivs z16)
 have b2 : Below w1.heap.size w1 (w1.alloc (.cells (ivs z16).toArray 3)) := (Below.refl _ _).alloc (Nat.le_refl _) _
 obtain ⟨w2, hw2⟩ : ∃ x, w1.alloc (.cells (ivs z16).toArray 3) = x := ⟨_, rfl⟩
 rw [hw2] at r2 b2
 rw [z1] at r2
 have r12 := r1.below' b2
 have HR2 := Lib.hid r2
 have HB2 := Lib.hid (And.intro b1 b2)
 have HZ := Lib.hid z1
 clear r1 r2 b1 b2
 go_wp2_with (refine wpList_storeRow rfl _ (.tmp 0) (.tmp 2) rfl (l' := [.slice (some ⟨w.heap.size + 1, 0, none⟩) 16 16, .int .i64 0]) r12 rfl rfl sizeSR rfl rfl ?_; intro w3 r3 g3 z3)
 refine bodyPost_ret (resultRowH rfl _ _ r3 rfl Tryz.underlying39 sizeSR) rfl ?_
 refine ⟨w.heap.size + 1, rfl, frow_zero (HR2.out.grown g3 (fun e => by have := Option.some.inj e; omega)), by omega, ?_⟩
 have hb := HB2.out.1.trans (HB2.out.2.mono HB2.out.1.size)
 exact hb.grown g3 hb.size (fun i hi => by have := Option.some.inj hi; omega)
end
section
open Go.RowKit
open W (FRow)
set_option maxRecDepth 100000 in
theorem pmeta_any (cf : S.Str.Cfg) (h : cf.ok = true) (w : World) : Calls Tryz.prog 43 #[S.cfV cf] w fun e w' => e = .returned (.int .i64 (Cha.metaT cf)) ∧ Below w.heap.size w w' := by
 have hm := Cha.meta_range h
 obtain ⟨d, r, rows, sp, log, img⟩ := cf
 unfold Cha.metaT at hm ⊢
 dsimp only at hm ⊢
 have w1 : IntKind.i64.wrap (2 * img) = 2 * img := IntWalk.i64_in _ (by omega)
 have w2 : IntKind.i64.wrap (log + 2 * img) = log + 2 * img := IntWalk.i64_in _ (by omega)
 have w3 : IntKind.i64.wrap (d * (log + 2 * img)) = d * (log + 2 * img) := IntWalk.i64_in _ (by omega)
 clear h hm
 have hb0 : Below w.heap.size w (w.alloc (.cells #[.int .i64 d, .int .i64 r, .int .i64 rows, .int .i64 sp, .int .i64 log, .int .i64 img] 23)) := (Below.refl _ _).alloc (Nat.le_refl _) _
 have HB0 := Lib.hid hb0
 clear hb0
 unfold S.cfV
 go_enter Tryz.func43, Tryz.ntmps43
 go_wp2_with fail
 go_ret
 exact ⟨rfl, HB0.out⟩
set_option maxRecDepth 100000 in
theorem rmeta_any (cf : S.Str.Cfg) (h : cf.ok = true) (w : World) : Calls Tryz.prog 45 #[S.cfV cf] w fun e w' => e = .returned (.int .i64 (Cha.metaT cf)) ∧ Below w.heap.size w w' := by
 have hm := Cha.meta_range h
 obtain ⟨d, r, rows, sp, log, img⟩ := cf
 unfold Cha.metaT at hm ⊢
 dsimp only at hm ⊢
 have w1 : IntKind.i64.wrap (2 * img) = 2 * img := IntWalk.i64_in _ (by omega)
 have w2 : IntKind.i64.wrap (log + 2 * img) = log + 2 * img := IntWalk.i64_in _ (by omega)
 have w3 : IntKind.i64.wrap (d * (log + 2 * img)) = d * (log + 2 * img) := IntWalk.i64_in _ (by omega)
 clear h hm
 have hb0 : Below w.heap.size w (w.alloc (.cells #[.int .i64 d, .int .i64 r, .int .i64 rows, .int .i64 sp, .int .i64 log, .int .i64 img] 23)) := (Below.refl _ _).alloc (Nat.le_refl _) _
 have HB0 := Lib.hid hb0
 clear hb0
 unfold S.cfV
 go_enter Tryz.func45, Tryz.ntmps45
 go_wp2_with fail
 go_ret
 exact ⟨rfl, HB0.out⟩
def Cha.totS (h : Int) (xs : List Int) : Nat → Int
 | 0 => h
 | k + 1 => Cha.wr (Cha.totS h xs k + xs.getD k 0)
theorem own_any (A : Option Addr) (n c : Nat) (h : Int) (w : World) : Calls Tryz.prog 14 #[.agg #[.slice A n c, .int .i64 h]] w fun e w' => e = .returned (.agg #[.slice A n c, .int .i64 h]) ∧ Below w.heap.size w w' := by
 have hb0 : Below w.heap.size w (w.alloc (.cells #[.slice A n c, .int .i64 h] 35)) := (Below.refl _ _).alloc (Nat.le_refl _) _
 have k0 := (IsRow.new w 35 [.slice A n c, .int .i64 h]).cell 0
 have k1 := (IsRow.new w 35 [.slice A n c, .int .i64 h]).cell 1
 dsimp only [List.getElem?_cons_zero, List.getElem?_cons_succ] at k0 k1
 have hlt : w.heap.size < (w.alloc (.cells #[.slice A n c, .int .i64 h] 35)).heap.size := by simp
 obtain ⟨w0, hw0⟩ : ∃ x, w.alloc (.cells #[.slice A n c, .int .i64 h] 35) = x := ⟨_, rfl⟩
 have hw1 : w.alloc (.cells [Value.slice A n c, .int .i64 h].toArray 35) = w0 := hw0
 rw [hw1] at k0 k1
 rw [hw0] at hb0 hlt
 have HW := Lib.hid hw0
 have HB := Lib.hid (And.intro hb0 hlt)
 clear hw0 hw1 hb0 hlt
 go_enter Tryz.func14, Tryz.ntmps14
 go_upto_region 1 with (rw [HW.out]; refine wpList_allocRow rfl _ rfl _ infoSR ?_; intro w1 r1 b1 z1)
 have k0 := (b1.cell (p := ⟨w.heap.size, 0, none⟩) HB.out.2).trans k0
 have k1 := (b1.cell (p := ⟨w.heap.size, 1, none⟩) HB.out.2).trans k1
 have HB1 := Lib.hid b1
 clear b1
 go_wp2_with (refine wpList_storeRow rfl _ (.tmp 2) (.tmp 7) rfl (l' := [.slice A n c, .int .i64 h]) r1 rfl rfl sizeSR rfl rfl ?_; intro w3 r3 g3 z3)
 refine bodyPost_ret (resultRowH rfl _ _ r3 rfl Tryz.underlying39 sizeSR) rfl ?_
 have hb := HB.out.1.trans (HB1.out.mono HB.out.1.size)
 exact ⟨rfl, hb.grown g3 hb.size (fun i hi => by have := Option.some.inj hi; have := HB.out.2; omega)⟩
set_option maxRecDepth 100000 in
theorem few_any (cf : S.Str.Cfg) (A : Option Addr) (n c : Nat) (hn : n ≤ 140737488355328) (w : World) (q : Bool) (hq : decide (cf.rows ≤ 64 ∧ n ≤ 64) = q) : Calls Tryz.prog 9 #[S.cfV cf, .slice A n c] w fun e w' => e = .returned (.bool q) ∧ Below w.heap.size w w' := by
 obtain ⟨d, r, rows, sp, log, img⟩ := cf
 dsimp only at hq
 have hb0 : Below w.heap.size w (w.alloc (.cells #[.int .i64 d, .int .i64 r, .int .i64 rows, .int .i64 sp, .int .i64 log, .int .i64 img] 23)) := (Below.refl _ _).alloc (Nat.le_refl _) _
 have HB0 := Lib.hid hb0
 clear hb0
 have HQ := Lib.hid hq
 clear hq
 unfold S.cfV
 by_cases h1 : rows ≤ 64
 ·
  by_cases h2 : n ≤ 64
  ·
   have h3 : (n : Int) ≤ 64 := by omega
   have H : Hid (true = q) := Lib.hid (by rw [← HQ.out]; exact (decide_eq_true ⟨h1, h2⟩).symm)
   clear h2
   go_enter Tryz.func9, Tryz.ntmps9
   go_wp2_with fail
   go_ret
   exact ⟨by have := H.out; subst this; rfl, HB0.out⟩
  ·
   have h3 : ¬ (n : Int) ≤ 64 := by omega
   have H : Hid (false = q) := Lib.hid (by rw [← HQ.out]; exact (decide_eq_false fun e => h2 e.2).symm)
   clear h2
   go_enter Tryz.func9, Tryz.ntmps9
   go_wp2_with fail
   go_ret
   exact ⟨by have := H.out; subst this; rfl, HB0.out⟩
 ·
  have H : Hid (false = q) := Lib.hid (by rw [← HQ.out]; exact (decide_eq_false fun e => h1 e.1).symm)
  go_enter Tryz.func9, Tryz.ntmps9
  go_wp2_with fail
  go_ret
  exact ⟨by have := H.out; subst this; rfl, HB0.out⟩
set_option maxRecDepth 100000 in
theorem same34_any (A B : Option Addr) (ca cb la lb : Nat) (xs ys : List Int) (h1 h2 : Int) (w : World) (hla : xs.length = la) (hlb : ys.length = lb) (hL : la ≤ maxLen) (B1 B2 : Nat) (hB1 : B1 ≤ w.heap.size) (hB2 : B2 ≤ w.heap.size) (ha : Rd w B1 1 A la (ivs xs)) (hb : Rd w B2 1 B lb (ivs ys)) (q : Bool) (hq : decide (xs = ys ∧ h1 = h2) = q) :
  Calls Tryz.prog 13 #[.agg #[.slice A la ca, .int .i64 h1], .agg #[.slice B lb cb, .int .i64 h2]] w fun e w' => e = .returned (.bool q) ∧ Below w.heap.size w w' := by
 obtain ⟨w1, hw1⟩ : ∃ x, w.alloc (.cells #[.slice A la ca, .int .i64 h1] 39) = x := ⟨_, rfl⟩
 obtain ⟨w2, hw2⟩ : ∃ x, w1.alloc (.cells #[.slice B lb cb, .int .i64 h2] 39) = x := ⟨_, rfl⟩
 have b1 : Below w.heap.size w w1 := by rw [← hw1]; exact (Below.refl _ _).alloc (Nat.le_refl _) _
 have b2 : Below w1.heap.size w1 w2 := by rw [← hw2]; exact (Below.refl _ _).alloc (Nat.le_refl _) _
 have s1 : w1.heap.size = w.heap.size + 1 := by rw [← hw1]; simp
 have r1 := IsRow.new w 39 [.slice A la ca, .int .i64 h1]
 rw [show w.alloc (.cells [Value.slice A la ca, .int .i64 h1].toArray 39) = w1 from hw1] at r1
 have r2 := IsRow.new w1 39 [.slice B lb cb, .int .i64 h2]
 rw [show w1.alloc (.cells [Value.slice B lb cb, .int .i64 h2].toArray 39) = w2 from hw2] at r2
 have r1 := r1.below' b2
 have b12 := b1.trans (b2.mono b1.size)
 have k0 := r1.cell 0
 have k1 := r1.cell 1
 have k2 := r2.cell 0
 have k3 := r2.cell 1
 dsimp only [List.getElem?_cons_zero, List.getElem?_cons_succ] at k0 k1 k2 k3
 rw [s1] at k2 k3
 have HC : Hid (∀ W, Below w2.heap.size w2 W → W.cell? ⟨w.heap.size, 1, none⟩ = some (.int .i64 h1) ∧ W.cell? ⟨w.heap.size + 1, 1, none⟩ = some (.int .i64 h2)) := Lib.hid fun W hW =>
  ⟨(r1.below' hW).cell 1, by rw [← s1]; exact (r2.below' hW).cell 1⟩
 have HS := Lib.hid (fun (q1 : Bool) (h : decide (xs = ys) = q1) => W.same33_b A B ca cb la lb xs ys w2 hla hlb hL B1 B2 (ha.keep fun p hp => b12.cell (by omega)) (hb.keep fun p hp => b12.cell (by omega)) q1 h)
 have HB := Lib.hid b12
 have HW1 := Lib.hid hw1
 have HW2 := Lib.hid hw2
 have HS1 := Lib.hid s1
 have HQ := Lib.hid hq
 clear r1 r2 b1 b2 b12 hw1 hw2 s1 hla hlb ha hb hB1 hB2 hL hq
 by_cases e1 : xs = ys
 ·
  have HC1 := Lib.hid (HS.out true (decide_eq_true e1))
  have HQ2 : Hid (decide (h1 = h2) = q) := Lib.hid (by rw [← HQ.out]; exact decide_eq_decide.2 ⟨fun h => ⟨e1, h⟩, fun h => h.2⟩)
  clear e1
  go_enter Tryz.func13, Tryz.ntmps13
  go_upto_region 1 with fail
  rw [HW1.out, HW2.out]
  try rw [HS1.out]
  by_cases e2 : h1 = h2
  ·
   have e3 : (h1 == h2) = true := by simp [e2]
   have H : Hid (true = q) := Lib.hid (by rw [← HQ2.out]; exact (decide_eq_true e2).symm)
   clear e2
   go_wp2_with (go_at_call 42; refine HC1.out.mono ?_; rintro e w3 ⟨rfl, b3⟩; have z1 := (HC.out w3 b3).1; have z2 := (HC.out w3 b3).2; have HB3 := Lib.hid b3; clear b3)
   go_ret
   exact ⟨by have := H.out; subst this; rfl, HB.out.trans (HB3.out.mono HB.out.size)⟩
  ·
   have e3 : (h1 == h2) = false := by simp [e2]
   have H : Hid (false = q) := Lib.hid (by rw [← HQ2.out]; exact (decide_eq_false e2).symm)
   clear e2
   go_wp2_with (go_at_call 42; refine HC1.out.mono ?_; rintro e w3 ⟨rfl, b3⟩; have z1 := (HC.out w3 b3).1; have z2 := (HC.out w3 b3).2; have HB3 := Lib.hid b3; clear b3)
   go_ret
   exact ⟨by have := H.out; subst this; rfl, HB.out.trans (HB3.out.mono HB.out.size)⟩
 ·
  have HC1 := Lib.hid (HS.out false (decide_eq_false e1))
  have H : Hid (false = q) := Lib.hid (by rw [← HQ.out]; exact (decide_eq_false fun h => e1 h.1).symm)
  clear e1
  go_enter Tryz.func13, Tryz.ntmps13
  go_upto_region 1 with fail
  rw [HW1.out, HW2.out]
  try rw [HS1.out]
  go_wp2_with (go_at_call 42; refine HC1.out.mono ?_; rintro e w3 ⟨rfl, b3⟩; have HB3 := Lib.hid b3; clear b3)
  go_ret
  exact ⟨by have := H.out; subst this; rfl, HB.out.trans (HB3.out.mono HB.out.size)⟩
section
theorem box_share (T : TypeId) (A : Option Addr) (n c : Nat) (h : Int) (w w0 : World) (hw : w.alloc (.cells #[.slice A n c, .int .i64 h] T) = w0) :
  w0.cell? ⟨w.heap.size, 0, none⟩ = some (.slice A n c) ∧ w0.cell? ⟨w.heap.size, 1, none⟩ = some (.int .i64 h) ∧ Below w.heap.size w w0 ∧ w.heap.size < w0.heap.size := by
 have k := IsRow.new w T [.slice A n c, .int .i64 h]
 rw [show w.alloc (.cells [Value.slice A n c, .int .i64 h].toArray T) = w0 from hw] at k
 exact ⟨k.cell 0, k.cell 1, by rw [← hw]; exact (Below.refl _ _).alloc (Nat.le_refl _) _, k.lt⟩
end
set_option maxRecDepth 100000 in
theorem ptot_any (A : Option Addr) (n c : Nat) (xs : List Int) (h : Int) (w : World) (hl : xs.length = n) (hn : n ≤ maxLen) (B : Nat) (hB : B ≤ w.heap.size) (hr : Rd w B 1 A n (ivs xs)) :
  Calls Tryz.prog 21 #[.agg #[.slice A n c, .int .i64 h]] w fun e w' => e = .returned (.int .i64 (Cha.totS h xs n)) ∧ Below w.heap.size w w' := by
 unfold maxLen at hn
 obtain ⟨w0, hw0⟩ : ∃ x, w.alloc (.cells #[.slice A n c, .int .i64 h] 35) = x := ⟨_, rfl⟩
 obtain ⟨k0, k1, hb, hlt⟩ := box_share _ A n c h w w0 hw0
 have HR := Lib.hid ((hr.more hB).below hb)
 have HL := Lib.hid hl
 have HB := Lib.hid hb
 have HW := Lib.hid hw0
 clear hr hb hl hw0 hB hlt
 go_enter Tryz.func21, Tryz.ntmps21
 go_upto_region 1 with fail
 rw [HW.out]
 go_wp2_with fail
 go_loop [3, 11] (fun u3 u11 => ∃ k : Nat, k ≤ n ∧ u3 = .int .i64 (Cha.totS h xs k) ∧ u11 = .int .i64 k) (fun _ u11 => n - (intOf u11).toNat)
 case atStart => exact ⟨0, Nat.zero_le _, rfl, rfl⟩
 case round =>
  obtain ⟨k, hk, rfl, rfl⟩ := hrel
  by_cases hlt : k < n
  ·
   obtain ⟨b, off, rfl, _, hc⟩ := HR.out.int HL.out (by omega)
   have hck := hc k hlt
   have i0 : (0 : Int) ≤ (k : Int) := by omega
   have i1 : (k : Int) < (n : Int) := by omega
   have HSU := Lib.hid (show Cha.totS h xs (k + 1) = wrap64 (Cha.totS h xs k + xs.getD k 0) from rfl)
   obtain ⟨x, hx⟩ : ∃ x, xs.getD k 0 = x := ⟨_, rfl⟩
   rw [hx] at hck HSU
   obtain ⟨t, ht⟩ : ∃ t, Cha.totS h xs k = t := ⟨_, rfl⟩
   rw [ht] at HSU ⊢
   clear hc hx ht
   go_wp2_with fail
   go_round
   case rel => exact ⟨k + 1, by omega, by rw [HSU.out], by go_num⟩
   case measure => simp [intOf]; omega
  ·
   obtain rfl : k = n := by omega
   go_wp2_with fail
   go_ret
   exact ⟨rfl, HB.out⟩
set_option maxRecDepth 100000 in
theorem rtot_any (A : Option Addr) (n c : Nat) (xs : List Int) (h : Int) (w : World) (hl : xs.length = n) (hn : n ≤ maxLen) (B : Nat) (hB : B ≤ w.heap.size) (hr : Rd w B 1 A n (ivs xs)) :
  Calls Tryz.prog 22 #[.agg #[.slice A n c, .int .i64 h]] w fun e w' => e = .returned (.int .i64 (Cha.totS h xs n)) ∧ Below w.heap.size w w' := by
 unfold maxLen at hn
 obtain ⟨w0, hw0⟩ : ∃ x, w.alloc (.cells #[.slice A n c, .int .i64 h] 39) = x := ⟨_, rfl⟩
 obtain ⟨k0, k1, hb, hlt⟩ := box_share _ A n c h w w0 hw0
 have HR := Lib.hid ((hr.more hB).below hb)
 have HL := Lib.hid hl
 have HB := Lib.hid hb
 have HW := Lib.hid hw0
 clear hr hb hl hw0 hB hlt
 go_enter Tryz.func22, Tryz.ntmps22
 go_upto_region 1 with fail
 rw [HW.out]
 go_wp2_with fail
 go_loop [3, 4] (fun u3 u4 => ∃ k : Nat, k ≤ n ∧ u3 = .int .i64 (Cha.totS h xs k) ∧ u4 = .int .i64 k) (fun _ u4 => n - (intOf u4).toNat)
 case atStart => exact ⟨0, Nat.zero_le _, rfl, rfl⟩
 case round =>
  obtain ⟨k, hk, rfl, rfl⟩ := hrel
  by_cases hlt : k < n
  ·
   obtain ⟨b, off, rfl, _, hc⟩ := HR.out.int HL.out (by omega)
   have hck := hc k hlt
   have i0 : (0 : Int) ≤ (k : Int) := by omega
   have i1 : (k : Int) < (n : Int) := by omega
   have HSU := Lib.hid (show Cha.totS h xs (k + 1) = wrap64 (Cha.totS h xs k + xs.getD k 0) from rfl)
   obtain ⟨x, hx⟩ : ∃ x, xs.getD k 0 = x := ⟨_, rfl⟩
   rw [hx] at hck HSU
   obtain ⟨t, ht⟩ : ∃ t, Cha.totS h xs k = t := ⟨_, rfl⟩
   rw [ht] at HSU ⊢
   clear hc hx ht
   go_wp2_with fail
   go_round
   case rel => exact ⟨k + 1, by omega, by rw [HSU.out], by go_num⟩
   case measure => simp [intOf]; omega
  ·
   obtain rfl : k = n := by omega
   go_wp2_with fail
   go_ret
   exact ⟨rfl, HB.out⟩
namespace Cha
def small (x : Int) : Bool := decide (-1125899906842624 < x) && decide (x < 1125899906842624)
def tameB (xs : List Int) (h : Int) : Bool := xs.all small && (decide (xs.length ≤ 1000) && small h)
theorem all_take {xs : List Int} {k : Nat} (hk : k < xs.length) (h : (xs.take k).all small = true) (hx : small (xs.getD k 0) = true) : (xs.take (k + 1)).all small = true := by
 rw [List.take_succ_eq_append_getElem hk, List.all_append, h]
 rw [List.getD, List.getElem?_eq_getElem hk] at hx
 simpa using hx
theorem tame_no {xs : List Int} {k : Nat} (h : Int) (hk : k < xs.length) (hx : small (xs.getD k 0) = false) : tameB xs h = false := by
 unfold tameB
 rw [List.getD, List.getElem?_eq_getElem hk] at hx
 have : xs.all small = false := List.all_eq_false.2 ⟨xs[k], List.getElem_mem hk, by rw [show small xs[k] = false from hx]; simp⟩
 rw [this]; rfl
end Cha
set_option maxRecDepth 100000 in
theorem tame_any (A : Option Addr) (n c : Nat) (xs : List Int) (h : Int) (w : World) (hl : xs.length = n) (hn : n ≤ maxLen) (B : Nat) (hr : Rd w B 1 A n (ivs xs)) (q : Bool) (hq : Cha.tameB xs h = q) :
  Calls Tryz.prog 23 #[.slice A n c, .int .i64 h] w fun e w' => e = .returned (.bool q) ∧ w' = w := by
 unfold maxLen at hn
 have HR := Lib.hid hr
 have HL := Lib.hid hl
 have HQ := Lib.hid hq
 clear hr hl hq
 go_enter Tryz.func23, Tryz.ntmps23
 go_wp2_with fail
 go_loop [9] (fun u9 => ∃ k : Nat, k ≤ n ∧ u9 = .int .i64 k ∧ Hid ((xs.take k).all Cha.small = true)) (fun u9 => n - (intOf u9).toNat)
 case atStart => exact ⟨0, Nat.zero_le _, rfl, Lib.hid rfl⟩
 case round =>
  obtain ⟨k, hk, rfl, HA⟩ := hrel
  by_cases hlt : k < n
  ·
   obtain ⟨b, off, rfl, _, hc⟩ := HR.out.int HL.out (by omega)
   have hck := hc k hlt
   have i0 : (0 : Int) ≤ (k : Int) := by omega
   have i1 : (k : Int) < (n : Int) := by omega
   obtain ⟨x, hx⟩ : ∃ x, xs.getD k 0 = x := ⟨_, rfl⟩
   rw [hx] at hck
   have HX := Lib.hid hx
   clear hc hx
   by_cases h1 : x ≤ -1125899906842624
   ·
    have HF : Hid (q = false) := Lib.hid (by rw [← HQ.out]; exact Cha.tame_no (k := k) h (by rw [HL.out]; exact hlt) (by rw [HX.out]; unfold Cha.small; rw [decide_eq_false (by omega)]; rfl))
    go_wp2_with fail
    go_ret
    exact ⟨by have := HF.out; subst this; rfl, rfl⟩
   ·
    by_cases h2 : 1125899906842624 ≤ x
    ·
     have HF : Hid (q = false) := Lib.hid (by rw [← HQ.out]; exact Cha.tame_no (k := k) h (by rw [HL.out]; exact hlt) (by rw [HX.out]; unfold Cha.small; rw [decide_eq_false (show ¬ x < 1125899906842624 by omega), Bool.and_false]))
     go_wp2_with fail
     go_ret
     exact ⟨by have := HF.out; subst this; rfl, rfl⟩
    ·
     have HN : Hid ((xs.take (k + 1)).all Cha.small = true) := Lib.hid (Cha.all_take (by rw [HL.out]; exact hlt) HA.out (by rw [HX.out]; unfold Cha.small; rw [decide_eq_true (by omega), decide_eq_true (by omega)]; rfl))
     go_wp2_with fail
     go_round
     case rel => exact ⟨k + 1, by omega, by go_num, HN⟩
     case measure => simp [intOf]; omega
  ·
   obtain rfl : k = n := by omega
   have hq : q = (decide (k ≤ 1000) && Cha.small h) := by
    have h1 := HA.out
    rw [List.take_of_length_le (by rw [HL.out]; exact Nat.le_refl _)] at h1
    rw [← HQ.out]; unfold Cha.tameB; rw [h1, HL.out]; rfl
   unfold Cha.small at hq
   by_cases h1 : (k : Int) ≤ 1000
   ·
    rw [decide_eq_true (show k ≤ 1000 by omega), Bool.true_and] at hq
    by_cases h2 : -1125899906842624 < h
    ·
     rw [decide_eq_true h2, Bool.true_and] at hq
     have HF := Lib.hid hq
     clear hq
     go_wp2_with fail
     go_ret
     exact ⟨by have := HF.out; subst this; rfl, rfl⟩
    ·
     rw [decide_eq_false h2, Bool.false_and] at hq
     have HF := Lib.hid hq
     clear hq
     go_wp2_with fail
     go_ret
     exact ⟨by have := HF.out; subst this; rfl, rfl⟩
   ·
    rw [decide_eq_false (show ¬ k ≤ 1000 by omega), Bool.false_and] at hq
    have HF := Lib.hid hq
    clear hq
    go_wp2_with fail
    go_ret
    exact ⟨by have := HF.out; subst this; rfl, rfl⟩
end
end Go.Proofs.YtfllkaeaanahmaaGreat
