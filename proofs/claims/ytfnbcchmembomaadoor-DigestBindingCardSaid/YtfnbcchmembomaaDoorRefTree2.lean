/- The reference's proofs: walks of Prove, sub, ProvePrefix, Same. -/
import Derived.Test.YtfnbcchmembomaaDoorRefTree
namespace Go.Proofs.YtfnbcchmembomaaDoor
set_option linter.unusedVariables false
set_option linter.unusedSimpArgs false
open Go.RowKit
def ProveRes (L : List (List UInt8)) (w : World) (e : Ending) (w' : World) : Prop := ∃ v k, e = .returned (.tuple #[v, .int .i64 0]) ∧ k = L.length ∧ w'.ownsRow w.heap.size 30 16 v k (dvs L) ∧ Below w.heap.size w w'
def SubRes (L : List (List UInt8)) (base : Nat) (w : World) (e : Ending) (w' : World) : Prop := ∃ v k, e = .returned v ∧ k = L.length ∧ w'.ownsRow base 30 16 v k (dvs L.reverse) ∧ Below w.heap.size w w'
theorem dvs_snoc (l : List (List UInt8)) (d : List UInt8) : dvs (l ++ [d]) = dvs l ++ bvs d := by simp [dvs, List.flatMap_append]
set_option maxRecDepth 100000 in
set_option maxHeartbeats 1000000 in
theorem refProve_err (A : Option Addr) (n c : Nat) (i : Int) (hi : i < 0 ∨ (n : Int) ≤ i) (w : World) :
    Calls Tryd.prog 16 #[.slice A n c, .int .i64 i] w fun e w' => e = .returned (.tuple #[.slice none 0 0, .int .i64 12]) ∧ Below w.heap.size w w' := by
  by_cases h0 : i < 0
  · go_enter Tryd.func16, Tryd.ntmps16
    go_wp2
    exact bodyPost_ret (results_tmp2 rfl _ _ _) rfl ⟨rfl, Below.refl _ _⟩
  · have h1 : (n : Int) ≤ i := by omega
    go_enter Tryd.func16, Tryd.ntmps16
    go_wp2
    exact bodyPost_ret (results_tmp2 rfl _ _ _) rfl ⟨rfl, Below.refl _ _⟩
set_option maxRecDepth 100000 in
set_option maxHeartbeats 1000000 in
theorem refProve_one (A : Option Addr) (c : Nat) (l : List (List UInt8)) (hl : l.length = 1) (w : World) :
    Calls Tryd.prog 16 #[.slice A 1 c, .int .i64 0] w (ProveRes (Mk.provL l 0) w) := by
  have hp := Mk.provL_one (l := l) 0 (by omega)
  have HP := Lib.hid hp
  clear hp hl
  go_enter Tryd.func16, Tryd.ntmps16
  go_wp2
  exact bodyPost_ret (results_tmp2 rfl _ _ _) rfl (show ProveRes _ _ _ _ from ⟨.slice none 0 0, 0, rfl, by rw [HP.out]; rfl, by rw [HP.out]; exact ⟨rfl, .inl ⟨rfl, rfl⟩⟩, Below.refl _ _⟩)
set_option maxRecDepth 100000 in
set_option maxHeartbeats 2000000 in
theorem refProve_lo (n c i : Nat) (ad : Addr) (l : List (List UInt8)) (hl : l.length = n) (h2 : 2 ≤ n) (hn : n ≤ 1099511627776) (hi : i < Mk.split n) (w : World) (hc : n ≤ c) (hcm : c ≤ maxLen)
    (H1 : ∀ W, Below w.heap.size w W → Calls Tryd.prog 16 #[.slice (some ad) (Mk.split n) c, .int .i64 (i : Int)] W (ProveRes (Mk.provL (l.take (Mk.split n)) i) W))
    (H2 : ∀ W, Below w.heap.size w W → Calls Tryd.prog 20 #[.slice (some (ad.add (Mk.split n * 16))) (n - Mk.split n) (c - Mk.split n)] W fun e W' => e = .returned (dv (Mk.root (l.drop (Mk.split n)))) ∧ Below W.heap.size W W') :
    Calls Tryd.prog 16 #[.slice (some ad) n c, .int .i64 (i : Int)] w (ProveRes (Mk.provL l i) w) := by
  unfold maxLen at hcm
  have hp := Mk.provL_lo (l := l) (i := i) (by omega) (by rw [hl]; exact hi)
  rw [hl] at hp
  have h16 := Mk.root_len (l.drop (Mk.split n))
  have hd16 : D16 (Mk.provL (l.take (Mk.split n)) i) := Mk.provR_16 _ _ _
  have hs1 := Mk.split_pos n
  have hs2 := Mk.split_lt h2
  have hrl : (Mk.provL (l.take (Mk.split n)) i).length ≤ n := by have := Mk.provL_len (l.take (Mk.split n)) i; rw [List.length_take] at this; omega
  generalize Mk.provL (l.take (Mk.split n)) i = rc at *
  generalize Mk.root (l.drop (Mk.split n)) = r at *
  have hsp := refSplit_any n h2 (by omega)
  generalize Mk.split n = sp at *
  have HSP := Lib.hid hsp
  have HP := Lib.hid hp
  have H16 := Lib.hid h16
  have HH1 := Lib.hid (H1 w (Below.refl _ _))
  have HH2 := Lib.hid H2
  have HRL := Lib.hid hrl
  have hne1 : ((n : Int) == 1) = false := by simp; omega
  have hck : ¬ c = sp := by omega
  have hkc : sp ≤ c := by omega
  have hkn : sp ≤ n := by omega
  have i0 : ¬ ((i : Int) < 0) := by omega
  have i1 : (i : Int) < (n : Int) := by omega
  clear hsp hp h16 H1 H2 hl hrl
  go_enter Tryd.func16, Tryd.ntmps16
  go_wp2_with (first
    | (go_at_call 42; refine (HSP.out _).mono ?_; rintro e w' ⟨rfl, rfl⟩)
    | (go_at_call 16; refine HH1.out.mono ?_; rintro e w1 ⟨v1, k1, rfl, hk1, own1, b1⟩; have HK1 := Lib.hid hk1; clear hk1)
    | (go_at_call 20; refine (HH2.out _ b1).mono ?_; rintro e w2 ⟨rfl, b2⟩; have own2 := own_below own1 b2; have q2 := b1.trans (b2.mono b1.size))
    | (refine wpList_build16 rfl (.tmp 40) rfl (bvs r) (by rw [bvs_len]; exact H16.out) rfl ?_)
    | (at_builtin; refine wpList_app16 rfl (.tmp 36) (.tmp 41) rfl w.heap.size _ k1 rc rfl own2 r H16.out rfl (by have := HK1.out; have := HRL.out; omega) q2.size ?_; intro v3 w3 own3 g3; have q3 := q2.grown g3 q2.size (fun j hj => (own2.lt j hj).1))
    | fail)
  exact bodyPost_ret (results_tmp2 rfl _ _ _) rfl (show ProveRes _ _ _ _ from ⟨v3, k1 + 1, rfl, by rw [HP.out, List.length_append, HK1.out]; rfl, by rw [HP.out]; exact own3, q3⟩)
set_option maxRecDepth 100000 in
set_option maxHeartbeats 2000000 in
theorem refProve_hi (n c i : Nat) (ad : Addr) (l : List (List UInt8)) (hl : l.length = n) (h2 : 2 ≤ n) (hn : n ≤ 1099511627776) (hi : ¬ i < Mk.split n) (hin : i < n) (w : World) (hc : n ≤ c) (hcm : c ≤ maxLen)
    (H1 : ∀ W, Below w.heap.size w W → Calls Tryd.prog 16 #[.slice (some (ad.add (Mk.split n * 16))) (n - Mk.split n) (c - Mk.split n), .int .i64 ((i : Int) - (Mk.split n : Int))] W (ProveRes (Mk.provL (l.drop (Mk.split n)) (i - Mk.split n)) W))
    (H2 : ∀ W, Below w.heap.size w W → Calls Tryd.prog 20 #[.slice (some ad) (Mk.split n) c] W fun e W' => e = .returned (dv (Mk.root (l.take (Mk.split n)))) ∧ Below W.heap.size W W') :
    Calls Tryd.prog 16 #[.slice (some ad) n c, .int .i64 (i : Int)] w (ProveRes (Mk.provL l i) w) := by
  unfold maxLen at hcm
  have hp := Mk.provL_hi (l := l) (i := i) (by omega) (by rw [hl]; exact hi)
  rw [hl] at hp
  have h16 := Mk.root_len (l.take (Mk.split n))
  have hd16 : D16 (Mk.provL (l.drop (Mk.split n)) (i - Mk.split n)) := Mk.provR_16 _ _ _
  have hs1 := Mk.split_pos n
  have hs2 := Mk.split_lt h2
  have hrl : (Mk.provL (l.drop (Mk.split n)) (i - Mk.split n)).length ≤ n := by have := Mk.provL_len (l.drop (Mk.split n)) (i - Mk.split n); rw [List.length_drop] at this; omega
  generalize Mk.provL (l.drop (Mk.split n)) (i - Mk.split n) = rc at *
  generalize Mk.root (l.take (Mk.split n)) = r at *
  have hsp := refSplit_any n h2 (by omega)
  generalize Mk.split n = sp at *
  have HSP := Lib.hid hsp
  have HP := Lib.hid hp
  have H16 := Lib.hid h16
  have HH1 := Lib.hid (H1 w (Below.refl _ _))
  have HH2 := Lib.hid H2
  have HRL := Lib.hid hrl
  have hne1 : ((n : Int) == 1) = false := by simp; omega
  have hck : ¬ c = sp := by omega
  have hkc : sp ≤ c := by omega
  have hkn : sp ≤ n := by omega
  have i0 : ¬ ((i : Int) < 0) := by omega
  have i1 : (i : Int) < (n : Int) := by omega
  clear hsp hp h16 H1 H2 hl hrl
  go_enter Tryd.func16, Tryd.ntmps16
  go_wp2_with (first
    | (go_at_call 42; refine (HSP.out _).mono ?_; rintro e w' ⟨rfl, rfl⟩)
    | (go_at_call 16; refine HH1.out.mono ?_; rintro e w1 ⟨v1, k1, rfl, hk1, own1, b1⟩; have HK1 := Lib.hid hk1; clear hk1)
    | (go_at_call 20; refine (HH2.out _ b1).mono ?_; rintro e w2 ⟨rfl, b2⟩; have own2 := own_below own1 b2; have q2 := b1.trans (b2.mono b1.size))
    | (refine wpList_build16 rfl (.tmp 57) rfl (bvs r) (by rw [bvs_len]; exact H16.out) rfl ?_)
    | (at_builtin; refine wpList_app16 rfl (.tmp 53) (.tmp 58) rfl w.heap.size _ k1 rc rfl own2 r H16.out rfl (by have := HK1.out; have := HRL.out; omega) q2.size ?_; intro v3 w3 own3 g3; have q3 := q2.grown g3 q2.size (fun j hj => (own2.lt j hj).1))
    | fail)
  exact bodyPost_ret (results_tmp2 rfl _ _ _) rfl (show ProveRes _ _ _ _ from ⟨v3, k1 + 1, rfl, by rw [HP.out, List.length_append, HK1.out]; rfl, by rw [HP.out]; exact own3, q3⟩)
theorem refProve_any : ∀ (n c i : Nat) (A : Option Addr) (l : List (List UInt8)), l.length = n → n ≤ 1099511627776 → i < n → ∀ (B : Nat) (w : World), Rd w B 16 A n (dvs l) → D16 l → B ≤ w.heap.size → n ≤ c → c ≤ maxLen → RTab w →
    Calls Tryd.prog 16 #[.slice A n c, .int .i64 (i : Int)] w (ProveRes (Mk.provL l i) w) := by
  intro n
  induction n using Nat.strongRecOn with
  | ind n ih =>
    intro c i A l hl hn hin B w hr hd hB hc hcm hT
    by_cases h1 : n = 1
    · subst h1
      obtain rfl : i = 0 := by omega
      exact refProve_one A c l hl w
    · obtain ⟨b, off, rfl, _, _⟩ := hr.2 (by omega)
      have hs1 := Mk.split_pos n
      have hs2 := Mk.split_lt (n := n) (by omega)
      have hlo := hr.first hd (k := Mk.split n) (by omega)
      have hhi := hr.rest hd hs2
      by_cases hi : i < Mk.split n
      · refine refProve_lo n c i ⟨b, off, none⟩ l hl (by omega) hn hi w hc hcm (fun W hW => ?_) (fun W hW => ?_)
        · exact ih (Mk.split n) hs2 c i _ (l.take (Mk.split n)) (by rw [List.length_take, hl]; omega) (by omega) hi B W (hlo.below (hW.mono hB)) (hd.take _) (Nat.le_trans hB hW.size) (by omega) hcm (hT.below hW)
        · exact refRoot_any (n - Mk.split n) (c - Mk.split n) _ (l.drop (Mk.split n)) (by rw [List.length_drop, hl]) (by omega) B W (hhi.below (hW.mono hB)) (hd.drop _) (Nat.le_trans hB hW.size) (by omega) (by omega) (hT.below hW)
      · refine refProve_hi n c i ⟨b, off, none⟩ l hl (by omega) hn hi hin w hc hcm (fun W hW => ?_) (fun W hW => ?_)
        · have := ih (n - Mk.split n) (by omega) (c - Mk.split n) (i - Mk.split n) _ (l.drop (Mk.split n)) (by rw [List.length_drop, hl]) (by omega) (by omega) B W (hhi.below (hW.mono hB)) (hd.drop _) (Nat.le_trans hB hW.size) (by omega) (by omega) (hT.below hW)
          rw [show ((i - Mk.split n : Nat) : Int) = (i : Int) - (Mk.split n : Int) from by omega] at this
          exact this
        · exact refRoot_any (Mk.split n) c _ (l.take (Mk.split n)) (by rw [List.length_take, hl]; omega) (by omega) B W (hlo.below (hW.mono hB)) (hd.take _) (Nat.le_trans hB hW.size) (by omega) hcm (hT.below hW)
set_option maxRecDepth 100000 in
set_option maxHeartbeats 1000000 in
theorem refSub_whole (A : Option Addr) (n c : Nat) (l : List (List UInt8)) (hl : l.length = n) (w : World) :
    Calls Tryd.prog 44 #[.slice A n c, .int .i64 (n : Int), .bool true] w (SubRes (Mk.prefD l n true) w.heap.size w) := by
  have hp := Mk.prefD_end (l := l) (m := n) true (by omega)
  have HP := Lib.hid hp
  clear hp hl
  go_enter Tryd.func44, Tryd.ntmps44
  go_wp2
  exact bodyPost_ret (results_tmp rfl _ _ _) rfl (show SubRes _ _ _ _ _ from ⟨.slice none 0 0, 0, rfl, by rw [HP.out]; rfl, by rw [HP.out]; exact ⟨rfl, .inl ⟨rfl, rfl⟩⟩, Below.refl _ _⟩)
theorem own_row1 (w : World) (cs : List Value) (e : TypeId) (size base : Nat) (hl : cs.length = size) (hb : base ≤ w.heap.size) : (w.alloc (.cells cs.toArray e)).ownsRow base e size (.slice (some ⟨w.heap.size, 0, none⟩) 1 1) 1 cs :=
  ⟨by omega, .inr ⟨w.heap.size, 1, cs.toArray, rfl, hb, heap_alloc_new w _, Nat.le_refl _, by unfold maxLen; omega, by simp [hl], by simp [hl]; exact List.take_of_length_le (by omega)⟩⟩
set_option maxRecDepth 100000 in
set_option maxHeartbeats 1000000 in
theorem refSub_part (A : Option Addr) (n c : Nat) (l : List (List UInt8)) (hl : l.length = n) (w : World) (H2 : Calls Tryd.prog 20 #[.slice A n c] w fun e W' => e = .returned (dv (Mk.root l)) ∧ Below w.heap.size w W') :
    Calls Tryd.prog 44 #[.slice A n c, .int .i64 (n : Int), .bool false] w (SubRes (Mk.prefD l n false) w.heap.size w) := by
  have hp := Mk.prefD_end (l := l) (m := n) false (by omega)
  have HP := Lib.hid hp
  have h16 := Mk.root_len l
  generalize Mk.root l = r at *
  have H16 := Lib.hid h16
  clear hp hl h16
  go_enter Tryd.func44, Tryd.ntmps44
  go_wp2_with (first
    | (go_at_call 20; refine H2.mono ?_; rintro e w2 ⟨rfl, b2⟩)
    | (refine wpList_build16 rfl (.tmp 20) rfl (bvs r) (by rw [bvs_len]; exact H16.out) rfl ?_)
    | fail)
  exact bodyPost_ret (results_tmp rfl _ _ _) rfl (show SubRes _ _ _ _ _ from ⟨_, 1, rfl, by rw [HP.out]; rfl, by rw [HP.out]; simpa [dvs] using own_row1 w2 (bvs r) 30 16 w.heap.size (by rw [bvs_len]; exact H16.out) b2.size, b2.alloc b2.size _⟩)
set_option maxRecDepth 100000 in
set_option maxHeartbeats 2000000 in
theorem refSub_lo (n c m : Nat) (b : Bool) (ad : Addr) (l : List (List UInt8)) (hl : l.length = n) (hm1 : 1 ≤ m) (hmn : m < n) (hn : n ≤ 1099511627776) (hi : m ≤ Mk.split n) (w : World) (hc : n ≤ c) (hcm : c ≤ maxLen)
    (H1 : ∀ W, Below w.heap.size w W → Calls Tryd.prog 44 #[.slice (some ad) (Mk.split n) c, .int .i64 (m : Int), .bool b] W (SubRes (Mk.prefD (l.take (Mk.split n)) m b) w.heap.size W))
    (H2 : ∀ W, Below w.heap.size w W → Calls Tryd.prog 20 #[.slice (some (ad.add (Mk.split n * 16))) (n - Mk.split n) (c - Mk.split n)] W fun e W' => e = .returned (dv (Mk.root (l.drop (Mk.split n)))) ∧ Below W.heap.size W W') :
    Calls Tryd.prog 44 #[.slice (some ad) n c, .int .i64 (m : Int), .bool b] w (SubRes (Mk.prefD l m b) w.heap.size w) := by
  unfold maxLen at hcm
  have hp := Mk.prefD_lo (l := l) (m := m) b hm1 (by omega) (by rw [hl]; exact hi)
  rw [hl] at hp
  have h16 := Mk.root_len (l.drop (Mk.split n))
  have hs1 := Mk.split_pos n
  have hs2 := Mk.split_lt (n := n) (by omega)
  have hrl : (Mk.prefD (l.take (Mk.split n)) m b).length ≤ n := by have := Mk.prefD_len (l.take (Mk.split n)) m b hm1 (by rw [List.length_take]; omega); rw [List.length_take] at this; omega
  generalize Mk.prefD (l.take (Mk.split n)) m b = rc at *
  generalize Mk.root (l.drop (Mk.split n)) = r at *
  have hsp := refSplit_any n (by omega) (by omega)
  generalize Mk.split n = sp at *
  have HSP := Lib.hid hsp
  have HP := Lib.hid hp
  have H16 := Lib.hid h16
  have HH1 := Lib.hid H1
  have HH2 := Lib.hid H2
  have HRL := Lib.hid hrl
  have hne1 : ((m : Int) == (n : Int)) = false := by simp; omega
  have hne2 : ((m : Int) = (n : Int)) = False := by simp; omega
  have hck : ¬ c = sp := by omega
  have hkc : sp ≤ c := by omega
  have hkn : sp ≤ n := by omega
  clear hsp hp h16 H1 H2 hl hrl
  go_enter Tryd.func44, Tryd.ntmps44
  go_wp2_with (go_at_call 42; refine (HSP.out _).mono ?_; rintro e w' ⟨rfl, rfl⟩)
  have hv0 : Below w.heap.size w w.drew := (Below.refl _ _).drew
  refine wp_region_held_drew (S := fun W => Below w.heap.size w W) (by kernel_rfl) (hv0) (fun hHeld => ?_)
  refine wpAnyH_take (i := 0) (oi := { dst := some 28, op := Op.move (Operand.tmp 0), type := 34, pos := "ref.go:194", after := #[], guard := none }) (v := ?v0_1) rfl (by kernel_rfl) (by kernel_rfl) (by kernel_rfl) (fun _ _ _ h => h) (Or.inl ⟨by rfl, ?h0_1⟩) (by assumption) ?r0_1
  case h0_1 =>
    intro W hSW
    try dsimp only at hSW
    go_simp
    try with_reducible rfl
  try simp only [Act.put, List.setIfInBounds_toArray, List.set_cons_zero, List.set_cons_succ]
  refine wpAnyH_take (i := 1) (oi := { dst := some 29, op := Op.move (Operand.tmp 7), type := 3, pos := "ref.go:194", after := #[], guard := none }) (v := ?v1_2) rfl (by kernel_rfl) (by kernel_rfl) (by kernel_rfl) (fun _ _ _ h => h) (Or.inl ⟨by rfl, ?h1_2⟩) (by assumption) ?r1_2
  case h1_2 =>
    intro W hSW
    try dsimp only at hSW
    go_simp
    try with_reducible rfl
  try simp only [Act.put, List.setIfInBounds_toArray, List.set_cons_zero, List.set_cons_succ]
  refine wpAnyH_take (i := 2) (oi := { dst := some 30, op := Op.slice 34 (Operand.tmp 28) none (some (Operand.tmp 29)) none, type := 34, pos := "ref.go:194", after := #[{ on := 0, ground := Ground.data }, { on := 1, ground := Ground.data }], guard := none }) (v := ?v2_3) rfl (by kernel_rfl) (by kernel_rfl) (by kernel_rfl) (fun _ _ _ h => h) (Or.inl ⟨by rfl, ?h2_3⟩) (by assumption) ?r2_3
  case h2_3 =>
    intro W hSW
    try dsimp only at hSW
    go_simp
    try with_reducible rfl
  try simp only [Act.put, List.setIfInBounds_toArray, List.set_cons_zero, List.set_cons_succ]
  refine wpAnyH_take (i := 3) (oi := { dst := some 31, op := Op.move (Operand.tmp 1), type := 3, pos := "ref.go:194", after := #[], guard := none }) (v := ?v3_4) rfl (by kernel_rfl) (by kernel_rfl) (by kernel_rfl) (fun _ _ _ h => h) (Or.inl ⟨by rfl, ?h3_4⟩) (by assumption) ?r3_4
  case h3_4 =>
    intro W hSW
    try dsimp only at hSW
    go_simp
    try with_reducible rfl
  try simp only [Act.put, List.setIfInBounds_toArray, List.set_cons_zero, List.set_cons_succ]
  refine wpAnyH_take (i := 4) (oi := { dst := some 32, op := Op.move (Operand.tmp 2), type := 4, pos := "ref.go:194", after := #[], guard := none }) (v := ?v4_5) rfl (by kernel_rfl) (by kernel_rfl) (by kernel_rfl) (fun _ _ _ h => h) (Or.inl ⟨by rfl, ?h4_5⟩) (by assumption) ?r4_5
  case h4_5 =>
    intro W hSW
    try dsimp only at hSW
    go_simp
    try with_reducible rfl
  try simp only [Act.put, List.setIfInBounds_toArray, List.set_cons_zero, List.set_cons_succ]
  refine wpAnyH_take (i := 6) (oi := { dst := some 34, op := Op.move (Operand.tmp 0), type := 34, pos := "ref.go:194", after := #[], guard := none }) (v := ?v6_6) rfl (by kernel_rfl) (by kernel_rfl) (by kernel_rfl) (fun _ _ _ h => h) (Or.inl ⟨by rfl, ?h6_6⟩) (by assumption) ?r6_6
  case h6_6 =>
    intro W hSW
    try dsimp only at hSW
    go_simp
    try with_reducible rfl
  try simp only [Act.put, List.setIfInBounds_toArray, List.set_cons_zero, List.set_cons_succ]
  refine wpAnyH_take (i := 7) (oi := { dst := some 35, op := Op.move (Operand.tmp 7), type := 3, pos := "ref.go:194", after := #[], guard := none }) (v := ?v7_7) rfl (by kernel_rfl) (by kernel_rfl) (by kernel_rfl) (fun _ _ _ h => h) (Or.inl ⟨by rfl, ?h7_7⟩) (by assumption) ?r7_7
  case h7_7 =>
    intro W hSW
    try dsimp only at hSW
    go_simp
    try with_reducible rfl
  try simp only [Act.put, List.setIfInBounds_toArray, List.set_cons_zero, List.set_cons_succ]
  refine wpAnyH_take (i := 8) (oi := { dst := some 36, op := Op.slice 34 (Operand.tmp 34) (some (Operand.tmp 35)) none none, type := 34, pos := "ref.go:194", after := #[{ on := 6, ground := Ground.data }, { on := 7, ground := Ground.data }], guard := none }) (v := ?v8_8) rfl (by kernel_rfl) (by kernel_rfl) (by kernel_rfl) (fun _ _ _ h => h) (Or.inl ⟨by rfl, ?h8_8⟩) (by assumption) ?r8_8
  case h8_8 =>
    intro W hSW
    try dsimp only at hSW
    go_simp
    try with_reducible rfl
  try simp only [Act.put, List.setIfInBounds_toArray, List.set_cons_zero, List.set_cons_succ]
  refine wpAnyH_ready (rs := [5]) (by kernel_rfl) (by simp) ?_
  refine AllReadyH.cons (o := { dst := some 33, op := Op.call { callee := Callee.value (Operand.func 44), args := #[Operand.tmp 30, Operand.tmp 31, Operand.tmp 32], argTypes := #[34, 3, 4] }, type := 34, pos := "ref.go:194", after := #[{ on := 2, ground := Ground.data }, { on := 3, ground := Ground.data }, { on := 4, ground := Ground.data }], guard := none }) rfl (fun K hK => ?_) AllReadyH.nil
  go_simp
  refine (HH1.out _ hv0).mono ?_
  rintro e w1 ⟨v1, k1, rfl, hk1, own1, b1⟩
  have HK1 := Lib.hid hk1
  have hv1 : Below w.heap.size w w1 := hv0.trans (b1.mono hv0.size)
  clear hk1
  go_wp2_with fail
  refine hK.out _ _ (hv1) (fun hHeld => ?_)
  clear hK K
  try simp only [Act.put, List.setIfInBounds_toArray, List.set_cons_zero, List.set_cons_succ]
  refine wpAnyH_ready (rs := [9]) (by kernel_rfl) (by simp) ?_
  refine AllReadyH.cons (o := { dst := some 37, op := Op.call { callee := Callee.value (Operand.func 20), args := #[Operand.tmp 36], argTypes := #[34] }, type := 30, pos := "ref.go:194", after := #[{ on := 8, ground := Ground.data }, { on := 5, ground := Ground.chain }], guard := none }) rfl (fun K hK => ?_) AllReadyH.nil
  go_simp
  refine (HH2.out _ hv1).mono ?_
  rintro e w2 ⟨rfl, b2⟩
  have hv2 : Below w.heap.size w w2 := hv1.trans (b2.mono hv1.size)
  have own2 := own_below own1 b2
  go_wp2_with fail
  refine hK.out _ _ (hv2) (fun hHeld => ?_)
  clear hK K
  try simp only [Act.put, List.setIfInBounds_toArray, List.set_cons_zero, List.set_cons_succ]
  refine wpAnyH_ready (rs := [10]) (by kernel_rfl) (by simp) ?_
  refine AllReadyH.cons (o := { dst := some 38, op := Op.buildSlice 34 1 #[(0, Operand.tmp 37)], type := 34, pos := "ref.go:194", after := #[{ on := 9, ground := Ground.data }], guard := none }) rfl (fun K hK => ?_) AllReadyH.nil
  rw [if_pos (by rfl)]
  refine wp_build16 (.tmp 37) rfl (bvs r) (by rw [bvs_len]; exact H16.out) rfl ?_
  obtain ⟨w3, hw3⟩ : ∃ w', w2.alloc (.cells (bvs r).toArray 30) = w' := ⟨_, rfl⟩
  rw [hw3]
  have rg3 : w3.rangeAt w2.heap.size 0 (bvs r) := by rw [← hw3]; exact range_new _ _ _
  have bb3 : Below w2.heap.size w2 w3 := by rw [← hw3]; exact (Below.refl _ _).alloc (Nat.le_refl _) _
  have own3 := own_below own2 bb3
  have hv3 : Below w.heap.size w w3 := by rw [← hw3]; exact hv2.alloc hv2.size _
  clear hw3
  refine hK.out _ _ (hv3) (fun hHeld => ?_)
  clear hK K
  try simp only [Act.put, List.setIfInBounds_toArray, List.set_cons_zero, List.set_cons_succ]
  refine wpAnyH_ready (rs := [11]) (by kernel_rfl) (by simp) ?_
  refine AllReadyH.cons (o := { dst := some 39, op := Op.call { callee := Callee.builtin Builtin.append, args := #[Operand.tmp 33, Operand.tmp 38], argTypes := #[34, 34] }, type := 34, pos := "ref.go:194", after := #[{ on := 5, ground := Ground.data }, { on := 10, ground := Ground.data }, { on := 9, ground := Ground.chain }], guard := none }) rfl (fun K hK => ?_) AllReadyH.nil
  rw [if_pos (by rfl)]
  refine wp_app16 (.tmp 33) (.tmp 38) rfl _ _ k1 _ rfl own3 w2.heap.size 1 (bvs r) rfl (by rw [bvs_len]; exact H16.out) rg3 (List.all_eq_true.1 (bvs_all _)) (by have := HK1.out; have := HRL.out; omega) hv3.size ?_
  intro v4 w4 own4 g4
  have hv4 : Below w.heap.size w w4 := hv3.grown g4 hv3.size (fun j hj => (own3.lt j hj).1)
  refine hK.out _ _ (hv4) (fun hHeld => ?_)
  clear hK K
  try simp only [Act.put, List.setIfInBounds_toArray, List.set_cons_zero, List.set_cons_succ]
  refine wpAnyH_take (i := 12) (oi := { dst := some 6, op := Op.assign (Operand.tmp 39), type := 34, pos := "ref.go:194", after := #[{ on := 11, ground := Ground.data }, { on := 11, ground := Ground.chain }, { on := 0, ground := Ground.phase }, { on := 1, ground := Ground.phase }, { on := 2, ground := Ground.phase }, { on := 3, ground := Ground.phase }, { on := 4, ground := Ground.phase }, { on := 5, ground := Ground.phase }, { on := 6, ground := Ground.phase }, { on := 7, ground := Ground.phase }, { on := 8, ground := Ground.phase }, { on := 9, ground := Ground.phase }, { on := 10, ground := Ground.phase }, { on := 11, ground := Ground.phase }], guard := none }) (v := ?v12_9) rfl (by kernel_rfl) (by kernel_rfl) (by kernel_rfl) (fun _ _ _ h => h) (Or.inl ⟨by rfl, ?h12_9⟩) (by assumption) ?r12_9
  case h12_9 =>
    intro W hSW
    try dsimp only at hSW
    go_simp
    try with_reducible rfl
  try simp only [Act.put, List.setIfInBounds_toArray, List.set_cons_zero, List.set_cons_succ]
  refine wpAnyH_done (by kernel_rfl) ?_ _
  go_wp2_with fail
  exact bodyPost_ret (results_tmp rfl _ _ _) rfl (show SubRes _ _ _ _ _ from ⟨v4, k1 + 1, rfl, by rw [HP.out, List.length_cons, HK1.out], by rw [HP.out, List.reverse_cons, dvs_snoc]; exact own4, hv4⟩)
set_option maxRecDepth 100000 in
set_option maxHeartbeats 2000000 in
theorem refSub_hi (n c m : Nat) (b : Bool) (ad : Addr) (l : List (List UInt8)) (hl : l.length = n) (hm1 : 1 ≤ m) (hmn : m < n) (hn : n ≤ 1099511627776) (hi : ¬ m ≤ Mk.split n) (w : World) (hc : n ≤ c) (hcm : c ≤ maxLen)
    (H1 : ∀ W, Below w.heap.size w W → Calls Tryd.prog 44 #[.slice (some (ad.add (Mk.split n * 16))) (n - Mk.split n) (c - Mk.split n), .int .i64 ((m : Int) - (Mk.split n : Int)), .bool false] W (SubRes (Mk.prefD (l.drop (Mk.split n)) (m - Mk.split n) false) w.heap.size W))
    (H2 : ∀ W, Below w.heap.size w W → Calls Tryd.prog 20 #[.slice (some ad) (Mk.split n) c] W fun e W' => e = .returned (dv (Mk.root (l.take (Mk.split n)))) ∧ Below W.heap.size W W') :
    Calls Tryd.prog 44 #[.slice (some ad) n c, .int .i64 (m : Int), .bool b] w (SubRes (Mk.prefD l m b) w.heap.size w) := by
  unfold maxLen at hcm
  have hp := Mk.prefD_hi (l := l) (m := m) b hm1 (by omega) (by rw [hl]; exact hi)
  rw [hl] at hp
  have h16 := Mk.root_len (l.take (Mk.split n))
  have hs1 := Mk.split_pos n
  have hs2 := Mk.split_lt (n := n) (by omega)
  have hrl : (Mk.prefD (l.drop (Mk.split n)) (m - Mk.split n) false).length ≤ n := by have := Mk.prefD_len (l.drop (Mk.split n)) (m - Mk.split n) false (by omega) (by rw [List.length_drop]; omega); rw [List.length_drop] at this; omega
  generalize Mk.prefD (l.drop (Mk.split n)) (m - Mk.split n) false = rc at *
  generalize Mk.root (l.take (Mk.split n)) = r at *
  have hsp := refSplit_any n (by omega) (by omega)
  generalize Mk.split n = sp at *
  have HSP := Lib.hid hsp
  have HP := Lib.hid hp
  have H16 := Lib.hid h16
  have HH1 := Lib.hid H1
  have HH2 := Lib.hid H2
  have HRL := Lib.hid hrl
  have hne1 : ((m : Int) == (n : Int)) = false := by simp; omega
  have hne2 : ((m : Int) = (n : Int)) = False := by simp; omega
  have hck : ¬ c = sp := by omega
  have hkc : sp ≤ c := by omega
  have hkn : sp ≤ n := by omega
  have hw1 : IntKind.i64.wrap ((m : Int) - (sp : Int)) = (m : Int) - (sp : Int) := IntWalk.i64_in _ (by omega)
  clear hsp hp h16 H1 H2 hl hrl
  go_enter Tryd.func44, Tryd.ntmps44
  go_wp2_with (go_at_call 42; refine (HSP.out _).mono ?_; rintro e w' ⟨rfl, rfl⟩)
  have hv0 : Below w.heap.size w w.drew := (Below.refl _ _).drew
  refine wp_region_held_drew (S := fun W => Below w.heap.size w W) (by kernel_rfl) (hv0) (fun hHeld => ?_)
  refine wpAnyH_take (i := 0) (oi := { dst := some 40, op := Op.move (Operand.tmp 0), type := 34, pos := "ref.go:196", after := #[], guard := none }) (v := ?v0_1) rfl (by kernel_rfl) (by kernel_rfl) (by kernel_rfl) (fun _ _ _ h => h) (Or.inl ⟨by rfl, ?h0_1⟩) (by assumption) ?r0_1
  case h0_1 =>
    intro W hSW
    try dsimp only at hSW
    go_simp
    try with_reducible rfl
  try simp only [Act.put, List.setIfInBounds_toArray, List.set_cons_zero, List.set_cons_succ]
  refine wpAnyH_take (i := 1) (oi := { dst := some 41, op := Op.move (Operand.tmp 7), type := 3, pos := "ref.go:196", after := #[], guard := none }) (v := ?v1_2) rfl (by kernel_rfl) (by kernel_rfl) (by kernel_rfl) (fun _ _ _ h => h) (Or.inl ⟨by rfl, ?h1_2⟩) (by assumption) ?r1_2
  case h1_2 =>
    intro W hSW
    try dsimp only at hSW
    go_simp
    try with_reducible rfl
  try simp only [Act.put, List.setIfInBounds_toArray, List.set_cons_zero, List.set_cons_succ]
  refine wpAnyH_take (i := 2) (oi := { dst := some 42, op := Op.slice 34 (Operand.tmp 40) (some (Operand.tmp 41)) none none, type := 34, pos := "ref.go:196", after := #[{ on := 0, ground := Ground.data }, { on := 1, ground := Ground.data }], guard := none }) (v := ?v2_3) rfl (by kernel_rfl) (by kernel_rfl) (by kernel_rfl) (fun _ _ _ h => h) (Or.inl ⟨by rfl, ?h2_3⟩) (by assumption) ?r2_3
  case h2_3 =>
    intro W hSW
    try dsimp only at hSW
    go_simp
    try with_reducible rfl
  try simp only [Act.put, List.setIfInBounds_toArray, List.set_cons_zero, List.set_cons_succ]
  refine wpAnyH_take (i := 3) (oi := { dst := some 43, op := Op.move (Operand.tmp 1), type := 3, pos := "ref.go:196", after := #[], guard := none }) (v := ?v3_4) rfl (by kernel_rfl) (by kernel_rfl) (by kernel_rfl) (fun _ _ _ h => h) (Or.inl ⟨by rfl, ?h3_4⟩) (by assumption) ?r3_4
  case h3_4 =>
    intro W hSW
    try dsimp only at hSW
    go_simp
    try with_reducible rfl
  try simp only [Act.put, List.setIfInBounds_toArray, List.set_cons_zero, List.set_cons_succ]
  refine wpAnyH_take (i := 4) (oi := { dst := some 44, op := Op.move (Operand.tmp 7), type := 3, pos := "ref.go:196", after := #[], guard := none }) (v := ?v4_5) rfl (by kernel_rfl) (by kernel_rfl) (by kernel_rfl) (fun _ _ _ h => h) (Or.inl ⟨by rfl, ?h4_5⟩) (by assumption) ?r4_5
  case h4_5 =>
    intro W hSW
    try dsimp only at hSW
    go_simp
    try with_reducible rfl
  try simp only [Act.put, List.setIfInBounds_toArray, List.set_cons_zero, List.set_cons_succ]
  refine wpAnyH_take (i := 5) (oi := { dst := some 45, op := Op.binOp BinOp.sub 3 (Operand.tmp 43) (Operand.tmp 44) 3, type := 3, pos := "ref.go:196", after := #[{ on := 3, ground := Ground.data }, { on := 4, ground := Ground.data }], guard := none }) (v := ?v5_6) rfl (by kernel_rfl) (by kernel_rfl) (by kernel_rfl) (fun _ _ _ h => h) (Or.inl ⟨by rfl, ?h5_6⟩) (by assumption) ?r5_6
  case h5_6 =>
    intro W hSW
    try dsimp only at hSW
    go_simp
    try with_reducible rfl
  try simp only [Act.put, List.setIfInBounds_toArray, List.set_cons_zero, List.set_cons_succ]
  refine wpAnyH_take (i := 7) (oi := { dst := some 47, op := Op.move (Operand.tmp 0), type := 34, pos := "ref.go:196", after := #[], guard := none }) (v := ?v7_7) rfl (by kernel_rfl) (by kernel_rfl) (by kernel_rfl) (fun _ _ _ h => h) (Or.inl ⟨by rfl, ?h7_7⟩) (by assumption) ?r7_7
  case h7_7 =>
    intro W hSW
    try dsimp only at hSW
    go_simp
    try with_reducible rfl
  try simp only [Act.put, List.setIfInBounds_toArray, List.set_cons_zero, List.set_cons_succ]
  refine wpAnyH_take (i := 8) (oi := { dst := some 48, op := Op.move (Operand.tmp 7), type := 3, pos := "ref.go:196", after := #[], guard := none }) (v := ?v8_8) rfl (by kernel_rfl) (by kernel_rfl) (by kernel_rfl) (fun _ _ _ h => h) (Or.inl ⟨by rfl, ?h8_8⟩) (by assumption) ?r8_8
  case h8_8 =>
    intro W hSW
    try dsimp only at hSW
    go_simp
    try with_reducible rfl
  try simp only [Act.put, List.setIfInBounds_toArray, List.set_cons_zero, List.set_cons_succ]
  refine wpAnyH_take (i := 9) (oi := { dst := some 49, op := Op.slice 34 (Operand.tmp 47) none (some (Operand.tmp 48)) none, type := 34, pos := "ref.go:196", after := #[{ on := 7, ground := Ground.data }, { on := 8, ground := Ground.data }], guard := none }) (v := ?v9_9) rfl (by kernel_rfl) (by kernel_rfl) (by kernel_rfl) (fun _ _ _ h => h) (Or.inl ⟨by rfl, ?h9_9⟩) (by assumption) ?r9_9
  case h9_9 =>
    intro W hSW
    try dsimp only at hSW
    go_simp
    try with_reducible rfl
  try simp only [Act.put, List.setIfInBounds_toArray, List.set_cons_zero, List.set_cons_succ]
  refine wpAnyH_ready (rs := [6]) (by kernel_rfl) (by simp) ?_
  refine AllReadyH.cons (o := { dst := some 46, op := Op.call { callee := Callee.value (Operand.func 44), args := #[Operand.tmp 42, Operand.tmp 45, Operand.const (Value.bool false)], argTypes := #[34, 3, 4] }, type := 34, pos := "ref.go:196", after := #[{ on := 2, ground := Ground.data }, { on := 5, ground := Ground.data }], guard := none }) rfl (fun K hK => ?_) AllReadyH.nil
  go_simp
  refine (HH1.out _ hv0).mono ?_
  rintro e w1 ⟨v1, k1, rfl, hk1, own1, b1⟩
  have HK1 := Lib.hid hk1
  have hv1 : Below w.heap.size w w1 := hv0.trans (b1.mono hv0.size)
  clear hk1
  go_wp2_with fail
  refine hK.out _ _ (hv1) (fun hHeld => ?_)
  clear hK K
  try simp only [Act.put, List.setIfInBounds_toArray, List.set_cons_zero, List.set_cons_succ]
  refine wpAnyH_ready (rs := [10]) (by kernel_rfl) (by simp) ?_
  refine AllReadyH.cons (o := { dst := some 50, op := Op.call { callee := Callee.value (Operand.func 20), args := #[Operand.tmp 49], argTypes := #[34] }, type := 30, pos := "ref.go:196", after := #[{ on := 9, ground := Ground.data }, { on := 6, ground := Ground.chain }], guard := none }) rfl (fun K hK => ?_) AllReadyH.nil
  go_simp
  refine (HH2.out _ hv1).mono ?_
  rintro e w2 ⟨rfl, b2⟩
  have hv2 : Below w.heap.size w w2 := hv1.trans (b2.mono hv1.size)
  have own2 := own_below own1 b2
  go_wp2_with fail
  refine hK.out _ _ (hv2) (fun hHeld => ?_)
  clear hK K
  try simp only [Act.put, List.setIfInBounds_toArray, List.set_cons_zero, List.set_cons_succ]
  refine wpAnyH_ready (rs := [11]) (by kernel_rfl) (by simp) ?_
  refine AllReadyH.cons (o := { dst := some 51, op := Op.buildSlice 34 1 #[(0, Operand.tmp 50)], type := 34, pos := "ref.go:196", after := #[{ on := 10, ground := Ground.data }], guard := none }) rfl (fun K hK => ?_) AllReadyH.nil
  rw [if_pos (by rfl)]
  refine wp_build16 (.tmp 50) rfl (bvs r) (by rw [bvs_len]; exact H16.out) rfl ?_
  obtain ⟨w3, hw3⟩ : ∃ w', w2.alloc (.cells (bvs r).toArray 30) = w' := ⟨_, rfl⟩
  rw [hw3]
  have rg3 : w3.rangeAt w2.heap.size 0 (bvs r) := by rw [← hw3]; exact range_new _ _ _
  have bb3 : Below w2.heap.size w2 w3 := by rw [← hw3]; exact (Below.refl _ _).alloc (Nat.le_refl _) _
  have own3 := own_below own2 bb3
  have hv3 : Below w.heap.size w w3 := by rw [← hw3]; exact hv2.alloc hv2.size _
  clear hw3
  refine hK.out _ _ (hv3) (fun hHeld => ?_)
  clear hK K
  try simp only [Act.put, List.setIfInBounds_toArray, List.set_cons_zero, List.set_cons_succ]
  refine wpAnyH_ready (rs := [12]) (by kernel_rfl) (by simp) ?_
  refine AllReadyH.cons (o := { dst := some 52, op := Op.call { callee := Callee.builtin Builtin.append, args := #[Operand.tmp 46, Operand.tmp 51], argTypes := #[34, 34] }, type := 34, pos := "ref.go:196", after := #[{ on := 6, ground := Ground.data }, { on := 11, ground := Ground.data }, { on := 10, ground := Ground.chain }], guard := none }) rfl (fun K hK => ?_) AllReadyH.nil
  rw [if_pos (by rfl)]
  refine wp_app16 (.tmp 46) (.tmp 51) rfl _ _ k1 _ rfl own3 w2.heap.size 1 (bvs r) rfl (by rw [bvs_len]; exact H16.out) rg3 (List.all_eq_true.1 (bvs_all _)) (by have := HK1.out; have := HRL.out; omega) hv3.size ?_
  intro v4 w4 own4 g4
  have hv4 : Below w.heap.size w w4 := hv3.grown g4 hv3.size (fun j hj => (own3.lt j hj).1)
  refine hK.out _ _ (hv4) (fun hHeld => ?_)
  clear hK K
  try simp only [Act.put, List.setIfInBounds_toArray, List.set_cons_zero, List.set_cons_succ]
  refine wpAnyH_take (i := 13) (oi := { dst := some 6, op := Op.assign (Operand.tmp 52), type := 34, pos := "ref.go:196", after := #[{ on := 12, ground := Ground.data }, { on := 12, ground := Ground.chain }, { on := 0, ground := Ground.phase }, { on := 1, ground := Ground.phase }, { on := 2, ground := Ground.phase }, { on := 3, ground := Ground.phase }, { on := 4, ground := Ground.phase }, { on := 5, ground := Ground.phase }, { on := 6, ground := Ground.phase }, { on := 7, ground := Ground.phase }, { on := 8, ground := Ground.phase }, { on := 9, ground := Ground.phase }, { on := 10, ground := Ground.phase }, { on := 11, ground := Ground.phase }, { on := 12, ground := Ground.phase }], guard := none }) (v := ?v13_10) rfl (by kernel_rfl) (by kernel_rfl) (by kernel_rfl) (fun _ _ _ h => h) (Or.inl ⟨by rfl, ?h13_10⟩) (by assumption) ?r13_10
  case h13_10 =>
    intro W hSW
    try dsimp only at hSW
    go_simp
    try with_reducible rfl
  try simp only [Act.put, List.setIfInBounds_toArray, List.set_cons_zero, List.set_cons_succ]
  refine wpAnyH_done (by kernel_rfl) ?_ _
  go_wp2_with fail
  exact bodyPost_ret (results_tmp rfl _ _ _) rfl (show SubRes _ _ _ _ _ from ⟨v4, k1 + 1, rfl, by rw [HP.out, List.length_cons, HK1.out], by rw [HP.out, List.reverse_cons, dvs_snoc]; exact own4, hv4⟩)
theorem refSub_any : ∀ (n c m : Nat) (b : Bool) (A : Option Addr) (l : List (List UInt8)), l.length = n → n ≤ 1099511627776 → 1 ≤ m → m ≤ n → ∀ (B : Nat) (w : World), Rd w B 16 A n (dvs l) → D16 l → B ≤ w.heap.size → n ≤ c → c ≤ maxLen → RTab w →
    Calls Tryd.prog 44 #[.slice A n c, .int .i64 (m : Int), .bool b] w (SubRes (Mk.prefD l m b) w.heap.size w) := by
  intro n
  induction n using Nat.strongRecOn with
  | ind n ih =>
    intro c m b A l hl hn hm1 hmn B w hr hd hB hc hcm hT
    by_cases h1 : m = n
    · subst h1
      cases b with
      | true => exact refSub_whole A m c l hl w
      | false => exact refSub_part A m c l hl w (refRoot_any m c A l hl hn B w hr hd hB hc hcm hT)
    · obtain ⟨b', off, rfl, _, _⟩ := hr.2 (by omega)
      have hs1 := Mk.split_pos n
      have hs2 := Mk.split_lt (n := n) (by omega)
      have hlo := hr.first hd (k := Mk.split n) (by omega)
      have hhi := hr.rest hd hs2
      by_cases hi : m ≤ Mk.split n
      · refine refSub_lo n c m b ⟨b', off, none⟩ l hl hm1 (by omega) hn hi w hc hcm (fun W hW => ?_) (fun W hW => ?_)
        · refine (ih (Mk.split n) hs2 c m b _ (l.take (Mk.split n)) (by rw [List.length_take, hl]; omega) (by omega) hm1 hi B W (hlo.below (hW.mono hB)) (hd.take _) (Nat.le_trans hB hW.size) (by omega) hcm (hT.below hW)).mono ?_
          rintro e W' ⟨v, k, h1, h2, h3, h4⟩
          exact ⟨v, k, h1, h2, own_base h3 hW.size, h4⟩
        · exact refRoot_any (n - Mk.split n) (c - Mk.split n) _ (l.drop (Mk.split n)) (by rw [List.length_drop, hl]) (by omega) B W (hhi.below (hW.mono hB)) (hd.drop _) (Nat.le_trans hB hW.size) (by omega) (by omega) (hT.below hW)
      · refine refSub_hi n c m b ⟨b', off, none⟩ l hl hm1 (by omega) hn hi w hc hcm (fun W hW => ?_) (fun W hW => ?_)
        · have := ih (n - Mk.split n) (by omega) (c - Mk.split n) (m - Mk.split n) false _ (l.drop (Mk.split n)) (by rw [List.length_drop, hl]) (by omega) (by omega) (by omega) B W (hhi.below (hW.mono hB)) (hd.drop _) (Nat.le_trans hB hW.size) (by omega) (by omega) (hT.below hW)
          rw [show ((m - Mk.split n : Nat) : Int) = (m : Int) - (Mk.split n : Int) from by omega] at this
          refine this.mono ?_
          rintro e W' ⟨v, k, h1, h2, h3, h4⟩
          exact ⟨v, k, h1, h2, own_base h3 hW.size, h4⟩
        · exact refRoot_any (Mk.split n) c _ (l.take (Mk.split n)) (by rw [List.length_take, hl]; omega) (by omega) B W (hlo.below (hW.mono hB)) (hd.take _) (Nat.le_trans hB hW.size) (by omega) hcm (hT.below hW)
set_option maxRecDepth 100000 in
set_option maxHeartbeats 1000000 in
theorem refSame2_any (A B : Option Addr) (n m ca cb : Nat) (xs ys : List (List UInt8)) (hx : xs.length = n) (hy : ys.length = m) (hL : n ≤ 1099511627776) (w : World) (hxd : D16 xs) (hyd : D16 ys)
    (ha : Rd w w.heap.size 16 A n (dvs xs)) (hb : Rd w w.heap.size 16 B m (dvs ys)) :
    Calls Tryd.prog 21 #[.slice A n ca, .slice B m cb] w fun e w' => e = .returned (.bool (decide (xs = ys))) ∧ Below w.heap.size w w' := by
  have HXD := Lib.hid hxd
  have HYD := Lib.hid hyd
  have HXL := Lib.hid hx
  have HYL := Lib.hid hy
  clear hxd hyd hx hy
  by_cases hlen : n = m
  · subst hlen
    go_enter Tryd.func21, Tryd.ntmps21
    go_wp2
    go_loopw [5] (fun i wr => ∃ k : Nat, k ≤ n ∧ i = .int .i64 k ∧ Hid (xs.take k = ys.take k) ∧ Hid (Below w.heap.size w wr)) (fun i _ => n - (intOf i).toNat)
    case atStart => exact ⟨0, Nat.zero_le _, rfl, Lib.hid (by simp), Lib.hid (Below.refl _ _)⟩
    case round =>
      obtain ⟨k, hk, rfl, HT, HB⟩ := hrel
      by_cases hlt : k < n
      · obtain ⟨ba, oa, rfl, hba0, _⟩ := ha.2 (by omega)
        obtain ⟨bb, ob, rfl, hbb0, _⟩ := hb.2 (by omega)
        have hkx : k < xs.length := by rw [HXL.out]; exact hlt
        have hky : k < ys.length := by rw [HYL.out]; exact hlt
        have hrx := Rd.ranges HXD.out HXL.out (ha.below HB.out) k hlt
        have hry := Rd.ranges HYD.out HYL.out (hb.below HB.out) k hlt
        rw [List.getD, List.getElem?_eq_getElem hkx, Option.getD_some] at hrx
        rw [List.getD, List.getElem?_eq_getElem hky, Option.getD_some] at hry
        have HTS : Hid (xs[k] = ys[k] → xs.take (k + 1) = ys.take (k + 1)) := Lib.hid fun e => by rw [List.take_succ_eq_append_getElem hkx, List.take_succ_eq_append_getElem hky, HT.out, e]
        have HNE : Hid (xs[k] ≠ ys[k] → xs ≠ ys) := Lib.hid fun h e => h (by subst e; rfl)
        have HX16 : Hid (xs[k].length = 16) := Lib.hid (HXD.out _ (List.getElem_mem hkx))
        have HY16 : Hid (ys[k].length = 16) := Lib.hid (HYD.out _ (List.getElem_mem hky))
        generalize xs[k] = x at *
        generalize ys[k] = y at *
        have hba : ba < wr.heap.size := by have := HB.out.size; omega
        have hbb : bb < wr.heap.size := by have := HB.out.size; omega
        have hq : ∀ W, (binOp .neq 30 (.agg (bvs x).toArray) (.agg (bvs y).toArray)).run Tryd.prog W = .ok (.bool (!(x == y))) W := fun W => run_neq_digE W HX16.out HY16.out
        have hv0' : Below w.heap.size wr wr.drew := (Below.refl _ _).drew
        clear hkx hky
        go_wp2
        have hv0 : Below wr.heap.size wr wr.drew := (Below.refl _ _).drew
        refine wp_region_held_drew (S := fun W => Below wr.heap.size wr W) (by kernel_rfl) (hv0) (fun hHeld => ?_)
        refine wpAnyH_take (i := 0) (oi := { dst := some 17, op := Op.move (Operand.tmp 0), type := 34, pos := "ref.go:250", after := #[], guard := none }) (v := ?v0_1) rfl (by kernel_rfl) (by kernel_rfl) (by kernel_rfl) (fun _ _ _ h => h) (Or.inl ⟨by rfl, ?h0_1⟩) (by assumption) ?r0_1
        case h0_1 =>
          intro W hSW
          try dsimp only at hSW
          go_simp
          try with_reducible rfl
        try simp only [Act.put, List.setIfInBounds_toArray, List.set_cons_zero, List.set_cons_succ]
        refine wpAnyH_take (i := 1) (oi := { dst := some 18, op := Op.move (Operand.tmp 5), type := 3, pos := "ref.go:250", after := #[], guard := none }) (v := ?v1_2) rfl (by kernel_rfl) (by kernel_rfl) (by kernel_rfl) (fun _ _ _ h => h) (Or.inl ⟨by rfl, ?h1_2⟩) (by assumption) ?r1_2
        case h1_2 =>
          intro W hSW
          try dsimp only at hSW
          go_simp
          try with_reducible rfl
        try simp only [Act.put, List.setIfInBounds_toArray, List.set_cons_zero, List.set_cons_succ]
        refine wpAnyH_take (i := 2) (oi := { dst := some 19, op := Op.indexAddr 34 (Operand.tmp 17) (Operand.tmp 18), type := 0, pos := "ref.go:250", after := #[{ on := 0, ground := Ground.data }, { on := 1, ground := Ground.data }], guard := none }) (v := ?v2_3) rfl (by kernel_rfl) (by kernel_rfl) (by kernel_rfl) (fun _ _ _ h => h) (Or.inl ⟨by rfl, ?h2_3⟩) (by assumption) ?r2_3
        case h2_3 =>
          intro W hSW
          try dsimp only at hSW
          go_simp
          try with_reducible rfl
        try simp only [Act.put, List.setIfInBounds_toArray, List.set_cons_zero, List.set_cons_succ]
        refine wpAnyH_take (i := 3) (oi := { dst := some 20, op := Op.load 30 (Operand.tmp 19), type := 30, pos := "ref.go:250", after := #[{ on := 2, ground := Ground.data }], guard := none }) (v := _) rfl (by kernel_rfl) (by kernel_rfl) (by kernel_rfl) (fun _ _ _ h => h) (yieldsIf_load_mid rfl _ (.tmp 19) rfl ba (oa + k * 16) rfl (bvs x) _ (fun W hW => fun j v hv => (hW.cell (p := ⟨ba, _, none⟩) hba).trans (hrx j v hv)) Tryd.underlying30 rfl (by rw [bvs_len, HX16.out]; exact size16)) (by assumption) ?_
        try simp only [Act.put, List.setIfInBounds_toArray, List.set_cons_zero, List.set_cons_succ]
        refine wpAnyH_take (i := 4) (oi := { dst := some 21, op := Op.move (Operand.tmp 1), type := 34, pos := "ref.go:250", after := #[], guard := none }) (v := ?v4_5) rfl (by kernel_rfl) (by kernel_rfl) (by kernel_rfl) (fun _ _ _ h => h) (Or.inl ⟨by rfl, ?h4_5⟩) (by assumption) ?r4_5
        case h4_5 =>
          intro W hSW
          try dsimp only at hSW
          go_simp
          try with_reducible rfl
        try simp only [Act.put, List.setIfInBounds_toArray, List.set_cons_zero, List.set_cons_succ]
        refine wpAnyH_take (i := 5) (oi := { dst := some 22, op := Op.move (Operand.tmp 5), type := 3, pos := "ref.go:250", after := #[], guard := none }) (v := ?v5_6) rfl (by kernel_rfl) (by kernel_rfl) (by kernel_rfl) (fun _ _ _ h => h) (Or.inl ⟨by rfl, ?h5_6⟩) (by assumption) ?r5_6
        case h5_6 =>
          intro W hSW
          try dsimp only at hSW
          go_simp
          try with_reducible rfl
        try simp only [Act.put, List.setIfInBounds_toArray, List.set_cons_zero, List.set_cons_succ]
        refine wpAnyH_take (i := 6) (oi := { dst := some 23, op := Op.indexAddr 34 (Operand.tmp 21) (Operand.tmp 22), type := 0, pos := "ref.go:250", after := #[{ on := 4, ground := Ground.data }, { on := 5, ground := Ground.data }], guard := none }) (v := ?v6_7) rfl (by kernel_rfl) (by kernel_rfl) (by kernel_rfl) (fun _ _ _ h => h) (Or.inl ⟨by rfl, ?h6_7⟩) (by assumption) ?r6_7
        case h6_7 =>
          intro W hSW
          try dsimp only at hSW
          go_simp
          try with_reducible rfl
        try simp only [Act.put, List.setIfInBounds_toArray, List.set_cons_zero, List.set_cons_succ]
        refine wpAnyH_take (i := 7) (oi := { dst := some 24, op := Op.load 30 (Operand.tmp 23), type := 30, pos := "ref.go:250", after := #[{ on := 6, ground := Ground.data }], guard := none }) (v := _) rfl (by kernel_rfl) (by kernel_rfl) (by kernel_rfl) (fun _ _ _ h => h) (yieldsIf_load_mid rfl _ (.tmp 23) rfl bb (ob + k * 16) rfl (bvs y) _ (fun W hW => fun j v hv => (hW.cell (p := ⟨bb, _, none⟩) hbb).trans (hry j v hv)) Tryd.underlying30 rfl (by rw [bvs_len, HY16.out]; exact size16)) (by assumption) ?_
        try simp only [Act.put, List.setIfInBounds_toArray, List.set_cons_zero, List.set_cons_succ]
        refine wpAnyH_take (i := 8) (oi := { dst := some 25, op := Op.binOp BinOp.neq 30 (Operand.tmp 20) (Operand.tmp 24) 30, type := 4, pos := "ref.go:250", after := #[{ on := 3, ground := Ground.data }, { on := 7, ground := Ground.data }], guard := none }) (v := ?v8_9) rfl (by kernel_rfl) (by kernel_rfl) (by kernel_rfl) (fun _ _ _ h => h) (Or.inl ⟨by rfl, ?h8_9⟩) (by assumption) ?r8_9
        case h8_9 =>
          intro W hSW
          try dsimp only at hSW
          go_simp
          try with_reducible rfl
        try simp only [Act.put, List.setIfInBounds_toArray, List.set_cons_zero, List.set_cons_succ]
        refine wpAnyH_done (by kernel_rfl) ?_ _
        cases hxy : (x == y)
        · have hne : xs ≠ ys := HNE.out (by simpa using hxy)
          have HN := Lib.hid hne
          clear hne
          go_wp2
          go_ret
          exact ⟨ret_bool (decide_eq_false HN.out).symm, HB.out.trans hv0'⟩
        · have HN := Lib.hid (HTS.out (by simpa using hxy))
          go_wp2
          go_roundw
          case rel => exact ⟨k + 1, by omega, by go_num, HN, Lib.hid (HB.out.trans hv0')⟩
          case measure => simp [intOf]; omega
      · have hke : k = n := by omega
        subst hke
        have he : xs = ys := by
          have := HT.out
          rwa [List.take_of_length_le (by rw [HXL.out]; exact Nat.le_refl _), List.take_of_length_le (by rw [HYL.out]; exact Nat.le_refl _)] at this
        have HE := Lib.hid he
        clear he
        go_wp2
        go_ret
        exact ⟨ret_bool (decide_eq_true HE.out).symm, HB.out⟩
  · have hne : ((n : Int) != (m : Int)) = true := by rw [bne_iff_ne]; omega
    have HL := Lib.hid hlen
    clear hlen
    go_enter Tryd.func21, Tryd.ntmps21
    go_wp2
    go_ret
    exact ⟨ret_bool (decide_eq_false fun h => HL.out (by rw [← HXL.out, ← HYL.out, h])).symm, Below.refl _ _⟩
end Go.Proofs.YtfnbcchmembomaaDoor
