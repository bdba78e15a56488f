/- The library's stable sort of a row of ints in place, with layer 33's closure. Conditions: at most 1000 elements. -/
import Derived.Test.YtegjfobanjkimaaSrt5
namespace Go.Proofs.Ytegjfobanjkimaa
set_option linter.unusedVariables false
set_option linter.unusedSimpArgs false
open Go.RowKit
/-- what a stable sort of the row d leaves -/
def StRes (R : Int → Int → Prop) (g n : Nat) (d : Nat → Int) (w : World) (en : Ending) (w' : World) : Prop := en = .returned (.tuple #[]) ∧ ∃ f, FRow w' g n f ∧ So.Mv 0 n d f ∧ So.Srt R f 0 n ∧ w.grownBy w' (some g)
theorem part_of {R : Int → Int → Prop} {d row f : Nat → Int} {a b : Nat} (hs : So.Srt R f a b) (hm : So.Mv a b row f) (hd : ∀ t, a ≤ t → row t = d t) : So.Part R d f a b := by
  refine ⟨hs, fun t h1 h2 => ?_⟩
  obtain ⟨s, s1, s2, s3⟩ := hm.mem h1 h2
  exact ⟨s, s1, s2, by rw [s3, hd s s1]⟩
theorem blocks_far {R : Int → Int → Prop} {d row f : Nat → Int} {n z a b c : Nat} (h : So.Blocks R d row n z a) (hm : So.Mv a b row f) (hc : b ≤ c) (ha : a ≤ c) : So.Blocks R d f n z c := fun q hq => (h q (by omega)).congr fun t h1 _ => hm.out (by omega)
theorem dbl (q z : Nat) : q * (z + z) = 2 * q * z := by rw [Nat.mul_add, Nat.mul_assoc 2 q z, Nat.two_mul]
set_option maxRecDepth 100000 in
set_option maxHeartbeats 4000000 in
theorem stable_any (w0 : World) (g n c bt bw bs : Nat) (R : Int → Int → Prop) (ls : Int → Int → Bool) (O : So.Ord R) (HC0 : CmpOk w0 g n bt bw bs ls) (hn : n ≤ 1000) (d : Nat → Int) (hrg : Rng n d) (hinc : So.Inc R ls d n) (w : World) (hg0 : w0.grownBy w (some g)) (hr : FRow w g n d) :
    Calls Try.prog 22 #[.slice (some ⟨g, 0, none⟩) n c, .int .i64 n, firstF bt bw bs] w (StRes R g n d w) := by
  have HR := Lib.hid hr
  have HRG := Lib.hid hrg
  have HI := Lib.hid hinc
  have HG0 := Lib.hid hg0
  have HINS := Lib.hid (fun (W : World) (hW : w0.grownBy W (some g)) (a b : Nat) (hab : a < b) (hbn : b ≤ n) (cur : Nat → Int) (h1 : Rng n cur) (h2 : ∀ x y, a ≤ x → x < y → y < b → So.Cr R ls (cur x) (cur y)) (h3 : FRow W g n cur) => insertion_any w0 g n c bt bw bs R ls O HC0 a b hab hbn hn cur h1 h2 W hW h3)
  have HSYM := Lib.hid (fun (W : World) (hW : w0.grownBy W (some g)) (a m b : Nat) (ham : a < m) (hmb : m < b) (hbn : b ≤ n) (cur : Nat → Int) (h1 : Rng n cur) (h2 : So.Two R ls cur a m b) (h3 : FRow W g n cur) => sym_any w0 g n c bt bw bs R ls O HC0 hn (b - a) a m b (Nat.le_refl _) ham hmb hbn cur h1 h2 W hW h3)
  clear hr hrg hinc hg0 HC0
  go_enter Try.func22, Try.ntmps22
  go_wp2
  go_loopw [7, 8] (fun u7 u8 wr => ∃ (a b : Nat) (row : Nat → Int), Hid (∃ q, a = q * 20 ∧ b = a + 20 ∧ a ≤ n ∧ So.Upto R d row n 20 (q * 20)) ∧ u7 = .int .i64 a ∧ u8 = .int .i64 b ∧ Hid (FRow wr g n row) ∧ Hid (∀ t, a ≤ t → row t = d t) ∧ Hid (So.Mv 0 n d row) ∧ w.grownBy wr (some g)) (fun u7 _ _ => n + 20 - (intOf u7).toNat)
  case atStart => exact ⟨0, 20, d, ⟨0, rfl, rfl, Nat.zero_le _, fun q h => by omega⟩, rfl, rfl, HR.out, fun _ _ => rfl, So.Mv.refl _ _ _, World.grownBy.refl _ _⟩
  case round =>
    obtain ⟨a, b, row, HQ, rfl, rfl, HF, HD, HM, hg⟩ := hrel
    have hq := HQ.out
    have hab : b = a + 20 ∧ a ≤ n := by obtain ⟨q, _, h2, h3, _⟩ := hq; exact ⟨h2, h3⟩
    obtain ⟨hb, han⟩ := hab
    have HG := Lib.hid hg
    have HB := Lib.hid hb
    by_cases hlt : b ≤ n
    · have e1 : (b : Int) ≤ (n : Int) := by omega
      obtain ⟨b2, hb2⟩ : ∃ x, b + 20 = x := ⟨_, rfl⟩
      have q2 : (b : Int) + 20 = (b2 : Int) := by omega
      have w2 : IntKind.i64.wrap (b2 : Int) = (b2 : Int) := IntWalk.i64_in _ (by omega)
      have HS := Lib.hid (HINS.out wr (HG0.out.trans hg) a b (by omega) hlt row (HRG.out.mv HM.out (Nat.le_refl _)) (fun x y h1 h2 h3 => by rw [HD.out x h1, HD.out y (by omega)]; exact HI.out x y h2 (by omega)) HF.out)
      have HB2 := Lib.hid hb2
      clear hg hq hb hb2
      go_wp2_with (go_at_call 25; refine HS.out.mono ?_; rintro e w5 ⟨rfl, f, F5, M5, S5, G5⟩)
      go_roundw
      case rel =>
        have hb := HB.out
        have hb2 := HB2.out
        obtain ⟨q, hq1, hq2, hq3, hq4⟩ := HQ.out
        refine ⟨b, b2, f, ⟨q + 1, by omega, by omega, hlt, ?_⟩, rfl, by go_num, F5, fun t ht => by rw [M5.out (by omega)]; exact HD.out t (by omega), HM.out.trans (M5.mono (Nat.zero_le _) hlt), HG.out.trans G5⟩
        have hmin : min n (q * 20 + 20) = b := by omega
        refine hq4.more (f := f) (hi' := (q + 1) * 20) ?_ ?_ rfl
        · rw [hmin, ← hq1]; exact M5
        · rw [hmin, ← hq1]; exact part_of S5 M5 HD.out
      case measure => have := HB.out; simp [intOf]; omega
    · have e1 : ¬ ((b : Int) ≤ (n : Int)) := by omega
      clear hg hq hb
      go_upto_region 6 with fail
      go_cut [] (fun wx => ∃ f, Hid (FRow wx g n f ∧ So.Blocks R d f n 20 0 ∧ So.Mv 0 n d f) ∧ w.grownBy wx (some g))
      case first =>
        by_cases hz : a < n
        · have HS := Lib.hid (HINS.out wr (HG0.out.trans HG.out) a n hz (Nat.le_refl _) row (HRG.out.mv HM.out (Nat.le_refl _)) (fun x y h1 h2 h3 => by rw [HD.out x h1, HD.out y (by omega)]; exact HI.out x y h2 (by omega)) HF.out)
          clear hz
          go_wp2_with (go_at_call 25; refine HS.out.mono ?_; rintro e w5 ⟨rfl, f, F5, M5, S5, G5⟩)
          go_meet
          have hb := HB.out
          obtain ⟨q, hq1, hq2, hq3, hq4⟩ := HQ.out
          refine ⟨f, ⟨F5, ?_, HM.out.trans (M5.mono (Nat.zero_le _) (Nat.le_refl _))⟩, HG.out.trans G5⟩
          have hmin : min n (q * 20 + 20) = n := by omega
          refine (hq4.more (f := f) (hi' := (q + 1) * 20) ?_ ?_ rfl).all (by omega)
          · rw [hmin, ← hq1]; exact M5
          · rw [hmin, ← hq1]; exact part_of S5 M5 HD.out
        · have HS := Lib.hid (insertion_none (firstF bt bw bs) R g n c a n (by omega) hn (by omega) row wr HF.out)
          have HAN := Lib.hid (show a = n by omega)
          clear hz
          go_wp2_with (go_at_call 25; refine HS.out.mono ?_; rintro e w5 ⟨rfl, f, F5, M5, S5, G5⟩)
          go_meet
          have han := HAN.out
          obtain ⟨q, hq1, hq2, hq3, hq4⟩ := HQ.out
          have hfr : f = row := by funext t; exact M5.out (by omega)
          subst hfr
          exact ⟨f, ⟨F5, hq4.all (by omega), HM.out⟩, HG.out.trans G5⟩
      case rest =>
      obtain ⟨f1, HF1, G1⟩ := hcut
      obtain ⟨w1, hw1⟩ : ∃ x, wc = x := ⟨_, rfl⟩
      try rw [hw1] at HF1 G1 ⊢
      have HG1 := Lib.hid G1
      clear G1 hw1 e1 hlt han
      go_wp2_with fail
      go_loopw [6] (fun u6 wy => ∃ (wq : World) (z : Nat) (row : Nat → Int), wq = wy ∧ 0 < z ∧ z ≤ 3000 ∧ u6 = .int .i64 z ∧ Hid (FRow wq g n row) ∧ Hid (So.Blocks R d row n z 0) ∧ Hid (So.Mv 0 n d row) ∧ w.grownBy wq (some g)) (fun u6 _ => n - (intOf u6).toNat)
      case atStart => exact ⟨_, 20, f1, rfl, by decide, by decide, rfl, HF1.out.1, HF1.out.2.1, HF1.out.2.2, HG1.out⟩
      case round =>
        obtain ⟨wq, z, row1, rfl, hz0, hz3, rfl, HFz, HBz, HMz, hgz⟩ := hrel
        have HGz := Lib.hid hgz
        by_cases hzn : z < n
        · have e2 : (z : Int) < (n : Int) := by omega
          obtain ⟨y, hy⟩ : ∃ y, z + z = y := ⟨_, rfl⟩
          have qy : (2 : Int) * (z : Int) = (y : Int) := by omega
          have qy' : (z : Int) * 2 = (y : Int) := by omega
          have wy' : IntKind.i64.wrap (y : Int) = (y : Int) := IntWalk.i64_in _ (by omega)
          have HY := Lib.hid hy
          clear hgz hy
          go_wp2_with fail
          go_loopw [7, 8] (fun u7 u8 wy => ∃ (wv : World) (a b : Nat) (row : Nat → Int), wv = wy ∧ Hid (∃ q, a = q * y ∧ b = a + y ∧ a ≤ n ∧ So.Upto R d row n y (q * y) ∧ So.Blocks R d row n z a) ∧ u7 = .int .i64 a ∧ u8 = .int .i64 b ∧ Hid (FRow wv g n row) ∧ Hid (So.Mv 0 n d row) ∧ w.grownBy wv (some g)) (fun u7 _ _ => n + 1 - (intOf u7).toNat)
          case atStart => exact ⟨_, 0, y, row1, rfl, ⟨0, by omega, by omega, Nat.zero_le _, fun q h => by omega, HBz.out⟩, rfl, rfl, HFz.out, HMz.out, HGz.out⟩
          case round =>
            obtain ⟨wv, a, b, row, rfl, HQ3, rfl, rfl, HF3, HM3, hg3⟩ := hrel
            have HG3 := Lib.hid hg3
            have hyz := HY.out
            have hab : b = a + y ∧ a ≤ n := by obtain ⟨q, _, h2, h3, _⟩ := HQ3.out; exact ⟨h2, h3⟩
            obtain ⟨hb, han⟩ := hab
            have HP1 : Hid (So.Part R d row a (min n (a + z))) := Lib.hid (by
              obtain ⟨q, hq1, hq2, hq3, hq4, hq5⟩ := HQ3.out
              have he : 2 * q * z = a := by rw [hq1, ← hyz, dbl]
              have h := hq5 (2 * q) (Nat.le_of_eq he.symm)
              rw [he] at h; exact h)
            have HP2 : Hid (So.Part R d row (a + z) (min n (a + z + z))) := Lib.hid (by
              obtain ⟨q, hq1, hq2, hq3, hq4, hq5⟩ := HQ3.out
              have he : (2 * q + 1) * z = a + z := by rw [Nat.add_mul, hq1, ← hyz, dbl, Nat.one_mul]
              have h := hq5 (2 * q + 1) (by rw [he]; exact Nat.le_add_right _ _)
              rw [he] at h; exact h)
            obtain ⟨m, hm⟩ : ∃ m, a + z = m := ⟨_, rfl⟩
            have qm : (a : Int) + (z : Int) = (m : Int) := by omega
            have wm : IntKind.i64.wrap (m : Int) = (m : Int) := IntWalk.i64_in _ (by omega)
            rw [hm] at HP1 HP2
            have HMM := Lib.hid (And.intro hm hb)
            have HR3 := Lib.hid (HRG.out.mv HM3.out (Nat.le_refl _))
            by_cases hlt3 : b ≤ n
            · have e3 : (b : Int) ≤ (n : Int) := by omega
              obtain ⟨b2, hb2⟩ : ∃ x, b + y = x := ⟨_, rfl⟩
              have q2 : (b : Int) + (y : Int) = (b2 : Int) := by omega
              have w2 : IntKind.i64.wrap (b2 : Int) = (b2 : Int) := IntWalk.i64_in _ (by omega)
              have hp1 := HP1.out
              have hp2 := HP2.out
              rw [show min n m = m by omega] at hp1
              rw [show min n (m + z) = b by omega] at hp2
              have HPP := Lib.hid (And.intro hp1 hp2)
              have HS := Lib.hid (HSYM.out wv (HG0.out.trans hg3) a m b (by omega) (by omega) hlt3 row HR3.out (So.Part.two HI.out hp1 hp2 hlt3) HF3.out)
              have HB2 := Lib.hid hb2
              have HLT := Lib.hid hlt3
              clear hg3 hb2 hb hm hp1 hp2 hyz hlt3 han
              go_wp2_with (go_at_call 26; refine HS.out.mono ?_; rintro e w5 ⟨rfl, f, F5, M5, S5, G5⟩)
              go_roundw
              case rel =>
                have hm := HMM.out
                have hb2 := HB2.out
                have hyz := HY.out
                have hlt3 := HLT.out
                obtain ⟨q, hq1, hq2, hq3, hq4, hq5⟩ := HQ3.out
                refine ⟨_, b, b2, f, rfl, ⟨q + 1, by rw [Nat.add_mul]; omega, by omega, hlt3, ?_, blocks_far hq5 M5 (Nat.le_refl _) (by omega)⟩, rfl, by go_num, F5, HM3.out.trans (M5.mono (Nat.zero_le _) hlt3), HG3.out.trans G5⟩
                have hmin : min n (q * y + y) = b := by omega
                refine hq4.more (f := f) (hi' := (q + 1) * y) ?_ ?_ rfl
                · rw [hmin, ← hq1]; exact M5
                · rw [hmin, ← hq1]; exact So.Part.join HPP.out.1 HPP.out.2 (by omega) (by omega) S5 M5
              case measure => have := HMM.out; have := HY.out; have := HLT.out; simp [intOf]; omega
            · have e3 : ¬ ((b : Int) ≤ (n : Int)) := by omega
              have HLT := Lib.hid hlt3
              clear hg3 hb hyz hlt3
              by_cases hmn : m < n
              · have e4 : (m : Int) < (n : Int) := by omega
                have hp1 := HP1.out
                have hp2 := HP2.out
                have hbb := HMM.out
                have hyz := HY.out
                have hlt3 := HLT.out
                rw [show min n m = m by omega] at hp1
                rw [show min n (m + z) = n by omega] at hp2
                have HPP := Lib.hid (And.intro hp1 hp2)
                have HS := Lib.hid (HSYM.out wv (HG0.out.trans HG3.out) a m n (by omega) hmn (Nat.le_refl _) row HR3.out (So.Part.two HI.out hp1 hp2 (Nat.le_refl _)) HF3.out)
                have HMN := Lib.hid hmn
                clear hm hp1 hp2 hyz hlt3 hbb hmn han
                go_wp2_with (go_at_call 26; refine HS.out.mono ?_; rintro e w5 ⟨rfl, f, F5, M5, S5, G5⟩)
                go_roundw
                case rel =>
                  have hm := HMM.out
                  have hyz := HY.out
                  have hlt3 := HLT.out
                  have hmn := HMN.out
                  obtain ⟨q, hq1, hq2, hq3, hq4, hq5⟩ := HQ3.out
                  refine ⟨_, y, f, rfl, by omega, by omega, by go_num, F5, ?_, HM3.out.trans (M5.mono (Nat.zero_le _) (Nat.le_refl _)), HG3.out.trans G5⟩
                  have hmin : min n (q * y + y) = n := by omega
                  refine (hq4.more (f := f) (hi' := (q + 1) * y) ?_ ?_ rfl).all (by rw [Nat.add_mul]; omega)
                  · rw [hmin, ← hq1]; exact M5
                  · rw [hmin, ← hq1]; exact So.Part.join HPP.out.1 HPP.out.2 (by omega) (by omega) S5 M5
                case measure => have := HY.out; simp [intOf]; omega
              · have e4 : ¬ ((m : Int) < (n : Int)) := by omega
                have HMN := Lib.hid hmn
                clear hm hmn han
                go_wp2_with fail
                go_roundw
                case rel =>
                  have hm := HMM.out
                  have hyz := HY.out
                  have hlt3 := HLT.out
                  have hmn := HMN.out
                  have hp1 := HP1.out
                  rw [show min n m = n by omega] at hp1
                  obtain ⟨q, hq1, hq2, hq3, hq4, hq5⟩ := HQ3.out
                  refine ⟨_, y, row, rfl, by omega, by omega, by go_num, HF3.out, ?_, HM3.out, HG3.out⟩
                  have hmin : min n (q * y + y) = n := by omega
                  refine (hq4.more (f := row) (hi' := (q + 1) * y) (So.Mv.refl _ _ _) ?_ rfl).all (by rw [Nat.add_mul]; omega)
                  rw [hmin, ← hq1]; exact hp1
                case measure => have := HY.out; simp [intOf]; omega
        · have e2 : ¬ ((z : Int) < (n : Int)) := by omega
          have HSR : Hid (So.Srt R row1 0 n) := Lib.hid (by
            have h := (HBz.out 0 (by omega)).s
            rw [show 0 * z = 0 by omega, show min n (0 + z) = n by omega] at h; exact h)
          clear hgz
          go_wp2_with fail
          go_end0
          exact ⟨rfl, row1, HFz.out, HMz.out, HSR.out, HGz.out⟩
theorem sortStable_any (w0 : World) (g n c bt bw bs : Nat) (R : Int → Int → Prop) (ls : Int → Int → Bool) (O : So.Ord R) (HC0 : CmpOk w0 g n bt bw bs ls) (hn : n ≤ 1000) (d : Nat → Int) (hrg : Rng n d) (hinc : So.Inc R ls d n) (w : World) (hg0 : w0.grownBy w (some g)) (hr : FRow w g n d) :
    Calls Try.prog 18 #[.slice (some ⟨g, 0, none⟩) n c, firstF bt bw bs] w (StRes R g n d w) := by
  have HS := Lib.hid (stable_any w0 g n c bt bw bs R ls O HC0 hn d hrg hinc w hg0 hr)
  clear hr hrg hinc hg0 HC0
  go_enter Try.func18, Try.ntmps18
  go_wp2_with (go_at_call 22; refine HS.out.mono ?_; rintro e w5 ⟨rfl, f, F5, M5, S5, G5⟩)
  go_end0
  exact ⟨rfl, f, F5, M5, S5, G5⟩
end Go.Proofs.Ytegjfobanjkimaa
