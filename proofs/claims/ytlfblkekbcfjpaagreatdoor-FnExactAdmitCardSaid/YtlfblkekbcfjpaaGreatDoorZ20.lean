/- Part of a proof: contracts and plain laws. -/
import Derived.Test.YtlfblkekbcfjpaaGreatDoorZ19
set_option linter.unusedVariables false
set_option linter.unusedSimpArgs false
namespace Go.Proofs.YtlfblkekbcfjpaaGreatDoor
open Go
set_option maxRecDepth 100000
set_option maxHeartbeats 2000000
theorem shl_ok {m : Int} {k : Nat} (hm : -65535 ≤ m ∧ m ≤ 65535) (hk : k ≤ 16) : wrK .i64 (m * 2 ^ k) = m * 2 ^ k := by
 have h1 : (2 : Int) ^ k ≤ 2 ^ 16 := by
  have := Nat.pow_le_pow_right (n := 2) (by omega) hk
  have e1 : ((2 ^ k : Nat) : Int) = (2 : Int) ^ k := by simp -implicitDefEqProofs -dsimp
  have e2 : ((2 ^ 16 : Nat) : Int) = (2 : Int) ^ 16 := by simp -implicitDefEqProofs -dsimp
  omega
 have h2 : (0 : Int) < 2 ^ k := Int.pow_pos (by omega)
 generalize (2 : Int) ^ k = q at h1 h2
 have h3 : m * q ≤ 65535 * q := Int.mul_le_mul_of_nonneg_right hm.2 (by omega)
 have h4 : -65535 * q ≤ m * q := Int.mul_le_mul_of_nonneg_right hm.1 (by omega)
 exact wrap64_id _ (by omega)
theorem fltOkP_0 {e : Int} : fltOkP 0 e = decide (e = 0) := if_pos rfl
theorem fltOkP_bad {m e : Int} (h0 : m ≠ 0) (h : ¬ (-65535 ≤ m ∧ m ≤ 65535) ∨ m.tmod 2 = 0 ∨ e < -16 ∨ 46 < e) : fltOkP m e = false := by
 unfold fltOkP; rw [if_neg h0]
 rw [Bool.eq_false_iff]; intro hh
 simp only [Bool.and_eq_true, decide_eq_true_eq] at hh
 omega
theorem fltOkP_low {m e : Int} (h0 : m ≠ 0) (h : -65535 ≤ m ∧ m ≤ 65535) (h1 : m.tmod 2 ≠ 0) (h2 : -16 ≤ e ∧ e ≤ 30) : fltOkP m e = true := by
 unfold fltOkP; rw [if_neg h0]
 simp only [Bool.and_eq_true, Bool.or_eq_true, decide_eq_true_eq]
 exact ⟨⟨⟨h, h1⟩, by omega, by omega⟩, .inl h2.2⟩
theorem fltOkP_high {m e : Int} {k : Nat} (h0 : m ≠ 0) (h : -65535 ≤ m ∧ m ≤ 65535) (h1 : m.tmod 2 ≠ 0) (h2 : e = 30 + k) (hk : 1 ≤ k ∧ k ≤ 16) : fltOkP m e = decide (-65535 ≤ m * 2 ^ k ∧ m * 2 ^ k ≤ 65535) := by
 subst h2
 rcases Nat.lt_or_ge k 16 with hk2 | hk2
 ·unfold fltOkP; rw [if_neg h0, Bool.eq_iff_iff]
  simp only [Bool.and_eq_true, Bool.or_eq_true, decide_eq_true_eq, show ((30 : Int) + k - 30).toNat = k by omega]
  constructor
  ·rintro ⟨_, h3 | h3⟩
   ·omega
   ·exact h3
  ·exact fun h3 => ⟨⟨⟨h, h1⟩, by omega, by omega⟩, .inr h3⟩
 ·have : k = 16 := by omega
  subst this
  have e1 : fltOkP m (30 + ((16 : Nat) : Int)) = false := by
   unfold fltOkP; rw [if_neg h0, Bool.eq_false_iff]; intro hh
   simp only [Bool.and_eq_true, decide_eq_true_eq] at hh
   omega
  rw [e1]; symm; rw [decide_eq_false_iff_not]
  have : (2 : Int) ^ 16 = 65536 := by decide
  rw [this]; omega
theorem iFltOk {m e : Int} : Fn Tryz.prog 193 [.ag [I m, I e]] [.un] [B (fltOkP m e)] := by
 by_cases h0 : m = 0
 ·subst h0
  refine Fn_of Tryz.func193 rfl rfl (by simp -implicitDefEqProofs -dsimp) rfl ?_; simp only [Tryz.f193]
  simp -implicitDefEqProofs -dsimp [fltOkP_0]
 generalize hd : m.tmod 2 = d
 by_cases h : -65535 ≤ m ∧ m ≤ 65535 ∧ d ≠ 0 ∧ -16 ≤ e
 ·obtain ⟨ha, hb, hc, hd2⟩ := h
  by_cases h30 : e ≤ 30
  ·rw [fltOkP_low h0 ⟨ha, hb⟩ (by omega) ⟨hd2, h30⟩]
   refine Fn_of Tryz.func193 rfl rfl (by simp -implicitDefEqProofs -dsimp) rfl ?_; simp only [Tryz.f193]
   simp -implicitDefEqProofs -dsimp
   repeat' (first | with_reducible intro _ | with_reducible apply And.intro | (refine chkOk ?_; kernel_rfl) | (refine wpcall_d (iwithin) ?_; simp -implicitDefEqProofs -dsimp [h0, hd, ha, hb, hc, hd2, h30]))
   all_goals omega
  ·by_cases h46 : e ≤ 46
   ·obtain ⟨k, rfl⟩ : ∃ k : Nat, e = 30 + k := ⟨(e - 30).toNat, by omega⟩
    rw [fltOkP_high h0 ⟨ha, hb⟩ (by omega) rfl (by omega)]
    have hs := shl_ok (k := k) ⟨ha, hb⟩ (by omega)
    generalize hP : m * 2 ^ k = p at hs ⊢
    have e1 : wrK .i64 (30 + (k : Int) - 30) = k := by rw [wrap64_id _ (by omega)]; omega
    have e2 : wrK .u64 (k : Int) = k := wrapu64_id _ (by omega)
    have e3 : min k 64 = k := by omega
    refine Fn_of Tryz.func193 rfl rfl (by simp -implicitDefEqProofs -dsimp) rfl ?_; simp only [Tryz.f193]
    simp -implicitDefEqProofs -dsimp
    repeat' (first | with_reducible intro _ | with_reducible apply And.intro | (refine chkOk ?_; kernel_rfl) | (refine wpcall_d (iwithin) ?_; simp -implicitDefEqProofs -dsimp [h0, hd, ha, hb, hc, hd2, h30, h46, e1, e2, e3, hP, hs]))
    all_goals omega
   ·rw [fltOkP_bad h0 (by omega)]
    refine Fn_of Tryz.func193 rfl rfl (by simp -implicitDefEqProofs -dsimp) rfl ?_; simp only [Tryz.f193]
    simp -implicitDefEqProofs -dsimp
    repeat' (first | with_reducible intro _ | with_reducible apply And.intro | (refine chkOk ?_; kernel_rfl) | (refine wpcall_d (iwithin) ?_; simp -implicitDefEqProofs -dsimp [h0, hd, ha, hb, hc, hd2, h30, h46]))
    all_goals omega
 ·rw [fltOkP_bad h0 (by omega)]
  refine Fn_of Tryz.func193 rfl rfl (by simp -implicitDefEqProofs -dsimp) rfl ?_; simp only [Tryz.f193]
  simp -implicitDefEqProofs -dsimp
  repeat' (first | with_reducible intro _ | with_reducible apply And.intro | (refine chkOk ?_; kernel_rfl) | (refine wpcall_d (iwithin) ?_; simp -implicitDefEqProofs -dsimp [h0, hd]))
  all_goals omega
theorem sFltOk {m e : Int} : Fn Tryz.prog 143 [.ag [I m, I e]] [.un] [B (fltOkP m e)] := by
 by_cases h0 : m = 0
 ·subst h0
  refine Fn_of Tryz.func143 rfl rfl (by simp -implicitDefEqProofs -dsimp) rfl ?_; simp only [Tryz.f143]
  simp -implicitDefEqProofs -dsimp [fltOkP_0]
 generalize hd : m.tmod 2 = d
 by_cases h : -65535 ≤ m ∧ m ≤ 65535 ∧ d ≠ 0 ∧ -16 ≤ e
 ·obtain ⟨ha, hb, hc, hd2⟩ := h
  by_cases h30 : e ≤ 30
  ·rw [fltOkP_low h0 ⟨ha, hb⟩ (by omega) ⟨hd2, h30⟩]
   refine Fn_of Tryz.func143 rfl rfl (by simp -implicitDefEqProofs -dsimp) rfl ?_; simp only [Tryz.f143]
   simp -implicitDefEqProofs -dsimp [h0]
   repeat' (first | with_reducible intro _ | with_reducible apply And.intro | (refine chkOk ?_; kernel_rfl) | (refine wpcall_d (sIn) ?_; simp -implicitDefEqProofs -dsimp [h0, hd, ha, hb, hc, hd2, h30]))
   all_goals omega
  ·by_cases h46 : e ≤ 45
   ·obtain ⟨k, rfl⟩ : ∃ k : Nat, e = 30 + k := ⟨(e - 30).toNat, by omega⟩
    rw [fltOkP_high h0 ⟨ha, hb⟩ (by omega) rfl (by omega)]
    have hs := shl_ok (k := k) ⟨ha, hb⟩ (by omega)
    generalize hP : m * 2 ^ k = p at hs ⊢
    have e1 : wrK .i64 (30 + (k : Int) - 30) = k := by rw [wrap64_id _ (by omega)]; omega
    have e3 : min k 64 = k := by omega
    refine Fn_of Tryz.func143 rfl rfl (by simp -implicitDefEqProofs -dsimp) rfl ?_; simp only [Tryz.f143]
    simp -implicitDefEqProofs -dsimp [h0]
    repeat' (first | with_reducible intro _ | with_reducible apply And.intro | (refine chkOk ?_; kernel_rfl) | (refine wpcall_d (sIn) ?_; simp -implicitDefEqProofs -dsimp [h0, hd, ha, hb, hc, hd2, h30, h46, e1, e3, hP, hs]))
    all_goals omega
   ·have hf : fltOkP m e = false := by
     by_cases h7 : e = 46
     ·subst h7
      rw [fltOkP_high (e := 46) (k := 16) h0 ⟨ha, hb⟩ (by omega) (by decide) (by omega), decide_eq_false_iff_not]
      have : (2 : Int) ^ 16 = 65536 := by decide
      rw [this]; omega
     ·exact fltOkP_bad h0 (by omega)
    rw [hf]
    refine Fn_of Tryz.func143 rfl rfl (by simp -implicitDefEqProofs -dsimp) rfl ?_; simp only [Tryz.f143]
    simp -implicitDefEqProofs -dsimp [h0]
    repeat' (first | with_reducible intro _ | with_reducible apply And.intro | (refine chkOk ?_; kernel_rfl) | (refine wpcall_d (sIn) ?_; simp -implicitDefEqProofs -dsimp [h0, hd, ha, hb, hc, hd2, h30, h46]))
    all_goals omega
 ·rw [fltOkP_bad h0 (by omega)]
  refine Fn_of Tryz.func143 rfl rfl (by simp -implicitDefEqProofs -dsimp) rfl ?_; simp only [Tryz.f143]
  simp -implicitDefEqProofs -dsimp [h0]
  repeat' (first | with_reducible intro _ | with_reducible apply And.intro | (refine chkOk ?_; kernel_rfl) | (refine wpcall_d (sIn) ?_; simp -implicitDefEqProofs -dsimp [h0, hd]))
  all_goals omega
def fltNewQ (m e : Int) : Option (Int × Int) := if -100 ≤ e ∧ e ≤ 100 then fltNewP m e else none
def optF : Option (Int × Int) → (Int × Int) × Bool
 | some p => (p, true)
 | none => ((0, 0), false)
theorem iFltNew {m e : Int} (hm : m.natAbs ≤ 65536) : Fn Tryz.prog 168 [I m, I e] [.un, .un] [.ag [I (optF (fltNewQ m e)).1.1, I (optF (fltNewQ m e)).1.2], B (optF (fltNewQ m e)).2] := by
 have hm1 : -1000000000000000 ≤ m := by omega
 have hm2 : m ≤ 1000000000000000 := by omega
 by_cases he : -100 ≤ e ∧ e ≤ 100
 ·have e1 : fltNewQ m e = fltNewP m e := if_pos he
  rw [e1]
  by_cases h0 : m = 0
  ·subst h0
   have e2 : fltNewP 0 e = some (0, 0) := if_pos rfl
   rw [e2]
   refine Fn_of Tryz.func168 rfl rfl (by simp -implicitDefEqProofs -dsimp) rfl ?_; simp only [Tryz.f168]
   simp -implicitDefEqProofs -dsimp
   repeat' (first | with_reducible intro _ | with_reducible apply And.intro | (refine chkOk ?_; kernel_rfl) | (refine wpcall_d (iwithin) ?_; simp -implicitDefEqProofs -dsimp [he.1, he.2, optF]))
  ·have e2 : fltNewP m e = if fltOkP (oddP 20 m e).1 (oddP 20 m e).2 = true then some (oddP 20 m e) else none := if_neg h0
   rw [e2]
   generalize hr : optF _ = r
   refine Fn_of Tryz.func168 rfl rfl (by simp -implicitDefEqProofs -dsimp) rfl ?_; simp only [Tryz.f168]
   simp -implicitDefEqProofs -dsimp
   repeat' (first | with_reducible intro _ | with_reducible apply And.intro | (refine chkOk ?_; kernel_rfl) | (refine wpcall_d (iwithin) ?_; simp -implicitDefEqProofs -dsimp [he.1, he.2, h0, hm1, hm2]))
   refine WL_loop (fun p : Int × Int => [(0, I p.1), (1, I p.2), (4, .blk [I 0, I 0]), (5, B false)]) (fun p => p.1.natAbs) (fun p => p.1 ≠ 0 ∧ p.1.natAbs ≤ 65536 ∧ ∃ f : Nat, f ≤ 20 ∧ p.1.natAbs < 2 ^ f ∧ p.2 + f = e + 20 ∧ oddP f p.1 p.2 = oddP 20 m e) (m, e) ⟨h0, hm, 20, Nat.le_refl _, by omega, rfl, rfl⟩ ?_ ?_
   ·simp -implicitDefEqProofs -dsimp
   ·rintro ⟨m', e'⟩ ⟨h1, h2, f, hf, h3, h4, h5⟩
    simp only at h1 h2 h3 h4 h5
    by_cases ht : m'.tmod 2 = 0
    ·have hq := tdiv2_abs m'
     have hq2 := tdiv2_eq ht
     have e3 : wrK .i64 (m'.tdiv 2) = m'.tdiv 2 := wrap64_id _ (by omega)
     have e4 : wrK .i64 (e' + 1) = e' + 1 := wrap64_id _ (by omega)
     obtain ⟨f, rfl⟩ : ∃ g, f = g + 1 := ⟨f - 1, by
      have : f ≠ 0 := fun e0 => by subst e0; simp at h3; omega
      omega⟩
     rw [oddP_even ht] at h5
     rw [Nat.pow_succ] at h3
     generalize hqe : m'.tdiv 2 = q at *
     simp -implicitDefEqProofs -dsimp [-head_L, -endOk, ht, e3, e4, hqe]
     exact ⟨q, e' + 1, ⟨by omega, by omega, f, by omega, by omega, by omega, h5⟩, by omega, by simp⟩
    ·rw [oddP_odd ht] at h5
     rw [← h5] at hr
     simp -implicitDefEqProofs -dsimp [-head_L, -endOk, ht]
     repeat' (first | with_reducible intro _ | with_reducible apply And.intro | (refine chkOk ?_; kernel_rfl) | (refine wpcall_d (iFltOk) ?_; simp -implicitDefEqProofs -dsimp))
     all_goals subst hr
     all_goals simp_all [optF]
     all_goals rw [← h5]
 ·have e1 : fltNewQ m e = none := if_neg he
  rw [e1]
  refine Fn_of Tryz.func168 rfl rfl (by simp -implicitDefEqProofs -dsimp) rfl ?_; simp only [Tryz.f168]
  simp -implicitDefEqProofs -dsimp
  repeat' (first | with_reducible intro _ | with_reducible apply And.intro | (refine chkOk ?_; kernel_rfl) | (refine wpcall_d (iwithin) ?_; simp -implicitDefEqProofs -dsimp [optF]))
  all_goals omega
theorem sFltNew {m e : Int} (hm : m.natAbs ≤ 65536) : Fn Tryz.prog 106 [I m, I e] [.un, .un] [.ag [I (optF (fltNewQ m e)).1.1, I (optF (fltNewQ m e)).1.2], B (optF (fltNewQ m e)).2] := by
 have hm1 : -1000000000000000 ≤ m := by omega
 have hm2 : m ≤ 1000000000000000 := by omega
 by_cases he : -100 ≤ e ∧ e ≤ 100
 ·have e1 : fltNewQ m e = fltNewP m e := if_pos he
  rw [e1]
  by_cases h0 : m = 0
  ·subst h0
   have e2 : fltNewP 0 e = some (0, 0) := if_pos rfl
   rw [e2]
   refine Fn_of Tryz.func106 rfl rfl (by simp -implicitDefEqProofs -dsimp) rfl ?_; simp only [Tryz.f106]
   simp -implicitDefEqProofs -dsimp
   repeat' (first | with_reducible intro _ | with_reducible apply And.intro | (refine chkOk ?_; kernel_rfl) | (refine wpcall_d (sIn) ?_; simp -implicitDefEqProofs -dsimp [he.1, he.2, optF]))
  ·have e2 : fltNewP m e = if fltOkP (oddP 20 m e).1 (oddP 20 m e).2 = true then some (oddP 20 m e) else none := if_neg h0
   rw [e2]
   generalize hr : optF _ = r
   refine Fn_of Tryz.func106 rfl rfl (by simp -implicitDefEqProofs -dsimp) rfl ?_; simp only [Tryz.f106]
   simp -implicitDefEqProofs -dsimp
   repeat' (first | with_reducible intro _ | with_reducible apply And.intro | (refine chkOk ?_; kernel_rfl) | (refine wpcall_d (sIn) ?_; simp -implicitDefEqProofs -dsimp [he.1, he.2, h0, hm1, hm2]))
   refine WL_loop (fun p : Int × Int => [(0, I p.1), (1, I p.2), (4, .blk [I 0, I 0]), (5, B false)]) (fun p => p.1.natAbs) (fun p => p.1 ≠ 0 ∧ p.1.natAbs ≤ 65536 ∧ ∃ f : Nat, f ≤ 20 ∧ p.1.natAbs < 2 ^ f ∧ p.2 + f = e + 20 ∧ oddP f p.1 p.2 = oddP 20 m e) (m, e) ⟨h0, hm, 20, Nat.le_refl _, by omega, rfl, rfl⟩ ?_ ?_
   ·simp -implicitDefEqProofs -dsimp
   ·rintro ⟨m', e'⟩ ⟨h1, h2, f, hf, h3, h4, h5⟩
    simp only at h1 h2 h3 h4 h5
    by_cases ht : m'.tmod 2 = 0
    ·have hq := tdiv2_abs m'
     have hq2 := tdiv2_eq ht
     have e3 : wrK .i64 (m'.tdiv 2) = m'.tdiv 2 := wrap64_id _ (by omega)
     have e4 : wrK .i64 (e' + 1) = e' + 1 := wrap64_id _ (by omega)
     obtain ⟨f, rfl⟩ : ∃ g, f = g + 1 := ⟨f - 1, by
      have : f ≠ 0 := fun e0 => by subst e0; simp at h3; omega
      omega⟩
     rw [oddP_even ht] at h5
     rw [Nat.pow_succ] at h3
     generalize hqe : m'.tdiv 2 = q at *
     simp -implicitDefEqProofs -dsimp [-head_L, -endOk, ht, e3, e4, hqe]
     exact ⟨q, e' + 1, ⟨by omega, by omega, f, by omega, by omega, by omega, h5⟩, by omega, by simp⟩
    ·rw [oddP_odd ht] at h5
     rw [← h5] at hr
     simp -implicitDefEqProofs -dsimp [-head_L, -endOk, ht]
     repeat' (first | with_reducible intro _ | with_reducible apply And.intro | (refine chkOk ?_; kernel_rfl) | (refine wpcall_d (sFltOk) ?_; simp -implicitDefEqProofs -dsimp))
     all_goals subst hr
     all_goals simp_all [optF]
     all_goals rw [← h5]
 ·have e1 : fltNewQ m e = none := if_neg he
  rw [e1]
  refine Fn_of Tryz.func106 rfl rfl (by simp -implicitDefEqProofs -dsimp) rfl ?_; simp only [Tryz.f106]
  simp -implicitDefEqProofs -dsimp
  repeat' (first | with_reducible intro _ | with_reducible apply And.intro | (refine chkOk ?_; kernel_rfl) | (refine wpcall_d (sIn) ?_; simp -implicitDefEqProofs -dsimp [optF]))
  all_goals omega
def fltBitsP (m e : Int) : Int := if fltOkP m e = true then (if m < 0 then 16777216 + 65536 * (e + 16) - m else 65536 * (e + 16) + m) else -1
theorem fltOkP_range {m e : Int} (h : fltOkP m e = true) : -65535 ≤ m ∧ m ≤ 65535 ∧ -16 ≤ e ∧ e ≤ 45 := by
 unfold fltOkP at h
 split at h
 ·simp at h; omega
 ·simp only [Bool.and_eq_true, decide_eq_true_eq] at h; omega
theorem iFltBits {m e : Int} : Fn Tryz.prog 167 [.ag [I m, I e]] [.un] [I (fltBitsP m e)] := by
 by_cases h : fltOkP m e = true
 ·obtain ⟨h1, h2, h3, h4⟩ := fltOkP_range h
  have e1 : fltBitsP m e = if m < 0 then 16777216 + 65536 * (e + 16) - m else 65536 * (e + 16) + m := if_pos h
  rw [e1]
  by_cases hm : m < 0
  ·rw [if_pos hm]
   have a1 : max m (-m) = -m := by omega
   have a2 : wrK .i64 (-m) = -m := wrap64_id _ (by omega)
   have a3 : wrK .i64 (e - -16) = e + 16 := by rw [wrap64_id _ (by omega)]; omega
   have a4 : wrK .i64 (65536 * (e + 16)) = 65536 * (e + 16) := wrap64_id _ (by omega)
   refine Fn_of Tryz.func167 rfl rfl (by simp -implicitDefEqProofs -dsimp) rfl ?_; simp only [Tryz.f167]
   simp -implicitDefEqProofs -dsimp
   repeat' (first | with_reducible intro _ | with_reducible apply And.intro | (refine chkOk ?_; kernel_rfl) | (refine wpcall_d (iFltOk) ?_; simp -implicitDefEqProofs -dsimp [h, a1, a2, a3, a4, hm]))
   all_goals simp (disch := omega) only [wrap64_id, wrapu64_id, fdiv_nn]
   all_goals omega
  ·rw [if_neg hm]
   refine Fn_of Tryz.func167 rfl rfl (by simp -implicitDefEqProofs -dsimp) rfl ?_; simp only [Tryz.f167]
   simp -implicitDefEqProofs -dsimp
   repeat' (first | with_reducible intro _ | with_reducible apply And.intro | (refine chkOk ?_; kernel_rfl) | (refine wpcall_d (iFltOk) ?_; simp -implicitDefEqProofs -dsimp [h, hm]))
   all_goals simp (disch := omega) only [wrap64_id, wrapu64_id, fdiv_nn]
   all_goals omega
 ·have e1 : fltBitsP m e = -1 := if_neg h
  rw [e1]
  refine Fn_of Tryz.func167 rfl rfl (by simp -implicitDefEqProofs -dsimp) rfl ?_; simp only [Tryz.f167]
  simp -implicitDefEqProofs -dsimp
  repeat' (first | with_reducible intro _ | with_reducible apply And.intro | (refine chkOk ?_; kernel_rfl) | (refine wpcall_d (iFltOk) ?_; simp -implicitDefEqProofs -dsimp [h]))
theorem sFltBits {m e : Int} : Fn Tryz.prog 105 [.ag [I m, I e]] [.un] [I (fltBitsP m e)] := by
 by_cases h : fltOkP m e = true
 ·obtain ⟨h1, h2, h3, h4⟩ := fltOkP_range h
  have e1 : fltBitsP m e = if m < 0 then 16777216 + 65536 * (e + 16) - m else 65536 * (e + 16) + m := if_pos h
  rw [e1]
  by_cases hm : m < 0
  ·rw [if_pos hm]
   refine Fn_of Tryz.func105 rfl rfl (by simp -implicitDefEqProofs -dsimp) rfl ?_; simp only [Tryz.f105]
   simp -implicitDefEqProofs -dsimp
   repeat' (first | with_reducible intro _ | with_reducible apply And.intro | (refine chkOk ?_; kernel_rfl) | (refine wpcall_d (sFltOk) ?_; simp -implicitDefEqProofs -dsimp [h, hm]))
   all_goals simp (disch := omega) only [wrap64_id, wrapu64_id, fdiv_nn]
   all_goals omega
  ·rw [if_neg hm]
   refine Fn_of Tryz.func105 rfl rfl (by simp -implicitDefEqProofs -dsimp) rfl ?_; simp only [Tryz.f105]
   simp -implicitDefEqProofs -dsimp
   repeat' (first | with_reducible intro _ | with_reducible apply And.intro | (refine chkOk ?_; kernel_rfl) | (refine wpcall_d (sFltOk) ?_; simp -implicitDefEqProofs -dsimp [h, hm]))
   all_goals simp (disch := omega) only [wrap64_id, wrapu64_id, fdiv_nn]
   all_goals omega
 ·have e1 : fltBitsP m e = -1 := if_neg h
  rw [e1]
  refine Fn_of Tryz.func105 rfl rfl (by simp -implicitDefEqProofs -dsimp) rfl ?_; simp only [Tryz.f105]
  simp -implicitDefEqProofs -dsimp
  repeat' (first | with_reducible intro _ | with_reducible apply And.intro | (refine chkOk ?_; kernel_rfl) | (refine wpcall_d (sFltOk) ?_; simp -implicitDefEqProofs -dsimp [h]))
def bitsFltP (n : Int) : Option (Int × Int) := if 0 ≤ n ∧ n ≤ 33554431 then fltNewQ (if 16777216 ≤ n then -(n % 65536) else n % 65536) (n / 65536 % 256 - 16) else none
theorem iBitsFlt {n : Int} : Fn Tryz.prog 128 [I n] [.un] [.ag [I (optF (bitsFltP n)).1.1, I (optF (bitsFltP n)).1.2], B (optF (bitsFltP n)).2] := by
 by_cases h : 0 ≤ n ∧ n ≤ 33554431
 ·have e1 : bitsFltP n = fltNewQ (if 16777216 ≤ n then -(n % 65536) else n % 65536) (n / 65536 % 256 - 16) := if_pos h
  rw [e1]
  have a1 : n.tmod 65536 = n % 65536 := Int.tmod_eq_emod_of_nonneg h.1
  have a2 : n.tdiv 65536 = n / 65536 := Int.tdiv_eq_ediv_of_nonneg h.1
  have a3 : (n / 65536).tmod 256 = n / 65536 % 256 := Int.tmod_eq_emod_of_nonneg (by omega)
  have a4 : wrK .i64 (n / 65536) = n / 65536 := wrap64_id _ (by omega)
  have a5 : wrK .i64 (n / 65536 % 256 + -16) = n / 65536 % 256 - 16 := wrap64_id _ (by omega)
  have a6 : wrK .i64 (-(n % 65536)) = -(n % 65536) := wrap64_id _ (by omega)
  have b1 : (n % 65536).natAbs ≤ 65536 := by omega
  have b2 : (-(n % 65536)).natAbs ≤ 65536 := by omega
  generalize n % 65536 = q at *
  generalize n / 65536 % 256 - 16 = r at *
  generalize n / 65536 = t at *
  by_cases hs : 16777216 ≤ n
  all_goals
   simp only [hs, if_true, if_false]
   refine Fn_of Tryz.func128 rfl rfl (by simp -implicitDefEqProofs -dsimp) rfl ?_; simp only [Tryz.f128]
   simp -implicitDefEqProofs -dsimp
   repeat' (first | with_reducible intro _ | with_reducible apply And.intro | (refine chkOk ?_; kernel_rfl) | (refine wpcall_d (iwithin) ?_; simp -implicitDefEqProofs -dsimp [h.1, h.2, a1, a2, a3, a4, a5, a6, hs]) | (refine wpcall_d (iFltNew b1) ?_; simp -implicitDefEqProofs -dsimp [h.1, h.2, a1, a2, a3, a4, a5, a6, hs]) | (refine wpcall_d (iFltNew b2) ?_; simp -implicitDefEqProofs -dsimp [h.1, h.2, a1, a2, a3, a4, a5, a6, hs]))
 ·have e1 : bitsFltP n = none := if_neg h
  rw [e1]
  refine Fn_of Tryz.func128 rfl rfl (by simp -implicitDefEqProofs -dsimp) rfl ?_; simp only [Tryz.f128]
  simp -implicitDefEqProofs -dsimp
  repeat' (first | with_reducible intro _ | with_reducible apply And.intro | (refine chkOk ?_; kernel_rfl) | (refine wpcall_d (iwithin) ?_; simp -implicitDefEqProofs -dsimp [optF]))
  all_goals omega
theorem sBitsFlt {n : Int} : Fn Tryz.prog 72 [I n] [.un] [.ag [I (optF (bitsFltP n)).1.1, I (optF (bitsFltP n)).1.2], B (optF (bitsFltP n)).2] := by
 by_cases h : 0 ≤ n ∧ n ≤ 33554431
 ·have e1 : bitsFltP n = fltNewQ (if 16777216 ≤ n then -(n % 65536) else n % 65536) (n / 65536 % 256 - 16) := if_pos h
  rw [e1]
  have a1 : n.tmod 65536 = n % 65536 := Int.tmod_eq_emod_of_nonneg h.1
  have a2 : n.tdiv 65536 = n / 65536 := Int.tdiv_eq_ediv_of_nonneg h.1
  have a3 : (n / 65536).tmod 256 = n / 65536 % 256 := Int.tmod_eq_emod_of_nonneg (by omega)
  have a4 : wrK .i64 (n / 65536) = n / 65536 := wrap64_id _ (by omega)
  have a5 : wrK .i64 (n / 65536 % 256 - 16) = n / 65536 % 256 - 16 := wrap64_id _ (by omega)
  have a6 : wrK .i64 (-(n % 65536)) = -(n % 65536) := wrap64_id _ (by omega)
  have b1 : (n % 65536).natAbs ≤ 65536 := by omega
  have b2 : (-(n % 65536)).natAbs ≤ 65536 := by omega
  generalize n % 65536 = q at *
  generalize n / 65536 = t at *
  by_cases hs : 16777216 ≤ n
  all_goals
   simp only [hs, if_true, if_false]
   refine Fn_of Tryz.func72 rfl rfl (by simp -implicitDefEqProofs -dsimp) rfl ?_; simp only [Tryz.f72]
   simp -implicitDefEqProofs -dsimp
   repeat' (first | with_reducible intro _ | with_reducible apply And.intro | (refine chkOk ?_; kernel_rfl) | (refine wpcall_d (sIn) ?_; simp -implicitDefEqProofs -dsimp [h.1, h.2, a1, a2, a3, a4, a5, a6, hs]) | (refine wpcall_d (sFltNew b1) ?_; simp -implicitDefEqProofs -dsimp [h.1, h.2, a1, a2, a3, a4, a5, a6, hs]) | (refine wpcall_d (sFltNew b2) ?_; simp -implicitDefEqProofs -dsimp [h.1, h.2, a1, a2, a3, a4, a5, a6, hs]))
 ·have e1 : bitsFltP n = none := if_neg h
  rw [e1]
  refine Fn_of Tryz.func72 rfl rfl (by simp -implicitDefEqProofs -dsimp) rfl ?_; simp only [Tryz.f72]
  simp -implicitDefEqProofs -dsimp
  repeat' (first | with_reducible intro _ | with_reducible apply And.intro | (refine chkOk ?_; kernel_rfl) | (refine wpcall_d (sIn) ?_; simp -implicitDefEqProofs -dsimp [optF]))
  all_goals omega
end Go.Proofs.YtlfblkekbcfjpaaGreatDoor
