/- Part of a proof: contracts and plain laws. -/
import Derived.Test.YtlfblkekbcfjpaaGreatDoorZ20
set_option linter.unusedVariables false
set_option linter.unusedSimpArgs false
namespace Go.Proofs.YtlfblkekbcfjpaaGreatDoor
open Go
set_option maxRecDepth 100000
set_option maxHeartbeats 2000000
theorem dec_ne (u : Nat) : Lib.hasPrefix (Lib.decDigits u) [45] = false := by
 have h : ∀ u, ∃ d l, Lib.decDigits u = d :: l ∧ d ≠ 45 := by
  intro u
  induction u using Nat.strongRecOn with
  | _ u ih =>
   rw [Lib.decDigits]
   split
   ·rename_i h
    refine ⟨_, [], rfl, ?_⟩
    have h2 : u = 0 ∨ u = 1 ∨ u = 2 ∨ u = 3 ∨ u = 4 ∨ u = 5 ∨ u = 6 ∨ u = 7 ∨ u = 8 ∨ u = 9 := by omega
    rcases h2 with rfl | rfl | rfl | rfl | rfl | rfl | rfl | rfl | rfl | rfl <;> decide
   ·rename_i h
    obtain ⟨d, l, h1, h2⟩ := ih (u / 10) (by omega)
    exact ⟨d, l ++ _, by rw [h1]; rfl, h2⟩
 obtain ⟨d, l, h1, h2⟩ := h u
 have h3 : ((45 : UInt8) == d) = false := beq_eq_false_iff_ne.2 (Ne.symm h2)
 rw [h1]
 simp +zeta [Lib.hasPrefix, List.isPrefixOf, h3]
theorem trim_num (n : Int) : (Lib.trimPrefix (Lib.itoa n) [45]).length = digI n := by
 unfold Lib.itoa digI
 by_cases h : n < 0
 ·rw [if_pos h]
  simp +zeta [Lib.trimPrefix, Lib.hasPrefix, Lib.decDigits_length]
 ·rw [if_neg h]
  have h2 := dec_ne n.toNat
  have h3 : n.toNat = n.natAbs := by omega
  rw [h3] at h2 ⊢
  simp +zeta [Lib.trimPrefix, h2, Lib.decDigits_length]
abbrev In64 (n : Int) : Prop := -9223372036854775808 ≤ n ∧ n ≤ 9223372036854775807
theorem iNumText {n : Int} (h : In64 n) : Fn Tryz.prog 190 [I n] [.un] [T (Lib.itoa n)] := by
 have hI := lItoa h.1 h.2
 refine Fn_of Tryz.func190 rfl rfl (by simp -implicitDefEqProofs -dsimp) rfl ?_; simp only [Tryz.f190]
 simp -implicitDefEqProofs -dsimp; repeat' (first | with_reducible intro _ | with_reducible apply And.intro | (refine chkOk ?_; kernel_rfl) | (refine wpcall_d (hI) ?_; simp -implicitDefEqProofs -dsimp))
theorem iDigits {n : Int} (h : In64 n) : Fn Tryz.prog 158 [I n] [.un] [I (digI n)] := by
 have hI := iNumText h
 have hT := lTrimPrefix (s := ⟨(Lib.itoa n).toArray⟩) (p := ⟨#[45]⟩)
 have hl := trim_num n
 rw [show (ByteArray.mk (Lib.itoa n).toArray).data.toList = Lib.itoa n by simp, show (ByteArray.mk #[45]).data.toList = [45] from rfl] at hT
 generalize Lib.trimPrefix (Lib.itoa n) [45] = t at *
 refine Fn_of Tryz.func158 rfl rfl (by simp -implicitDefEqProofs -dsimp) rfl ?_; simp only [Tryz.f158]
 simp -implicitDefEqProofs -dsimp [hl]; repeat' (first | with_reducible intro _ | with_reducible apply And.intro | (refine chkOk ?_; kernel_rfl) | (refine wpcall_d (hI) ?_; simp -implicitDefEqProofs -dsimp [hl]) | (refine wpcall_d (hT) ?_; simp -implicitDefEqProofs -dsimp [hl]))
theorem tdiv10 (x : Int) (h : In64 x) : wrK .i64 (x.tdiv 10) = x.tdiv 10 := wrap64_id _ (by have := tdiv10_abs x; omega)
theorem sDigits {n : Int} (h : In64 n) : Fn Tryz.prog 137 [I n] [.un] [I (digI n)] := by
 generalize hR : digI n = R
 rw [digI_nd] at hR
 have hRl : R ≤ 19 := by rw [← hR, ← digI_nd]; exact digI_le ⟨h.1, h.2⟩
 refine Fn_of Tryz.func137 rfl rfl (by simp -implicitDefEqProofs -dsimp) rfl ?_; simp only [Tryz.f137]
 simp -implicitDefEqProofs -dsimp [tdiv10 n h]
 have h2 : In64 (n.tdiv 10) := by have := tdiv10_abs n; omega
 refine WL_loop (fun p : Int × Nat => [(2, I 0), (3, I p.2), (4, I p.1)]) (fun p => p.1.natAbs) (fun p => In64 p.1 ∧ p.2 + nd p.1 = R) (n.tdiv 10, 1) ⟨h2, hR⟩ ?_ ?_
 ·simp -implicitDefEqProofs -dsimp
 ·clear hR
  rintro ⟨x, k⟩ ⟨hx, hR⟩
  simp only at hx hR ⊢
  have hk : wrK .i64 ((k : Int) + 1) = k + 1 := wrap64_id _ (by omega)
  by_cases h0 : x = 0
  ·subst h0
   have : nd 0 = 0 := rfl
   simp -implicitDefEqProofs -dsimp [-head_L]; omega
  ·have hs := nd_step h0
   have ha := tdiv10_abs x
   simp -implicitDefEqProofs -dsimp [-head_L, -endOk, h0, tdiv10 x hx, hk]
   refine ⟨x.tdiv 10, k + 1, ⟨by omega, by omega⟩, by omega, ?_⟩
   simp -implicitDefEqProofs -dsimp
theorem decOkP_eq {n x : Int} : decOkP n x = if x = 0 then decide (-1000000000000000 ≤ n) && decide (n ≤ 1000000000000000) else decide (-16 ≤ x) && decide (x ≤ -1) && decide (digI n ≤ 17) && decide (n.tmod 10 ≠ 0) := by
 unfold decOkP; split
 ·rw [Bool.eq_iff_iff]; simp +zeta
 ·rw [Bool.eq_iff_iff]; simp +zeta
theorem iDecOk {n x : Int} (h : In64 n) : Fn Tryz.prog 159 [.ag [I n, I x]] [.un] [B (decOkP n x)] := by
 have hD := iDigits h
 rw [decOkP_eq]
 generalize digI n = d at *
 by_cases hx : x = 0
 ·subst hx
  refine Fn_of Tryz.func159 rfl rfl (by simp -implicitDefEqProofs -dsimp) rfl ?_; simp only [Tryz.f159]
  simp -implicitDefEqProofs -dsimp; repeat' (first | with_reducible intro _ | with_reducible apply And.intro | (refine chkOk ?_; kernel_rfl) | (refine wpcall_d (iwithin) ?_; simp -implicitDefEqProofs -dsimp))
 ·rw [if_neg hx]
  refine Fn_of Tryz.func159 rfl rfl (by simp -implicitDefEqProofs -dsimp) rfl ?_; simp only [Tryz.f159]
  simp -implicitDefEqProofs -dsimp [hx]; repeat' (first | with_reducible intro _ | with_reducible apply And.intro | (refine chkOk ?_; kernel_rfl) | (refine wpcall_d (iwithin) ?_; simp -implicitDefEqProofs -dsimp [hx]) | (refine wpcall_d (hD) ?_; simp -implicitDefEqProofs -dsimp [hx]))
  rw [Bool.eq_iff_iff]; simp -implicitDefEqProofs -dsimp; omega
theorem sDecOk {n x : Int} (h : In64 n) : Fn Tryz.prog 108 [.ag [I n, I x]] [.un] [B (decOkP n x)] := by
 have hD := sDigits h
 rw [decOkP_eq]
 generalize digI n = d at *
 by_cases hx : x = 0
 ·subst hx
  refine Fn_of Tryz.func108 rfl rfl (by simp -implicitDefEqProofs -dsimp) rfl ?_; simp only [Tryz.f108]
  simp -implicitDefEqProofs -dsimp; repeat' (first | with_reducible intro _ | with_reducible apply And.intro | (refine chkOk ?_; kernel_rfl) | (refine wpcall_d (sIn) ?_; simp -implicitDefEqProofs -dsimp))
 ·rw [if_neg hx]
  refine Fn_of Tryz.func108 rfl rfl (by simp -implicitDefEqProofs -dsimp) rfl ?_; simp only [Tryz.f108]
  simp -implicitDefEqProofs -dsimp [hx]; repeat' (first | with_reducible intro _ | with_reducible apply And.intro | (refine chkOk ?_; kernel_rfl) | (refine wpcall_d (sIn) ?_; simp -implicitDefEqProofs -dsimp [hx]) | (refine wpcall_d (hD) ?_; simp -implicitDefEqProofs -dsimp [hx]))
  rw [Bool.eq_iff_iff]; simp -implicitDefEqProofs -dsimp; omega
def stripN : Nat → Int → Int × Nat
 | 0, n => (n, 0)
 | k + 1, n => if n.tmod 10 = 0 then stripN k (n.tdiv 10) else (n, k + 1)
def decNewP (n x : Int) : Option (Int × Int) :=
 if 17 < digI n ∨ ¬ (-40 ≤ x ∧ x ≤ 40) then none
 else if n = 0 then some (0, 0)
 else if 0 < x then (if -1000000000000000 ≤ n * 10 ^ x.toNat ∧ n * 10 ^ x.toNat ≤ 1000000000000000 then some (n * 10 ^ x.toNat, 0) else none)
 else (if decOkP (stripN (-x).toNat n).1 (-((stripN (-x).toNat n).2 : Int)) then some ((stripN (-x).toNat n).1, -((stripN (-x).toNat n).2 : Int)) else none)
def upR (P : Int) : Option (Int × Int) := if -1000000000000000 ≤ P ∧ P ≤ 1000000000000000 then some (P, 0) else none
def dnR (p : Int × Nat) : Option (Int × Int) := if decOkP p.1 (-(p.2 : Int)) then some (p.1, -(p.2 : Int)) else none
theorem pow_pos' (k : Nat) : (1 : Int) ≤ 10 ^ k := by
 have : (0 : Int) < 10 ^ k := Int.pow_pos (by omega)
 omega
theorem mul_big {n P : Int} {k : Nat} (h : n * 10 ^ k = P) (hb : 1000000000000000 < n ∨ n < -1000000000000000) : upR P = none := by
 have h1 := pow_pos' k
 unfold upR; rw [if_neg]
 rw [← h]
 rintro ⟨h2, h3⟩
 generalize (10 : Int) ^ k = q at *
 rcases hb with hb | hb
 ·have : n * 1 ≤ n * q := Int.mul_le_mul_of_nonneg_left h1 (by omega)
  omega
 ·have : -n * 1 ≤ -n * q := Int.mul_le_mul_of_nonneg_left h1 (by omega)
  rw [Int.neg_mul, Int.neg_mul] at this
  omega
theorem sDecNew {n x : Int} (h : In64 n) : Fn Tryz.prog 95 [I n, I x] [.un, .un] [.ag [I (optF (decNewP n x)).1.1, I (optF (decNewP n x)).1.2], B (optF (decNewP n x)).2] := by
 have hD := sDigits h
 have h17 := digI_17 n
 generalize hR : decNewP n x = R
 unfold decNewP at hR
 generalize digI n = d at *
 by_cases hd : 17 < d
 ·rw [if_pos (.inl hd)] at hR; subst hR
  have hd2 : (17 : Int) < d := by omega
  refine Fn_of Tryz.func95 rfl rfl (by simp -implicitDefEqProofs -dsimp) rfl ?_; simp only [Tryz.f95]
  simp -implicitDefEqProofs -dsimp [hd2, optF]; repeat' (first | with_reducible intro _ | with_reducible apply And.intro | (refine chkOk ?_; kernel_rfl) | (refine wpcall_d (hD) ?_; simp -implicitDefEqProofs -dsimp [hd2, optF]) | (refine wpcall_d (sIn) ?_; simp -implicitDefEqProofs -dsimp [hd2, optF]))
 ·have hd2 : ¬ (17 : Int) < d := by omega
  by_cases hx : -40 ≤ x ∧ x ≤ 40
  ·rw [if_neg (by omega)] at hR
   have hS := @sIn x (-40) 40
   rw [show (decide (-40 ≤ x) && decide (x ≤ 40)) = true by simp +zeta; exact hx] at hS
   by_cases h0 : n = 0
   ·rw [if_pos h0] at hR; subst hR h0
    refine Fn_of Tryz.func95 rfl rfl (by simp -implicitDefEqProofs -dsimp) rfl ?_; simp only [Tryz.f95]
    simp -implicitDefEqProofs -dsimp [hd2, optF]; repeat' (first | with_reducible intro _ | with_reducible apply And.intro | (refine chkOk ?_; kernel_rfl) | (refine wpcall_d (hD) ?_; simp -implicitDefEqProofs -dsimp [hd2, optF]) | (refine wpcall_d (hS) ?_; simp -implicitDefEqProofs -dsimp [hd2, optF]))
   ·rw [if_neg h0] at hR
    by_cases hp : 0 < x
    ·rw [if_pos hp] at hR
     have hR : upR (n * 10 ^ x.toNat) = R := hR
     obtain ⟨k, rfl⟩ : ∃ k : Nat, x = k := ⟨x.toNat, by omega⟩
     rw [Int.toNat_natCast] at hR
     generalize hP : n * 10 ^ k = P at hR
     have hn17 : -100000000000000000 < n ∧ n < 100000000000000000 := h17.1 (by omega)
     refine Fn_of Tryz.func95 rfl rfl (by simp -implicitDefEqProofs -dsimp) rfl ?_; simp only [Tryz.f95]
     simp -implicitDefEqProofs -dsimp [hd2, h0]; repeat' (first | with_reducible intro _ | with_reducible apply And.intro | (refine chkOk ?_; kernel_rfl) | (refine wpcall_d (hD) ?_; simp -implicitDefEqProofs -dsimp [hd2, h0]) | (refine wpcall_d (hS) ?_; simp -implicitDefEqProofs -dsimp [hd2, h0]))
     refine WL_loop (fun _ : Unit => [(0, I n), (1, I k), (4, .blk [I 0, I 0]), (5, B false)]) (fun _ => 0) (fun _ => True) () trivial ?_ ?_
     ·simp -implicitDefEqProofs -dsimp
     ·rintro ⟨⟩ _
      have hk0 : ¬ (k : Int) < 0 := by omega
      by_cases h10 : n.tmod 10 = 0 <;> simp -implicitDefEqProofs -dsimp [-head_L, -endOk, h10, hk0]
      all_goals
       refine WL_loop (fun p : Int × Nat => [(0, I p.1), (1, I p.2), (4, .blk [I 0, I 0]), (5, B false)]) (fun p => p.2) (fun p => -100000000000000000 < p.1 ∧ p.1 < 100000000000000000 ∧ p.1 * 10 ^ p.2 = P ∧ p.2 ≤ 40) (n, k) ⟨hn17.1, hn17.2, hP, by simp only; omega⟩ ?_ ?_
       ·simp -implicitDefEqProofs -dsimp
       ·rintro ⟨m, j⟩ ⟨hm1, hm2, hmP, hj⟩
        simp only at hm1 hm2 hmP hj ⊢
        have hDm := sDigits (n := m) (by omega)
        have hdm := nDig_le 15 m.natAbs
        change digI m ≤ 16 ↔ _ at hdm
        cases j with
        | zero =>
         simp at hmP; subst hmP
         have hK := sDecOk (n := m) (x := 0) (by omega)
         have hok : decOkP m 0 = decide (-1000000000000000 ≤ m ∧ m ≤ 1000000000000000) := if_pos rfl
         rw [hok] at hK
         unfold upR at hR
         by_cases hb : -1000000000000000 ≤ m ∧ m ≤ 1000000000000000
         ·rw [if_pos hb] at hR; subst hR
          rw [decide_eq_true hb] at hK
          simp -implicitDefEqProofs -dsimp [-head_L]
          refine wpcall_d hK ?_; simp -implicitDefEqProofs -dsimp [-head_L, optF]
         ·rw [if_neg hb] at hR; subst hR
          rw [decide_eq_false hb] at hK
          simp -implicitDefEqProofs -dsimp [-head_L]
          refine wpcall_d hK ?_; simp -implicitDefEqProofs -dsimp [-head_L, optF]
        | succ j =>
         generalize digI m = dm at *
         have hj1 : (0 : Int) < (j : Int) + 1 := by omega
         by_cases hb : 16 < dm
         ·have hb2 : (16 : Int) < dm := by omega
          rw [mul_big hmP (by omega)] at hR; subst hR
          simp -implicitDefEqProofs -dsimp [-head_L, hj1]
          refine wpcall_d hDm ?_; simp -implicitDefEqProofs -dsimp [-head_L, hb2, optF]
         ·have hb2 : ¬ (16 : Int) < dm := by omega
          have w1 : wrK .i64 (m * 10) = m * 10 := wrap64_id _ (by omega)
          have w2 : wrK .i64 (j : Int) = j := wrap64_id _ (by omega)
          simp -implicitDefEqProofs -dsimp [-head_L, -endOk, hj1]
          refine wpcall_d hDm ?_; simp -implicitDefEqProofs -dsimp [-head_L, -endOk, hb2, w1, w2]
          refine ⟨m * 10, j, ⟨by omega, by omega, by rw [← hmP, Int.pow_succ, Int.mul_assoc, Int.mul_comm 10], by omega⟩, by omega, ?_⟩
          simp -implicitDefEqProofs -dsimp
    ·rw [if_neg hp] at hR
     obtain ⟨k, rfl⟩ : ∃ k : Nat, x = -(k : Int) := ⟨(-x).toNat, by omega⟩
     rw [show (-(-(k : Int))).toNat = k by omega] at hR
     have hR : dnR (stripN k n) = R := hR
     have hn17 : -100000000000000000 < n ∧ n < 100000000000000000 := h17.1 (by omega)
     refine Fn_of Tryz.func95 rfl rfl (by simp -implicitDefEqProofs -dsimp) rfl ?_; simp only [Tryz.f95]
     simp -implicitDefEqProofs -dsimp [hd2, h0]; repeat' (first | with_reducible intro _ | with_reducible apply And.intro | (refine chkOk ?_; kernel_rfl) | (refine wpcall_d (hD) ?_; simp -implicitDefEqProofs -dsimp [hd2, h0]) | (refine wpcall_d (hS) ?_; simp -implicitDefEqProofs -dsimp [hd2, h0]))
     refine WL_loop (fun p : Int × Nat => [(0, I p.1), (1, I (-(p.2 : Int))), (4, .blk [I 0, I 0]), (5, B false)]) (fun p => p.2) (fun p => -100000000000000000 < p.1 ∧ p.1 < 100000000000000000 ∧ dnR (stripN p.2 p.1) = R ∧ p.2 ≤ 40) (n, k) ⟨hn17.1, hn17.2, hR, by simp only; omega⟩ ?_ ?_
     ·simp -implicitDefEqProofs -dsimp
     ·clear hR
      rintro ⟨m, j⟩ ⟨hm1, hm2, hR, hj⟩
      simp only at hm1 hm2 hR hj ⊢
      have hj1 : ¬ (0 : Int) < -(j : Int) := by omega
      by_cases h10 : m.tmod 10 = 0
      ·cases j with
       | zero =>
        have hR : dnR (m, 0) = R := hR
        simp -implicitDefEqProofs -dsimp [-head_L, -endOk, h10]
        refine WL_loop (fun _ : Unit => [(0, I m), (1, I 0), (4, .blk [I 0, I 0]), (5, B false)]) (fun _ => 0) (fun _ => True) () trivial ?_ ?_
        ·simp -implicitDefEqProofs -dsimp
        ·rintro ⟨⟩ _
         have hK := sDecOk (n := m) (x := 0) (by omega)
         unfold dnR at hR
         simp only [Int.natCast_zero, Int.neg_zero] at hR
         cases hok : decOkP m 0 with
         | true =>
          rw [hok] at hK; rw [if_pos hok] at hR; subst hR
          simp -implicitDefEqProofs -dsimp [-head_L]
          refine wpcall_d hK ?_; simp -implicitDefEqProofs -dsimp [-head_L, optF]
         | false =>
          rw [hok] at hK; rw [if_neg (by rw [hok]; decide)] at hR; subst hR
          simp -implicitDefEqProofs -dsimp [-head_L]
          refine wpcall_d hK ?_; simp -implicitDefEqProofs -dsimp [-head_L, optF]
       | succ j =>
        have hR : dnR (stripN j (m.tdiv 10)) = R := by unfold stripN at hR; rw [if_pos h10] at hR; exact hR
        have ha := tdiv10_abs m
        have hj0 : -((j : Int) + 1) < 0 := by omega
        have w1 := tdiv10 m (by omega)
        have w2 : wrK .i64 (-((j : Int) + 1) + 1) = -(j : Int) := by rw [wrap64_id _ (by omega)]; omega
        simp -implicitDefEqProofs -dsimp [-head_L, -endOk, h10, hj0, w1, w2]
        refine ⟨m.tdiv 10, j, ⟨by omega, by omega, hR, by omega⟩, by omega, ?_⟩
        simp -implicitDefEqProofs -dsimp
      ·have hR : dnR (m, j) = R := by
        cases j with
        | zero => exact hR
        | succ j => unfold stripN at hR; rw [if_neg h10] at hR; exact hR
       simp -implicitDefEqProofs -dsimp [-head_L, -endOk, h10]
       refine WL_loop (fun _ : Unit => [(0, I m), (1, I (-(j : Int))), (4, .blk [I 0, I 0]), (5, B false)]) (fun _ => 0) (fun _ => True) () trivial ?_ ?_
       ·simp -implicitDefEqProofs -dsimp
       ·rintro ⟨⟩ _
        have hjp : ¬ (j : Int) < 0 := by omega
        have hK := sDecOk (n := m) (x := -(j : Int)) (by omega)
        unfold dnR at hR
        simp only at hR
        cases hok : decOkP m (-(j : Int)) with
        | true =>
         rw [hok] at hK; rw [if_pos hok] at hR; subst hR
         simp -implicitDefEqProofs -dsimp [-head_L, hjp]
         refine wpcall_d hK ?_; simp -implicitDefEqProofs -dsimp [-head_L, optF]
        | false =>
         rw [hok] at hK; rw [if_neg (by rw [hok]; decide)] at hR; subst hR
         simp -implicitDefEqProofs -dsimp [-head_L, hjp]
         refine wpcall_d hK ?_; simp -implicitDefEqProofs -dsimp [-head_L, optF]
  ·rw [if_pos (.inr hx)] at hR; subst hR
   have hS := @sIn x (-40) 40
   rw [show (decide (-40 ≤ x) && decide (x ≤ 40)) = false by rw [Bool.eq_false_iff]; simp +zeta; omega] at hS
   refine Fn_of Tryz.func95 rfl rfl (by simp -implicitDefEqProofs -dsimp) rfl ?_; simp only [Tryz.f95]
   simp -implicitDefEqProofs -dsimp [hd2, optF]; repeat' (first | with_reducible intro _ | with_reducible apply And.intro | (refine chkOk ?_; kernel_rfl) | (refine wpcall_d (hD) ?_; simp -implicitDefEqProofs -dsimp [hd2, optF]) | (refine wpcall_d (hS) ?_; simp -implicitDefEqProofs -dsimp [hd2, optF]))
theorem iDecNew {n x : Int} (h : In64 n) : Fn Tryz.prog 118 [I n, I x] [.un, .un] [.ag [I (optF (decNewP n x)).1.1, I (optF (decNewP n x)).1.2], B (optF (decNewP n x)).2] := by
 have hD := iDigits h
 have h17 := digI_17 n
 generalize hR : decNewP n x = R
 unfold decNewP at hR
 generalize digI n = d at *
 by_cases hd : 17 < d
 ·rw [if_pos (.inl hd)] at hR; subst hR
  have hd2 : (17 : Int) < d := by omega
  refine Fn_of Tryz.func118 rfl rfl (by simp -implicitDefEqProofs -dsimp) rfl ?_; simp only [Tryz.f118]
  simp -implicitDefEqProofs -dsimp [hd2, optF]; repeat' (first | with_reducible intro _ | with_reducible apply And.intro | (refine chkOk ?_; kernel_rfl) | (refine wpcall_d (hD) ?_; simp -implicitDefEqProofs -dsimp [hd2, optF]) | (refine wpcall_d (iwithin) ?_; simp -implicitDefEqProofs -dsimp [hd2, optF]))
 ·have hd2 : ¬ (17 : Int) < d := by omega
  by_cases hx : -40 ≤ x ∧ x ≤ 40
  ·rw [if_neg (by omega)] at hR
   have hS := @iwithin x (-40) 40
   rw [show (decide (-40 ≤ x) && decide (x ≤ 40)) = true by simp +zeta; exact hx] at hS
   by_cases h0 : n = 0
   ·rw [if_pos h0] at hR; subst hR h0
    refine Fn_of Tryz.func118 rfl rfl (by simp -implicitDefEqProofs -dsimp) rfl ?_; simp only [Tryz.f118]
    simp -implicitDefEqProofs -dsimp [hd2, optF]; repeat' (first | with_reducible intro _ | with_reducible apply And.intro | (refine chkOk ?_; kernel_rfl) | (refine wpcall_d (hD) ?_; simp -implicitDefEqProofs -dsimp [hd2, optF]) | (refine wpcall_d (hS) ?_; simp -implicitDefEqProofs -dsimp [hd2, optF]))
   ·rw [if_neg h0] at hR
    by_cases hp : 0 < x
    ·rw [if_pos hp] at hR
     have hR : upR (n * 10 ^ x.toNat) = R := hR
     obtain ⟨k, rfl⟩ : ∃ k : Nat, x = k := ⟨x.toNat, by omega⟩
     rw [Int.toNat_natCast] at hR
     generalize hP : n * 10 ^ k = P at hR
     have hn17 : -100000000000000000 < n ∧ n < 100000000000000000 := h17.1 (by omega)
     refine Fn_of Tryz.func118 rfl rfl (by simp -implicitDefEqProofs -dsimp) rfl ?_; simp only [Tryz.f118]
     simp -implicitDefEqProofs -dsimp [hd2, h0]; repeat' (first | with_reducible intro _ | with_reducible apply And.intro | (refine chkOk ?_; kernel_rfl) | (refine wpcall_d (hD) ?_; simp -implicitDefEqProofs -dsimp [hd2, h0]) | (refine wpcall_d (hS) ?_; simp -implicitDefEqProofs -dsimp [hd2, h0]))
     refine WL_loop (fun _ : Unit => [(0, I n), (1, I k), (4, .blk [I 0, I 0]), (5, B false)]) (fun _ => 0) (fun _ => True) () trivial ?_ ?_
     ·simp -implicitDefEqProofs -dsimp
     ·rintro ⟨⟩ _
      have hk0 : ¬ (k : Int) < 0 := by omega
      by_cases h10 : n.tmod 10 = 0 <;> simp -implicitDefEqProofs -dsimp [-head_L, -endOk, h10, hk0]
      all_goals
       refine WL_loop (fun p : Int × Nat => [(0, I p.1), (1, I p.2), (4, .blk [I 0, I 0]), (5, B false)]) (fun p => p.2) (fun p => -100000000000000000 < p.1 ∧ p.1 < 100000000000000000 ∧ p.1 * 10 ^ p.2 = P ∧ p.2 ≤ 40) (n, k) ⟨hn17.1, hn17.2, hP, by simp only; omega⟩ ?_ ?_
       ·simp -implicitDefEqProofs -dsimp
       ·rintro ⟨m, j⟩ ⟨hm1, hm2, hmP, hj⟩
        simp only at hm1 hm2 hmP hj ⊢
        cases j with
        | zero =>
         simp at hmP; subst hmP
         have hK := iDecOk (n := m) (x := 0) (by omega)
         have hok : decOkP m 0 = decide (-1000000000000000 ≤ m ∧ m ≤ 1000000000000000) := if_pos rfl
         rw [hok] at hK
         unfold upR at hR
         by_cases hb : -1000000000000000 ≤ m ∧ m ≤ 1000000000000000
         ·rw [if_pos hb] at hR; subst hR
          rw [decide_eq_true hb] at hK
          simp -implicitDefEqProofs -dsimp [-head_L]
          refine wpcall_d hK ?_; simp -implicitDefEqProofs -dsimp [-head_L, optF]
         ·rw [if_neg hb] at hR; subst hR
          rw [decide_eq_false hb] at hK
          simp -implicitDefEqProofs -dsimp [-head_L]
          refine wpcall_d hK ?_; simp -implicitDefEqProofs -dsimp [-head_L, optF]
        | succ j =>
         have hj1 : (0 : Int) < (j : Int) + 1 := by omega
         have hW := @iwithin m (-100000000000000) 100000000000000
         by_cases hb : -100000000000000 ≤ m ∧ m ≤ 100000000000000
         ·rw [show (decide (-100000000000000 ≤ m) && decide (m ≤ 100000000000000)) = true by simp +zeta; exact hb] at hW
          have w1 : wrK .i64 (m * 10) = m * 10 := wrap64_id _ (by omega)
          have w2 : wrK .i64 (j : Int) = j := wrap64_id _ (by omega)
          simp -implicitDefEqProofs -dsimp [-head_L, -endOk, hj1]
          refine wpcall_d hW ?_; simp -implicitDefEqProofs -dsimp [-head_L, -endOk, w1, w2]
          refine ⟨m * 10, j, ⟨by omega, by omega, by rw [← hmP, Int.pow_succ, Int.mul_assoc, Int.mul_comm 10], by omega⟩, by omega, ?_⟩
          simp -implicitDefEqProofs -dsimp
         ·rw [show (decide (-100000000000000 ≤ m) && decide (m ≤ 100000000000000)) = false by rw [Bool.eq_false_iff]; simp +zeta; omega] at hW
          have hmP2 : m * 10 * 10 ^ j = P := by rw [← hmP, Int.pow_succ, Int.mul_assoc, Int.mul_comm 10]
          rw [mul_big hmP2 (by omega)] at hR; subst hR
          simp -implicitDefEqProofs -dsimp [-head_L, hj1]
          refine wpcall_d hW ?_; simp -implicitDefEqProofs -dsimp [-head_L, optF]
    ·rw [if_neg hp] at hR
     obtain ⟨k, rfl⟩ : ∃ k : Nat, x = -(k : Int) := ⟨(-x).toNat, by omega⟩
     rw [show (-(-(k : Int))).toNat = k by omega] at hR
     have hR : dnR (stripN k n) = R := hR
     have hn17 : -100000000000000000 < n ∧ n < 100000000000000000 := h17.1 (by omega)
     refine Fn_of Tryz.func118 rfl rfl (by simp -implicitDefEqProofs -dsimp) rfl ?_; simp only [Tryz.f118]
     simp -implicitDefEqProofs -dsimp [hd2, h0]; repeat' (first | with_reducible intro _ | with_reducible apply And.intro | (refine chkOk ?_; kernel_rfl) | (refine wpcall_d (hD) ?_; simp -implicitDefEqProofs -dsimp [hd2, h0]) | (refine wpcall_d (hS) ?_; simp -implicitDefEqProofs -dsimp [hd2, h0]))
     refine WL_loop (fun p : Int × Nat => [(0, I p.1), (1, I (-(p.2 : Int))), (4, .blk [I 0, I 0]), (5, B false)]) (fun p => p.2) (fun p => -100000000000000000 < p.1 ∧ p.1 < 100000000000000000 ∧ dnR (stripN p.2 p.1) = R ∧ p.2 ≤ 40) (n, k) ⟨hn17.1, hn17.2, hR, by simp only; omega⟩ ?_ ?_
     ·simp -implicitDefEqProofs -dsimp
     ·clear hR
      rintro ⟨m, j⟩ ⟨hm1, hm2, hR, hj⟩
      simp only at hm1 hm2 hR hj ⊢
      have hj1 : ¬ (0 : Int) < -(j : Int) := by omega
      by_cases h10 : m.tmod 10 = 0
      ·cases j with
       | zero =>
        have hR : dnR (m, 0) = R := hR
        simp -implicitDefEqProofs -dsimp [-head_L, -endOk, h10]
        refine WL_loop (fun _ : Unit => [(0, I m), (1, I 0), (4, .blk [I 0, I 0]), (5, B false)]) (fun _ => 0) (fun _ => True) () trivial ?_ ?_
        ·simp -implicitDefEqProofs -dsimp
        ·rintro ⟨⟩ _
         have hK := iDecOk (n := m) (x := 0) (by omega)
         unfold dnR at hR
         simp only [Int.natCast_zero, Int.neg_zero] at hR
         cases hok : decOkP m 0 with
         | true =>
          rw [hok] at hK; rw [if_pos hok] at hR; subst hR
          simp -implicitDefEqProofs -dsimp [-head_L]
          refine wpcall_d hK ?_; simp -implicitDefEqProofs -dsimp [-head_L, optF]
         | false =>
          rw [hok] at hK; rw [if_neg (by rw [hok]; decide)] at hR; subst hR
          simp -implicitDefEqProofs -dsimp [-head_L]
          refine wpcall_d hK ?_; simp -implicitDefEqProofs -dsimp [-head_L, optF]
       | succ j =>
        have hR : dnR (stripN j (m.tdiv 10)) = R := by unfold stripN at hR; rw [if_pos h10] at hR; exact hR
        have ha := tdiv10_abs m
        have hj0 : -((j : Int) + 1) < 0 := by omega
        have w1 := tdiv10 m (by omega)
        have w2 : wrK .i64 (-((j : Int) + 1) + 1) = -(j : Int) := by rw [wrap64_id _ (by omega)]; omega
        simp -implicitDefEqProofs -dsimp [-head_L, -endOk, h10, hj0, w1, w2]
        refine ⟨m.tdiv 10, j, ⟨by omega, by omega, hR, by omega⟩, by omega, ?_⟩
        simp -implicitDefEqProofs -dsimp
      ·have hR : dnR (m, j) = R := by
        cases j with
        | zero => exact hR
        | succ j => unfold stripN at hR; rw [if_neg h10] at hR; exact hR
       simp -implicitDefEqProofs -dsimp [-head_L, -endOk, h10]
       refine WL_loop (fun _ : Unit => [(0, I m), (1, I (-(j : Int))), (4, .blk [I 0, I 0]), (5, B false)]) (fun _ => 0) (fun _ => True) () trivial ?_ ?_
       ·simp -implicitDefEqProofs -dsimp
       ·rintro ⟨⟩ _
        have hjp : ¬ (j : Int) < 0 := by omega
        have hK := iDecOk (n := m) (x := -(j : Int)) (by omega)
        unfold dnR at hR
        simp only at hR
        cases hok : decOkP m (-(j : Int)) with
        | true =>
         rw [hok] at hK; rw [if_pos hok] at hR; subst hR
         simp -implicitDefEqProofs -dsimp [-head_L, hjp]
         refine wpcall_d hK ?_; simp -implicitDefEqProofs -dsimp [-head_L, optF]
        | false =>
         rw [hok] at hK; rw [if_neg (by rw [hok]; decide)] at hR; subst hR
         simp -implicitDefEqProofs -dsimp [-head_L, hjp]
         refine wpcall_d hK ?_; simp -implicitDefEqProofs -dsimp [-head_L, optF]
  ·rw [if_pos (.inr hx)] at hR; subst hR
   have hS := @iwithin x (-40) 40
   rw [show (decide (-40 ≤ x) && decide (x ≤ 40)) = false by rw [Bool.eq_false_iff]; simp +zeta; omega] at hS
   refine Fn_of Tryz.func118 rfl rfl (by simp -implicitDefEqProofs -dsimp) rfl ?_; simp only [Tryz.f118]
   simp -implicitDefEqProofs -dsimp [hd2, optF]; repeat' (first | with_reducible intro _ | with_reducible apply And.intro | (refine chkOk ?_; kernel_rfl) | (refine wpcall_d (hD) ?_; simp -implicitDefEqProofs -dsimp [hd2, optF]) | (refine wpcall_d (hS) ?_; simp -implicitDefEqProofs -dsimp [hd2, optF]))
end Go.Proofs.YtlfblkekbcfjpaaGreatDoor
namespace Go.Proofs.YtlfblkekbcfjpaaGreatDoor
open Go Go.RowKit
set_option maxRecDepth 100000
set_option maxHeartbeats 4000000
theorem pow_le17 {j k : Nat} (hj : j ≤ k) (hk : k ≤ 17) : 10 ^ j ≤ 100000000000000000 := by
 have : 10 ^ j ≤ 10 ^ 17 := Nat.pow_le_pow_right (by decide) (Nat.le_trans hj hk)
 exact this
theorem iPow10 {k : Nat} (hk : k ≤ 17) : Fn Tryz.prog 170 [I 10, I k] [.un, .un] [I ((10 ^ k : Nat) : Int)] := by
 obtain ⟨r, hr⟩ : ∃ r, r = 10 ^ k := ⟨_, rfl⟩
 rw [← hr]
 refine Fn_of Tryz.func170 rfl rfl (by simp -implicitDefEqProofs -dsimp) rfl ?_; simp only [Tryz.f170]
 simp -implicitDefEqProofs -dsimp
 refine WL_loop (fun p : Nat × Nat => [(0, I 10), (5, I p.1), (6, I k), (7, I p.2)]) (fun p => k - p.2) (fun p => p.2 ≤ k ∧ p.1 = 10 ^ p.2) (1, 0) ⟨Nat.zero_le _, rfl⟩ ?_ ?_
 ·simp -implicitDefEqProofs -dsimp
 ·rintro ⟨n, j⟩ ⟨hj, hn⟩
  simp only at hj hn ⊢
  by_cases hjk : j < k
  ·have h1 : (j : Int) < k := by omega
   have h2 := pow_le17 (j := j + 1) hjk hk
   rw [Nat.pow_succ, ← hn] at h2
   have w1 : wrK .i64 ((n : Int) * 10) = ((n * 10 : Nat) : Int) := by rw [wrap64_id _ (by omega)]; omega
   have w2 : wrK .i64 ((j : Int) + 1) = ((j + 1 : Nat) : Int) := by rw [wrap64_id _ (by omega)]; omega
   obtain ⟨m, hm⟩ : ∃ m, m = n * 10 := ⟨_, rfl⟩
   rw [← hm] at w1
   simp -implicitDefEqProofs -dsimp [-head_L, -endOk, h1, w1, w2]
   exact ⟨m, j + 1, ⟨by omega, by rw [hm, hn, Nat.pow_succ]⟩, by omega, by simp⟩
  ·have h1 : ¬ (j : Int) < k := by omega
   obtain rfl : j = k := by omega
   obtain rfl : n = r := by rw [hn, hr]
   simp -implicitDefEqProofs -dsimp [-head_L, h1]
def sqP (P d : Nat) : Nat × Int := if d ≤ P / 18446744073709551616 then (9223372036854775808, 0) else (P / d, if d < 2 * (P % d) then 1 else if 2 * (P % d) = d then 0 else -1)
theorem iShifted {n k d : Nat} (hn : n < 18446744073709551616) (hk : k ≤ 63) (hd0 : 0 < d) (hd : d < 9223372036854775808) :
  Fn Tryz.prog 172 [U n, U k, U d] [.un, .un, .un] [U ((sqP (n * 2 ^ k) d).1 : Int), I (sqP (n * 2 ^ k) d).2] := by
 obtain ⟨E, hE⟩ : ∃ E : Nat, E = 2 ^ k := ⟨_, rfl⟩
 have hEl : E < 18446744073709551616 := by rw [hE]; exact Nat.lt_of_le_of_lt (Nat.pow_le_pow_right (by decide) hk) (by decide)
 have fE : wrK .u64 (2 ^ k) = (E : Int) := by rw [show (2 : Int) ^ k = (E : Int) by rw [hE]; simp +zeta]; exact u64_of hEl
 have fm : min k 64 = k := by omega
 have hM := lMul64 hn hEl
 rw [← hE]
 clear hE
 obtain ⟨P, hP⟩ : ∃ P, P = n * E := ⟨_, rfl⟩
 rw [← hP] at hM ⊢
 obtain ⟨hi, hhi⟩ : ∃ h, h = P / 18446744073709551616 := ⟨_, rfl⟩
 obtain ⟨lo, hlo⟩ : ∃ l, l = P % 18446744073709551616 := ⟨_, rfl⟩
 rw [← hhi, ← hlo] at hM
 have hPe : hi * 18446744073709551616 + lo = P := by rw [hhi, hlo, Nat.mul_comm]; exact Nat.div_add_mod _ _
 have hlol : lo < 18446744073709551616 := by rw [hlo]; exact Nat.mod_lt _ (by decide)
 unfold sqP
 rw [← hhi]
 clear hhi hlo hP
 by_cases hge : d ≤ hi
 ·rw [if_pos hge]
  have hge' : (d : Int) ≤ hi := by omega
  refine Fn_of Tryz.func172 rfl rfl (by simp -implicitDefEqProofs -dsimp) rfl ?_; simp only [Tryz.f172]
  simp -implicitDefEqProofs -dsimp [fm, fE, hge']; repeat' (first | with_reducible intro _ | with_reducible apply And.intro | (refine chkOk ?_; kernel_rfl) | (refine wpcall_d (hM) ?_; simp -implicitDefEqProofs -dsimp [fm, fE, hge']))
 ·rw [if_neg hge]
  have hge' : ¬ (d : Int) ≤ hi := by omega
  have hD := lDiv64 (hi := hi) (lo := lo) (y := d) (by omega) hlol (by omega)
  rw [hPe] at hD
  have hrl : P % d < d := Nat.mod_lt _ hd0
  obtain ⟨q, hq⟩ : ∃ q, q = P / d := ⟨_, rfl⟩
  obtain ⟨r, hr⟩ : ∃ r, r = P % d := ⟨_, rfl⟩
  rw [← hr] at hrl
  rw [← hq, ← hr] at hD ⊢
  obtain ⟨g, hg⟩ : ∃ g, d = g + r := ⟨d - r, by omega⟩
  have f1 : wrK .u64 ((d : Int) - r) = (g : Int) := by rw [show (d : Int) - r = (g : Int) by omega]; exact u64_of (by omega)
  clear hq hr hPe
  by_cases c1 : g < r
  ·have c1' : (g : Int) < r := by omega
   rw [if_pos (by omega)]
   refine Fn_of Tryz.func172 rfl rfl (by simp -implicitDefEqProofs -dsimp) rfl ?_; simp only [Tryz.f172]
   simp -implicitDefEqProofs -dsimp [fm, fE, hge', f1, c1']; repeat' (first | with_reducible intro _ | with_reducible apply And.intro | (refine chkOk ?_; kernel_rfl) | (refine wpcall_d (hM) ?_; simp -implicitDefEqProofs -dsimp [fm, fE, hge', f1, c1']) | (refine wpcall_d (hD) ?_; simp -implicitDefEqProofs -dsimp [fm, fE, hge', f1, c1']))
  ·have c1' : ¬ (g : Int) < r := by omega
   rw [if_neg (by omega)]
   by_cases c2 : r = g
   ·subst c2
    rw [if_pos (by omega)]
    refine Fn_of Tryz.func172 rfl rfl (by simp -implicitDefEqProofs -dsimp) rfl ?_; simp only [Tryz.f172]
    simp -implicitDefEqProofs -dsimp [fm, fE, hge', f1]; repeat' (first | with_reducible intro _ | with_reducible apply And.intro | (refine chkOk ?_; kernel_rfl) | (refine wpcall_d (hM) ?_; simp -implicitDefEqProofs -dsimp [fm, fE, hge', f1]) | (refine wpcall_d (hD) ?_; simp -implicitDefEqProofs -dsimp [fm, fE, hge', f1]))
   ·have c2' : ¬ (r : Int) = g := by omega
    rw [if_neg (by omega)]
    refine Fn_of Tryz.func172 rfl rfl (by simp -implicitDefEqProofs -dsimp) rfl ?_; simp only [Tryz.f172]
    simp -implicitDefEqProofs -dsimp [fm, fE, hge', f1, c1', c2']; repeat' (first | with_reducible intro _ | with_reducible apply And.intro | (refine chkOk ?_; kernel_rfl) | (refine wpcall_d (hM) ?_; simp -implicitDefEqProofs -dsimp [fm, fE, hge', f1, c1', c2']) | (refine wpcall_d (hD) ?_; simp -implicitDefEqProofs -dsimp [fm, fE, hge', f1, c1', c2']))
end Go.Proofs.YtlfblkekbcfjpaaGreatDoor
