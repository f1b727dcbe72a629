/- Part of a proof: contracts and plain laws. -/
import Derived.Test.YtlfblkekbcfjpaaGreatDoorZ23
import Derived.Test.YtlfblkekbcfjpaaGreatDoorZ27
set_option linter.unusedVariables false
set_option linter.unusedSimpArgs false
namespace Go.Proofs.YtlfblkekbcfjpaaGreatDoor
open Go
set_option maxRecDepth 100000
set_option maxHeartbeats 2000000
def hexI (x : Nat) : Int := match hexV x with | some d => d | none => -1
theorem s3Hex {x : Nat} (hx : x < 256) (hA : ¬ (65 ≤ x ∧ x ≤ 70)) : Fn Tryz.prog 214 [A8 x] [.un] [I (hexI x)] := by
 have w1 : wrK .i64 (x : Int) = x := wrap64_id _ (by omega)
 have w2 : wrK .i64 ((x : Int) - 48) = x - 48 := wrap64_id _ (by omega)
 have w3 : wrK .i64 ((x : Int) - 97) = x - 97 := wrap64_id _ (by omega)
 have w4 : wrK .i64 ((x : Int) - 97 + 10) = x - 87 := by rw [wrap64_id _ (by omega)]; omega
 generalize hr : hexI x = r
 unfold hexI hexV at hr
 by_cases h1 : 48 ≤ x ∧ x ≤ 57
 ·rw [if_pos h1] at hr; simp only at hr
  obtain ⟨h1, h2⟩ := h1
  refine Fn_of Tryz.func214 rfl rfl (by simp -implicitDefEqProofs -dsimp) rfl ?_; simp only [Tryz.f214]
  simp -implicitDefEqProofs -dsimp [w1, w2, h1, h2]; repeat' (first | with_reducible intro _ | with_reducible apply And.intro | (refine chkOk ?_; kernel_rfl) | (refine wpcall_d (sIn) ?_; simp -implicitDefEqProofs -dsimp [w1, w2, h1, h2]))
  all_goals omega
 ·rw [if_neg h1] at hr
  have hS := @sIn x 48 57
  rw [show (decide ((48 : Int) ≤ x) && decide ((x : Int) ≤ 57)) = false by rw [Bool.eq_false_iff]; simp -implicitDefEqProofs -dsimp; omega] at hS
  by_cases h2 : 97 ≤ x ∧ x ≤ 102
  ·rw [if_pos h2] at hr; simp only at hr
   obtain ⟨h2, h3⟩ := h2
   refine Fn_of Tryz.func214 rfl rfl (by simp -implicitDefEqProofs -dsimp) rfl ?_; simp only [Tryz.f214]
   simp -implicitDefEqProofs -dsimp [w1, w3, w4, h2, h3]; repeat' (first | with_reducible intro _ | with_reducible apply And.intro | (refine chkOk ?_; kernel_rfl) | (refine wpcall_d (hS) ?_; simp -implicitDefEqProofs -dsimp [w1, w3, w4, h2, h3]) | (refine wpcall_d (sIn) ?_; simp -implicitDefEqProofs -dsimp [w1, w3, w4, h2, h3]))
   all_goals omega
  ·rw [if_neg h2, if_neg hA] at hr; simp only at hr
   have hS2 := @sIn x 97 102
   rw [show (decide ((97 : Int) ≤ x) && decide ((x : Int) ≤ 102)) = false by rw [Bool.eq_false_iff]; simp -implicitDefEqProofs -dsimp; omega] at hS2
   subst hr
   refine Fn_of Tryz.func214 rfl rfl (by simp -implicitDefEqProofs -dsimp) rfl ?_; simp only [Tryz.f214]
   simp -implicitDefEqProofs -dsimp [w1]; repeat' (first | with_reducible intro _ | with_reducible apply And.intro | (refine chkOk ?_; kernel_rfl) | (refine wpcall_d (hS) ?_; simp -implicitDefEqProofs -dsimp [w1]) | (refine wpcall_d (hS2) ?_; simp -implicitDefEqProofs -dsimp [w1]))
theorem s9Digit {x : Nat} (hx : x < 256) : Fn Tryz.prog 197 [A8 x] [.un] [I (hexI x)] := by
 have w1 : wrK .i64 (x : Int) = x := wrap64_id _ (by omega)
 have w2 : wrK .i64 ((x : Int) - 65) = x - 65 := wrap64_id _ (by omega)
 have w3 : wrK .i64 ((x : Int) - 65 + 10) = x - 55 := by rw [wrap64_id _ (by omega)]; omega
 by_cases h1 : 65 ≤ x ∧ x ≤ 70
 ·have hr : hexI x = x - 55 := by unfold hexI hexV; rw [if_neg (by omega), if_neg (by omega), if_pos h1]; simp only; omega
  rw [hr]
  obtain ⟨h1, h2⟩ : (65 : Int) ≤ x ∧ (x : Int) ≤ 70 := by omega
  refine Fn_of Tryz.func197 rfl rfl (by simp -implicitDefEqProofs -dsimp) rfl ?_; simp only [Tryz.f197]
  simp -implicitDefEqProofs -dsimp [w1, w2, w3, h1, h2]; repeat' (first | with_reducible intro _ | with_reducible apply And.intro | (refine chkOk ?_; kernel_rfl) | (refine wpcall_d (sIn) ?_; simp -implicitDefEqProofs -dsimp [w1, w2, w3, h1, h2]))
 ·have hS := @sIn x 65 70
  rw [show (decide ((65 : Int) ≤ x) && decide ((x : Int) ≤ 70)) = false by rw [Bool.eq_false_iff]; simp -implicitDefEqProofs -dsimp; omega] at hS
  have hH := s3Hex hx h1
  refine Fn_of Tryz.func197 rfl rfl (by simp -implicitDefEqProofs -dsimp) rfl ?_; simp only [Tryz.f197]
  simp -implicitDefEqProofs -dsimp [w1]; repeat' (first | with_reducible intro _ | with_reducible apply And.intro | (refine chkOk ?_; kernel_rfl) | (refine wpcall_d (hS) ?_; simp -implicitDefEqProofs -dsimp [w1]) | (refine wpcall_d (hH) ?_; simp -implicitDefEqProofs -dsimp [w1]))
theorem hexV_lt {x d : Nat} (h : hexV x = some d) : d < 16 := by
 unfold hexV at h
 repeat' split at h
 all_goals first | cases h; omega | cases h
theorem hexN_lt : ∀ (t : List UInt8) (n m : Nat), hexN t n = some m → m < 16 ^ t.length * (n + 1)
 | [], n, m, h => by cases h; simp -implicitDefEqProofs -dsimp
 | x :: t, n, m, h => by
  unfold hexN at h
  cases hd : hexV x.toNat with
  | none => rw [hd] at h; cases h
  | some d =>
   rw [hd] at h
   have h1 := hexN_lt t _ _ h
   have h2 := hexV_lt hd
   refine Nat.lt_of_lt_of_le h1 ?_
   rw [List.length_cons, Nat.pow_succ, Nat.mul_assoc]
   exact Nat.mul_le_mul_left _ (by omega)
theorem fourP_lt {l : List UInt8} {a n : Nat} (h : fourP l a = some n) : n < 65536 := by
 have hl := fourP_len h
 unfold fourP at h
 rw [if_pos hl] at h
 have h1 := hexN_lt _ _ _ h
 have h2 : ((l.drop a).take 4).length = 4 := by simp -implicitDefEqProofs -dsimp; omega
 rw [h2] at h1; omega
theorem fourP_step {l : List UInt8} {a k : Nat} (h : a + 4 ≤ l.length) (hk : k < 4) : ∃ x, l[a + k]? = some x ∧ (l.drop (a + k)).take (4 - k) = x :: (l.drop (a + (k + 1))).take (4 - (k + 1)) := by
 have hlt : a + k < l.length := by omega
 refine ⟨l[a + k], List.getElem?_eq_getElem hlt, ?_⟩
 rw [List.drop_eq_getElem_cons hlt, show 4 - k = (4 - (k + 1)) + 1 by omega, List.take_succ_cons]; rfl
theorem sReadFour {l : List UInt8} {a : Nat} (hl : l.length ≤ 1099511627776) (ha : a ≤ 1099511627780) : Fn Tryz.prog 175 [T l, I a] [.un, .un] [I ((fourP l a).getD 0), B (fourP l a).isSome] := by
 have w1 : wrK .i64 ((l.length : Int) - 4) = l.length - 4 := wrap64_id _ (by omega)
 have a0 : ¬ (a : Int) < 0 := by omega
 by_cases hlt : a + 4 ≤ l.length
 ·have a1 : ¬ (l.length : Int) - 4 < a := by omega
  have w2 : wrK .i64 ((a : Int) + 4) = a + 4 := wrap64_id _ (by omega)
  generalize hR : fourP l a = R
  unfold fourP at hR
  rw [if_pos hlt] at hR
  refine Fn_of Tryz.func175 rfl rfl (by simp -implicitDefEqProofs -dsimp) rfl ?_; simp only [Tryz.f175]
  simp -implicitDefEqProofs -dsimp [w1, a0, a1]
  refine WL_loop (fun p : Nat × Nat => [(0, T l), (1, I a), (6, I p.2), (7, I ((a + p.1 : Nat) : Int))]) (fun p => 4 - p.1) (fun p => p.1 ≤ 4 ∧ p.2 < 16 ^ p.1 ∧ hexN ((l.drop (a + p.1)).take (4 - p.1)) p.2 = R) (0, 0) ⟨by omega, by simp, by simpa using hR⟩ ?_ ?_
  ·simp -implicitDefEqProofs -dsimp
  ·rintro ⟨k, n⟩ ⟨hk, hn, hR⟩
   simp only at hk hn hR ⊢
   have hn2 : n < 65536 := Nat.lt_of_lt_of_le hn (Nat.pow_le_pow_right (n := 16) (by omega) hk)
   by_cases hk4 : k < 4
   ·obtain ⟨x, hx, hs⟩ := fourP_step hlt hk4
    have hlt2 : a + k < l.length := by omega
    have hx2 : l[a + k] = x := by rw [List.getElem?_eq_getElem hlt2] at hx; exact Option.some.inj hx
    have hD := s9Digit (x := x.toNat) (by have := x.toNat_lt; omega)
    rw [hs] at hR; unfold hexN at hR
    have k1 : (k : Int) < 4 := by omega
    have k2 : (a : Int) + k < l.length := by omega
    have k3 : ((a : Int) + k).toNat = a + k := by omega
    have k4 : (0 : Int) ≤ a + k := by omega
    have k5 : (a : Int) + k < a + 4 := by omega
    have k6 : wrK .i64 ((a : Int) + k + 1) = a + k + 1 := wrap64_id _ (by omega)
    unfold hexI at hD
    cases hv : hexV x.toNat with
    | none =>
     rw [hv] at hR hD; simp only at hR hD; subst hR
     simp -implicitDefEqProofs -dsimp [-head_L, w2, k1, k2, k3, k4, k5, hlt2, hx2]
     refine wpcall_d hD ?_; simp -implicitDefEqProofs -dsimp [-head_L]
    | some d =>
     rw [hv] at hR hD; simp only at hR hD
     have hd := hexV_lt hv
     have k7 : wrK .i64 (16 * (n : Int)) = 16 * n := wrap64_id _ (by omega)
     have k8 : wrK .i64 (16 * (n : Int) + d) = 16 * n + d := wrap64_id _ (by omega)
     have k9 : ¬ (d : Int) < 0 := by omega
     simp -implicitDefEqProofs -dsimp [-head_L, -endOk, w2, k1, k2, k3, k4, k5, hlt2, hx2]
     refine wpcall_d hD ?_; simp -implicitDefEqProofs -dsimp [-head_L, -endOk, k6, k7, k8, k9]
     refine ⟨k + 1, 16 * n + d, ⟨by omega, ?_, hR⟩, by omega, ?_⟩
     ·rw [Nat.pow_succ]; omega
     ·simp -implicitDefEqProofs -dsimp; omega
   ·obtain rfl : k = 4 := by omega
    simp -implicitDefEqProofs -dsimp [hexN] at hR; subst hR
    simp -implicitDefEqProofs -dsimp [-head_L, w2]
 ·have a1 : (l.length : Int) - 4 < a := by omega
  have : fourP l a = none := by unfold fourP; rw [if_neg hlt]
  rw [this]
  refine Fn_of Tryz.func175 rfl rfl (by simp -implicitDefEqProofs -dsimp) rfl ?_; simp only [Tryz.f175]
  simp -implicitDefEqProofs -dsimp [w1, a0, a1]
def optN (o : Option (Nat × Nat)) : Nat × Nat := o.getD (0, 0)
theorem s9Escape {l : List UInt8} {a : Nat} (hl : l.length ≤ 1099511627776) (ha : a < l.length) (hbs : byN l a = 92) : Fn Tryz.prog 134 [T l, I ((a : Int) + 1)] [.un, .un] [I (optN (escP l a)).1, I (optN (escP l a)).2, B (escP l a).isSome] := by
 generalize hR : escP l a = R
 unfold escP at hR
 by_cases hlt : a + 1 < l.length
 ·have c1 : ¬ (l.length : Int) ≤ a + 1 := by omega
  have c2 : (0 : Int) ≤ a + 1 := by omega
  have c3 : (a : Int) + 1 < l.length := by omega
  have c4 : ((a : Int) + 1).toNat = a + 1 := by omega
  have c5 := byN_at hlt
  have c6 : wrK .i64 ((a : Int) + 1 + 1) = a + 2 := by rw [wrap64_id _ (by omega)]; omega
  by_cases hq : byN l (a + 1) = 34 ∨ byN l (a + 1) = 92 ∨ byN l (a + 1) = 47 ∨ byN l (a + 1) = 98 ∨ byN l (a + 1) = 116 ∨ byN l (a + 1) = 110 ∨ byN l (a + 1) = 102 ∨ byN l (a + 1) = 114
  ·rcases hq with hq | hq | hq | hq | hq | hq | hq | hq
   all_goals
    rw [hq] at hR c5
    simp only [letP] at hR
    simp at hR
    subst hR
    refine Fn_of Tryz.func134 rfl rfl (by simp -implicitDefEqProofs -dsimp) rfl ?_; simp only [Tryz.f134]
    simp -implicitDefEqProofs -dsimp [c1, c2, c3, c4, hlt, c5, c6, optN]; repeat' (first | with_reducible intro _ | with_reducible apply And.intro | (refine chkOk ?_; kernel_rfl))
  ·have hn : letP (byN l (a + 1)) = none := by unfold letP; repeat rw [if_neg (by omega)]
   rw [hn] at hR; simp only at hR
   have d1 : ¬ (byN l (a + 1) : Int) = 34 := by omega
   have d2 : ¬ (byN l (a + 1) : Int) = 92 := by omega
   have d3 : ¬ (byN l (a + 1) : Int) = 47 := by omega
   have d4 : ¬ (byN l (a + 1) : Int) = 98 := by omega
   have d5 : ¬ (byN l (a + 1) : Int) = 116 := by omega
   have d6 : ¬ (byN l (a + 1) : Int) = 110 := by omega
   have d7 : ¬ (byN l (a + 1) : Int) = 102 := by omega
   have d8 : ¬ (byN l (a + 1) : Int) = 114 := by omega
   clear hq hn
   by_cases hu : byN l (a + 1) = 117
   ·have hU : unitP l a = fourP l (a + 2) := by unfold unitP; rw [if_pos ⟨hbs, hu⟩]
    rw [hU] at hR
    have hF := sReadFour (l := l) (a := a + 2) hl (by omega)
    simp only [Int.natCast_add, Int.cast_ofNat_Int] at hF
    have e5 : wrK .i64 ((a : Int) + 1 + 5) = a + 6 := by rw [wrap64_id _ (by omega)]; omega
    have e6 : wrK .i64 ((a : Int) + 1 + 6) = a + 7 := by rw [wrap64_id _ (by omega)]; omega
    have e7 : wrK .i64 ((a : Int) + 1 + 7) = a + 8 := by rw [wrap64_id _ (by omega)]; omega
    have e11 : wrK .i64 ((a : Int) + 1 + 11) = a + 12 := by rw [wrap64_id _ (by omega)]; omega
    rw [hu] at c5
    cases hf : fourP l (a + 2) with
    | none =>
     rw [hf] at hR hF; simp only at hR; simp at hF; subst hR
     refine Fn_of Tryz.func134 rfl rfl (by simp -implicitDefEqProofs -dsimp) rfl ?_; simp only [Tryz.f134]
     simp -implicitDefEqProofs -dsimp [c1, c2, c3, c4, hlt, c5, c6, optN]; repeat' (first | with_reducible intro _ | with_reducible apply And.intro | (refine chkOk ?_; kernel_rfl) | (refine wpcall_d (hF) ?_; simp -implicitDefEqProofs -dsimp [c1, c2, c3, c4, hlt, c5, c6, optN]) | (refine wpcall_d (sIn) ?_; simp -implicitDefEqProofs -dsimp [c1, c2, c3, c4, hlt, c5, c6, optN]))
    | some n =>
     rw [hf] at hR hF; simp only at hR; simp at hF
     have hn := fourP_lt hf
     have hfl := fourP_len hf
     by_cases hlow : 56320 ≤ n ∧ n ≤ 57343
     ·rw [if_pos hlow] at hR; subst hR
      have g1 : (56320 : Int) ≤ n := by omega
      have g2 : (n : Int) ≤ 57343 := by omega
      refine Fn_of Tryz.func134 rfl rfl (by simp -implicitDefEqProofs -dsimp) rfl ?_; simp only [Tryz.f134]
      simp -implicitDefEqProofs -dsimp [c1, c2, c3, c4, hlt, c5, c6, optN, g1, g2]; repeat' (first | with_reducible intro _ | with_reducible apply And.intro | (refine chkOk ?_; kernel_rfl) | (refine wpcall_d (hF) ?_; simp -implicitDefEqProofs -dsimp [c1, c2, c3, c4, hlt, c5, c6, optN, g1, g2]) | (refine wpcall_d (sIn) ?_; simp -implicitDefEqProofs -dsimp [c1, c2, c3, c4, hlt, c5, c6, optN, g1, g2]))
     ·rw [if_neg hlow] at hR
      have hS := @sIn n 56320 57343
      rw [show (decide ((56320 : Int) ≤ n) && decide ((n : Int) ≤ 57343)) = false by rw [Bool.eq_false_iff]; simp -implicitDefEqProofs -dsimp; omega] at hS
      by_cases hhi : 55296 ≤ n ∧ n ≤ 56319
      ·rw [if_neg (by omega)] at hR
       have g1 : (55296 : Int) ≤ n := by omega
       have g2 : (n : Int) ≤ 56319 := by omega
       have hS2 := @sIn n 55296 56319
       rw [show (decide ((55296 : Int) ≤ n) && decide ((n : Int) ≤ 56319)) = true by simp -implicitDefEqProofs -dsimp; omega] at hS2
       by_cases h7 : a + 7 < l.length
       ·have m1 : ¬ (l.length : Int) ≤ a + 7 := by omega
        have m2 : (a : Int) + 6 < l.length := by omega
        have m3 : (a : Int) + 7 < l.length := by omega
        have m4 : ((a : Int) + 6).toNat = a + 6 := by omega
        have m5 : ((a : Int) + 7).toNat = a + 7 := by omega
        have m6 : a + 6 < l.length := by omega
        have m7 := byN_at m6
        have m8 := byN_at h7
        have m9 : (0 : Int) ≤ a + 6 := by omega
        have m10 : (0 : Int) ≤ a + 7 := by omega
        by_cases hb6 : byN l (a + 6) = 92
        ·rw [hb6] at m7
         by_cases hb7 : byN l (a + 7) = 117
         ·rw [hb7] at m8
          have hU2 : unitP l (a + 6) = fourP l (a + 8) := by unfold unitP; rw [if_pos ⟨hb6, hb7⟩]
          rw [hU2] at hR
          have hF2 := sReadFour (l := l) (a := a + 8) hl (by omega)
          simp only [Int.natCast_add, Int.cast_ofNat_Int] at hF2
          cases hf2 : fourP l (a + 8) with
          | none =>
           rw [hf2] at hR hF2; simp only at hR; simp at hF2; subst hR
           refine Fn_of Tryz.func134 rfl rfl (by simp -implicitDefEqProofs -dsimp) rfl ?_; simp only [Tryz.f134]
           simp -implicitDefEqProofs -dsimp [c1, c2, c3, c4, hlt, c5, c6, e5, e6, e7, m1, m2, m3, m4, m5, m6, m7, m8, m9, m10, h7, optN]; repeat' (first | with_reducible intro _ | with_reducible apply And.intro | (refine chkOk ?_; kernel_rfl) | (refine wpcall_d (hF) ?_; simp -implicitDefEqProofs -dsimp [c1, c2, c3, c4, hlt, c5, c6, e5, e6, e7, m1, m2, m3, m4, m5, m6, m7, m8, m9, m10, h7, optN]) | (refine wpcall_d (hS) ?_; simp -implicitDefEqProofs -dsimp [c1, c2, c3, c4, hlt, c5, c6, e5, e6, e7, m1, m2, m3, m4, m5, m6, m7, m8, m9, m10, h7, optN]) | (refine wpcall_d (hS2) ?_; simp -implicitDefEqProofs -dsimp [c1, c2, c3, c4, hlt, c5, c6, e5, e6, e7, m1, m2, m3, m4, m5, m6, m7, m8, m9, m10, h7, optN]) | (refine wpcall_d (hF2) ?_; simp -implicitDefEqProofs -dsimp [c1, c2, c3, c4, hlt, c5, c6, e5, e6, e7, m1, m2, m3, m4, m5, m6, m7, m8, m9, m10, h7, optN]) | (refine wpcall_d (sIn) ?_; simp -implicitDefEqProofs -dsimp [c1, c2, c3, c4, hlt, c5, c6, e5, e6, e7, m1, m2, m3, m4, m5, m6, m7, m8, m9, m10, h7, optN]))
          | some m =>
           rw [hf2] at hR hF2; simp only at hR; simp at hF2
           have hm := fourP_lt hf2
           have hfl2 := fourP_len hf2
           by_cases hml : 56320 ≤ m ∧ m ≤ 57343
           ·rw [if_pos hml] at hR; subst hR
            have hS3 := @sIn m 56320 57343
            rw [show (decide ((56320 : Int) ≤ m) && decide ((m : Int) ≤ 57343)) = true by simp -implicitDefEqProofs -dsimp; omega] at hS3
            have z1 : wrK .i64 ((n : Int) - 55296) = n - 55296 := wrap64_id _ (by omega)
            have z2 : wrK .i64 (1024 * ((n : Int) - 55296)) = 1024 * (n - 55296) := wrap64_id _ (by omega)
            have z3 : wrK .i64 (65536 + 1024 * ((n : Int) - 55296)) = 65536 + 1024 * (n - 55296) := wrap64_id _ (by omega)
            have z4 : wrK .i64 (65536 + 1024 * ((n : Int) - 55296) + m) = 65536 + 1024 * (n - 55296) + m := wrap64_id _ (by omega)
            have z5 : wrK .i64 (65536 + 1024 * ((n : Int) - 55296) + m - 56320) = ((65536 + 1024 * (n - 55296) + m - 56320 : Nat) : Int) := by rw [wrap64_id _ (by omega)]; omega
            generalize 65536 + 1024 * (n - 55296) + m - 56320 = Z at z5 ⊢
            refine Fn_of Tryz.func134 rfl rfl (by simp -implicitDefEqProofs -dsimp) rfl ?_; simp only [Tryz.f134]
            simp -implicitDefEqProofs -dsimp [c1, c2, c3, c4, hlt, c5, c6, e5, e6, e7, e11, m1, m2, m3, m4, m5, m6, m7, m8, m9, m10, h7, optN, z1, z2, z3, z4, z5]; repeat' (first | with_reducible intro _ | with_reducible apply And.intro | (refine chkOk ?_; kernel_rfl) | (refine wpcall_d (hF) ?_; simp -implicitDefEqProofs -dsimp [c1, c2, c3, c4, hlt, c5, c6, e5, e6, e7, e11, m1, m2, m3, m4, m5, m6, m7, m8, m9, m10, h7, optN, z1, z2, z3, z4, z5]) | (refine wpcall_d (hS) ?_; simp -implicitDefEqProofs -dsimp [c1, c2, c3, c4, hlt, c5, c6, e5, e6, e7, e11, m1, m2, m3, m4, m5, m6, m7, m8, m9, m10, h7, optN, z1, z2, z3, z4, z5]) | (refine wpcall_d (hS2) ?_; simp -implicitDefEqProofs -dsimp [c1, c2, c3, c4, hlt, c5, c6, e5, e6, e7, e11, m1, m2, m3, m4, m5, m6, m7, m8, m9, m10, h7, optN, z1, z2, z3, z4, z5]) | (refine wpcall_d (hF2) ?_; simp -implicitDefEqProofs -dsimp [c1, c2, c3, c4, hlt, c5, c6, e5, e6, e7, e11, m1, m2, m3, m4, m5, m6, m7, m8, m9, m10, h7, optN, z1, z2, z3, z4, z5]) | (refine wpcall_d (hS3) ?_; simp -implicitDefEqProofs -dsimp [c1, c2, c3, c4, hlt, c5, c6, e5, e6, e7, e11, m1, m2, m3, m4, m5, m6, m7, m8, m9, m10, h7, optN, z1, z2, z3, z4, z5]))
           ·rw [if_neg hml] at hR; subst hR
            have hS3 := @sIn m 56320 57343
            rw [show (decide ((56320 : Int) ≤ m) && decide ((m : Int) ≤ 57343)) = false by rw [Bool.eq_false_iff]; simp -implicitDefEqProofs -dsimp; omega] at hS3
            refine Fn_of Tryz.func134 rfl rfl (by simp -implicitDefEqProofs -dsimp) rfl ?_; simp only [Tryz.f134]
            simp -implicitDefEqProofs -dsimp [c1, c2, c3, c4, hlt, c5, c6, e5, e6, e7, m1, m2, m3, m4, m5, m6, m7, m8, m9, m10, h7, optN]; repeat' (first | with_reducible intro _ | with_reducible apply And.intro | (refine chkOk ?_; kernel_rfl) | (refine wpcall_d (hF) ?_; simp -implicitDefEqProofs -dsimp [c1, c2, c3, c4, hlt, c5, c6, e5, e6, e7, m1, m2, m3, m4, m5, m6, m7, m8, m9, m10, h7, optN]) | (refine wpcall_d (hS) ?_; simp -implicitDefEqProofs -dsimp [c1, c2, c3, c4, hlt, c5, c6, e5, e6, e7, m1, m2, m3, m4, m5, m6, m7, m8, m9, m10, h7, optN]) | (refine wpcall_d (hS2) ?_; simp -implicitDefEqProofs -dsimp [c1, c2, c3, c4, hlt, c5, c6, e5, e6, e7, m1, m2, m3, m4, m5, m6, m7, m8, m9, m10, h7, optN]) | (refine wpcall_d (hF2) ?_; simp -implicitDefEqProofs -dsimp [c1, c2, c3, c4, hlt, c5, c6, e5, e6, e7, m1, m2, m3, m4, m5, m6, m7, m8, m9, m10, h7, optN]) | (refine wpcall_d (hS3) ?_; simp -implicitDefEqProofs -dsimp [c1, c2, c3, c4, hlt, c5, c6, e5, e6, e7, m1, m2, m3, m4, m5, m6, m7, m8, m9, m10, h7, optN]))
         ·have hU2 : unitP l (a + 6) = none := by unfold unitP; rw [if_neg (fun h => hb7 h.2)]
          rw [hU2] at hR; simp only at hR; subst hR
          have d9 : ¬ (byN l (a + 7) : Int) = 117 := by omega
          refine Fn_of Tryz.func134 rfl rfl (by simp -implicitDefEqProofs -dsimp) rfl ?_; simp only [Tryz.f134]
          simp -implicitDefEqProofs -dsimp [c1, c2, c3, c4, hlt, c5, c6, e5, e6, e7, m1, m2, m3, m4, m5, m6, m7, m8, m9, m10, h7, d9, optN]; repeat' (first | with_reducible intro _ | with_reducible apply And.intro | (refine chkOk ?_; kernel_rfl) | (refine wpcall_d (hF) ?_; simp -implicitDefEqProofs -dsimp [c1, c2, c3, c4, hlt, c5, c6, e5, e6, e7, m1, m2, m3, m4, m5, m6, m7, m8, m9, m10, h7, d9, optN]) | (refine wpcall_d (hS) ?_; simp -implicitDefEqProofs -dsimp [c1, c2, c3, c4, hlt, c5, c6, e5, e6, e7, m1, m2, m3, m4, m5, m6, m7, m8, m9, m10, h7, d9, optN]) | (refine wpcall_d (hS2) ?_; simp -implicitDefEqProofs -dsimp [c1, c2, c3, c4, hlt, c5, c6, e5, e6, e7, m1, m2, m3, m4, m5, m6, m7, m8, m9, m10, h7, d9, optN]))
        ·have hU2 : unitP l (a + 6) = none := by unfold unitP; rw [if_neg (fun h => hb6 h.1)]
         rw [hU2] at hR; simp only at hR; subst hR
         have d9 : ¬ (byN l (a + 6) : Int) = 92 := by omega
         refine Fn_of Tryz.func134 rfl rfl (by simp -implicitDefEqProofs -dsimp) rfl ?_; simp only [Tryz.f134]
         simp -implicitDefEqProofs -dsimp [c1, c2, c3, c4, hlt, c5, c6, e5, e6, e7, m1, m2, m3, m4, m5, m6, m7, m8, m9, m10, h7, d9, optN]; repeat' (first | with_reducible intro _ | with_reducible apply And.intro | (refine chkOk ?_; kernel_rfl) | (refine wpcall_d (hF) ?_; simp -implicitDefEqProofs -dsimp [c1, c2, c3, c4, hlt, c5, c6, e5, e6, e7, m1, m2, m3, m4, m5, m6, m7, m8, m9, m10, h7, d9, optN]) | (refine wpcall_d (hS) ?_; simp -implicitDefEqProofs -dsimp [c1, c2, c3, c4, hlt, c5, c6, e5, e6, e7, m1, m2, m3, m4, m5, m6, m7, m8, m9, m10, h7, d9, optN]) | (refine wpcall_d (hS2) ?_; simp -implicitDefEqProofs -dsimp [c1, c2, c3, c4, hlt, c5, c6, e5, e6, e7, m1, m2, m3, m4, m5, m6, m7, m8, m9, m10, h7, d9, optN]))
       ·have m1 : (l.length : Int) ≤ a + 7 := by omega
        have b7 : byN l (a + 7) = 0 := byN_none (by omega)
        have hU2 : unitP l (a + 6) = none := by unfold unitP; rw [if_neg (fun h => by have h' : byN l (a + 7) = 117 := h.2; omega)]
        rw [hU2] at hR; simp only at hR; subst hR
        refine Fn_of Tryz.func134 rfl rfl (by simp -implicitDefEqProofs -dsimp) rfl ?_; simp only [Tryz.f134]
        simp -implicitDefEqProofs -dsimp [c1, c2, c3, c4, hlt, c5, c6, e5, e6, e7, m1, optN]; repeat' (first | with_reducible intro _ | with_reducible apply And.intro | (refine chkOk ?_; kernel_rfl) | (refine wpcall_d (hF) ?_; simp -implicitDefEqProofs -dsimp [c1, c2, c3, c4, hlt, c5, c6, e5, e6, e7, m1, optN]) | (refine wpcall_d (hS) ?_; simp -implicitDefEqProofs -dsimp [c1, c2, c3, c4, hlt, c5, c6, e5, e6, e7, m1, optN]) | (refine wpcall_d (hS2) ?_; simp -implicitDefEqProofs -dsimp [c1, c2, c3, c4, hlt, c5, c6, e5, e6, e7, m1, optN]))
      ·rw [if_pos hhi] at hR; subst hR
       have hS2 := @sIn n 55296 56319
       rw [show (decide ((55296 : Int) ≤ n) && decide ((n : Int) ≤ 56319)) = false by rw [Bool.eq_false_iff]; simp -implicitDefEqProofs -dsimp; omega] at hS2
       refine Fn_of Tryz.func134 rfl rfl (by simp -implicitDefEqProofs -dsimp) rfl ?_; simp only [Tryz.f134]
       simp -implicitDefEqProofs -dsimp [c1, c2, c3, c4, hlt, c5, c6, e5, optN]; repeat' (first | with_reducible intro _ | with_reducible apply And.intro | (refine chkOk ?_; kernel_rfl) | (refine wpcall_d (hF) ?_; simp -implicitDefEqProofs -dsimp [c1, c2, c3, c4, hlt, c5, c6, e5, optN]) | (refine wpcall_d (hS) ?_; simp -implicitDefEqProofs -dsimp [c1, c2, c3, c4, hlt, c5, c6, e5, optN]) | (refine wpcall_d (hS2) ?_; simp -implicitDefEqProofs -dsimp [c1, c2, c3, c4, hlt, c5, c6, e5, optN]))
   ·have hU : unitP l a = none := by unfold unitP; rw [if_neg (fun h => hu h.2)]
    rw [hU] at hR; simp only at hR; subst hR
    have d9 : ¬ (byN l (a + 1) : Int) = 117 := by omega
    refine Fn_of Tryz.func134 rfl rfl (by simp -implicitDefEqProofs -dsimp) rfl ?_; simp only [Tryz.f134]
    simp -implicitDefEqProofs -dsimp [c1, c2, c3, c4, hlt, c5, c6, optN, d1, d2, d3, d4, d5, d6, d7, d8, d9]; repeat' (first | with_reducible intro _ | with_reducible apply And.intro | (refine chkOk ?_; kernel_rfl))
 ·have c1 : (l.length : Int) ≤ a + 1 := by omega
  have b0 : byN l (a + 1) = 0 := byN_none (by omega)
  have hU : unitP l a = none := by unfold unitP; rw [if_neg (by omega)]
  have hn : letP 0 = none := by decide
  rw [b0, hn] at hR; simp only at hR
  rw [hU] at hR; simp only at hR; subst hR
  refine Fn_of Tryz.func134 rfl rfl (by simp -implicitDefEqProofs -dsimp) rfl ?_; simp only [Tryz.f134]
  simp -implicitDefEqProofs -dsimp [c1, optN]; repeat' (first | with_reducible intro _ | with_reducible apply And.intro | (refine chkOk ?_; kernel_rfl))
end Go.Proofs.YtlfblkekbcfjpaaGreatDoor
namespace Go.Proofs.YtlfblkekbcfjpaaGreatDoor
open Go
set_option maxRecDepth 100000
set_option maxHeartbeats 2000000
theorem getP_rune {l : List UInt8} {n w : Nat} (h : getP l = some (n, w)) : runeOkP n = true := by
 have hl : 0 < l.length := by
  cases l with
  | nil => simp -implicitDefEqProofs -dsimp [getP] at h
  | cons x t => simp -implicitDefEqProofs -dsimp
 rw [getP_eq hl] at h
 have h0 := byN_lt l 0
 generalize byN l 0 = b0 at *
 generalize byN l 1 = b1 at *
 generalize byN l 2 = b2 at *
 generalize byN l 3 = b3 at *
 rw [runeOkP_iff]
 unfold Lib.decodeN at h
 repeat' split at h
 all_goals first | (cases h; done) | (simp only [Option.some.injEq, Prod.mk.injEq] at h; omega) | (exfalso; simp_all; done)
theorem letP_lt {b n : Nat} (h : letP b = some n) : n < 128 := by
 unfold letP at h
 repeat' split at h
 all_goals first | (cases h; omega) | cases h
theorem escP_rune {l : List UInt8} {a n e : Nat} (h : escP l a = some (n, e)) : runeOkP n = true := by
 rw [runeOkP_iff]
 unfold escP at h
 cases h1 : letP (byN l (a + 1)) with
 | some m =>
  rw [h1] at h; cases h
  have h2 := letP_lt h1
  omega
 | none =>
  rw [h1] at h; simp only at h
  cases h2 : unitP l a with
  | none => rw [h2] at h; cases h
  | some m =>
   have h3 : m < 65536 := by unfold unitP at h2; split at h2; exact fourP_lt h2; cases h2
   rw [h2] at h; simp only at h
   split at h
   ·cases h
   ·split at h
    ·cases h; omega
    ·cases h4 : unitP l (a + 6) with
     | none => rw [h4] at h; cases h
     | some k =>
      rw [h4] at h; simp only at h
      split at h
      ·simp only [Option.some.injEq, Prod.mk.injEq] at h
       obtain ⟨h9, -⟩ := h; omega
      ·cases h
theorem letterP_rune {l : List UInt8} {a n e : Nat} (h : letterP l a = some (n, e)) : runeOkP n = true := by
 unfold letterP at h
 split at h
 ·exact escP_rune h
 ·cases h1 : getP (l.drop a) with
  | none => rw [h1] at h; cases h
  | some p =>
   obtain ⟨m, w⟩ := p
   rw [h1] at h; simp only at h
   split at h
   ·cases h
   ·cases h; exact getP_rune h1
theorem encP_of {n : Nat} (h : runeOkP n = true) : encP n = if n < 128 then [UInt8.ofNat n] else if n < 2048 then [UInt8.ofNat (192 + n / 64), UInt8.ofNat (128 + n % 64)]
  else if n < 65536 then [UInt8.ofNat (224 + n / 4096), UInt8.ofNat (128 + n / 64 % 64), UInt8.ofNat (128 + n % 64)]
  else [UInt8.ofNat (240 + n / 262144), UInt8.ofNat (128 + n / 4096 % 64), UInt8.ofNat (128 + n / 64 % 64), UInt8.ofNat (128 + n % 64)] := by
 rw [runeOkP_iff] at h
 have hv : Utf8.valid (n : Int) = true := by simp -implicitDefEqProofs -dsimp [Utf8.valid]; omega
 unfold encP Utf8.encode
 rw [hv]
 simp only [if_true, Int.toNat_natCast]
 repeat' split
 all_goals first | rfl | omega
theorem encP_len (n : Nat) : (encP n).length ≤ 4 := by
 unfold encP Utf8.encode
 dsimp only
 repeat' split
 all_goals simp -implicitDefEqProofs -dsimp
theorem bv_of {x : Nat} (h : x < 256) : ((UInt8.ofNat x).toNat : Int) = x := by simp -implicitDefEqProofs -dsimp; omega
theorem wr8 {x : Int} (h : 0 ≤ x ∧ x < 256) : wrK .u8 x = x := by rw [wrK_eq, IntKind.wrap_u8]; omega
theorem sPutRune {b : List UInt8} {n : Nat} (hb : b.length ≤ 8589934592) (h : runeOkP n = true) : Fn Tryz.prog 174 [Y b, I n] [.un, .un] [.row true 5 ((b ++ encP n).map bv)] := by
 have hr := (runeOkP_iff n).1 h
 have hw := @sWideOf n
 rw [encP_of h]
 unfold wideP at hw
 rw [if_pos h] at hw
 have hb2 : b.length + 4 ≤ 1099511627776 := by omega
 have t64 : ((n : Int)).tdiv 64 = ((n / 64 : Nat) : Int) := by simp -implicitDefEqProofs -dsimp
 have t4096 : ((n : Int)).tdiv 4096 = ((n / 4096 : Nat) : Int) := by simp -implicitDefEqProofs -dsimp
 have t262144 : ((n : Int)).tdiv 262144 = ((n / 262144 : Nat) : Int) := by simp -implicitDefEqProofs -dsimp
 have m64 : ((n : Int)).tmod 64 = ((n % 64 : Nat) : Int) := by simp -implicitDefEqProofs -dsimp
 have k1 : wrK .i64 ((n / 64 : Nat) : Int) = (n / 64 : Nat) := wrap64_id _ (by omega)
 have k2 : wrK .i64 ((n / 4096 : Nat) : Int) = (n / 4096 : Nat) := wrap64_id _ (by omega)
 have k3 : wrK .i64 ((n / 262144 : Nat) : Int) = (n / 262144 : Nat) := wrap64_id _ (by omega)
 by_cases h1 : n < 128
 ·rw [if_pos h1]; rw [if_pos (by omega)] at hw
  have e1 := bv_of (x := n) (by omega)
  have e2 : wrK .u8 (n : Int) = n := wr8 (by omega)
  refine Fn_of Tryz.func174 rfl rfl (by simp -implicitDefEqProofs -dsimp) rfl ?_; simp only [Tryz.f174]
  simp -implicitDefEqProofs -dsimp [e1, e2]; repeat' (first | with_reducible intro _ | with_reducible apply And.intro | (refine chkOk ?_; kernel_rfl) | (refine wpcall_d (hw) ?_; simp -implicitDefEqProofs -dsimp [e1, e2]))
  all_goals omega
 ·rw [if_neg h1]; rw [if_neg (by omega)] at hw
  by_cases h2 : n < 2048
  ·rw [if_pos h2]; rw [if_pos (by omega)] at hw
   have e1 : wrK .i64 (192 + ((n / 64 : Nat) : Int)) = 192 + (n / 64 : Nat) := wrap64_id _ (by omega)
   have e2 : wrK .i64 (128 + ((n % 64 : Nat) : Int)) = 128 + (n % 64 : Nat) := wrap64_id _ (by omega)
   have e3 : wrK .u8 (192 + ((n / 64 : Nat) : Int)) = 192 + (n / 64 : Nat) := wr8 (by omega)
   have e4 : wrK .u8 (128 + ((n % 64 : Nat) : Int)) = 128 + (n % 64 : Nat) := wr8 (by omega)
   clear t64 m64 t4096 t262144
   simp at k1 e1 e2 e3 e4
   refine Fn_of Tryz.func174 rfl rfl (by simp -implicitDefEqProofs -dsimp) rfl ?_; simp only [Tryz.f174]
   simp -implicitDefEqProofs -dsimp [k1, e1, e2, e3, e4]; repeat' (first | with_reducible intro _ | with_reducible apply And.intro | (refine chkOk ?_; kernel_rfl) | (refine wpcall_d (hw) ?_; simp -implicitDefEqProofs -dsimp [k1, e1, e2, e3, e4]))
   all_goals omega
  ·rw [if_neg h2]; rw [if_neg (by omega)] at hw
   have q1 : ((n : Int) / 64).tmod 64 = (n : Int) / 64 % 64 := Int.tmod_eq_emod_of_nonneg (by omega)
   have q2 : ((n : Int) / 4096).tmod 64 = (n : Int) / 4096 % 64 := Int.tmod_eq_emod_of_nonneg (by omega)
   have r1 : wrK .i64 (128 + (n : Int) / 64 % 64) = 128 + (n : Int) / 64 % 64 := wrap64_id _ (by omega)
   have r2 : wrK .i64 (128 + (n : Int) % 64) = 128 + (n : Int) % 64 := wrap64_id _ (by omega)
   have r3 : wrK .u8 (128 + (n : Int) / 64 % 64) = 128 + (n : Int) / 64 % 64 := wr8 (by omega)
   have r4 : wrK .u8 (128 + (n : Int) % 64) = 128 + (n : Int) % 64 := wr8 (by omega)
   have r5 : wrK .i64 (128 + (n : Int) / 4096 % 64) = 128 + (n : Int) / 4096 % 64 := wrap64_id _ (by omega)
   have r6 : wrK .u8 (128 + (n : Int) / 4096 % 64) = 128 + (n : Int) / 4096 % 64 := wr8 (by omega)
   clear t64 m64 t4096 t262144
   simp at k1 k2 k3
   by_cases h3 : n < 65536
   ·rw [if_pos h3]; rw [if_pos (by omega)] at hw
    have e1 : wrK .i64 (224 + (n : Int) / 4096) = 224 + (n : Int) / 4096 := wrap64_id _ (by omega)
    have e3 : wrK .u8 (224 + (n : Int) / 4096) = 224 + (n : Int) / 4096 := wr8 (by omega)
    refine Fn_of Tryz.func174 rfl rfl (by simp -implicitDefEqProofs -dsimp) rfl ?_; simp only [Tryz.f174]
    simp -implicitDefEqProofs -dsimp [k1, k2, q1, q2, r1, r2, r3, r4, e1, e3]; repeat' (first | with_reducible intro _ | with_reducible apply And.intro | (refine chkOk ?_; kernel_rfl) | (refine wpcall_d (hw) ?_; simp -implicitDefEqProofs -dsimp [k1, k2, q1, q2, r1, r2, r3, r4, e1, e3]))
    all_goals omega
   ·rw [if_neg h3]; rw [if_neg (by omega)] at hw
    have e1 : wrK .i64 (240 + (n : Int) / 262144) = 240 + (n : Int) / 262144 := wrap64_id _ (by omega)
    have e3 : wrK .u8 (240 + (n : Int) / 262144) = 240 + (n : Int) / 262144 := wr8 (by omega)
    refine Fn_of Tryz.func174 rfl rfl (by simp -implicitDefEqProofs -dsimp) rfl ?_; simp only [Tryz.f174]
    simp -implicitDefEqProofs -dsimp [k1, k2, k3, q1, q2, r1, r2, r3, r4, r5, r6, e1, e3]; repeat' (first | with_reducible intro _ | with_reducible apply And.intro | (refine chkOk ?_; kernel_rfl) | (refine wpcall_d (hw) ?_; simp -implicitDefEqProofs -dsimp [k1, k2, k3, q1, q2, r1, r2, r3, r4, r5, r6, e1, e3]))
    all_goals omega
theorem wpcall_q {P : Program} {g : Prop} {f : FuncId} {xs : List V} {d : Option Nat} {σ : St} {K : List (Comp × V) → List Comp → Prop} {ys outs rs : List V} (h : Fn P f ys outs rs) (hk : passL P σ xs ys ∧ callK g xs ys outs rs d σ K) : WC P g f xs d σ K () := wpcall_of h hk.1 hk.2
abbrev TX (cs : List Nat) : List UInt8 := cs.flatMap encP
theorem TX_len : ∀ cs : List Nat, (TX cs).length ≤ 4 * cs.length
 | [] => by simp -implicitDefEqProofs -dsimp
 | c :: cs => by
  have h1 := TX_len cs
  have h2 := encP_len c
  show (encP c ++ TX cs).length ≤ _
  rw [List.length_append, List.length_cons]; omega
theorem sFromRunes {cs : List Nat} (hc : ∀ c ∈ cs, runeOkP c = true) (hl : cs.length ≤ 1073741824) : Fn Tryz.prog 133 [.sl (cs.map fun c : Nat => I (c : Int))] [.un] [T (TX cs)] := by
 refine Fn_of Tryz.func133 rfl rfl (by simp -implicitDefEqProofs -dsimp) rfl ?_; simp only [Tryz.f133]
 simp -implicitDefEqProofs -dsimp
 refine WL_loop (fun k : Nat => [(0, .sl (cs.map fun c : Nat => I (c : Int))), (2, T []), (3, .row true 5 ((TX (cs.take k)).map bv)), (4, I k)]) (fun k => cs.length - k) (fun k => k ≤ cs.length) 0 (Nat.zero_le _) ?_ ?_
 ·simp -implicitDefEqProofs -dsimp
 ·intro k hk
  by_cases hk2 : k < cs.length
  ·obtain ⟨c, hx⟩ : ∃ c, cs[k]? = some c := ⟨_, List.getElem?_eq_getElem hk2⟩
   have hx2 : cs[k] = c := by rw [List.getElem?_eq_getElem hk2] at hx; exact Option.some.inj hx
   have k1 : (k : Int) < cs.length := by omega
   have k2 : wrK .i64 ((k : Int) + 1) = k + 1 := wrap64_id _ (by omega)
   have hlen := TX_len (cs.take k)
   have hlen2 := List.length_take_le k cs
   have hP := sPutRune (b := TX (cs.take k)) (n := c) (by omega) (hc c (List.mem_of_getElem? hx))
   have ht : TX (cs.take (k + 1)) = TX (cs.take k) ++ encP c := by rw [List.take_add_one, hx]; simp -implicitDefEqProofs -dsimp
   rw [← ht] at hP
   simp -implicitDefEqProofs -dsimp [-head_L, -endOk, k1, hk2, hx2]
   refine wpcall_q hP ?_; simp -implicitDefEqProofs -dsimp [-head_L, -endOk, k2]
   refine ⟨k + 1, by omega, by omega, ?_⟩
   simp -implicitDefEqProofs -dsimp
  ·obtain rfl : k = cs.length := by omega
   simp -implicitDefEqProofs -dsimp [-head_L]
   intro x _ y _; have := y.toNat_lt; omega
end Go.Proofs.YtlfblkekbcfjpaaGreatDoor
