/- Part of a proof: contracts and plain laws. -/
import Derived.Test.YtlfblkekbcfjpaaGreatDoorZ19
set_option linter.unusedVariables false
set_option linter.unusedSimpArgs false
namespace Go.Proofs.YtlfblkekbcfjpaaGreatDoor
open Go
set_option maxRecDepth 100000
set_option maxHeartbeats 2000000
theorem iTextOk {s : ByteArray} (hs : s.size ≤ 1099511627776) : Fn Tryz.prog 129 [S s] [.un] [B (textOkP s)] := by
 refine Fn_of Tryz.func129 rfl rfl (by simp -implicitDefEqProofs -dsimp) rfl ?_; simp only [Tryz.f129]
 simp -implicitDefEqProofs -dsimp
 repeat' (first | with_reducible intro _ | with_reducible apply And.intro | (refine chkOk ?_; kernel_rfl) | (refine wpcall_d (lValid (by omega)) ?_; simp -implicitDefEqProofs -dsimp))
 rfl
theorem sRuneOk {n : Int} : Fn Tryz.prog 176 [I n] [.un] [B (runeOkP n)] := by
 refine Fn_of Tryz.func176 rfl rfl (by simp -implicitDefEqProofs -dsimp) rfl ?_; simp only [Tryz.f176]
 simp -implicitDefEqProofs -dsimp
 repeat' (first | with_reducible intro _ | with_reducible apply And.intro | (refine chkOk ?_; kernel_rfl) | (refine wpcall_d (sIn) ?_; simp -implicitDefEqProofs -dsimp))
 rw [Bool.eq_iff_iff]; simp -implicitDefEqProofs -dsimp [runeOkP]
theorem sWideOf {n : Int} : Fn Tryz.prog 144 [I n] [.un] [I (wideP n)] := by
 refine Fn_of Tryz.func144 rfl rfl (by simp -implicitDefEqProofs -dsimp) rfl ?_; simp only [Tryz.f144]
 simp -implicitDefEqProofs -dsimp
 repeat' (first | with_reducible intro _ | with_reducible apply And.intro | (refine chkOk ?_; kernel_rfl) | (refine wpcall_d (sRuneOk) ?_; simp -implicitDefEqProofs -dsimp))
 all_goals simp_all [wideP]
 all_goals repeat (first | rw [if_pos (by omega)] | rw [if_neg (by omega)])
 all_goals rfl
def getRuneP (b : List UInt8) (at_ : Int) : (Int × Int) × Bool := if at_ < 0 then ((0, 0), false) else match getP (b.drop at_.toNat) with | some p => ((p.1, at_ + p.2), true) | none => ((0, 0), false)
theorem getRuneP_no {b : List UInt8} {at_ : Int} (h : ¬ (0 ≤ at_ ∧ at_ < b.length)) : getRuneP b at_ = ((0, 0), false) := by
 unfold getRuneP
 by_cases h1 : at_ < 0
 ·rw [if_pos h1]
 ·rw [if_neg h1, List.drop_of_length_le (by omega)]; rfl
theorem byN_drop {b : List UInt8} {a i : Nat} {x : UInt8} (h : b[a + i]? = some x) : byN (b.drop a) i = x.toNat := by
 unfold byN; rw [List.getD_eq_getElem?_getD, List.getElem?_drop, h]; rfl
theorem sGetRune {b : List UInt8} {at_ : Int} (hb : b.length ≤ 1099511627776) : Fn Tryz.prog 107 [Y b, I at_] [.un, .un] [I (getRuneP b at_).1.1, I (getRuneP b at_).1.2, B (getRuneP b at_).2] := by
 by_cases hat : 0 ≤ at_ ∧ at_ < b.length
 ·obtain ⟨a, rfl⟩ : ∃ a : Nat, at_ = a := ⟨at_.toNat, by omega⟩
  have ha : a < b.length := by omega
  have ha0 : ¬ ((a : Int) < 0) := by omega
  have ha1 : ¬ (b.length ≤ a) := by omega
  obtain ⟨z, hz⟩ : ∃ z, b[a]? = some z := ⟨_, List.getElem?_eq_getElem ha⟩
  have hz2 : b[a] = z := by rw [List.getElem?_eq_getElem ha] at hz; exact Option.some.inj hz
  have hr : getRuneP b a = match getP (b.drop a) with | some p => (((p.1 : Int), (a : Int) + p.2), true) | none => ((0, 0), false) := by
   unfold getRuneP; rw [if_neg ha0]; rfl
  rw [hr]
  have hx0 : byN (b.drop a) 0 = z.toNat := byN_drop (by simpa using hz)
  have hl : 0 < (b.drop a).length := by simp -implicitDefEqProofs -dsimp; omega
  have hzl := z.toNat_lt
  obtain ⟨x, hx⟩ : ∃ x : Int, (z.toNat : Int) = x := ⟨_, rfl⟩
  have hwx : wrK .i64 x = x := wrap64_id _ (by omega)
  have hL1 : wrK .i64 ((b.length : Int) - a) = b.length - a := wrap64_id _ (by omega)
  cases hh : headP z.toNat with
  | none =>
   rw [getP_none_head hl (by rw [hx0]; exact hh)]
   have hc : ¬ x < 128 ∧ ¬ (192 ≤ x ∧ x ≤ 223) ∧ ¬ (224 ≤ x ∧ x ≤ 239) ∧ ¬ (240 ≤ x ∧ x ≤ 247) := by
    unfold headP at hh
    split at hh
    ·cases hh
    ·split at hh
     ·cases hh
     ·split at hh
      ·cases hh
      ·split at hh
       ·cases hh
       ·omega
   refine Fn_of Tryz.func107 rfl rfl (by simp -implicitDefEqProofs -dsimp) rfl ?_; simp only [Tryz.f107]
   simp -implicitDefEqProofs -dsimp [ha0, ha1, ha, hz2, hx, hwx]
   repeat' (first | with_reducible intro _ | with_reducible apply And.intro | (refine chkOk ?_; kernel_rfl) | (refine wpcall_d (sIn) ?_; simp -implicitDefEqProofs -dsimp))
   all_goals omega
  | some p =>
   obtain ⟨W, n0⟩ := p
   have hh' : headP (byN (b.drop a) 0) = some (W, n0) := by rw [hx0]; exact hh
   have hlen : (b.drop a).length = b.length - a := by simp -implicitDefEqProofs -dsimp
   have hbd := headP_cases hh (by omega)
   have hn0 : n0 < 128 := by omega
   by_cases hs : (b.drop a).length < W
   ·rw [getP_short hl hh' hs]
    have hs1 : (b.length : Int) - a < W := by omega
    rcases hbd with hbd | hbd | hbd | hbd
    ·obtain rfl : W = 1 := hbd.1
     have c1 : x < 128 := by omega
     have c4 : x = n0 := by omega
     have hs2 : (b.length : Int) - a < 1 := hs1
     refine Fn_of Tryz.func107 rfl rfl (by simp -implicitDefEqProofs -dsimp) rfl ?_; simp only [Tryz.f107]
     simp -implicitDefEqProofs -dsimp [ha0, ha1, ha, hz2, hx, hwx, c1, hL1, hs2]
     repeat' (first | with_reducible intro _ | with_reducible apply And.intro | (refine chkOk ?_; kernel_rfl) | (refine wpcall_d (sIn) ?_; simp -implicitDefEqProofs -dsimp [c1, hL1, hs2]))
    ·obtain rfl : W = 2 := hbd.1
     have c1 : ¬ x < 128 := by omega
     have c2 : 192 ≤ x := by omega
     have c3 : x ≤ 223 := by omega
     have c4 : wrK .i64 (x - 192) = n0 := by rw [wrap64_id _ (by omega)]; omega
     have hs2 : (b.length : Int) - a < 2 := hs1
     refine Fn_of Tryz.func107 rfl rfl (by simp -implicitDefEqProofs -dsimp) rfl ?_; simp only [Tryz.f107]
     simp -implicitDefEqProofs -dsimp [ha0, ha1, ha, hz2, hx, hwx, c1, c2, c3, c4, hL1, hs2]
     repeat' (first | with_reducible intro _ | with_reducible apply And.intro | (refine chkOk ?_; kernel_rfl) | (refine wpcall_d (sIn) ?_; simp -implicitDefEqProofs -dsimp [c1, c2, c3, c4, hL1, hs2]))
    ·obtain rfl : W = 3 := hbd.1
     have c1 : ¬ x < 128 := by omega
     have c2 : ¬ x ≤ 223 := by omega
     have c3 : 224 ≤ x := by omega
     have c5 : x ≤ 239 := by omega
     have c4 : wrK .i64 (x - 224) = n0 := by rw [wrap64_id _ (by omega)]; omega
     have hs2 : (b.length : Int) - a < 3 := hs1
     refine Fn_of Tryz.func107 rfl rfl (by simp -implicitDefEqProofs -dsimp) rfl ?_; simp only [Tryz.f107]
     simp -implicitDefEqProofs -dsimp [ha0, ha1, ha, hz2, hx, hwx, c1, c2, c3, c4, c5, hL1, hs2]
     repeat' (first | with_reducible intro _ | with_reducible apply And.intro | (refine chkOk ?_; kernel_rfl) | (refine wpcall_d (sIn) ?_; simp -implicitDefEqProofs -dsimp [c1, c2, c3, c4, c5, hL1, hs2]))
    ·obtain rfl : W = 4 := hbd.1
     have c1 : ¬ x < 128 := by omega
     have c2 : ¬ x ≤ 223 := by omega
     have c3 : ¬ x ≤ 239 := by omega
     have c5 : 240 ≤ x := by omega
     have c6 : x ≤ 247 := by omega
     have c4 : wrK .i64 (x - 240) = n0 := by rw [wrap64_id _ (by omega)]; omega
     have hs2 : (b.length : Int) - a < 4 := hs1
     refine Fn_of Tryz.func107 rfl rfl (by simp -implicitDefEqProofs -dsimp) rfl ?_; simp only [Tryz.f107]
     simp -implicitDefEqProofs -dsimp [ha0, ha1, ha, hz2, hx, hwx, c1, c2, c3, c4, c5, c6, hL1, hs2]
     repeat' (first | with_reducible intro _ | with_reducible apply And.intro | (refine chkOk ?_; kernel_rfl) | (refine wpcall_d (sIn) ?_; simp -implicitDefEqProofs -dsimp [c1, c2, c3, c4, c5, c6, hL1, hs2]))
   ·have hs1 : ¬ (b.length : Int) - a < W := by omega
    have hgo : ∀ k, k + 1 < W → ∃ y : UInt8, b[a + (k + 1)]? = some y ∧ byN (b.drop a) (k + 1) = y.toNat := fun k hk => by
     have h5 : a + (k + 1) < b.length := by omega
     exact ⟨b[a + (k + 1)], List.getElem?_eq_getElem h5, byN_drop (List.getElem?_eq_getElem h5)⟩
    generalize hR : (match getP (b.drop a) with | some p => (((p.1 : Int), (a : Int) + p.2), true) | none => ((0, 0), false)) = R
    have hacc : ∀ k, k < W → (∀ i, 1 ≤ i → i ≤ k → contB (byN (b.drop a) i)) → ∃ m : Nat, accN (b.drop a) n0 k = m ∧ m < 33554432 := fun k hk hc => by
     obtain ⟨m, h1, h2⟩ := accN_val (n0 := n0) hc
     have : 64 ^ k ≤ 64 ^ 3 := Nat.pow_le_pow_right (by omega) (by omega)
     have h3 : (n0 + 1) * 64 ^ k ≤ 128 * 64 ^ 3 := Nat.mul_le_mul (by omega) this
     exact ⟨m, h1, by omega⟩
    have hrest : ∀ k, k < W → ∀ (hc : ∀ i, 1 ≤ i → i ≤ k → contB (byN (b.drop a) i)), True := fun _ _ _ => trivial
    rcases hbd with hbd | hbd | hbd | hbd
    ·obtain rfl : W = 1 := hbd.1
     have c1 : x < 128 := by omega
     have c4 : x = n0 := by omega
     have hs2 : ¬ (b.length : Int) - a < 1 := hs1
     refine Fn_of Tryz.func107 rfl rfl (by simp -implicitDefEqProofs -dsimp) rfl ?_; simp only [Tryz.f107]
     simp -implicitDefEqProofs -dsimp [ha0, ha1, ha, hz2, hx, hwx, c1, hL1, hs2]
     repeat' (first | with_reducible intro _ | with_reducible apply And.intro | (refine chkOk ?_; kernel_rfl) | (refine wpcall_d (sIn) ?_; simp -implicitDefEqProofs -dsimp [c1, hL1, hs2]))
     refine WL_loop (fun k : Nat => [(0, Y b), (1, I a), (8, I 1), (9, I (accN (b.drop a) n0 k)), (10, I (k + 1))]) (fun k => 1 - k) (fun k => k < 1 ∧ ∀ i, 1 ≤ i → i ≤ k → contB (byN (b.drop a) i)) 0 ⟨by omega, fun i h1 h2 => by omega⟩ ?_ ?_
     ·simp -implicitDefEqProofs -dsimp [accN, c4]
     ·rintro k ⟨hk, hc⟩
      obtain ⟨m, hm1, hm2⟩ := hacc k hk hc
      by_cases hk1 : k + 1 < 1
      ·obtain ⟨y, hy1, hy2⟩ := hgo k hk1
       have hyl := y.toNat_lt
       have k1 : (k : Int) + 1 < 1 := by omega
       have f1 : wrK .i64 ((a : Int) + (k + 1)) = a + (k + 1) := wrap64_id _ (by omega)
       have f2 : ((a : Int) + ((k : Int) + 1)).toNat = a + (k + 1) := by omega
       have f3 : (0 : Int) ≤ a + (k + 1) := by omega
       have f4 : (a : Int) + (k + 1) < b.length := by omega
       have f5 : a + (k + 1) < b.length := by omega
       have f6 : b[a + (k + 1)] = y := by rw [List.getElem?_eq_getElem f5] at hy1; exact Option.some.inj hy1
       by_cases hco : contB y.toNat
       ·have d1 : 128 ≤ (y.toNat : Int) := by have := hco.1; omega
        have d2 : (y.toNat : Int) ≤ 191 := by have := hco.2; omega
        have g1 : wrK .i64 (64 * (m : Int)) = 64 * m := wrap64_id _ (by omega)
        have g2 : wrK .i64 (64 * (m : Int) + y.toNat) = 64 * m + y.toNat := wrap64_id _ (by omega)
        have g3 : wrK .i64 (64 * (m : Int) + y.toNat - 128) = 64 * m + y.toNat - 128 := wrap64_id _ (by omega)
        have g4 : wrK .i64 ((k : Int) + 1 + 1) = k + 1 + 1 := wrap64_id _ (by omega)
        simp -implicitDefEqProofs -dsimp [-head_L, -endOk, hm1, k1, f1, f2, f3, f4, f5, f6]
        refine wpcall_d sIn ?_; simp -implicitDefEqProofs -dsimp [-head_L, -endOk, d1, d2, g1, g2, g3, g4]
        refine ⟨k + 1, ⟨by omega, fun i h1 h2 => ?_⟩, by omega, ?_⟩
        ·rcases Nat.lt_or_ge i (k + 1) with h | h
         ·exact hc i h1 (by omega)
         ·obtain rfl : i = k + 1 := by omega
          rw [hy2]; exact hco
        ·simp -implicitDefEqProofs -dsimp [accN, hm1, hy2]
       ·have d1 : (decide (128 ≤ (y.toNat : Int)) && decide ((y.toNat : Int) ≤ 191)) = false := by
         rw [Bool.eq_false_iff]; unfold contB at hco; simp -implicitDefEqProofs -dsimp; omega
        have hS := @sIn y.toNat 128 191
        rw [d1] at hS
        rw [getP_bad hl hh' (j := k + 1) (by omega) hk1 (by rw [hy2]; exact hco)] at hR
        subst hR
        simp -implicitDefEqProofs -dsimp [-head_L, hm1, k1, f1, f2, f3, f4, f5, f6]
        refine wpcall_d hS ?_; simp -implicitDefEqProofs -dsimp
      ·have k1 : ¬ (k : Int) + 1 < 1 := by omega
       obtain rfl : k = 1 - 1 := by omega
       have hf := getP_full hl hh' (by omega) (fun i h1 h2 => hc i h1 (by omega))
       rw [hm1] at hf
       have g5 : wrK .i64 ((a : Int) + 1) = a + 1 := wrap64_id _ (by omega)
       simp -implicitDefEqProofs -dsimp [-head_L, hm1]
       refine wpcall_d sWideOf ?_; simp -implicitDefEqProofs -dsimp
       by_cases hw : wideP (m : Int) = 1
       ·rw [hf.1 hw] at hR; subst hR
        simp -implicitDefEqProofs -dsimp [hw, g5]
       ·rw [hf.2 hw] at hR; subst hR
        have hw2 : ¬ (wideP (m : Int) : Int) = 1 := by omega
        simp -implicitDefEqProofs -dsimp [hw2]
    ·obtain rfl : W = 2 := hbd.1
     have c1 : ¬ x < 128 := by omega
     have c2 : 192 ≤ x := by omega
     have c3 : x ≤ 223 := by omega
     have c4 : wrK .i64 (x - 192) = n0 := by rw [wrap64_id _ (by omega)]; omega
     have hs2 : ¬ (b.length : Int) - a < 2 := hs1
     refine Fn_of Tryz.func107 rfl rfl (by simp -implicitDefEqProofs -dsimp) rfl ?_; simp only [Tryz.f107]
     simp -implicitDefEqProofs -dsimp [ha0, ha1, ha, hz2, hx, hwx, c1, c2, c3, c4, hL1, hs2]
     repeat' (first | with_reducible intro _ | with_reducible apply And.intro | (refine chkOk ?_; kernel_rfl) | (refine wpcall_d (sIn) ?_; simp -implicitDefEqProofs -dsimp [c1, c2, c3, c4, hL1, hs2]))
     refine WL_loop (fun k : Nat => [(0, Y b), (1, I a), (8, I 2), (9, I (accN (b.drop a) n0 k)), (10, I (k + 1))]) (fun k => 2 - k) (fun k => k < 2 ∧ ∀ i, 1 ≤ i → i ≤ k → contB (byN (b.drop a) i)) 0 ⟨by omega, fun i h1 h2 => by omega⟩ ?_ ?_
     ·simp -implicitDefEqProofs -dsimp [accN, c4]
     ·rintro k ⟨hk, hc⟩
      obtain ⟨m, hm1, hm2⟩ := hacc k hk hc
      by_cases hk1 : k + 1 < 2
      ·obtain ⟨y, hy1, hy2⟩ := hgo k hk1
       have hyl := y.toNat_lt
       have k1 : (k : Int) + 1 < 2 := by omega
       have f1 : wrK .i64 ((a : Int) + (k + 1)) = a + (k + 1) := wrap64_id _ (by omega)
       have f2 : ((a : Int) + ((k : Int) + 1)).toNat = a + (k + 1) := by omega
       have f3 : (0 : Int) ≤ a + (k + 1) := by omega
       have f4 : (a : Int) + (k + 1) < b.length := by omega
       have f5 : a + (k + 1) < b.length := by omega
       have f6 : b[a + (k + 1)] = y := by rw [List.getElem?_eq_getElem f5] at hy1; exact Option.some.inj hy1
       by_cases hco : contB y.toNat
       ·have d1 : 128 ≤ (y.toNat : Int) := by have := hco.1; omega
        have d2 : (y.toNat : Int) ≤ 191 := by have := hco.2; omega
        have g1 : wrK .i64 (64 * (m : Int)) = 64 * m := wrap64_id _ (by omega)
        have g2 : wrK .i64 (64 * (m : Int) + y.toNat) = 64 * m + y.toNat := wrap64_id _ (by omega)
        have g3 : wrK .i64 (64 * (m : Int) + y.toNat - 128) = 64 * m + y.toNat - 128 := wrap64_id _ (by omega)
        have g4 : wrK .i64 ((k : Int) + 1 + 1) = k + 1 + 1 := wrap64_id _ (by omega)
        simp -implicitDefEqProofs -dsimp [-head_L, -endOk, hm1, k1, f1, f2, f3, f4, f5, f6]
        refine wpcall_d sIn ?_; simp -implicitDefEqProofs -dsimp [-head_L, -endOk, d1, d2, g1, g2, g3, g4]
        refine ⟨k + 1, ⟨by omega, fun i h1 h2 => ?_⟩, by omega, ?_⟩
        ·rcases Nat.lt_or_ge i (k + 1) with h | h
         ·exact hc i h1 (by omega)
         ·obtain rfl : i = k + 1 := by omega
          rw [hy2]; exact hco
        ·simp -implicitDefEqProofs -dsimp [accN, hm1, hy2]
       ·have d1 : (decide (128 ≤ (y.toNat : Int)) && decide ((y.toNat : Int) ≤ 191)) = false := by
         rw [Bool.eq_false_iff]; unfold contB at hco; simp -implicitDefEqProofs -dsimp; omega
        have hS := @sIn y.toNat 128 191
        rw [d1] at hS
        rw [getP_bad hl hh' (j := k + 1) (by omega) hk1 (by rw [hy2]; exact hco)] at hR
        subst hR
        simp -implicitDefEqProofs -dsimp [-head_L, hm1, k1, f1, f2, f3, f4, f5, f6]
        refine wpcall_d hS ?_; simp -implicitDefEqProofs -dsimp
      ·have k1 : ¬ (k : Int) + 1 < 2 := by omega
       obtain rfl : k = 2 - 1 := by omega
       have hf := getP_full hl hh' (by omega) (fun i h1 h2 => hc i h1 (by omega))
       rw [hm1] at hf
       have g5 : wrK .i64 ((a : Int) + 2) = a + 2 := wrap64_id _ (by omega)
       simp -implicitDefEqProofs -dsimp [-head_L, hm1]
       refine wpcall_d sWideOf ?_; simp -implicitDefEqProofs -dsimp
       by_cases hw : wideP (m : Int) = 2
       ·rw [hf.1 hw] at hR; subst hR
        simp -implicitDefEqProofs -dsimp [hw, g5]
       ·rw [hf.2 hw] at hR; subst hR
        have hw2 : ¬ (wideP (m : Int) : Int) = 2 := by omega
        simp -implicitDefEqProofs -dsimp [hw2]
    ·obtain rfl : W = 3 := hbd.1
     have c1 : ¬ x < 128 := by omega
     have c2 : ¬ x ≤ 223 := by omega
     have c3 : 224 ≤ x := by omega
     have c5 : x ≤ 239 := by omega
     have c4 : wrK .i64 (x - 224) = n0 := by rw [wrap64_id _ (by omega)]; omega
     have hs2 : ¬ (b.length : Int) - a < 3 := hs1
     refine Fn_of Tryz.func107 rfl rfl (by simp -implicitDefEqProofs -dsimp) rfl ?_; simp only [Tryz.f107]
     simp -implicitDefEqProofs -dsimp [ha0, ha1, ha, hz2, hx, hwx, c1, c2, c3, c4, c5, hL1, hs2]
     repeat' (first | with_reducible intro _ | with_reducible apply And.intro | (refine chkOk ?_; kernel_rfl) | (refine wpcall_d (sIn) ?_; simp -implicitDefEqProofs -dsimp [c1, c2, c3, c4, c5, hL1, hs2]))
     refine WL_loop (fun k : Nat => [(0, Y b), (1, I a), (8, I 3), (9, I (accN (b.drop a) n0 k)), (10, I (k + 1))]) (fun k => 3 - k) (fun k => k < 3 ∧ ∀ i, 1 ≤ i → i ≤ k → contB (byN (b.drop a) i)) 0 ⟨by omega, fun i h1 h2 => by omega⟩ ?_ ?_
     ·simp -implicitDefEqProofs -dsimp [accN, c4]
     ·rintro k ⟨hk, hc⟩
      obtain ⟨m, hm1, hm2⟩ := hacc k hk hc
      by_cases hk1 : k + 1 < 3
      ·obtain ⟨y, hy1, hy2⟩ := hgo k hk1
       have hyl := y.toNat_lt
       have k1 : (k : Int) + 1 < 3 := by omega
       have f1 : wrK .i64 ((a : Int) + (k + 1)) = a + (k + 1) := wrap64_id _ (by omega)
       have f2 : ((a : Int) + ((k : Int) + 1)).toNat = a + (k + 1) := by omega
       have f3 : (0 : Int) ≤ a + (k + 1) := by omega
       have f4 : (a : Int) + (k + 1) < b.length := by omega
       have f5 : a + (k + 1) < b.length := by omega
       have f6 : b[a + (k + 1)] = y := by rw [List.getElem?_eq_getElem f5] at hy1; exact Option.some.inj hy1
       by_cases hco : contB y.toNat
       ·have d1 : 128 ≤ (y.toNat : Int) := by have := hco.1; omega
        have d2 : (y.toNat : Int) ≤ 191 := by have := hco.2; omega
        have g1 : wrK .i64 (64 * (m : Int)) = 64 * m := wrap64_id _ (by omega)
        have g2 : wrK .i64 (64 * (m : Int) + y.toNat) = 64 * m + y.toNat := wrap64_id _ (by omega)
        have g3 : wrK .i64 (64 * (m : Int) + y.toNat - 128) = 64 * m + y.toNat - 128 := wrap64_id _ (by omega)
        have g4 : wrK .i64 ((k : Int) + 1 + 1) = k + 1 + 1 := wrap64_id _ (by omega)
        simp -implicitDefEqProofs -dsimp [-head_L, -endOk, hm1, k1, f1, f2, f3, f4, f5, f6]
        refine wpcall_d sIn ?_; simp -implicitDefEqProofs -dsimp [-head_L, -endOk, d1, d2, g1, g2, g3, g4]
        refine ⟨k + 1, ⟨by omega, fun i h1 h2 => ?_⟩, by omega, ?_⟩
        ·rcases Nat.lt_or_ge i (k + 1) with h | h
         ·exact hc i h1 (by omega)
         ·obtain rfl : i = k + 1 := by omega
          rw [hy2]; exact hco
        ·simp -implicitDefEqProofs -dsimp [accN, hm1, hy2]
       ·have d1 : (decide (128 ≤ (y.toNat : Int)) && decide ((y.toNat : Int) ≤ 191)) = false := by
         rw [Bool.eq_false_iff]; unfold contB at hco; simp -implicitDefEqProofs -dsimp; omega
        have hS := @sIn y.toNat 128 191
        rw [d1] at hS
        rw [getP_bad hl hh' (j := k + 1) (by omega) hk1 (by rw [hy2]; exact hco)] at hR
        subst hR
        simp -implicitDefEqProofs -dsimp [-head_L, hm1, k1, f1, f2, f3, f4, f5, f6]
        refine wpcall_d hS ?_; simp -implicitDefEqProofs -dsimp
      ·have k1 : ¬ (k : Int) + 1 < 3 := by omega
       obtain rfl : k = 3 - 1 := by omega
       have hf := getP_full hl hh' (by omega) (fun i h1 h2 => hc i h1 (by omega))
       rw [hm1] at hf
       have g5 : wrK .i64 ((a : Int) + 3) = a + 3 := wrap64_id _ (by omega)
       simp -implicitDefEqProofs -dsimp [-head_L, hm1]
       refine wpcall_d sWideOf ?_; simp -implicitDefEqProofs -dsimp
       by_cases hw : wideP (m : Int) = 3
       ·rw [hf.1 hw] at hR; subst hR
        simp -implicitDefEqProofs -dsimp [hw, g5]
       ·rw [hf.2 hw] at hR; subst hR
        have hw2 : ¬ (wideP (m : Int) : Int) = 3 := by omega
        simp -implicitDefEqProofs -dsimp [hw2]
    ·obtain rfl : W = 4 := hbd.1
     have c1 : ¬ x < 128 := by omega
     have c2 : ¬ x ≤ 223 := by omega
     have c3 : ¬ x ≤ 239 := by omega
     have c5 : 240 ≤ x := by omega
     have c6 : x ≤ 247 := by omega
     have c4 : wrK .i64 (x - 240) = n0 := by rw [wrap64_id _ (by omega)]; omega
     have hs2 : ¬ (b.length : Int) - a < 4 := hs1
     refine Fn_of Tryz.func107 rfl rfl (by simp -implicitDefEqProofs -dsimp) rfl ?_; simp only [Tryz.f107]
     simp -implicitDefEqProofs -dsimp [ha0, ha1, ha, hz2, hx, hwx, c1, c2, c3, c4, c5, c6, hL1, hs2]
     repeat' (first | with_reducible intro _ | with_reducible apply And.intro | (refine chkOk ?_; kernel_rfl) | (refine wpcall_d (sIn) ?_; simp -implicitDefEqProofs -dsimp [c1, c2, c3, c4, c5, c6, hL1, hs2]))
     refine WL_loop (fun k : Nat => [(0, Y b), (1, I a), (8, I 4), (9, I (accN (b.drop a) n0 k)), (10, I (k + 1))]) (fun k => 4 - k) (fun k => k < 4 ∧ ∀ i, 1 ≤ i → i ≤ k → contB (byN (b.drop a) i)) 0 ⟨by omega, fun i h1 h2 => by omega⟩ ?_ ?_
     ·simp -implicitDefEqProofs -dsimp [accN, c4]
     ·rintro k ⟨hk, hc⟩
      obtain ⟨m, hm1, hm2⟩ := hacc k hk hc
      by_cases hk1 : k + 1 < 4
      ·obtain ⟨y, hy1, hy2⟩ := hgo k hk1
       have hyl := y.toNat_lt
       have k1 : (k : Int) + 1 < 4 := by omega
       have f1 : wrK .i64 ((a : Int) + (k + 1)) = a + (k + 1) := wrap64_id _ (by omega)
       have f2 : ((a : Int) + ((k : Int) + 1)).toNat = a + (k + 1) := by omega
       have f3 : (0 : Int) ≤ a + (k + 1) := by omega
       have f4 : (a : Int) + (k + 1) < b.length := by omega
       have f5 : a + (k + 1) < b.length := by omega
       have f6 : b[a + (k + 1)] = y := by rw [List.getElem?_eq_getElem f5] at hy1; exact Option.some.inj hy1
       by_cases hco : contB y.toNat
       ·have d1 : 128 ≤ (y.toNat : Int) := by have := hco.1; omega
        have d2 : (y.toNat : Int) ≤ 191 := by have := hco.2; omega
        have g1 : wrK .i64 (64 * (m : Int)) = 64 * m := wrap64_id _ (by omega)
        have g2 : wrK .i64 (64 * (m : Int) + y.toNat) = 64 * m + y.toNat := wrap64_id _ (by omega)
        have g3 : wrK .i64 (64 * (m : Int) + y.toNat - 128) = 64 * m + y.toNat - 128 := wrap64_id _ (by omega)
        have g4 : wrK .i64 ((k : Int) + 1 + 1) = k + 1 + 1 := wrap64_id _ (by omega)
        simp -implicitDefEqProofs -dsimp [-head_L, -endOk, hm1, k1, f1, f2, f3, f4, f5, f6]
        refine wpcall_d sIn ?_; simp -implicitDefEqProofs -dsimp [-head_L, -endOk, d1, d2, g1, g2, g3, g4]
        refine ⟨k + 1, ⟨by omega, fun i h1 h2 => ?_⟩, by omega, ?_⟩
        ·rcases Nat.lt_or_ge i (k + 1) with h | h
         ·exact hc i h1 (by omega)
         ·obtain rfl : i = k + 1 := by omega
          rw [hy2]; exact hco
        ·simp -implicitDefEqProofs -dsimp [accN, hm1, hy2]
       ·have d1 : (decide (128 ≤ (y.toNat : Int)) && decide ((y.toNat : Int) ≤ 191)) = false := by
         rw [Bool.eq_false_iff]; unfold contB at hco; simp -implicitDefEqProofs -dsimp; omega
        have hS := @sIn y.toNat 128 191
        rw [d1] at hS
        rw [getP_bad hl hh' (j := k + 1) (by omega) hk1 (by rw [hy2]; exact hco)] at hR
        subst hR
        simp -implicitDefEqProofs -dsimp [-head_L, hm1, k1, f1, f2, f3, f4, f5, f6]
        refine wpcall_d hS ?_; simp -implicitDefEqProofs -dsimp
      ·have k1 : ¬ (k : Int) + 1 < 4 := by omega
       obtain rfl : k = 4 - 1 := by omega
       have hf := getP_full hl hh' (by omega) (fun i h1 h2 => hc i h1 (by omega))
       rw [hm1] at hf
       have g5 : wrK .i64 ((a : Int) + 4) = a + 4 := wrap64_id _ (by omega)
       simp -implicitDefEqProofs -dsimp [-head_L, hm1]
       refine wpcall_d sWideOf ?_; simp -implicitDefEqProofs -dsimp
       by_cases hw : wideP (m : Int) = 4
       ·rw [hf.1 hw] at hR; subst hR
        simp -implicitDefEqProofs -dsimp [hw, g5]
       ·rw [hf.2 hw] at hR; subst hR
        have hw2 : ¬ (wideP (m : Int) : Int) = 4 := by omega
        simp -implicitDefEqProofs -dsimp [hw2]
 ·rw [getRuneP_no hat]
  refine Fn_of Tryz.func107 rfl rfl (by simp -implicitDefEqProofs -dsimp) rfl ?_; simp only [Tryz.f107]
  simp -implicitDefEqProofs -dsimp
  repeat' (first | with_reducible intro _ | with_reducible apply And.intro | (refine chkOk ?_; kernel_rfl))
  all_goals omega
end Go.Proofs.YtlfblkekbcfjpaaGreatDoor
namespace Go.Proofs.YtlfblkekbcfjpaaGreatDoor
open Go
set_option maxRecDepth 100000
def bigP (l : List UInt8) : Nat := l.foldl (fun n b => 256 * n + b.toNat) 0
def existP (b : List UInt8) (at_ n : Int) : Bool := decide (0 ≤ n) && decide (n ≤ b.length) && (decide (0 ≤ at_) && decide (at_ ≤ b.length - n))
theorem iexist {b : List UInt8} {at_ n : Int} (hb : b.length ≤ 1099511627776) : Fn Tryz.prog 163 [Y b, I at_, I n] [.un, .un, .un] [B (existP b at_ n)] := by
 refine Fn_of Tryz.func163 rfl rfl (by simp -implicitDefEqProofs -dsimp) rfl ?_; simp only [Tryz.f163]
 simp -implicitDefEqProofs -dsimp
 refine wpcall_d (iwithin) ?_; simp -implicitDefEqProofs -dsimp
 refine wpcall_d (iwithin) ?_; simp -implicitDefEqProofs -dsimp
 rw [Bool.eq_iff_iff]; simp -implicitDefEqProofs -dsimp [existP, wrK_i64]; omega
theorem bigP_snoc (l : List UInt8) (x : UInt8) : bigP (l ++ [x]) = 256 * bigP l + x.toNat := by simp -implicitDefEqProofs -dsimp [bigP]
theorem bigP_lt (l : List UInt8) : bigP l < 256 ^ l.length := by
 suffices h : ∀ (l : List UInt8) (n : Nat), l.foldl (fun n b => 256 * n + b.toNat) n < 256 ^ l.length * (n + 1) by simpa [bigP] using h l 0
 intro l
 induction l with
 | nil => intro n; simp -implicitDefEqProofs -dsimp
 | cons x l ih =>
  intro n
  have := x.toNat_lt
  rw [List.foldl_cons]
  refine Nat.lt_of_lt_of_le (ih _) ?_
  rw [List.length_cons, Nat.pow_succ, Nat.mul_assoc]
  exact Nat.mul_le_mul_left _ (show 256 * n + x.toNat + 1 ≤ 256 * (n + 1) by omega)
theorem bigP_take {l : List UInt8} {k : Nat} (h : k < l.length) : bigP (l.take (k + 1)) = 256 * bigP (l.take k) + l[k].toNat := by
 rw [List.take_succ_eq_append_getElem h, bigP_snoc]
theorem bigP_take_lt (l : List UInt8) (k : Nat) : bigP (l.take k) < 256 ^ k :=
 Nat.lt_of_lt_of_le (bigP_lt _) (Nat.pow_le_pow_right (by omega) (by simp -implicitDefEqProofs -dsimp; omega))
theorem bigP_mono (l : List UInt8) (k : Nat) : bigP (l.take k) ≤ bigP l := by
 have h : ∀ (r : List UInt8) (n : Nat), n ≤ r.foldl (fun n b => 256 * n + b.toNat) n := by
  intro r
  induction r with
  | nil => intro n; simp -implicitDefEqProofs -dsimp
  | cons x r ih => intro n; rw [List.foldl_cons]; exact Nat.le_trans (show n ≤ 256 * n + x.toNat by omega) (ih _)
 conv => rhs; rw [← List.take_append_drop k l]
 unfold bigP; rw [List.foldl_append]; exact h _ _
def getBigP (b : List UInt8) (at_ w : Int) : Int × Bool := if isW w = true ∧ existP b at_ w = true ∧ bigP ((b.drop at_.toNat).take w.toNat) ≤ 1000000000000000 then (bigP ((b.drop at_.toNat).take w.toNat), true) else (0, false)
theorem existP_iff {b : List UInt8} {at_ n : Int} : existP b at_ n = true ↔ 0 ≤ n ∧ 0 ≤ at_ ∧ at_ + n ≤ b.length := by simp -implicitDefEqProofs -dsimp [existP]; omega
theorem getBigP_no {b : List UInt8} {at_ w : Int} (h : isW w = false ∨ existP b at_ w = false) : getBigP b at_ w = (0, false) := if_neg (by rcases h with h | h <;> simp -implicitDefEqProofs -dsimp [h])
theorem getBigP_at {b : List UInt8} {a n : Nat} (h1 : isW n = true) (h2 : existP b a n = true) {l : List UInt8} (hl : (b.drop a).take n = l) : getBigP b a n = if bigP l ≤ 1000000000000000 then ((bigP l : Int), true) else (0, false) := by
 unfold getBigP; simp -implicitDefEqProofs -dsimp [h1, h2, hl]
theorem iGetBig {b : List UInt8} {at_ w : Int} (hb : b.length ≤ 1099511627776) : Fn Tryz.prog 192 [Y b, I at_, I w] [.un, .un, .un] [I (getBigP b at_ w).1, B (getBigP b at_ w).2] := by
 refine Fn_of Tryz.func192 rfl rfl (by simp -implicitDefEqProofs -dsimp) rfl ?_; simp only [Tryz.f192]
 simp -implicitDefEqProofs -dsimp
 refine wpcall_d (iisWidth) ?_; simp -implicitDefEqProofs -dsimp
 refine wpcall_d (iexist hb) ?_; simp -implicitDefEqProofs -dsimp
 refine ⟨fun h => by simp -implicitDefEqProofs -dsimp [getBigP_no h], fun h1 h2 => ?_⟩
 have h3 := isW_iff.1 h1
 have h4 := existP_iff.1 h2
 have hw : wrK .i64 (at_ + w) = at_ + w := wrap64_id _ (by omega)
 obtain ⟨a, rfl⟩ : ∃ a : Nat, at_ = a := ⟨at_.toNat, by omega⟩
 obtain ⟨n, rfl⟩ : ∃ n : Nat, w = n := ⟨w.toNat, by omega⟩
 obtain ⟨l, hl⟩ : ∃ l, (b.drop a).take n = l := ⟨_, rfl⟩
 have hn : l.length = n := by rw [← hl]; simp -implicitDefEqProofs -dsimp; omega
 refine ⟨by omega, ?_⟩
 rw [hw]
 refine WL_loop (fun k : Nat => [(8, .sc (.int .u64 (bigP (l.take k)))), (26, Y l), (27, I n), (28, I k)]) (fun k => n - k) (fun k => k ≤ n) 0 (Nat.zero_le _) ?_ ?_
 ·simp -implicitDefEqProofs -dsimp [← hl, List.drop_take, show ((a : Int) + n).toNat - a = n by omega, bigP]; omega
 ·intro k hk
  by_cases hkn : k < n
  ·have hkl : k < l.length := by omega
   have h8 := bigP_take_lt l k
   have h9 : 256 ^ k ≤ 256 ^ 7 := Nat.pow_le_pow_right (by omega) (by omega)
   have := l[k].toNat_lt
   simp -implicitDefEqProofs -dsimp [-head_L, -endOk, hkn, hkl]
   simp (disch := omega) only [wrap64_id, wrapu64_id, fdiv_nn]
   refine ⟨k + 1, by omega, by omega, ?_⟩
   have := or64 (Nat.lt_of_lt_of_le h8 h9) l[k].toNat_lt
   simp -implicitDefEqProofs -dsimp [bigP_take hkl, this]
  ·have hkn : l.take k = l := List.take_of_length_le (by omega)
   simp -implicitDefEqProofs -dsimp [-head_L, -endOk, hkn, show ¬ k < n by omega, getBigP_at h1 h2 hl]
   have := wrap64_id (bigP l)
   split <;> simp -implicitDefEqProofs -dsimp <;> omega
theorem s3GetBig {b : List UInt8} {at_ w : Int} (hb : b.length ≤ 1099511627776) : Fn Tryz.prog 99 [Y b, I at_, I w] [.un, .un, .un] [I (getBigP b at_ w).1, B (getBigP b at_ w).2] := by
 refine Fn_of Tryz.func99 rfl rfl (by simp -implicitDefEqProofs -dsimp) rfl ?_; simp only [Tryz.f99]
 simp -implicitDefEqProofs -dsimp
 refine wpcall_d (s3Width) ?_; simp -implicitDefEqProofs -dsimp
 refine ⟨fun h => ?_, fun h1 h2 h5 => ?_⟩
 ·rw [getBigP_no]; · simp -implicitDefEqProofs -dsimp
  rcases h with (h | h) | h
  ·exact .inl h
  ·right; simp -implicitDefEqProofs -dsimp [existP]; omega
  ·by_cases h1 : isW w = true
   ·have := isW_iff.1 h1
    right; simp -implicitDefEqProofs -dsimp [existP]; rw [wrK_i64] at h; omega
   ·left; simpa using h1
 have h3 := isW_iff.1 h1
 have h4 : existP b at_ w = true := existP_iff.2 (by rw [wrK_i64] at h5; omega)
 have h6 := existP_iff.1 h4
 obtain ⟨a, rfl⟩ : ∃ a : Nat, at_ = a := ⟨at_.toNat, by omega⟩
 obtain ⟨n, rfl⟩ : ∃ n : Nat, w = n := ⟨w.toNat, by omega⟩
 obtain ⟨l, hl⟩ : ∃ l, (b.drop a).take n = l := ⟨_, rfl⟩
 have hn : l.length = n := by rw [← hl]; simp -implicitDefEqProofs -dsimp; omega
 refine WL_loop (fun k : Nat => [(0, Y b), (1, I a), (2, I n), (8, I (bigP (l.take k))), (9, I k)]) (fun k => n - k) (fun k => k ≤ n) 0 (Nat.zero_le _) ?_ ?_
 ·simp -implicitDefEqProofs -dsimp [bigP]
 ·intro k hk
  by_cases hkn : k < n
  ·have hkl : k < l.length := by omega
   have hba : b[((a : Int) + k).toNat]? = some l[k] := by
    rw [show ((a : Int) + k).toNat = a + k by omega, List.getElem?_eq_getElem (by omega)]; simp -implicitDefEqProofs -dsimp [← hl]
   have hm := bigP_mono l k
   have := l[k].toNat_lt
   have hba2 : b[((a : Int) + k).toNat]'(by omega) = l[k] := by rw [List.getElem?_eq_getElem (by omega)] at hba; exact Option.some.inj hba
   simp -implicitDefEqProofs -dsimp [-head_L, -endOk, hkn, hkl]
   simp (disch := omega) only [wrap64_id, wrapu64_id, fdiv_nn]
   try simp -implicitDefEqProofs -dsimp [-head_L, -endOk, hba]
   try simp (disch := omega) only [wrap64_id, wrapu64_id, fdiv_nn]
   refine ⟨fun h => ?_, fun h => ⟨by omega, k + 1, by omega, by omega, ?_⟩⟩
   ·rw [getBigP_at h1 h4 hl, if_neg (by omega)]; simp -implicitDefEqProofs -dsimp
   ·simp -implicitDefEqProofs -dsimp [bigP_take hkl]; simp (disch := omega) only [wrap64_id, wrapu64_id, fdiv_nn]
  ·have hkn : l.take k = l := List.take_of_length_le (by omega)
   simp -implicitDefEqProofs -dsimp [-head_L, -endOk, hkn, show ¬ k < n by omega, getBigP_at h1 h4 hl]
   split <;> simp -implicitDefEqProofs -dsimp <;> omega
theorem ifitsInto {n w : Int} (hw : w = 1 ∨ w = 2 ∨ w = 4 ∨ w = 8) : Fn Tryz.prog 212 [I n, I w] [.un, .un] [B (decide (0 ≤ n) && (decide (w = 8) || decide (n < 256 ^ w.toNat)))] := by
 refine Fn_of Tryz.func212 rfl rfl (by simp -implicitDefEqProofs -dsimp) rfl ?_; simp only [Tryz.f212]
 rcases hw with rfl | rfl | rfl | rfl <;> simp -implicitDefEqProofs -dsimp
 all_goals (try simp (disch := omega) only [wrap64_id, wrapu64_id, fdiv_nn])
 all_goals (try simp -implicitDefEqProofs -dsimp)
 all_goals (try simp (disch := omega) only [wrap64_id, wrapu64_id, fdiv_nn])
 all_goals rw [Bool.eq_iff_iff]; simp only [Bool.and_eq_true, Bool.or_eq_true, decide_eq_true_eq]; omega
def headOkP (m n w : Int) : Bool := decide (0 ≤ m) && decide (m ≤ 7) && (if w = 0 then decide (0 ≤ n) && decide (n ≤ 23) else if w = -1 then decide (n = 0) && decide (2 ≤ m) && decide (m ≠ 6) else isW w && (decide (0 ≤ n) && decide (n ≤ 1000000000000000) && (decide (w = 8) || decide (n < 256 ^ w.toNat))))
theorem iHeadOk {m n w : Int} : Fn Tryz.prog 191 [.ag [I m, I n, I w]] [.un] [B (headOkP m n w)] := by
 refine Fn_of Tryz.func191 rfl rfl (by simp -implicitDefEqProofs -dsimp) rfl ?_; simp only [Tryz.f191]
 simp -implicitDefEqProofs -dsimp
 repeat' (first | with_reducible intro _ | with_reducible apply And.intro | (refine chkOk ?_; kernel_rfl) | (refine wpcall_d (iwithin) ?_; simp -implicitDefEqProofs -dsimp) | (refine wpcall_d (iisWidth) ?_; simp -implicitDefEqProofs -dsimp) | (refine wpcall_g (fun hg => ifitsInto (isW_iff.1 hg.1)) ?_; simp -implicitDefEqProofs -dsimp))
 all_goals simp_all [headOkP]
 ·omega
 ·rw [Bool.eq_iff_iff]; simp only [Bool.and_eq_true, Bool.or_eq_true, decide_eq_true_eq]
  exact ⟨fun h => ⟨h.1.1, h.1.2, h.2.2⟩, fun h => ⟨⟨h.1, h.2.1⟩, h.2.1.1, h.2.2⟩⟩
theorem sWidthFor {n : Int} (h : 0 ≤ n) : Fn Tryz.prog 140 [I n] [.un] [I (if n < 256 then 1 else if n < 65536 then 2 else if n < 4294967296 then 4 else 8)] := by
 refine Fn_of Tryz.func140 rfl rfl (by simp -implicitDefEqProofs -dsimp) rfl ?_; simp only [Tryz.f140]
 simp -implicitDefEqProofs -dsimp
 repeat' (first | with_reducible intro _ | with_reducible apply And.intro | (refine chkOk ?_; kernel_rfl))
 all_goals (repeat' split) <;> omega
theorem sHeadOk {m n w : Int} : Fn Tryz.prog 98 [.ag [I m, I n, I w]] [.un] [B (headOkP m n w)] := by
 refine Fn_of Tryz.func98 rfl rfl (by simp -implicitDefEqProofs -dsimp) rfl ?_; simp only [Tryz.f98]
 simp -implicitDefEqProofs -dsimp
 repeat' (first | with_reducible intro _ | with_reducible apply And.intro | (refine chkOk ?_; kernel_rfl) | (refine wpcall_d (sIn) ?_; simp -implicitDefEqProofs -dsimp) | (refine wpcall_d (sWidthFor (by omega)) ?_; simp -implicitDefEqProofs -dsimp))
 all_goals simp_all [headOkP, isW]
 ·intro h1 h2
  split
  ·omega
  ·split
   ·omega
   ·omega
 iterate 4 ((repeat' split) <;> omega)
 rw [Bool.eq_iff_iff]; simp -implicitDefEqProofs -dsimp; omega
end Go.Proofs.YtlfblkekbcfjpaaGreatDoor
