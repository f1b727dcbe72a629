/- Part of a proof: contracts and plain laws. -/
import Derived.Test.YtlfblkekbcfjpaaGreatDoorZ22
set_option linter.unusedVariables false
set_option linter.unusedSimpArgs false
namespace Go.Proofs.YtlfblkekbcfjpaaGreatDoor
open Go Go.RowKit
set_option maxRecDepth 100000
set_option maxHeartbeats 8000000
def upP (q : Nat) (h : Int) (t : Bool) : Bool := t && (decide (0 < h) || (decide (h = 0) && decide (q % 2 = 1)))
theorem up_neg {a p s : Nat} {e : Int} (he : e = -(s : Int)) : roundE a p e = (scP (a * 2 ^ s) p).1 + if upP (scP (a * 2 ^ s) p).1 (scP (a * 2 ^ s) p).2.1 (scP (a * 2 ^ s) p).2.2 = true then 1 else 0 := by
 subst he
 unfold roundE
 rw [quE_neg, (reE_neg a p s).1, (reE_neg a p s).2]
 unfold scP upP
 simp only
 generalize a * 2 ^ s = A
 by_cases c1 : 2 * (A % p) < p
 ·rw [if_pos c1, if_pos c1, if_neg (by omega)]; simp +zeta
 ·rw [if_neg c1, if_neg c1]
  by_cases c2 : p < 2 * (A % p)
  ·rw [if_pos c2, if_pos (.inl c2)]; simp +zeta
  ·rw [if_neg c2]
   by_cases c3 : A / p % 2 = 1
   ·rw [if_pos (.inr ⟨by omega, c3⟩)]; simp +zeta [c3]
   ·rw [if_neg (by omega)]; simp +zeta [c3]
theorem up_pos {a p j m L T r : Nat} (hp : 0 < p) (hj : 1 ≤ j) (hm : m = a / p / 2 ^ j) (hL : L = a / p % 2 ^ j) (hT : 2 * T = 2 ^ j) (hr : r = a % p) {h : Int} {t : Bool}
  (hc : ((T < L ∨ (L = T ∧ 0 < r)) ∧ h = 1 ∧ t = true) ∨ ((L = T ∧ r = 0) ∧ h = 0 ∧ t = true) ∨ (L < T ∧ h = -1)) : roundE a p j = m + if upP m h t = true then 1 else 0 := by
 have hh := half_nat (L := L) (T := T) (show r < p by rw [hr]; exact Nat.mod_lt _ hp)
 unfold roundE
 rw [quE_nat, (reE_nat a p j).1, (reE_nat a p j).2, ← hm, ← hL, ← hT, ← hr]
 unfold upP
 have hT0 : 0 < T := by have : 0 < 2 ^ j := Nat.pow_pos (by decide); omega
 rcases hc with ⟨c, rfl, rfl⟩ | ⟨c, rfl, rfl⟩ | ⟨c, rfl⟩
 ·rw [if_pos (.inl (hh.1 c))]; simp +zeta
 ·have h2 := hh.2.1 c
  by_cases c3 : m % 2 = 1
  ·rw [if_pos (.inr ⟨h2, c3⟩)]; simp +zeta [c3]
  ·rw [if_neg (fun hc => hc.elim (fun h3 => by omega) (fun h3 => c3 h3.2))]; simp +zeta [c3]
 ·have h2 := hh.2.2 c
  rw [if_neg (fun hc => hc.elim (fun h3 => by omega) (fun h3 => by omega))]; simp +zeta
theorem sNearFlt {n x : Int} (hok : decOkP n x = true) : Fn Tryz.prog 76 [.ag [I n, I x]] [.un] [.ag [I (optF (nearP n x)).1.1, I (optF (nearP n x)).1.2], B (optF (nearP n x)).2] := by
 obtain ⟨hn0, hn1, hx0, hx1⟩ := decOk_b hok
 have hDec := sDecOk (n := n) (x := x) ⟨by omega, by omega⟩
 rw [hok] at hDec
 obtain ⟨k, hk⟩ : ∃ k : Nat, -x = k := ⟨(-x).toNat, by omega⟩
 obtain ⟨p, hp⟩ : ∃ p, p = 10 ^ k := ⟨_, rfl⟩
 obtain ⟨a, ha⟩ : ∃ a, a = n.natAbs := ⟨_, rfl⟩
 have hPow := sPow10 (k := k) (by omega)
 rw [← hp] at hPow
 have hp0 : 0 < p := by rw [hp]; exact Nat.pow_pos (by omega)
 have hp1 : p ≤ 10000000000000000 := by
  have : 10 ^ k ≤ 10 ^ 16 := Nat.pow_le_pow_right (by omega) (by omega)
  omega
 have hrr : ∀ e, leastE a p e → -16 ≤ e → e ≤ 50 → nearP n x = fltNewP (sgn n (roundE a p e)) e := fun e h h0 h1 => nearP_at ha (by rw [hp]; congr 1; omega) h h0 h1
 have ha1 : a < 100000000000000000 := by omega
 have fx : wrK .i64 (-x) = (k : Int) := by rw [wrap64_id _ (by omega)]; omega
 generalize hR : nearP n x = R
 rw [hR] at hrr
 obtain ⟨sg, hsg, hsg2⟩ : ∃ sg : Int, (if n < 0 then -1 else 1) = sg ∧ ∀ m : Nat, sg * (m : Int) = sgn n m := ⟨_, rfl, fun m => by unfold sgn; split <;> omega⟩
 have hsg3 : sg = 1 ∨ sg = -1 := by rw [← hsg]; split <;> omega
 clear hp hk hok
 obtain ⟨V, hV⟩ : ∃ V, V = a / p := ⟨_, rfl⟩
 have hV1 : V < 100000000000000000 := by rw [hV]; have := Nat.div_le_self a p; omega
 have f1 : (a : Int) / p = (V : Int) := by rw [hV]; rfl
 have f2 : wrK .i64 (V : Int) = V := wrap64_id _ (by omega)
 have f0 : ¬ (p : Int) = 0 := by omega
 have f00 : ¬ p = 0 := by omega
 refine Fn_ofW Tryz.func76 rfl rfl (by simp -implicitDefEqProofs -dsimp) rfl ?_; simp only [Tryz.f76]
 refine W_cutL (l := [_, _, _, _, _]) (fun _ : Unit => [(1, .blk [I n, I x]), (2, .blk [I 0, I 0]), (3, B false), (4, I a), (5, I sg)]) (fun _ => True) ?hb0 ?ha0
 case ha0 =>
  by_cases hneg : n < 0
  ·have fn : wrK .i64 (-n) = (a : Int) := by rw [wrap64_id _ (by omega)]; omega
   rw [if_pos hneg] at hsg; subst hsg
   simp -implicitDefEqProofs -dsimp [-head_L]
   refine wpcall_d hDec ?_; simp -implicitDefEqProofs -dsimp [-head_L, hneg, fn]
   refine At.mk () trivial ?_; simp -implicitDefEqProofs -dsimp
  ·have fn : n = (a : Int) := by omega
   rw [if_neg hneg] at hsg; subst hsg
   simp -implicitDefEqProofs -dsimp [-head_L]
   refine wpcall_d hDec ?_; simp -implicitDefEqProofs -dsimp [-head_L, hneg]
   refine At.mk () trivial ?_; simp -implicitDefEqProofs -dsimp [fn]
 intro _ _
 clear hDec
 refine W_cutL (l := [_, _, _, _]) (fun e : Int => [(2, .blk [I 0, I 0]), (3, B false), (4, I a), (5, I sg), (6, I p), (7, I e)]) (fun e => -16 ≤ e ∧ e ≤ 42 ∧ leastE a p e) ?hb ?ha
 case ha =>
  simp -implicitDefEqProofs -dsimp [-head_L, fx]
  refine wpcall_d hPow ?_; simp -implicitDefEqProofs -dsimp [-head_L]
  refine WL_loop (fun e : Nat => [(2, .blk [I 0, I 0]), (3, B false), (4, I a), (5, I sg), (6, I p), (7, I e)]) (fun e => 43 - e) (fun e => e ≤ 42 ∧ ∀ e', e' < e → 65536 * 2 ^ e' ≤ V) 0 ⟨by decide, fun e' h => by omega⟩ ?_ ?_
  ·simp -implicitDefEqProofs -dsimp
  ·rintro e ⟨he42, hes⟩
   obtain ⟨T, hT⟩ : ∃ T : Nat, T = 65536 * 2 ^ e := ⟨_, rfl⟩
   have hT1 : T ≤ 65536 * 4398046511104 := by
    have : 2 ^ e ≤ 2 ^ 42 := Nat.pow_le_pow_right (by omega) he42
    omega
   have fT : wrK .i64 (65536 * 2 ^ e) = (T : Int) := by rw [show (65536 : Int) * 2 ^ e = (T : Int) by rw [hT]; simp +zeta]; exact wrap64_id _ (by omega)
   have fm : min e 64 = e := by omega
   by_cases hc : T ≤ V
   ·have hc' : (T : Int) ≤ V := by omega
    have h42 := lt42 hT hc hV1 he42
    have hmore := lt_more hes hT hc
    have fe : wrK .i64 ((e : Int) + 1) = ((e + 1 : Nat) : Int) := by rw [wrap64_id _ (by omega)]; omega
    clear hT
    simp -implicitDefEqProofs -dsimp [-head_L, -endOk, f0, f00, f1, f2, fT, fm, hc', fe]
    refine ⟨by refine chkOk ?_; kernel_rfl, e + 1, ⟨h42, hmore⟩, by omega, ?_⟩
    simp -implicitDefEqProofs -dsimp
   ·have hc' : ¬ (T : Int) ≤ V := by omega
    by_cases he0 : e = 0
    ·subst he0
     have hV6 : V < 65536 := by rw [Nat.pow_zero, Nat.mul_one] at hT; omega
     have hq0 : quE a p 0 ≤ 65535 := quE_six hV hV6
     have fT0 : T = 65536 := by rw [hT]
     subst fT0
     have hc0 : ¬ (65536 : Int) ≤ V := hc'
     simp -implicitDefEqProofs -dsimp [-head_L, f0, f00, f1, f2, hc0]
     refine ⟨by refine chkOk ?_; kernel_rfl, ?_⟩
     refine WL_loop (fun e : Int => [(2, .blk [I 0, I 0]), (3, B false), (4, I a), (5, I sg), (6, I p), (7, I e)]) (fun e => (e + 16).toNat) (fun e => -16 ≤ e ∧ e ≤ 0 ∧ quE a p e ≤ 65535) 0 ⟨by decide, by decide, hq0⟩ ?_ ?_
     ·simp -implicitDefEqProofs -dsimp
     ·rintro e2 ⟨h2lo, h2hi, hq2⟩
      by_cases hc2 : -16 < e2
      ·obtain ⟨s, hs⟩ : ∃ s : Nat, 1 - e2 = s := ⟨(1 - e2).toNat, by omega⟩
       have hqe := less_one hp0 hs hq2
       have hsc := sScaled (a := a) (p := p) (s := s) hp0 hp1 (by omega) (by omega) (by omega)
       have fs : wrK .i64 (1 - e2) = (s : Int) := by rw [wrap64_id _ (by omega)]; exact hs
       have fe2 : wrK .i64 (e2 - 1) = e2 - 1 := wrap64_id _ (by omega)
       have hz : (scP (a * 2 ^ s) p).1 = a * 2 ^ s / p := rfl
       rw [hz] at hsc
       obtain ⟨q, hq⟩ : ∃ q, q = a * 2 ^ s / p := ⟨_, rfl⟩
       rw [← hq] at hqe hsc
       generalize scP (a * 2 ^ s) p = Z at hsc
       clear hq hz
       by_cases hq65 : 65535 < q
       ·have hq65' : (65535 : Int) < q := by omega
        simp -implicitDefEqProofs -dsimp [-head_L, hc2, fs]
        refine wpcall_d hsc ?_; simp -implicitDefEqProofs -dsimp [-head_L, hq65']
        refine At.mk e2 ⟨h2lo, by omega, leastE_neg hp0 hq2 (.inr (by rw [hqe.1]; exact hq65)) h2lo⟩ ?_; simp -implicitDefEqProofs -dsimp
       ·have hq65' : ¬ (65535 : Int) < q := by omega
        simp -implicitDefEqProofs -dsimp [-head_L, -endOk, hc2, fs]
        refine wpcall_d hsc ?_; simp -implicitDefEqProofs -dsimp [-head_L, -endOk, hq65', fe2]
        refine ⟨e2 - 1, ⟨by omega, by omega, by rw [hqe.1]; omega⟩, by omega, ?_⟩
        simp -implicitDefEqProofs -dsimp
      ·have he16 : e2 = -16 := by omega
       subst he16
       simp -implicitDefEqProofs -dsimp [-head_L]
       refine At.mk (-16) ⟨by decide, by decide, leastE_neg hp0 hq2 (.inl rfl) (by decide)⟩ ?_; simp -implicitDefEqProofs -dsimp
    ·have he0' : ¬ (e : Int) = 0 := by omega
     have hle : leastE a p (e : Int) := leastE_nat hp0 (by rw [← hV, ← hT]; omega) (fun e' h => by rw [← hV]; exact hes e' h) (by omega)
     clear hT
     simp -implicitDefEqProofs -dsimp [-head_L, f0, f00, f1, f2, fT, fm, hc', he0, he0']
     refine ⟨by refine chkOk ?_; kernel_rfl, ?_⟩
     refine At.mk (e : Int) ⟨by omega, by omega, hle⟩ ?_; simp -implicitDefEqProofs -dsimp
 rintro e2 ⟨h2lo, h2hi, hle⟩
 clear hPow
 refine W_cutL (l := [_, _, _, _]) (fun t : Nat × Int × Bool => [(2, .blk [I 0, I 0]), (3, B false), (5, I sg), (7, I e2), (11, I t.1), (12, I t.2.1), (13, B t.2.2)]) (fun t => t.1 ≤ 65535 ∧ roundE a p e2 = t.1 + if upP t.1 t.2.1 t.2.2 = true then 1 else 0) ?hb2 ?ha2
 case ha2 =>
  by_cases hlz : e2 ≤ 0
  ·obtain ⟨s, hs⟩ : ∃ s : Nat, -e2 = s := ⟨(-e2).toNat, by omega⟩
   have hes2 : e2 = -(s : Int) := by omega
   have hqe : a * 2 ^ s / p ≤ 65535 := by rw [← quE_neg, ← hes2]; exact hle.1
   have hsc := sScaled (a := a) (p := p) (s := s) hp0 hp1 (by omega) (by omega) (by omega)
   have hup := up_neg (a := a) (p := p) hes2
   have hz : (scP (a * 2 ^ s) p).1 ≤ 65535 := hqe
   have fs : wrK .i64 (-e2) = (s : Int) := by rw [wrap64_id _ (by omega)]; exact hs
   generalize scP (a * 2 ^ s) p = Z at hsc hup hz
   obtain ⟨q, h, t⟩ := Z
   simp only at hsc hup hz
   simp -implicitDefEqProofs -dsimp [-head_L, hlz, fs]
   refine wpcall_d hsc ?_; simp -implicitDefEqProofs -dsimp [-head_L]
   refine At.mk (q, h, t) ⟨hz, hup⟩ ?_; simp -implicitDefEqProofs -dsimp
  ·obtain ⟨j, rfl⟩ : ∃ j : Nat, e2 = j := ⟨e2.toNat, by omega⟩
   have hj1 : 1 ≤ j := by omega
   have hj64 : min j 64 = j := by omega
   obtain ⟨i, hi⟩ : ∃ i : Nat, (j : Int) - 1 = i := ⟨j - 1, by omega⟩
   have hji : j = i + 1 := by omega
   have fi : wrK .i64 ((j : Int) - 1) = (i : Int) := by rw [wrap64_id _ (by omega)]; exact hi
   have hi64 : min i 64 = i := by omega
   obtain ⟨m, hm⟩ : ∃ m : Nat, m = V / 2 ^ j := ⟨_, rfl⟩
   obtain ⟨M, hM⟩ : ∃ M : Nat, M = m * 2 ^ j := ⟨_, rfl⟩
   obtain ⟨L, hL⟩ : ∃ L : Nat, L = V % 2 ^ j := ⟨_, rfl⟩
   obtain ⟨T, hT⟩ : ∃ T : Nat, T = 2 ^ i := ⟨_, rfl⟩
   obtain ⟨r, hr⟩ : ∃ r : Nat, r = a % p := ⟨_, rfl⟩
   have hML : V = M + L := by rw [hM, hm, hL, Nat.mul_comm]; exact (Nat.div_add_mod V (2 ^ j)).symm
   have hT1 : T ≤ 4398046511104 := by
    have : 2 ^ i ≤ 2 ^ 42 := Nat.pow_le_pow_right (by omega) (by omega)
    omega
   have hT2 : 2 * T = 2 ^ j := by rw [hji, Nat.pow_succ, hT, Nat.mul_comm]
   have fM0 : (V : Int).fdiv (2 ^ j) = (m : Int) := by rw [Int.fdiv_eq_ediv_of_nonneg _ (Int.pow_nonneg (by decide)), hm]; simp +zeta
   have fM : wrK .i64 ((m : Int) * 2 ^ j) = (M : Int) := by rw [show (m : Int) * 2 ^ j = (M : Int) by rw [hM]; simp +zeta]; exact wrap64_id _ (by omega)
   have fL : wrK .i64 ((V : Int) - M) = (L : Int) := by rw [wrap64_id _ (by omega)]; omega
   have fT : wrK .i64 (2 ^ i) = (T : Int) := by rw [show (2 : Int) ^ i = (T : Int) by rw [hT]; simp +zeta]; exact wrap64_id _ (by omega)
   have fr : (a : Int) % p = (r : Int) := by rw [hr]; rfl
   have hmq : m ≤ 65535 := by have h9 := hle.1; rw [quE_nat, ← hV, ← hm] at h9; exact h9
   have hup := @up_pos a p j m L T r hp0 hj1 (by rw [hm, hV]) (by rw [hL, hV]) hT2 hr
   clear hm hM hL hT hr hML hT2
   have hj0 : ¬ j = 0 := by omega
   rcases Nat.lt_trichotomy T L with hc1 | hc1 | hc1
   ·have g1 : (T : Int) < L := by omega
    have g2 : (0 : Int) < L := by omega
    have g22 : 0 < L := by omega
    have hu := hup (h := 1) (t := true) (.inl ⟨.inl hc1, rfl, rfl⟩)
    simp -implicitDefEqProofs -dsimp [-head_L, hlz, hj0, f0, f00, f1, f2, fM0, fM, fL, fT, hj64, hi64, fi, fr, g1, g2, g22, hc1]
    refine At.mk ((m, (1 : Int), true) : Nat × Int × Bool) ⟨hmq, hu⟩ ?_; simp -implicitDefEqProofs -dsimp
   ·subst hc1
    rcases Nat.eq_zero_or_pos r with hr1 | hr1
    ·subst hr1
     have hu := hup (h := 0) (t := true) (.inr (.inl ⟨⟨rfl, rfl⟩, rfl, rfl⟩))
     have g3 : (0 : Int) < T := by
      rcases Nat.eq_zero_or_pos T with h9 | h9
      ·subst h9; exfalso; have : (2 : Int) ^ i = 0 := by
        have h8 : (0 : Int) ≤ 2 ^ i := Int.pow_nonneg (by decide)
        have h7 : (2 : Int) ^ i ≤ 4398046511104 := by
         have h6 : 2 ^ i ≤ 2 ^ 42 := Nat.pow_le_pow_right (by omega) (by omega)
         have h5 : (2 : Int) ^ i = ((2 ^ i : Nat) : Int) := by simp +zeta
         omega
        rw [wrap64_id _ (by omega)] at fT
        exact fT
       have h8 : (0 : Int) < 2 ^ i := Int.pow_pos (by decide)
       omega
      ·omega
     simp -implicitDefEqProofs -dsimp [-head_L, hlz, hj0, f0, f00, f1, f2, fM0, fM, fL, fT, hj64, hi64, fi, fr, g3, (show 0 < T by omega)]
     refine At.mk ((m, (0 : Int), true) : Nat × Int × Bool) ⟨hmq, hu⟩ ?_; simp -implicitDefEqProofs -dsimp
    ·have hu := hup (h := 1) (t := true) (.inl ⟨.inr ⟨rfl, hr1⟩, rfl, rfl⟩)
     have g3 : (0 : Int) < r := by omega
     by_cases hT0 : 0 < T
     ·simp -implicitDefEqProofs -dsimp [-head_L, hlz, hj0, f0, f00, f1, f2, fM0, fM, fL, fT, hj64, hi64, fi, fr, g3, hr1, hT0]
      refine At.mk ((m, (1 : Int), true) : Nat × Int × Bool) ⟨hmq, hu⟩ ?_; simp -implicitDefEqProofs -dsimp
     ·simp -implicitDefEqProofs -dsimp [-head_L, hlz, hj0, f0, f00, f1, f2, fM0, fM, fL, fT, hj64, hi64, fi, fr, g3, hr1, hT0]
      refine At.mk ((m, (1 : Int), true) : Nat × Int × Bool) ⟨hmq, hu⟩ ?_; simp -implicitDefEqProofs -dsimp
   ·have g1 : ¬ (T : Int) < L := by omega
    have g2 : ¬ (L : Int) = T := by omega
    have g22 : ¬ L = T := by omega
    have g11 : ¬ T < L := by omega
    by_cases hl0 : 0 < L
    ·have hu := hup (h := -1) (t := true) (.inr (.inr ⟨hc1, rfl⟩))
     simp -implicitDefEqProofs -dsimp [-head_L, hlz, hj0, f0, f00, f1, f2, fM0, fM, fL, fT, hj64, hi64, fi, fr, g1, g2, g11, g22, hl0]
     refine At.mk ((m, (-1 : Int), true) : Nat × Int × Bool) ⟨hmq, hu⟩ ?_; simp -implicitDefEqProofs -dsimp
    ·have hu := hup (h := -1) (t := decide (0 < r)) (.inr (.inr ⟨hc1, rfl⟩))
     simp -implicitDefEqProofs -dsimp [-head_L, hlz, hj0, f0, f00, f1, f2, fM0, fM, fL, fT, hj64, hi64, fi, fr, g1, g2, g11, g22, hl0]
     refine At.mk ((m, (-1 : Int), decide (0 < r)) : Nat × Int × Bool) ⟨hmq, hu⟩ ?_; simp -implicitDefEqProofs -dsimp
 rintro ⟨q, h, t⟩ ⟨hq, hround⟩
 simp only at hq hround ⊢
 refine W_cutL (l := [_]) (fun m : Nat => [(2, .blk [I 0, I 0]), (3, B false), (5, I sg), (7, I e2), (11, I m)]) (fun m => roundE a p e2 = m) ?hb3 ?ha3
 case ha3 =>
  have fq : wrK .i64 ((q : Int) + 1) = ((q + 1 : Nat) : Int) := by rw [wrap64_id _ (by omega)]; omega
  obtain ⟨q1, hq1⟩ : ∃ q1, q1 = q + 1 := ⟨_, rfl⟩
  rw [← hq1] at fq
  cases t with
  | false =>
   simp -implicitDefEqProofs -dsimp [upP] at hround
   simp -implicitDefEqProofs -dsimp [-head_L]
   refine At.mk q hround ?_; simp -implicitDefEqProofs -dsimp
  | true =>
   by_cases c1 : 0 < h
   ·simp -implicitDefEqProofs -dsimp [upP, c1] at hround
    simp -implicitDefEqProofs -dsimp [-head_L, c1, fq]
    refine At.mk q1 (by rw [hround, hq1]) ?_; simp -implicitDefEqProofs -dsimp
   ·by_cases c2 : h = 0
    ·subst c2
     by_cases c3 : q % 2 = 1
     ·have c3' : (q : Int) % 2 = 1 := by omega
      simp -implicitDefEqProofs -dsimp [upP, c3] at hround
      simp -implicitDefEqProofs -dsimp [-head_L, c3', fq]
      refine At.mk q1 (by rw [hround, hq1]) ?_; simp -implicitDefEqProofs -dsimp
     ·have c3' : ¬ (q : Int) % 2 = 1 := by omega
      simp -implicitDefEqProofs -dsimp [upP, c3] at hround
      simp -implicitDefEqProofs -dsimp [-head_L, c3']
      refine At.mk q hround ?_; simp -implicitDefEqProofs -dsimp
    ·simp -implicitDefEqProofs -dsimp [upP, c1, c2] at hround
     simp -implicitDefEqProofs -dsimp [-head_L, c1, c2]
     refine At.mk q hround ?_; simp -implicitDefEqProofs -dsimp
 intro rm hrm
 have hr := hrr e2 hle h2lo (by omega)
 rw [hrm] at hr
 obtain ⟨t1, t2, t3, t4⟩ := tailR hp0 hle h2lo hrm hr
 clear hle hrr hround hrm
 refine wpc_sound _ _ _ ?_
 by_cases h6 : rm = 65536
 ·subst h6
  have t2 := t2 rfl
  have fe : wrK .i64 (e2 + 1) = e2 + 1 := wrap64_id _ (by omega)
  by_cases h30 : 30 < e2 + 1
  ·have hn := t3 rfl h30
   subst hn
   simp -implicitDefEqProofs -dsimp [fe, h30, optF]
  ·have hF := sFltNew (m := sgn n 32768) (e := e2 + 1) (by rw [sgn_abs]; decide)
   rw [show fltNewQ (sgn n 32768) (e2 + 1) = R by unfold fltNewQ; rw [if_pos (by omega)]; exact t2.symm] at hF
   have fs : wrK .i64 (sg * 32768) = sgn n 32768 := by rw [← hsg2 32768]; rw [wrap64_id _ (by omega)]; rfl
   rcases hR2 : R with _ | ⟨m', e'⟩
   ·rw [hR2] at hF; simp only [optF] at hF
    simp -implicitDefEqProofs -dsimp [fe, h30, fs]
    refine wpcall_d hF ?_; simp -implicitDefEqProofs -dsimp [optF]
   ·rw [hR2] at hF; simp only [optF] at hF
    simp -implicitDefEqProofs -dsimp [fe, h30, fs]
    refine wpcall_d hF ?_; simp -implicitDefEqProofs -dsimp [optF]
 ·have h6' : ¬ (rm : Int) = 65536 := by omega
  by_cases h30 : 30 < e2
  ·have hn := t4 h6 h30
   subst hn
   simp -implicitDefEqProofs -dsimp [h6, h6', h30, optF]
  ·have hF := sFltNew (m := sgn n rm) (e := e2) (by rw [sgn_abs]; exact t1)
   rw [show fltNewQ (sgn n rm) e2 = R by unfold fltNewQ; rw [if_pos (by omega)]; exact hr.symm] at hF
   have fs : wrK .i64 (sg * (rm : Int)) = sgn n rm := by rw [hsg2 rm]; exact wrap64_id _ (by have := sgn_abs n rm; omega)
   rcases hR2 : R with _ | ⟨m', e'⟩
   ·rw [hR2] at hF; simp only [optF] at hF
    simp -implicitDefEqProofs -dsimp [h6, h6', h30, fs]
    refine wpcall_d hF ?_; simp -implicitDefEqProofs -dsimp [optF]
   ·rw [hR2] at hF; simp only [optF] at hF
    simp -implicitDefEqProofs -dsimp [h6, h6', h30, fs]
    refine wpcall_d hF ?_; simp -implicitDefEqProofs -dsimp [optF]
end Go.Proofs.YtlfblkekbcfjpaaGreatDoor
namespace Go.Proofs.YtlfblkekbcfjpaaGreatDoor
open Go
set_option maxRecDepth 100000
set_option maxHeartbeats 2000000
theorem byN_lt_len {l : List UInt8} {a : Nat} (h : byN l a ≠ 0) : a < l.length := by
 rcases Nat.lt_or_ge a l.length with h1 | h1
 ·exact h1
 ·exact absurd (byN_none h1) h
theorem byN_at {l : List UInt8} {a : Nat} (h : a < l.length) : (l[a].toNat : Int) = byN l a := by
 rw [byN_some (List.getElem?_eq_getElem h)]
theorem wholeP_ok {w : List UInt8} (hw : w.all isDg = true) (h : w ≠ []) : (wholeP w).all isDg = true ∧ wholeP w ≠ [] ∧ wholeP w = w.take (wholeP w).length ∧ (wholeP w).length ≤ w.length := by
 unfold wholeP
 split
 ·cases w with
  | nil => exact absurd rfl h
  | cons x t => rename_i h1; simp at h1; subst h1; simp -implicitDefEqProofs -dsimp; decide
 ·exact ⟨hw, h, by simp, by omega⟩
theorem sReadNumber {l : List UInt8} {a : Nat} (hl : l.length ≤ 1099511627776) (ha : a ≤ l.length) : Fn Tryz.prog 90 [T l, I a] [.un, .un] [I (numP l a).1, I (numP l a).2.1, I (numP l a).2.2.1, I (numP l a).2.2.2] := by
 generalize hR : numP l a = R
 refine Fn_ofW Tryz.func90 rfl rfl (by simp -implicitDefEqProofs -dsimp) rfl ?_; simp only [Tryz.f90]
 refine W_cutL (l := [_, _, _, _]) (fun p : Nat × Bool => [(0, T l), (1, I p.1), (8, I (if p.2 then -1 else 1))]) (fun p => p.1 ≤ l.length ∧ num1 l p.2 p.1 = R) ?hb0 ?ha0
 case ha0 =>
  unfold numP at hR
  have h1 : ¬ (a : Int) < 0 := by omega
  have h2 : ¬ (l.length : Int) < a := by omega
  by_cases hlt : a < l.length
  ·have h3 : (a : Int) < l.length := by omega
   have h4 := byN_at hlt
   have h5 : wrK .i64 ((a : Int) + 1) = a + 1 := wrap64_id _ (by omega)
   by_cases hm : byN l a = 45
   ·rw [if_pos hm] at hR
    simp -implicitDefEqProofs -dsimp [h1, h2, h3, hlt, h4, hm, h5, ha]
    refine At.mk (a + 1, true) ⟨by omega, hR⟩ ?_; simp -implicitDefEqProofs -dsimp
   ·rw [if_neg hm] at hR
    have hm2 : ¬ (byN l a : Int) = 45 := by omega
    simp -implicitDefEqProofs -dsimp [h1, h2, h3, hlt, h4, hm, hm2, h5, ha]
    refine At.mk (a, false) ⟨by omega, hR⟩ ?_; simp -implicitDefEqProofs -dsimp
  ·have h3 : ¬ (a : Int) < l.length := by omega
   rw [if_neg (by rw [byN_none (by omega)]; decide)] at hR
   simp -implicitDefEqProofs -dsimp [h1, h2, h3, hlt, ha]
   refine At.mk (a, false) ⟨by omega, hR⟩ ?_; simp -implicitDefEqProofs -dsimp
 rintro ⟨a1, neg⟩ ⟨ha1, hR⟩
 simp only at ha1 hR ⊢
 clear ha
 have hd := s4Digits hl ha1
 have hdl := dgs_len l a1
 have hda := dgs_all l a1
 have hdt := dgs_take l a1
 refine W_cutL (l := [_, _, _, _, _]) (fun p : List UInt8 => [(0, T l), (1, I ((a1 + p.length : Nat) : Int)), (8, I (if neg then -1 else 1)), (10, T p)]) (fun p => p.all isDg = true ∧ a1 + p.length ≤ l.length ∧ num2 l neg p (a1 + p.length) = R) ?hb1 ?ha1
 case ha1 =>
  unfold num1 at hR
  generalize dgs l a1 = w at *
  have h5 : wrK .i64 ((a1 : Int) + 1) = a1 + 1 := wrap64_id _ (by omega)
  by_cases hw : w = []
  ·rw [if_pos hw] at hR; subst hw hR
   simp -implicitDefEqProofs -dsimp [ha1]; repeat' (first | with_reducible intro _ | with_reducible apply And.intro | (refine chkOk ?_; kernel_rfl) | (refine wpcall_d (hd) ?_; simp -implicitDefEqProofs -dsimp [ha1]))
  ·rw [if_neg hw] at hR
   have hwl : 0 < w.length := by cases w <;> simp at hw ⊢
   have h1 : ¬ (a1 : Int) + w.length = a1 := by omega
   have h2 : (a1 : Int) < l.length := by omega
   have h3 : a1 < l.length := by omega
   have h4 := byN_at h3
   obtain ⟨k1, k2, k3, k4⟩ := wholeP_ok hda hw
   have hb : byN l a1 = (w.headD 0).toNat := by
    rw [← hdt]; unfold byN
    rw [List.getD_eq_getElem?_getD, List.headD_eq_head?_getD, List.head?_take, List.head?_drop]
    simp -implicitDefEqProofs -dsimp [hw]
   by_cases h48 : byN l a1 = 48
   ·have hwp : wholeP w = [48] := by unfold wholeP; rw [if_pos (by rw [← UInt8.toNat_inj, ← hb, h48]; rfl)]
    have hsl : (l.take (a1 + 1)).drop a1 = [48] := by
     have e : (w.take 1) = [48] := by rw [← hwp, k3, hwp]; rfl
     rw [List.drop_take, show a1 + 1 - a1 = 1 by omega, ← e, ← hdt, List.take_take]; congr 1; omega
    have h6 : (a1 : Int) ≤ a1 + 1 := by omega
    have h7 : (a1 : Int) + 1 ≤ l.length := by omega
    have h8 : ((a1 : Int) + 1).toNat = a1 + 1 := by omega
    rw [hwp] at hR
    simp -implicitDefEqProofs -dsimp [ha1, h1, h2, h3, h4, h48, h5, hw, hwl, h6, h7, h8, hsl]; repeat' (first | with_reducible intro _ | with_reducible apply And.intro | (refine chkOk ?_; kernel_rfl) | (refine wpcall_d (hd) ?_; simp -implicitDefEqProofs -dsimp [ha1, h1, h2, h3, h4, h48, h5, hw, hwl, h6, h7, h8, hsl]))
    refine At.mk [48] ⟨by decide, by simp -implicitDefEqProofs -dsimp; omega, hR⟩ ?_
    simp -implicitDefEqProofs -dsimp
   ·have hwp : wholeP w = w := by unfold wholeP; rw [if_neg (fun h => h48 (by rw [hb, h]; rfl))]
    have hsl : (l.take (a1 + w.length)).drop a1 = w := by rw [List.drop_take, show a1 + w.length - a1 = w.length by omega, hdt]
    have h6 : (a1 : Int) ≤ a1 + w.length := by omega
    have h7 : (a1 : Int) + w.length ≤ l.length := by omega
    have h8 : ((a1 : Int) + w.length).toNat = a1 + w.length := by omega
    have h49 : ¬ (byN l a1 : Int) = 48 := by omega
    rw [hwp] at hR
    simp -implicitDefEqProofs -dsimp [ha1, h1, h2, h3, h4, h49, h5, hw, hwl, h6, h7, h8, hsl]; repeat' (first | with_reducible intro _ | with_reducible apply And.intro | (refine chkOk ?_; kernel_rfl) | (refine wpcall_d (hd) ?_; simp -implicitDefEqProofs -dsimp [ha1, h1, h2, h3, h4, h49, h5, hw, hwl, h6, h7, h8, hsl]))
    refine At.mk w ⟨hda, by omega, hR⟩ ?_
    simp -implicitDefEqProofs -dsimp
 rintro w ⟨hw, ha2, hR⟩
 clear hd hdl hda hdt
 obtain ⟨a2, ha2e⟩ : ∃ a2, a1 + w.length = a2 := ⟨_, rfl⟩
 rw [ha2e] at hR ha2 ⊢
 have hwl : w.length ≤ a2 := by omega
 clear ha2e ha1
 have hd := fun h => s4Digits (a := a2 + 1) hl h
 have hdl := dgs_len l (a2 + 1)
 have hda := dgs_all l (a2 + 1)
 have hdt := dgs_take l (a2 + 1)
 refine W_cutL (l := [_, _]) (fun p : List UInt8 × Nat => [(0, T l), (1, I p.2), (8, I (if neg then -1 else 1)), (10, T (w ++ p.1)), (11, I p.1.length)]) (fun p => p.1.all isDg = true ∧ p.2 ≤ l.length ∧ w.length + p.1.length ≤ p.2 ∧ num3 l neg w p.1 p.2 = R) ?hb2 ?ha2
 case ha2 =>
  unfold num2 at hR
  by_cases hlt : a2 < l.length
  ·have h3 : (a2 : Int) < l.length := by omega
   have h4 := byN_at hlt
   have h5 : wrK .i64 ((a2 : Int) + 1) = a2 + 1 := wrap64_id _ (by omega)
   have hd := hd (by omega)
   simp only [Int.natCast_add, Int.cast_ofNat_Int] at hd
   by_cases hm : byN l a2 = 46
   ·rw [if_pos hm] at hR
    generalize dgs l (a2 + 1) = f at *
    by_cases hf : f = []
    ·rw [if_pos hf] at hR; subst hf hR
     simp -implicitDefEqProofs -dsimp [h3, hlt, h4, hm, h5]; repeat' (first | with_reducible intro _ | with_reducible apply And.intro | (refine chkOk ?_; kernel_rfl) | (refine wpcall_d (hd) ?_; simp -implicitDefEqProofs -dsimp [h3, hlt, h4, hm, h5]))
    ·rw [if_neg hf] at hR
     have h1 : ¬ (a2 : Int) + 1 + f.length = a2 + 1 := by cases f <;> simp at hf ⊢; omega
     have hsl : (l.take (a2 + 1 + f.length)).drop (a2 + 1) = f := by rw [List.drop_take, show a2 + 1 + f.length - (a2 + 1) = f.length by omega, hdt]
     have h6 : (a2 : Int) + 1 ≤ a2 + 1 + f.length := by omega
     have h7 : (a2 : Int) + 1 + f.length ≤ l.length := by omega
     have h8 : ((a2 : Int) + 1).toNat = a2 + 1 := by omega
     have h9 : ((a2 : Int) + 1 + f.length).toNat = a2 + 1 + f.length := by omega
     have h10 : wrK .i64 ((a2 : Int) + 1 + f.length - a2) = 1 + f.length := by rw [wrap64_id _ (by omega)]; omega
     have h11 : wrK .i64 (1 + (f.length : Int) - 1) = f.length := by rw [wrap64_id _ (by omega)]; omega
     have h12 : (0 : Int) ≤ a2 + 1 := by omega
     have h13 : w.length + f.length ≤ 9223372036854775807 := by omega
     simp -implicitDefEqProofs -dsimp [h3, hlt, h4, hm, h5, h1, h6, h7, h8, h9, hsl, h10, h11, h12, h13]; repeat' (first | with_reducible intro _ | with_reducible apply And.intro | (refine chkOk ?_; kernel_rfl) | (refine wpcall_d (hd) ?_; simp -implicitDefEqProofs -dsimp [h3, hlt, h4, hm, h5, h1, h6, h7, h8, h9, hsl, h10, h11, h12, h13]))
     refine At.mk (f, a2 + 1 + f.length) ⟨hda, by simp only; omega, by simp only; omega, hR⟩ ?_
     simp -implicitDefEqProofs -dsimp
   ·rw [if_neg hm] at hR
    have hm2 : ¬ (byN l a2 : Int) = 46 := by omega
    simp -implicitDefEqProofs -dsimp [h3, hlt, h4, hm, hm2, h5]
    refine At.mk ([], a2) ⟨rfl, ha2, by simpa using hwl, hR⟩ ?_
    simp -implicitDefEqProofs -dsimp
  ·have h3 : ¬ (a2 : Int) < l.length := by omega
   rw [if_neg (by rw [byN_none (by omega)]; decide)] at hR
   simp -implicitDefEqProofs -dsimp [h3, hlt]
   refine At.mk ([], a2) ⟨rfl, ha2, by simpa using hwl, hR⟩ ?_
   simp -implicitDefEqProofs -dsimp
 rintro ⟨f, a3⟩ ⟨hf, ha3, hfl, hR⟩
 simp only at hf ha3 hfl hR ⊢
 clear hd hdl hda hdt
 refine W_cutL (l := [_, _, _]) (fun p : List UInt8 × Bool × Nat => [(0, T l), (1, I p.2.2), (8, I (if neg then -1 else 1)), (10, T (w ++ f)), (11, I f.length), (13, I (if p.1.length ≤ 3 then sgI p.2.1 (valD p.1) else 0)), (14, B (decide (p.1.length ≤ 3)))]) (fun p => p.1.all isDg = true ∧ p.2.2 ≤ l.length ∧ num4 neg w f p.2.1 p.1 p.2.2 = R) ?hb3 ?ha3
 case ha3 =>
  unfold num3 at hR
  by_cases hlt : a3 < l.length
  ·have h3 : (a3 : Int) < l.length := by omega
   have h4 := byN_at hlt
   have h5 : wrK .i64 ((a3 : Int) + 1) = a3 + 1 := wrap64_id _ (by omega)
   have h6 : wrK .i64 ((a3 : Int) + 1 + 1) = a3 + 2 := by rw [wrap64_id _ (by omega)]; omega
   by_cases hE : byN l a3 = 101 ∨ byN l a3 = 69
   ·rw [if_pos hE] at hR
    by_cases hn : a3 + 1 < l.length
    ·have n3 : (a3 : Int) + 1 < l.length := by omega
     have n4 := byN_at hn
     have n5 : ((a3 : Int) + 1).toNat = a3 + 1 := by omega
     have n6 : (0 : Int) ≤ a3 + 1 := by omega
     by_cases hS : byN l (a3 + 1) = 43 ∨ byN l (a3 + 1) = 45
     ·rw [if_pos hS] at hR
      have hd := s4Digits (a := a3 + 2) hl (by omega)
      have hdl := dgs_len l (a3 + 2)
      have hda := dgs_all l (a3 + 2)
      have hdt := dgs_take l (a3 + 2)
      simp only [Int.natCast_add, Int.cast_ofNat_Int] at hd
      generalize dgs l (a3 + 2) = e at *
      by_cases he : e = []
      ·rw [if_pos he] at hR; subst he hR
       rcases hE with hE | hE <;> rcases hS with hS | hS <;> (simp -implicitDefEqProofs -dsimp [h3, hlt, h4, hE, n3, hn, n4, n5, n6, hS, h5, h6]; repeat' (first | with_reducible intro _ | with_reducible apply And.intro | (refine chkOk ?_; kernel_rfl) | (refine wpcall_d (hd) ?_; simp -implicitDefEqProofs -dsimp [h3, hlt, h4, hE, n3, hn, n4, n5, n6, hS, h5, h6])))
      ·rw [if_neg he] at hR
       have q1 : ¬ (a3 : Int) + 2 + e.length = a3 + 2 := by cases e <;> simp at he ⊢; omega
       have hsl : (l.take (a3 + 2 + e.length)).drop (a3 + 2) = e := by rw [List.drop_take, show a3 + 2 + e.length - (a3 + 2) = e.length by omega, hdt]
       have q2 : (a3 : Int) + 2 ≤ a3 + 2 + e.length := by omega
       have q3 : (a3 : Int) + 2 + e.length ≤ l.length := by omega
       have q4 : ((a3 : Int) + 2).toNat = a3 + 2 := by omega
       have q5 : ((a3 : Int) + 2 + e.length).toNat = a3 + 2 + e.length := by omega
       have q6 : wrK .i64 ((a3 : Int) + 2 + e.length - (a3 + 2)) = e.length := by rw [wrap64_id _ (by omega)]; omega
       have q7 : (0 : Int) ≤ a3 + 2 := by omega
       have hv := s4Value (m := 3) hda (by omega) (by omega)
       have hdw := (List.dropWhile_sublist (· == 48) (l := e)).length_le
       by_cases he3 : e.length ≤ 3
       ·have hE3 : valD e < 1000 := Nat.lt_of_lt_of_le (valD_lt hda) (Nat.pow_le_pow_right (by omega) he3)
        rw [if_pos (by omega), decide_eq_true (by omega)] at hv
        have q8 : wrK .i64 (-(valD e : Int)) = -valD e := wrap64_id _ (by omega)
        have q9 : (e.length : Int) ≤ 3 := by omega
        rcases hE with hE | hE <;> rcases hS with hS | hS <;> (simp -implicitDefEqProofs -dsimp [h3, hlt, h4, hE, n3, hn, n4, n5, n6, hS, h5, h6, q1, q2, q3, q4, q5, q6, q7, q8, q9, hsl, he3]; repeat' (first | with_reducible intro _ | with_reducible apply And.intro | (refine chkOk ?_; kernel_rfl) | (refine wpcall_d (hd) ?_; simp -implicitDefEqProofs -dsimp [h3, hlt, h4, hE, n3, hn, n4, n5, n6, hS, h5, h6, q1, q2, q3, q4, q5, q6, q7, q8, q9, hsl, he3]) | (refine wpcall_d (hv) ?_; simp -implicitDefEqProofs -dsimp [h3, hlt, h4, hE, n3, hn, n4, n5, n6, hS, h5, h6, q1, q2, q3, q4, q5, q6, q7, q8, q9, hsl, he3])))
        all_goals
         rw [hS] at hR
         refine At.mk (e, _, a3 + 2 + e.length) ⟨hda, by simp only; omega, hR⟩ ?_
         simp -implicitDefEqProofs -dsimp [he3, sgI]
       ·have q9 : ¬ (e.length : Int) ≤ 3 := by omega
        rcases hE with hE | hE <;> rcases hS with hS | hS <;> (simp -implicitDefEqProofs -dsimp [h3, hlt, h4, hE, n3, hn, n4, n5, n6, hS, h5, h6, q1, q2, q3, q4, q5, q6, q7, q9, hsl, he3]; repeat' (first | with_reducible intro _ | with_reducible apply And.intro | (refine chkOk ?_; kernel_rfl) | (refine wpcall_d (hd) ?_; simp -implicitDefEqProofs -dsimp [h3, hlt, h4, hE, n3, hn, n4, n5, n6, hS, h5, h6, q1, q2, q3, q4, q5, q6, q7, q9, hsl, he3]) | (refine wpcall_d (hv) ?_; simp -implicitDefEqProofs -dsimp [h3, hlt, h4, hE, n3, hn, n4, n5, n6, hS, h5, h6, q1, q2, q3, q4, q5, q6, q7, q9, hsl, he3])))
        all_goals
         rw [hS] at hR
         refine At.mk (e, _, a3 + 2 + e.length) ⟨hda, by simp only; omega, hR⟩ ?_
         simp -implicitDefEqProofs -dsimp [he3, sgI]
     ·rw [if_neg hS] at hR
      have s1 : ¬ (byN l (a3 + 1) : Int) = 43 := by omega
      have s2 : ¬ (byN l (a3 + 1) : Int) = 45 := by omega
      have hd := s4Digits (a := a3 + 1) hl (by omega)
      have hdl := dgs_len l (a3 + 1)
      have hda := dgs_all l (a3 + 1)
      have hdt := dgs_take l (a3 + 1)
      simp only [Int.natCast_add, Int.cast_ofNat_Int] at hd
      generalize dgs l (a3 + 1) = e at *
      by_cases he : e = []
      ·rw [if_pos he] at hR; subst he hR
       rcases hE with hE | hE <;> (simp -implicitDefEqProofs -dsimp [h3, hlt, h4, hE, n3, hn, n4, n5, n6, s1, s2, h5, h6]; repeat' (first | with_reducible intro _ | with_reducible apply And.intro | (refine chkOk ?_; kernel_rfl) | (refine wpcall_d (hd) ?_; simp -implicitDefEqProofs -dsimp [h3, hlt, h4, hE, n3, hn, n4, n5, n6, s1, s2, h5, h6])))
      ·rw [if_neg he] at hR
       have q1 : ¬ (a3 : Int) + 1 + e.length = a3 + 1 := by cases e <;> simp at he ⊢; omega
       have hsl : (l.take (a3 + 1 + e.length)).drop (a3 + 1) = e := by rw [List.drop_take, show a3 + 1 + e.length - (a3 + 1) = e.length by omega, hdt]
       have q2 : (a3 : Int) + 1 ≤ a3 + 1 + e.length := by omega
       have q3 : (a3 : Int) + 1 + e.length ≤ l.length := by omega
       have q5 : ((a3 : Int) + 1 + e.length).toNat = a3 + 1 + e.length := by omega
       have q6 : wrK .i64 ((a3 : Int) + 1 + e.length - (a3 + 1)) = e.length := by rw [wrap64_id _ (by omega)]; omega
       have hv := s4Value (m := 3) hda (by omega) (by omega)
       have hdw := (List.dropWhile_sublist (· == 48) (l := e)).length_le
       by_cases he3 : e.length ≤ 3
       ·rw [if_pos (by omega), decide_eq_true (by omega)] at hv
        have q9 : (e.length : Int) ≤ 3 := by omega
        rcases hE with hE | hE <;> (simp -implicitDefEqProofs -dsimp [h3, hlt, h4, hE, n3, hn, n4, n5, n6, s1, s2, h5, h6, q1, q2, q3, q5, q6, q9, hsl, he3]; repeat' (first | with_reducible intro _ | with_reducible apply And.intro | (refine chkOk ?_; kernel_rfl) | (refine wpcall_d (hd) ?_; simp -implicitDefEqProofs -dsimp [h3, hlt, h4, hE, n3, hn, n4, n5, n6, s1, s2, h5, h6, q1, q2, q3, q5, q6, q9, hsl, he3]) | (refine wpcall_d (hv) ?_; simp -implicitDefEqProofs -dsimp [h3, hlt, h4, hE, n3, hn, n4, n5, n6, s1, s2, h5, h6, q1, q2, q3, q5, q6, q9, hsl, he3])))
        all_goals
         refine At.mk (e, false, a3 + 1 + e.length) ⟨hda, by simp only; omega, hR⟩ ?_
         simp -implicitDefEqProofs -dsimp [he3, sgI]
       ·have q9 : ¬ (e.length : Int) ≤ 3 := by omega
        rcases hE with hE | hE <;> (simp -implicitDefEqProofs -dsimp [h3, hlt, h4, hE, n3, hn, n4, n5, n6, s1, s2, h5, h6, q1, q2, q3, q5, q6, q9, hsl, he3]; repeat' (first | with_reducible intro _ | with_reducible apply And.intro | (refine chkOk ?_; kernel_rfl) | (refine wpcall_d (hd) ?_; simp -implicitDefEqProofs -dsimp [h3, hlt, h4, hE, n3, hn, n4, n5, n6, s1, s2, h5, h6, q1, q2, q3, q5, q6, q9, hsl, he3]) | (refine wpcall_d (hv) ?_; simp -implicitDefEqProofs -dsimp [h3, hlt, h4, hE, n3, hn, n4, n5, n6, s1, s2, h5, h6, q1, q2, q3, q5, q6, q9, hsl, he3])))
        all_goals
         refine At.mk (e, false, a3 + 1 + e.length) ⟨hda, by simp only; omega, hR⟩ ?_
         simp -implicitDefEqProofs -dsimp [he3, sgI]
    ·have n3 : ¬ (a3 : Int) + 1 < l.length := by omega
     have n0 : byN l (a3 + 1) = 0 := byN_none (by omega)
     have he : dgs l (a3 + 1) = [] := dgs_no fun x hx => by rw [List.getElem?_eq_none (by omega)] at hx; cases hx
     have hd := s4Digits (a := a3 + 1) hl (by omega)
     simp only [Int.natCast_add, Int.cast_ofNat_Int] at hd
     rw [if_neg (by omega), if_pos he] at hR; subst hR
     rw [he] at hd
     rcases hE with hE | hE <;> (simp -implicitDefEqProofs -dsimp [h3, hlt, h4, hE, n3, hn, h5]; repeat' (first | with_reducible intro _ | with_reducible apply And.intro | (refine chkOk ?_; kernel_rfl) | (refine wpcall_d (hd) ?_; simp -implicitDefEqProofs -dsimp [h3, hlt, h4, hE, n3, hn, h5])))
   ·rw [if_neg hE] at hR
    have m1 : ¬ (byN l a3 : Int) = 101 := by omega
    have m2 : ¬ (byN l a3 : Int) = 69 := by omega
    simp -implicitDefEqProofs -dsimp [h3, hlt, h4, m1, m2]
    refine At.mk ([], false, a3) ⟨rfl, ha3, hR⟩ ?_
    simp -implicitDefEqProofs -dsimp [sgI, valD, valFrom]
  ·have h3 : ¬ (a3 : Int) < l.length := by omega
   rw [if_neg (by rw [byN_none (by omega)]; decide)] at hR
   simp -implicitDefEqProofs -dsimp [h3, hlt]
   refine At.mk ([], false, a3) ⟨rfl, ha3, hR⟩ ?_
   simp -implicitDefEqProofs -dsimp [sgI, valD, valFrom]
 rintro ⟨e, s, a5⟩ ⟨he, ha5, hR⟩
 simp only at he ha5 hR ⊢
 refine wpc_sound _ _ _ ?_
 have hwf : (w ++ f).all isDg = true := by rw [List.all_append, hw, hf]; rfl
 have hv := s4Value (m := 17) hwf (by omega) (by simp -implicitDefEqProofs -dsimp; omega)
 have hlt := valD_lt (dw_all (p := (· == 48)) hwf)
 rw [valD_dw] at hlt
 unfold num4 at hR
 generalize ((w ++ f).dropWhile (· == 48)).length = D at *
 generalize valD (w ++ f) = N at *
 have hf2 : f.length ≤ 1099511627776 := by omega
 by_cases hD : D ≤ 17
 ·have hN : N < 100000000000000000 := Nat.lt_of_lt_of_le hlt (Nat.pow_le_pow_right (by omega) hD)
  rw [if_pos hD, decide_eq_true hD] at hv
  by_cases he3 : e.length ≤ 3
  ·have hE := valD_lt he
   have hE2 : valD e < 1000 := Nat.lt_of_lt_of_le hE (Nat.pow_le_pow_right (by omega) he3)
   rw [if_neg (by omega)] at hR; subst hR
   have e1 : wrK .i64 ((if neg then -1 else 1) * (N : Int)) = sgI neg N := by rw [wrap64_id _ (by cases neg <;> simp -implicitDefEqProofs -dsimp <;> omega)]; cases neg <;> simp -implicitDefEqProofs -dsimp [sgI]
   have e2 : wrK .i64 (sgI s (valD e) - f.length) = sgI s (valD e) - f.length := wrap64_id _ (by unfold sgI; split <;> omega)
   simp -implicitDefEqProofs -dsimp [he3]
   repeat' (first | with_reducible intro _ | with_reducible apply And.intro | (refine chkOk ?_; kernel_rfl) | (refine wpcall_d (hv) ?_; simp -implicitDefEqProofs -dsimp [he3, e1, e2]))
  ·rw [if_pos (by omega)] at hR; subst hR
   simp -implicitDefEqProofs -dsimp [he3]
   repeat' (first | with_reducible intro _ | with_reducible apply And.intro | (refine chkOk ?_; kernel_rfl) | (refine wpcall_d (hv) ?_; simp -implicitDefEqProofs -dsimp [he3]))
 ·rw [if_neg hD, decide_eq_false hD] at hv
  rw [if_pos (by omega)] at hR; subst hR
  simp -implicitDefEqProofs -dsimp; repeat' (first | with_reducible intro _ | with_reducible apply And.intro | (refine chkOk ?_; kernel_rfl) | (refine wpcall_d (hv) ?_; simp -implicitDefEqProofs -dsimp))
end Go.Proofs.YtlfblkekbcfjpaaGreatDoor
