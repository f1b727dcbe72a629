/- Part of a proof: contracts and plain laws. -/
import Derived.Test.YtlfblkekbcfjpaaGreatDoorZ21
set_option linter.unusedVariables false
set_option linter.unusedSimpArgs false
namespace Go.Proofs.YtlfblkekbcfjpaaGreatDoor
open Go Go.RowKit
set_option maxRecDepth 100000
set_option maxHeartbeats 8000000
theorem sq_quE {a p D : Nat} {e : Int} {un : Nat} (hD : D = denE p e) (hun : un = (-e).toNat) (hD0 : 0 < D) : ((sqP (a * 2 ^ un) D).1 ≤ 65535 ↔ quE a p e ≤ 65535) ∧ (quE a p e ≤ 65535 → (sqP (a * 2 ^ un) D).1 = quE a p e ∧ (sqP (a * 2 ^ un) D).2 = if D < 2 * reE a p e then 1 else if 2 * reE a p e = D then 0 else -1) := by
 have e1 : quE a p e = a * 2 ^ un / D := by unfold quE numE; rw [hD, hun]
 have e2 : reE a p e = a * 2 ^ un % D := by unfold reE numE; rw [hD, hun]
 rw [e1, e2]
 generalize a * 2 ^ un = P
 unfold sqP
 by_cases h : D ≤ P / 18446744073709551616
 ·rw [if_pos h]
  have h1 : 65535 < P / D := by
   have h2 : D * 18446744073709551616 ≤ P := (Nat.le_div_iff_mul_le (by decide)).1 h
   have h3 : 18446744073709551616 ≤ P / D := by rw [Nat.le_div_iff_mul_le hD0, Nat.mul_comm]; exact h2
   omega
  refine ⟨⟨fun h => ?_, fun h => ?_⟩, fun h => ?_⟩
  ·simp only at h; omega
  ·omega
  ·omega
 ·rw [if_neg h]
  exact ⟨Iff.rfl, fun _ => ⟨rfl, rfl⟩⟩
theorem iNearFlt {n x : Int} (hok : decOkP n x = true) : Fn Tryz.prog 130 [.ag [I n, I x]] [.un] [.ag [I (optF (nearP n x)).1.1, I (optF (nearP n x)).1.2], B (optF (nearP n x)).2] := by
 obtain ⟨hn0, hn1, hx0, hx1⟩ := decOk_b hok
 have hDec := iDecOk (n := n) (x := x) ⟨by omega, by omega⟩
 rw [hok] at hDec
 obtain ⟨k, hk⟩ : ∃ k : Nat, -x = k := ⟨(-x).toNat, by omega⟩
 obtain ⟨p, hp⟩ : ∃ p, p = 10 ^ k := ⟨_, rfl⟩
 obtain ⟨a, ha⟩ : ∃ a, a = n.natAbs := ⟨_, rfl⟩
 have hPow := iPow10 (k := k) (by omega)
 rw [← hp] at hPow
 have hp0 : 0 < p := by rw [hp]; exact Nat.pow_pos (by omega)
 have hp1 : p ≤ 10000000000000000 := by
  have : 10 ^ k ≤ 10 ^ 16 := Nat.pow_le_pow_right (by omega) (by omega)
  omega
 have hrr : ∀ e, leastE a p e → -16 ≤ e → e ≤ 50 → nearP n x = fltNewP (sgn n (roundE a p e)) e := fun e h h0 h1 => nearP_at ha (by rw [hp]; congr 1; omega) h h0 h1
 have ha1 : a < 100000000000000000 := by omega
 have fx : wrK .i64 (-x) = (k : Int) := by rw [wrap64_id _ (by omega)]; omega
 have fn : wrK .i64 (-n) = -n := wrap64_id _ (by omega)
 have fmx : max n (-n) = (a : Int) := by omega
 have fa : wrK .u64 (a : Int) = a := u64_of (by omega)
 have fp : wrK .u64 (p : Int) = p := u64_of (by omega)
 generalize hR : nearP n x = R
 rw [hR] at hrr
 clear hp hk hok
 refine Fn_of Tryz.func130 rfl rfl (by simp -implicitDefEqProofs -dsimp) rfl ?_; simp only [Tryz.f130]
 simp -implicitDefEqProofs -dsimp
 refine wpcall_d hDec ?_; simp -implicitDefEqProofs -dsimp [fn, fmx, fx, fa]
 refine wpcall_d hPow ?_; simp -implicitDefEqProofs -dsimp [fp]
 repeat' (first | with_reducible apply And.intro | (refine chkOk ?_; kernel_rfl))
 refine WL_loop (fun e : Int => [(1, .blk [I n, I x]), (2, .blk [I 0, I 0]), (3, B false), (4, U a), (5, U p), (6, I e)]) (fun e => (51 - e).toNat) (fun e => -16 ≤ e ∧ e ≤ 50 ∧ ∀ e', -16 ≤ e' → e' < e → 65535 < quE a p e') (-16) ⟨by decide, by decide, fun e' h1 h2 => by omega⟩ ?_ ?_
 ·simp -implicitDefEqProofs -dsimp
 ·rintro e ⟨h0, h50, hmore⟩
  have he42 := least_le hp0 ha1 hmore
  have hds := den_small hp0 hp1 ha1 hmore
  have hle : e ≤ 50 := h50
  have fe : wrK .i64 (e + 1) = e + 1 := wrap64_id _ (by omega)
  obtain ⟨un, hun⟩ : ∃ un : Nat, un = (-e).toNat := ⟨_, rfl⟩
  obtain ⟨dn, hdn⟩ : ∃ dn : Nat, dn = e.toNat := ⟨_, rfl⟩
  obtain ⟨D, hD⟩ : ∃ D, D = denE p e := ⟨_, rfl⟩
  obtain ⟨W2, hW2⟩ : ∃ W2 : Nat, W2 = 2 ^ dn := ⟨_, rfl⟩
  have hDW : D = p * W2 := by rw [hD, hW2, hdn]; rfl
  have hW0 : 0 < W2 := by rw [hW2]; exact Nat.pow_pos (by omega)
  have hD0 : 0 < D := by rw [hDW]; exact Nat.mul_pos hp0 hW0
  have hWl : W2 < 18446744073709551616 := by
   have : 2 ^ dn ≤ 2 ^ 42 := Nat.pow_le_pow_right (by omega) (by omega)
   omega
  have hM := lMul64 (x := p) (y := W2) (by omega) hWl
  rw [← hDW, Nat.div_eq_of_lt (show D < 18446744073709551616 by omega), Nat.mod_eq_of_lt (show D < 18446744073709551616 by omega)] at hM
  have fD : wrK .u64 ((p : Int) * W2) = D := by rw [show (p : Int) * W2 = (D : Int) by rw [hDW]; simp +zeta]; exact u64_of (by omega)
  have hSh := iShifted (n := a) (k := un) (d := D) (by omega) (by omega) hD0 (by omega)
  obtain ⟨hq1, hq2⟩ := sq_quE (a := a) hD hun hD0
  generalize sqP (a * 2 ^ un) D = Z at hSh hq1 hq2
  obtain ⟨q, h⟩ := Z
  simp only at hSh hq1 hq2
  by_cases hq : quE a p e ≤ 65535
  ·have hl : leastE a p e := leastE_to hq hmore
   have hr := hrr e hl h0 hle
   have hql : ¬ (65535 : Int) < q := by have := hq1.2 hq; omega
   obtain ⟨hqe, hhe⟩ := hq2 hq
   obtain ⟨rm, hrm⟩ : ∃ rm, rm = roundE a p e := ⟨_, rfl⟩
   have hrl : rm ≤ 65536 := by rw [hrm]; exact roundE_le hq
   have hF := iFltNew (m := sgn n rm) (e := e) (by rw [sgn_abs]; exact hrl)
   rw [← hrm] at hr
   rw [show fltNewQ (sgn n rm) e = R by unfold fltNewQ; rw [if_pos (by omega)]; exact hr.symm] at hF
   have hround : (0 < h ∧ rm = q + 1) ∨ (¬ 0 < h ∧ h = 0 ∧ q % 2 = 1 ∧ rm = q + 1) ∨ (¬ 0 < h ∧ h = 0 ∧ ¬ q % 2 = 1 ∧ rm = q) ∨ (¬ 0 < h ∧ ¬ h = 0 ∧ rm = q) := by
    unfold roundE at hrm
    rw [← hD, ← hqe] at hrm
    split at hhe
    ·rename_i c; rw [if_pos (.inl c)] at hrm; exact .inl ⟨by omega, hrm⟩
    ·rename_i c
     split at hhe
     ·rename_i c2
      by_cases hpar : q % 2 = 1
      ·rw [if_pos (.inr ⟨c2, hpar⟩)] at hrm; exact .inr (.inl ⟨by omega, hhe, hpar, hrm⟩)
      ·rw [if_neg (fun hc => hc.elim c (fun hc => hpar hc.2))] at hrm; exact .inr (.inr (.inl ⟨by omega, hhe, hpar, hrm⟩))
     ·rename_i c2
      rw [if_neg (fun hc => hc.elim c (fun hc => c2 hc.1))] at hrm; exact .inr (.inr (.inr ⟨by omega, by omega, hrm⟩))
   have hql2 : q ≤ 65536 := by omega
   have fq1 : wrK .u64 ((q : Int) + 1) = ((q + 1 : Nat) : Int) := by rw [show (q : Int) + 1 = ((q + 1 : Nat) : Int) by omega]; exact u64_of (by omega)
   have frm : wrK .i64 (rm : Int) = rm := wrap64_id _ (by omega)
   have frn : wrK .i64 (-(rm : Int)) = -rm := wrap64_id _ (by omega)
   have fpar : ((q : Int) % 2 = 1) ↔ q % 2 = 1 := by omega
   clear hhe hqe hq1 hq2 hl hrm hrr hmore hds
   have f1 : rm = q + 1 → wrK .u64 ((q : Int) + 1) = (rm : Int) := fun h => by rw [fq1, h]
   clear fq1
   have en : dn = 0 ∧ W2 = 1 ∧ D = p ∨ ¬ e < 0 ∧ un = 0 ∧ e = dn := by
    by_cases hneg : e < 0
    ·obtain rfl : dn = 0 := by omega
     obtain rfl : W2 = 1 := by rw [hW2]
     exact .inl ⟨rfl, rfl, by rw [hDW, Nat.mul_one]⟩
    ·exact .inr ⟨hneg, by omega, by omega⟩
   have fne : e < 0 → wrK .i64 (-e) = (un : Int) := fun h => by rw [wrap64_id _ (by omega)]; omega
   have fun' : wrK .u64 (un : Int) = un := u64_of (by omega)
   have fdn : wrK .u64 (dn : Int) = dn := u64_of (by omega)
   have fmd : min dn 64 = dn := by omega
   have fW : wrK .u64 (2 ^ dn) = (W2 : Int) := by rw [show (2 : Int) ^ dn = (W2 : Int) by rw [hW2]; simp +zeta]; exact u64_of hWl
   rcases hround with ⟨c1, c4⟩ | ⟨c1, rfl, c3, c4⟩ | ⟨c1, rfl, c3, rfl⟩ | ⟨c1, c2, rfl⟩
   ·skip
    have f2 := f1 c4
    clear f1
    rcases Int.lt_or_le n 0 with hn | hn
    ·rw [show sgn n rm = -(rm : Int) from if_pos hn] at hF
     by_cases hneg : e < 0
     ·obtain ⟨rfl, rfl, rfl⟩ : dn = 0 ∧ W2 = 1 ∧ D = p := by rcases en with h | h; exact h; exact absurd hneg h.1
      rw [show ((1 : Nat) : Int) = 1 from rfl] at hM
      have fne := fne hneg
      simp -implicitDefEqProofs -dsimp [-head_L, hle, hneg, fne, fun']
      refine wpcall_d hM ?_; simp -implicitDefEqProofs -dsimp [-head_L, fp]
      refine wpcall_d hSh ?_; simp -implicitDefEqProofs -dsimp [-head_L, hql, c1, f2, frm, hn, frn]
      refine wpcall_d hF ?_; simp -implicitDefEqProofs -dsimp [-head_L]
     ·obtain ⟨rfl, rfl⟩ : un = 0 ∧ e = dn := by omega
      rw [show ((0 : Nat) : Int) = 0 from rfl] at hSh
      simp -implicitDefEqProofs -dsimp [-head_L, hle, hneg, fdn, fmd, fW]
      refine wpcall_d hM ?_; simp -implicitDefEqProofs -dsimp [-head_L, fD]
      refine wpcall_d hSh ?_; simp -implicitDefEqProofs -dsimp [-head_L, hql, c1, f2, frm, hn, frn]
      refine wpcall_d hF ?_; simp -implicitDefEqProofs -dsimp [-head_L]
    ·rw [show sgn n rm = (rm : Int) from if_neg (by omega)] at hF
     have hn2 : ¬ n < 0 := by omega
     by_cases hneg : e < 0
     ·obtain ⟨rfl, rfl, rfl⟩ : dn = 0 ∧ W2 = 1 ∧ D = p := by rcases en with h | h; exact h; exact absurd hneg h.1
      rw [show ((1 : Nat) : Int) = 1 from rfl] at hM
      have fne := fne hneg
      simp -implicitDefEqProofs -dsimp [-head_L, hle, hneg, fne, fun']
      refine wpcall_d hM ?_; simp -implicitDefEqProofs -dsimp [-head_L, fp]
      refine wpcall_d hSh ?_; simp -implicitDefEqProofs -dsimp [-head_L, hql, c1, f2, frm, hn2]
      refine wpcall_d hF ?_; simp -implicitDefEqProofs -dsimp [-head_L]
     ·obtain ⟨rfl, rfl⟩ : un = 0 ∧ e = dn := by omega
      rw [show ((0 : Nat) : Int) = 0 from rfl] at hSh
      simp -implicitDefEqProofs -dsimp [-head_L, hle, hneg, fdn, fmd, fW]
      refine wpcall_d hM ?_; simp -implicitDefEqProofs -dsimp [-head_L, fD]
      refine wpcall_d hSh ?_; simp -implicitDefEqProofs -dsimp [-head_L, hql, c1, f2, frm, hn2]
      refine wpcall_d hF ?_; simp -implicitDefEqProofs -dsimp [-head_L]
   ·have c5 := fpar.2 c3
    have f2 := f1 c4
    clear f1
    rcases Int.lt_or_le n 0 with hn | hn
    ·rw [show sgn n rm = -(rm : Int) from if_pos hn] at hF
     by_cases hneg : e < 0
     ·obtain ⟨rfl, rfl, rfl⟩ : dn = 0 ∧ W2 = 1 ∧ D = p := by rcases en with h | h; exact h; exact absurd hneg h.1
      rw [show ((1 : Nat) : Int) = 1 from rfl] at hM
      have fne := fne hneg
      simp -implicitDefEqProofs -dsimp [-head_L, hle, hneg, fne, fun']
      refine wpcall_d hM ?_; simp -implicitDefEqProofs -dsimp [-head_L, fp]
      refine wpcall_d hSh ?_; simp -implicitDefEqProofs -dsimp [-head_L, hql, c5, f2, frm, hn, frn]
      refine wpcall_d hF ?_; simp -implicitDefEqProofs -dsimp [-head_L]
     ·obtain ⟨rfl, rfl⟩ : un = 0 ∧ e = dn := by omega
      rw [show ((0 : Nat) : Int) = 0 from rfl] at hSh
      simp -implicitDefEqProofs -dsimp [-head_L, hle, hneg, fdn, fmd, fW]
      refine wpcall_d hM ?_; simp -implicitDefEqProofs -dsimp [-head_L, fD]
      refine wpcall_d hSh ?_; simp -implicitDefEqProofs -dsimp [-head_L, hql, c5, f2, frm, hn, frn]
      refine wpcall_d hF ?_; simp -implicitDefEqProofs -dsimp [-head_L]
    ·rw [show sgn n rm = (rm : Int) from if_neg (by omega)] at hF
     have hn2 : ¬ n < 0 := by omega
     by_cases hneg : e < 0
     ·obtain ⟨rfl, rfl, rfl⟩ : dn = 0 ∧ W2 = 1 ∧ D = p := by rcases en with h | h; exact h; exact absurd hneg h.1
      rw [show ((1 : Nat) : Int) = 1 from rfl] at hM
      have fne := fne hneg
      simp -implicitDefEqProofs -dsimp [-head_L, hle, hneg, fne, fun']
      refine wpcall_d hM ?_; simp -implicitDefEqProofs -dsimp [-head_L, fp]
      refine wpcall_d hSh ?_; simp -implicitDefEqProofs -dsimp [-head_L, hql, c5, f2, frm, hn2]
      refine wpcall_d hF ?_; simp -implicitDefEqProofs -dsimp [-head_L]
     ·obtain ⟨rfl, rfl⟩ : un = 0 ∧ e = dn := by omega
      rw [show ((0 : Nat) : Int) = 0 from rfl] at hSh
      simp -implicitDefEqProofs -dsimp [-head_L, hle, hneg, fdn, fmd, fW]
      refine wpcall_d hM ?_; simp -implicitDefEqProofs -dsimp [-head_L, fD]
      refine wpcall_d hSh ?_; simp -implicitDefEqProofs -dsimp [-head_L, hql, c5, f2, frm, hn2]
      refine wpcall_d hF ?_; simp -implicitDefEqProofs -dsimp [-head_L]
   ·have c5 : ¬ (rm : Int) % 2 = 1 := fun h => c3 (fpar.1 h)
    clear f1
    rcases Int.lt_or_le n 0 with hn | hn
    ·rw [show sgn n rm = -(rm : Int) from if_pos hn] at hF
     by_cases hneg : e < 0
     ·obtain ⟨rfl, rfl, rfl⟩ : dn = 0 ∧ W2 = 1 ∧ D = p := by rcases en with h | h; exact h; exact absurd hneg h.1
      rw [show ((1 : Nat) : Int) = 1 from rfl] at hM
      have fne := fne hneg
      simp -implicitDefEqProofs -dsimp [-head_L, hle, hneg, fne, fun']
      refine wpcall_d hM ?_; simp -implicitDefEqProofs -dsimp [-head_L, fp]
      refine wpcall_d hSh ?_; simp -implicitDefEqProofs -dsimp [-head_L, hql, c5, frm, hn, frn]
      refine wpcall_d hF ?_; simp -implicitDefEqProofs -dsimp [-head_L]
     ·obtain ⟨rfl, rfl⟩ : un = 0 ∧ e = dn := by omega
      rw [show ((0 : Nat) : Int) = 0 from rfl] at hSh
      simp -implicitDefEqProofs -dsimp [-head_L, hle, hneg, fdn, fmd, fW]
      refine wpcall_d hM ?_; simp -implicitDefEqProofs -dsimp [-head_L, fD]
      refine wpcall_d hSh ?_; simp -implicitDefEqProofs -dsimp [-head_L, hql, c5, frm, hn, frn]
      refine wpcall_d hF ?_; simp -implicitDefEqProofs -dsimp [-head_L]
    ·rw [show sgn n rm = (rm : Int) from if_neg (by omega)] at hF
     have hn2 : ¬ n < 0 := by omega
     by_cases hneg : e < 0
     ·obtain ⟨rfl, rfl, rfl⟩ : dn = 0 ∧ W2 = 1 ∧ D = p := by rcases en with h | h; exact h; exact absurd hneg h.1
      rw [show ((1 : Nat) : Int) = 1 from rfl] at hM
      have fne := fne hneg
      simp -implicitDefEqProofs -dsimp [-head_L, hle, hneg, fne, fun']
      refine wpcall_d hM ?_; simp -implicitDefEqProofs -dsimp [-head_L, fp]
      refine wpcall_d hSh ?_; simp -implicitDefEqProofs -dsimp [-head_L, hql, c5, frm, hn2]
      refine wpcall_d hF ?_; simp -implicitDefEqProofs -dsimp [-head_L]
     ·obtain ⟨rfl, rfl⟩ : un = 0 ∧ e = dn := by omega
      rw [show ((0 : Nat) : Int) = 0 from rfl] at hSh
      simp -implicitDefEqProofs -dsimp [-head_L, hle, hneg, fdn, fmd, fW]
      refine wpcall_d hM ?_; simp -implicitDefEqProofs -dsimp [-head_L, fD]
      refine wpcall_d hSh ?_; simp -implicitDefEqProofs -dsimp [-head_L, hql, c5, frm, hn2]
      refine wpcall_d hF ?_; simp -implicitDefEqProofs -dsimp [-head_L]
   ·skip
    clear f1
    rcases Int.lt_or_le n 0 with hn | hn
    ·rw [show sgn n rm = -(rm : Int) from if_pos hn] at hF
     by_cases hneg : e < 0
     ·obtain ⟨rfl, rfl, rfl⟩ : dn = 0 ∧ W2 = 1 ∧ D = p := by rcases en with h | h; exact h; exact absurd hneg h.1
      rw [show ((1 : Nat) : Int) = 1 from rfl] at hM
      have fne := fne hneg
      simp -implicitDefEqProofs -dsimp [-head_L, hle, hneg, fne, fun']
      refine wpcall_d hM ?_; simp -implicitDefEqProofs -dsimp [-head_L, fp]
      refine wpcall_d hSh ?_; simp -implicitDefEqProofs -dsimp [-head_L, hql, c1, c2, frm, hn, frn]
      refine wpcall_d hF ?_; simp -implicitDefEqProofs -dsimp [-head_L]
     ·obtain ⟨rfl, rfl⟩ : un = 0 ∧ e = dn := by omega
      rw [show ((0 : Nat) : Int) = 0 from rfl] at hSh
      simp -implicitDefEqProofs -dsimp [-head_L, hle, hneg, fdn, fmd, fW]
      refine wpcall_d hM ?_; simp -implicitDefEqProofs -dsimp [-head_L, fD]
      refine wpcall_d hSh ?_; simp -implicitDefEqProofs -dsimp [-head_L, hql, c1, c2, frm, hn, frn]
      refine wpcall_d hF ?_; simp -implicitDefEqProofs -dsimp [-head_L]
    ·rw [show sgn n rm = (rm : Int) from if_neg (by omega)] at hF
     have hn2 : ¬ n < 0 := by omega
     by_cases hneg : e < 0
     ·obtain ⟨rfl, rfl, rfl⟩ : dn = 0 ∧ W2 = 1 ∧ D = p := by rcases en with h | h; exact h; exact absurd hneg h.1
      rw [show ((1 : Nat) : Int) = 1 from rfl] at hM
      have fne := fne hneg
      simp -implicitDefEqProofs -dsimp [-head_L, hle, hneg, fne, fun']
      refine wpcall_d hM ?_; simp -implicitDefEqProofs -dsimp [-head_L, fp]
      refine wpcall_d hSh ?_; simp -implicitDefEqProofs -dsimp [-head_L, hql, c1, c2, frm, hn2]
      refine wpcall_d hF ?_; simp -implicitDefEqProofs -dsimp [-head_L]
     ·obtain ⟨rfl, rfl⟩ : un = 0 ∧ e = dn := by omega
      rw [show ((0 : Nat) : Int) = 0 from rfl] at hSh
      simp -implicitDefEqProofs -dsimp [-head_L, hle, hneg, fdn, fmd, fW]
      refine wpcall_d hM ?_; simp -implicitDefEqProofs -dsimp [-head_L, fD]
      refine wpcall_d hSh ?_; simp -implicitDefEqProofs -dsimp [-head_L, hql, c1, c2, frm, hn2]
      refine wpcall_d hF ?_; simp -implicitDefEqProofs -dsimp [-head_L]
  ·have hql : (65535 : Int) < q := by
    have : ¬ q ≤ 65535 := fun h => hq (hq1.1 h)
    omega
   have hm2 := more_step hmore hq
   by_cases hneg : e < 0
   ·have fne : wrK .i64 (-e) = (un : Int) := by rw [wrap64_id _ (by omega)]; omega
    have fun' : wrK .u64 (un : Int) = un := u64_of (by omega)
    obtain rfl : dn = 0 := by omega
    obtain rfl : W2 = 1 := by rw [hW2]
    obtain rfl : D = p := by rw [hDW, Nat.mul_one]
    rw [show ((1 : Nat) : Int) = 1 from rfl] at hM
    simp -implicitDefEqProofs -dsimp [-head_L, -endOk, hle, hneg, fne, fun']
    refine wpcall_d hM ?_; simp -implicitDefEqProofs -dsimp [-head_L, -endOk, fp]
    refine wpcall_d hSh ?_; simp -implicitDefEqProofs -dsimp [-head_L, -endOk, hql, fe]
    refine ⟨e + 1, ⟨by omega, by omega, hm2⟩, by omega, ?_⟩
    simp -implicitDefEqProofs -dsimp
   ·obtain rfl : un = 0 := by omega
    obtain rfl : e = dn := by omega
    have fdn : wrK .u64 (dn : Int) = dn := u64_of (by omega)
    have fmd : min dn 64 = dn := by omega
    have fW : wrK .u64 (2 ^ dn) = (W2 : Int) := by rw [show (2 : Int) ^ dn = (W2 : Int) by rw [hW2]; simp +zeta]; exact u64_of hWl
    rw [show ((0 : Nat) : Int) = 0 from rfl] at hSh
    simp -implicitDefEqProofs -dsimp [-head_L, -endOk, hle, hneg, fdn, fmd, fW]
    refine wpcall_d hM ?_; simp -implicitDefEqProofs -dsimp [-head_L, -endOk, fD]
    refine wpcall_d hSh ?_; simp -implicitDefEqProofs -dsimp [-head_L, -endOk, hql, fe]
    refine ⟨dn + 1, ⟨by omega, by omega, hm2⟩, by omega, ?_⟩
    simp -implicitDefEqProofs -dsimp
end Go.Proofs.YtlfblkekbcfjpaaGreatDoor
namespace Go.Proofs.YtlfblkekbcfjpaaGreatDoor
open Go Go.RowKit
set_option maxRecDepth 100000
set_option maxHeartbeats 4000000
theorem pow_le17s {j k : Nat} (hj : j ≤ k) (hk : k ≤ 17) : 10 ^ j ≤ 100000000000000000 := by
 have : 10 ^ j ≤ 10 ^ 17 := Nat.pow_le_pow_right (by decide) (Nat.le_trans hj hk)
 exact this
theorem sPow10 {k : Nat} (hk : k ≤ 17) : Fn Tryz.prog 109 [I 10, I k] [.un, .un] [I ((10 ^ k : Nat) : Int)] := by
 have hI := sIn (n := k) (lo := 0) (hi := 17)
 rw [decide_eq_true (by omega), decide_eq_true (by omega)] at hI
 obtain ⟨r, hr⟩ : ∃ r, r = 10 ^ k := ⟨_, rfl⟩
 rw [← hr]
 refine Fn_of Tryz.func109 rfl rfl (by simp -implicitDefEqProofs -dsimp) rfl ?_; simp only [Tryz.f109]
 simp -implicitDefEqProofs -dsimp [hk]; repeat' (first | with_reducible intro _ | with_reducible apply And.intro | (refine chkOk ?_; kernel_rfl) | (refine wpcall_d (hI) ?_; simp -implicitDefEqProofs -dsimp [hk]))
 refine WL_loop (fun p : Nat × Nat => [(0, I 10), (1, I k), (5, I p.1), (6, I p.2)]) (fun p => k - p.2) (fun p => p.2 ≤ k ∧ p.1 = 10 ^ p.2) (1, 0) ⟨Nat.zero_le _, rfl⟩ ?_ ?_
 ·simp -implicitDefEqProofs -dsimp
 ·rintro ⟨n, j⟩ ⟨hj, hn⟩
  simp only at hj hn ⊢
  by_cases hjk : j < k
  ·have h1 : (j : Int) < k := by omega
   have h2 := pow_le17s (j := j + 1) hjk hk
   rw [Nat.pow_succ, ← hn] at h2
   have w1 : wrK .i64 ((n : Int) * 10) = ((n * 10 : Nat) : Int) := by rw [wrap64_id _ (by omega)]; omega
   have w2 : wrK .i64 ((j : Int) + 1) = ((j + 1 : Nat) : Int) := by rw [wrap64_id _ (by omega)]; omega
   obtain ⟨m, hm⟩ : ∃ m, m = n * 10 := ⟨_, rfl⟩
   rw [← hm] at w1
   simp -implicitDefEqProofs -dsimp [-head_L, -endOk, h1, w1, w2]
   exact ⟨m, j + 1, ⟨by omega, by rw [hm, hn, Nat.pow_succ]⟩, by omega, by simp⟩
  ·have h1 : ¬ (j : Int) < k := by omega
   obtain rfl : j = k := by omega
   obtain rfl : n = r := by rw [hn, hr]
   simp -implicitDefEqProofs -dsimp [-head_L, h1]
def scP (A p : Nat) : Nat × Int × Bool := (A / p, if 2 * (A % p) < p then -1 else if p < 2 * (A % p) then 1 else 0, if 2 * (A % p) < p then decide (0 < A % p) else true)
theorem sScaled {a p s : Nat} (hp : 0 < p) (hp1 : p ≤ 10000000000000000) (hs : s ≤ 60) (ha : a < 1000000000000000000) (hq : a * 2 ^ s / p ≤ 1000000) :
  Fn Tryz.prog 110 [I a, I p, I s] [.un, .un, .un] [I ((scP (a * 2 ^ s) p).1 : Int), I (scP (a * 2 ^ s) p).2.1, B (scP (a * 2 ^ s) p).2.2] := by
 have hq' : ∀ i, i ≤ s → a * 2 ^ i / p ≤ 1000000 := fun i hi => Nat.le_trans (Nat.div_le_div_right (Nat.mul_le_mul_left a (Nat.pow_le_pow_right (by decide) hi))) hq
 generalize hR : scP (a * 2 ^ s) p = R
 have f0 : ¬ (p : Int) = 0 := by omega
 have f00 : ¬ p = 0 := by omega
 obtain ⟨q0, hq0⟩ : ∃ q, q = a / p := ⟨_, rfl⟩
 obtain ⟨r0, hr0⟩ : ∃ r, r = a % p := ⟨_, rfl⟩
 have f1 : (a : Int) / p = q0 := by rw [hq0]; rfl
 have f2 : (a : Int) % p = r0 := by rw [hr0]; rfl
 have f3 : wrK .i64 (q0 : Int) = q0 := wrap64_id _ (by have := Nat.div_le_self a p; omega)
 refine Fn_of Tryz.func110 rfl rfl (by simp -implicitDefEqProofs -dsimp) rfl ?_; simp only [Tryz.f110]
 simp -implicitDefEqProofs -dsimp [f0, f00, f1, f2, f3]
 refine WL_loop (fun t : Nat × Nat × Nat => [(0, I a), (1, I p), (2, I s), (6, I 0), (7, I 0), (8, B false), (9, I t.1), (10, I t.2.1), (11, I t.2.2)]) (fun t => s - t.2.2) (fun t => t.2.2 ≤ s ∧ t.1 = a * 2 ^ t.2.2 / p ∧ t.2.1 = a * 2 ^ t.2.2 % p) (q0, r0, 0) ⟨Nat.zero_le _, by simp +zeta [hq0], by simp +zeta [hr0]⟩ ?_ ?_
 ·simp -implicitDefEqProofs -dsimp
 ·rintro ⟨q, r, i⟩ ⟨hi, hq1, hr1⟩
  simp only at hi hq1 hr1 ⊢
  have hrl : r < p := by rw [hr1]; exact Nat.mod_lt _ hp
  have hql : q ≤ 1000000 := by rw [hq1]; exact hq' i hi
  have g1 : wrK .i64 (2 * (r : Int)) = ((2 * r : Nat) : Int) := by rw [wrap64_id _ (by omega)]; omega
  have g2 : wrK .i64 (2 * (q : Int)) = ((2 * q : Nat) : Int) := by rw [wrap64_id _ (by omega)]; omega
  obtain ⟨r2, hr2⟩ : ∃ r2, r2 = 2 * r := ⟨_, rfl⟩
  obtain ⟨q2, hq2⟩ : ∃ q2, q2 = 2 * q := ⟨_, rfl⟩
  rw [← hr2] at g1; rw [← hq2] at g2
  by_cases his : i < s
  ·have his' : (i : Int) < s := by omega
   have g3 : wrK .i64 ((i : Int) + 1) = ((i + 1 : Nat) : Int) := by rw [wrap64_id _ (by omega)]; omega
   have hdb := dblE (a * 2 ^ i) p hp
   rw [← hq1, ← hr1, ← hr2, ← hq2] at hdb
   have he : a * 2 ^ (i + 1) = 2 * (a * 2 ^ i) := by rw [Nat.pow_succ, ← Nat.mul_assoc, Nat.mul_comm]
   rw [← he] at hdb
   by_cases hge : p ≤ r2
   ·have hge' : (p : Int) ≤ r2 := by omega
    obtain ⟨r3, hr3⟩ : ∃ r3, r3 = r2 - p := ⟨_, rfl⟩
    have g4 : wrK .i64 ((r2 : Int) - p) = (r3 : Int) := by rw [wrap64_id _ (by omega)]; omega
    have g5 : wrK .i64 ((q2 : Int) + 1) = ((q2 + 1 : Nat) : Int) := by rw [wrap64_id _ (by omega)]; omega
    obtain ⟨q3, hq3⟩ : ∃ q3, q3 = q2 + 1 := ⟨_, rfl⟩
    rw [← hq3] at g5
    have hdb := hdb.1 hge
    simp -implicitDefEqProofs -dsimp [-head_L, -endOk, his', g1, g2, hge', g3, g4, g5]
    refine ⟨q3, r3, i + 1, ⟨by omega, by rw [hq3]; exact hdb.1.symm, by rw [hr3]; exact hdb.2.symm⟩, by omega, ?_⟩
    simp -implicitDefEqProofs -dsimp
   ·have hge' : ¬ (p : Int) ≤ r2 := by omega
    have hdb := hdb.2 hge
    simp -implicitDefEqProofs -dsimp [-head_L, -endOk, his', g1, g2, hge', g3]
    refine ⟨q2, r2, i + 1, ⟨by omega, hdb.1.symm, hdb.2.symm⟩, by omega, ?_⟩
    simp -implicitDefEqProofs -dsimp
  ·have his' : ¬ (i : Int) < s := by omega
   obtain rfl : i = s := by omega
   unfold scP at hR
   rw [← hq1, ← hr1, ← hr2] at hR
   by_cases c1 : r2 < p
   ·have c1' : (r2 : Int) < p := by omega
    rw [if_pos c1, if_pos c1] at hR; subst hR
    simp -implicitDefEqProofs -dsimp [-head_L, his', g1, c1']
   ·have c1' : ¬ (r2 : Int) < p := by omega
    rw [if_neg c1, if_neg c1] at hR
    by_cases c2 : p < r2
    ·have c2' : (p : Int) < r2 := by omega
     rw [if_pos c2] at hR; subst hR
     simp -implicitDefEqProofs -dsimp [-head_L, his', g1, c1', c2']
    ·have c2' : ¬ (p : Int) < r2 := by omega
     rw [if_neg c2] at hR; subst hR
     simp -implicitDefEqProofs -dsimp [-head_L, his', g1, c1', c2']
end Go.Proofs.YtlfblkekbcfjpaaGreatDoor
