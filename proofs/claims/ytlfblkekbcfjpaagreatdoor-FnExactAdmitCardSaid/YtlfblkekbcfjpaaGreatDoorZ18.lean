/- Part of a proof: contracts and plain laws. -/
import Derived.Test.YtlfblkekbcfjpaaGreatDoorZ16
import Derived.Lib.ValidLaws
import Derived.Lib.MapLaws
import Derived.Lib.Atoi
set_option linter.unusedVariables false
set_option linter.unusedSimpArgs false
namespace Go.Proofs.YtlfblkekbcfjpaaGreatDoor
open Go.RowKit
theorem oddP_even {f : Nat} {m e : Int} (h : m.tmod 2 = 0) : oddP (f + 1) m e = oddP f (m.tdiv 2) (e + 1) := by rw [oddP, if_pos h]
theorem oddP_odd {m e : Int} (h : m.tmod 2 ≠ 0) : ∀ f, oddP f m e = (m, e)
 | 0 => rfl
 | f + 1 => by rw [oddP, if_neg h]
theorem tdiv2_abs (m : Int) : (m.tdiv 2).natAbs = m.natAbs / 2 := by rw [Int.natAbs_tdiv]; rfl
theorem tdiv2_eq {m : Int} (h : m.tmod 2 = 0) : m = 2 * m.tdiv 2 := by
 have := Int.mul_tdiv_add_tmod m 2; omega
def leastFrom : Nat → Nat → Nat → Int → Option Int
 | 0, _, _, _ => none
 | f + 1, a, p, e => if quE a p e ≤ 65535 then some e else leastFrom f a p (e + 1)
theorem leastFrom_eq {a p : Nat} {e : Int} (h : leastE a p e) : ∀ (f : Nat) (e0 : Int), -16 ≤ e0 → e0 ≤ e → e < e0 + f → leastFrom f a p e0 = some e
 | 0, e0, _, _, h3 => by omega
 | f + 1, e0, h1, h2, h3 => by
  rw [leastFrom]
  by_cases he : e0 = e
  ·subst he; rw [if_pos h.1]
  ·rw [if_neg (by have := h.2 e0 h1 (by omega); omega)]
   exact leastFrom_eq h f (e0 + 1) (by omega) (by omega) (by omega)
def sgn (n : Int) (m : Nat) : Int := if n < 0 then -(m : Int) else m
theorem sgn_abs (n : Int) (m : Nat) : (sgn n m).natAbs = m := by unfold sgn; split <;> omega
def nearR (n : Int) (p : Nat) (e : Int) : Option (Int × Int) := fltNewP (sgn n (roundE n.natAbs p e)) e
def nearP (n x : Int) : Option (Int × Int) := match leastFrom 67 n.natAbs (10 ^ (-x).toNat) (-16) with
 | some e => nearR n (10 ^ (-x).toNat) e
 | none => none
theorem nearP_of {n x e : Int} (h : leastE n.natAbs (10 ^ (-x).toNat) e) (h0 : -16 ≤ e) (h1 : e ≤ 50) : nearP n x = nearR n (10 ^ (-x).toNat) e := by
 unfold nearP; rw [leastFrom_eq h 67 (-16) (by omega) h0 (by omega)]
theorem roundE_le {a p : Nat} {e : Int} (h : quE a p e ≤ 65535) : roundE a p e ≤ 65536 := by unfold roundE; split <;> omega
theorem roundE_ge (a p : Nat) (e : Int) : quE a p e ≤ roundE a p e := by unfold roundE; split <;> omega
theorem leastE_big {a p : Nat} {e : Int} (hp : 0 < p) (h : leastE a p e) (h0 : -16 < e) : 32768 ≤ quE a p e := by
 have h1 := h.2 (e - 1) (by omega) (by omega)
 have h2 := quE_step a p hp (e - 1)
 rw [show e - 1 + 1 = e by omega] at h2
 omega
theorem oddP_keep : ∀ (f : Nat) (m e : Int), ∃ j : Nat, (oddP f m e).2 = e + j ∧ m = (oddP f m e).1 * 2 ^ j
 | 0, m, e => ⟨0, by simp -implicitDefEqProofs -dsimp [oddP], by simp -implicitDefEqProofs -dsimp [oddP]⟩
 | f + 1, m, e => by
  rw [oddP]
  split
  ·rename_i h
   obtain ⟨j, h1, h2⟩ := oddP_keep f (m.tdiv 2) (e + 1)
   refine ⟨j + 1, by rw [h1]; omega, ?_⟩
   have h3 := tdiv2_eq h
   rw [Int.pow_succ, ← Int.mul_assoc, ← h2]; omega
  ·exact ⟨0, by simp, by simp⟩
theorem fltNewP_big {m e : Int} (h0 : 32768 ≤ m.natAbs) (he : 31 ≤ e) : fltNewP m e = none := by
 unfold fltNewP
 rw [if_neg (by omega)]
 obtain ⟨j, h1, h2⟩ := oddP_keep 20 m e
 have h3 : fltOkP (oddP 20 m e).1 (oddP 20 m e).2 = false := by
  rw [Bool.eq_false_iff]
  intro h
  unfold fltOkP at h
  generalize (oddP 20 m e).1 = m' at h h2
  rw [h1] at h
  split at h
  ·rename_i h4; subst h4; simp at h2; omega
  ·simp only [Bool.and_eq_true, Bool.or_eq_true, decide_eq_true_eq] at h
   obtain ⟨_, h5⟩ := h
   have h6 := h5.resolve_left (by omega)
   obtain ⟨i, hi⟩ : ∃ i : Nat, (e + j - 30).toNat = j + 1 + i := ⟨(e - 31).toNat, by omega⟩
   rw [hi, Int.pow_add, Int.pow_succ, ← Int.mul_assoc, ← Int.mul_assoc, ← h2] at h6
   have h7 : (m * 2 * 2 ^ i).natAbs = m.natAbs * 2 * 2 ^ i := by rw [Int.natAbs_mul, Int.natAbs_mul, Int.natAbs_pow]; rfl
   have h8 : 0 < 2 ^ i := Nat.pow_pos (by omega)
   have h9 : m.natAbs * 2 * 1 ≤ m.natAbs * 2 * 2 ^ i := Nat.mul_le_mul_left _ h8
   omega
 rw [h3]; rfl
theorem oddP_fuel : ∀ (f : Nat) (m e : Int), m.natAbs < 2 ^ f → m ≠ 0 → oddP (f + 1) m e = oddP f m e
 | 0, m, e, h, h0 => by simp at h; omega
 | f + 1, m, e, h, h0 => by
  by_cases hm : m.tmod 2 = 0
  ·have h1 := tdiv2_abs m
   have h2 := tdiv2_eq hm
   rw [oddP_even hm, oddP_even hm]
   rw [Nat.pow_succ] at h
   exact oddP_fuel f _ _ (by omega) (by omega)
  ·rw [oddP_odd hm, oddP_odd hm]
theorem fltNewP_half {n e : Int} : fltNewP (sgn n 65536) e = fltNewP (sgn n 32768) (e + 1) := by
 have h1 : (sgn n 65536).tmod 2 = 0 := by unfold sgn; split <;> rfl
 have h2 : (sgn n 65536).tdiv 2 = sgn n 32768 := by unfold sgn; split <;> rfl
 have h3 : oddP 20 (sgn n 65536) e = oddP 19 (sgn n 32768) (e + 1) := by rw [oddP_even h1, h2]
 have h4 : oddP 19 (sgn n 32768) (e + 1) = oddP 20 (sgn n 32768) (e + 1) := (oddP_fuel 19 _ _ (by rw [sgn_abs]; decide) (by unfold sgn; split <;> omega)).symm
 unfold fltNewP
 have n1 : sgn n 65536 ≠ 0 := fun e => by have := sgn_abs n 65536; rw [e] at this; simp at this
 have n2 : sgn n 32768 ≠ 0 := fun e => by have := sgn_abs n 32768; rw [e] at this; simp at this
 rw [if_neg n1, if_neg n2, h3, h4]
theorem dblE (A p : Nat) (hp : 0 < p) : (p ≤ 2 * (A % p) → 2 * A / p = 2 * (A / p) + 1 ∧ 2 * A % p = 2 * (A % p) - p) ∧ (¬ p ≤ 2 * (A % p) → 2 * A / p = 2 * (A / p) ∧ 2 * A % p = 2 * (A % p)) := by
 have h1 := Nat.div_add_mod A p
 have h2 := Nat.mod_lt A hp
 generalize A / p = q at h1 ⊢
 generalize A % p = r at h1 h2 ⊢
 refine ⟨fun h => ?_, fun h => ?_⟩
 ·have e : 2 * A = (2 * r - p) + (2 * q + 1) * p := by
   have : (2 * q + 1) * p = 2 * (p * q) + p := by rw [Nat.add_mul, Nat.mul_assoc, Nat.mul_comm q p]; omega
   omega
  rw [e, Nat.add_mul_div_right _ _ hp, Nat.add_mul_mod_self_right, Nat.div_eq_of_lt (by omega), Nat.mod_eq_of_lt (by omega)]
  omega
 ·have e : 2 * A = 2 * r + (2 * q) * p := by
   have : (2 * q) * p = 2 * (p * q) := by rw [Nat.mul_assoc, Nat.mul_comm q p]
   omega
  rw [e, Nat.add_mul_div_right _ _ hp, Nat.add_mul_mod_self_right, Nat.div_eq_of_lt (by omega), Nat.mod_eq_of_lt (by omega)]
  omega
end Go.Proofs.YtlfblkekbcfjpaaGreatDoor
namespace Go.Proofs.YtlfblkekbcfjpaaGreatDoor
open Go Go.RowKit
theorem quE_anti {a p : Nat} (hp : 0 < p) (e : Int) : ∀ k : Nat, quE a p (e + k) ≤ quE a p e
 | 0 => by simp -implicitDefEqProofs -dsimp
 | k + 1 => by
  have h1 := quE_step a p hp (e + k)
  have h2 := quE_anti (a := a) hp e k
  rw [show e + ((k + 1 : Nat) : Int) = e + k + 1 by omega, h1]; omega
theorem quE_le {a p : Nat} (hp : 0 < p) {e e' : Int} (h : e ≤ e') : quE a p e' ≤ quE a p e := by
 have := quE_anti (a := a) hp e (e' - e).toNat
 rwa [show e + ((e' - e).toNat : Int) = e' by omega] at this
theorem quE_nat (a p e : Nat) : quE a p e = a / p / 2 ^ e := by
 unfold quE numE denE
 rw [show (-(e : Int)).toNat = 0 by omega, Int.toNat_natCast, Nat.pow_zero, Nat.mul_one, Nat.div_div_eq_div_mul]
theorem quE_zero (a p : Nat) : quE a p 0 = a / p := by
 have h := quE_nat a p 0
 rw [Nat.pow_zero, Nat.div_one] at h
 exact h
theorem quE_neg (a p s : Nat) : quE a p (-(s : Int)) = a * 2 ^ s / p := by
 unfold quE numE denE
 rw [show (- -(s : Int)).toNat = s by omega, show (-(s : Int)).toNat = 0 by omega, Nat.pow_zero, Nat.mul_one]
theorem reE_neg (a p s : Nat) : reE a p (-(s : Int)) = a * 2 ^ s % p ∧ denE p (-(s : Int)) = p := by
 unfold reE numE denE
 rw [show (- -(s : Int)).toNat = s by omega, show (-(s : Int)).toNat = 0 by omega, Nat.pow_zero, Nat.mul_one]
 exact ⟨rfl, rfl⟩
theorem reE_nat (a p e : Nat) : reE a p e = a % p + p * (a / p % 2 ^ e) ∧ denE p e = p * 2 ^ e := by
 unfold reE numE denE
 rw [show (-(e : Int)).toNat = 0 by omega, Int.toNat_natCast, Nat.pow_zero, Nat.mul_one, Nat.mod_mul]
 exact ⟨rfl, rfl⟩
theorem leastE_nat {a p e : Nat} (hp : 0 < p) (h1 : a / p < 65536 * 2 ^ e) (h2 : ∀ e', e' < e → 65536 * 2 ^ e' ≤ a / p) (he : 0 < e) : leastE a p e := by
 refine ⟨?_, fun e' h3 h4 => ?_⟩
 ·rw [quE_nat]
  have : a / p / 2 ^ e < 65536 := by rw [Nat.div_lt_iff_lt_mul (Nat.pow_pos (by omega))]; exact h1
  omega
 ·have h5 := quE_le (a := a) hp (show e' ≤ ((e - 1 : Nat) : Int) by omega)
  have h6 : 65536 ≤ quE a p ((e - 1 : Nat) : Int) := by
   rw [quE_nat, Nat.le_div_iff_mul_le (Nat.pow_pos (by omega))]; exact h2 _ (by omega)
  omega
theorem leastE_neg {a p : Nat} {e : Int} (hp : 0 < p) (h1 : quE a p e ≤ 65535) (h2 : e = -16 ∨ 65535 < quE a p (e - 1)) (he : -16 ≤ e) : leastE a p e := by
 refine ⟨h1, fun e' h3 h4 => ?_⟩
 rcases h2 with h2 | h2
 ·omega
 ·have := quE_le (a := a) hp (show e' ≤ e - 1 by omega); omega
theorem half_nat {r p L T : Nat} (hr : r < p) : (T < L ∨ (L = T ∧ 0 < r) → p * (2 * T) < 2 * (r + p * L)) ∧ (L = T ∧ r = 0 → 2 * (r + p * L) = p * (2 * T)) ∧ (L < T → 2 * (r + p * L) < p * (2 * T)) := by
 have e : p * (2 * T) = 2 * (p * T) := by rw [Nat.mul_left_comm]
 rw [e]
 refine ⟨fun h => ?_, fun h => ?_, fun h => ?_⟩
 ·rcases h with h | ⟨h, h2⟩
  ·have := Nat.mul_le_mul_left p (show T + 1 ≤ L from h); rw [Nat.mul_add, Nat.mul_one] at this; omega
  ·subst h; omega
 ·rw [h.1, h.2]; omega
 ·have := Nat.mul_le_mul_left p (show L + 1 ≤ T from h); rw [Nat.mul_add, Nat.mul_one] at this; omega
theorem quE_six {a p V : Nat} (hV : V = a / p) (h : V < 65536) : quE a p 0 ≤ 65535 := by rw [quE_zero, ← hV]; omega
theorem less_one {a p s : Nat} {e2 : Int} (hp : 0 < p) (hs : 1 - e2 = s) (h : quE a p e2 ≤ 65535) : quE a p (e2 - 1) = a * 2 ^ s / p ∧ a * 2 ^ s / p ≤ 131071 := by
 have h1 : quE a p (e2 - 1) = a * 2 ^ s / p := by rw [← quE_neg]; congr 1; omega
 have hst := quE_step a p hp (e2 - 1)
 rw [show e2 - 1 + 1 = e2 by omega, h1] at hst
 exact ⟨h1, by omega⟩
theorem lt42 {T V e : Nat} (hT : T = 65536 * 2 ^ e) (hc : T ≤ V) (hV : V < 100000000000000000) (he : e ≤ 42) : e + 1 ≤ 42 := by
 apply Nat.lt_of_not_le; intro h
 have h2 : 2 ^ 42 ≤ 2 ^ e := Nat.pow_le_pow_right (by omega) h
 omega
theorem lt_more {T V e : Nat} (h : ∀ e', e' < e → 65536 * 2 ^ e' ≤ V) (hT : T = 65536 * 2 ^ e) (hc : T ≤ V) : ∀ e', e' < e + 1 → 65536 * 2 ^ e' ≤ V := fun e' h1 => by
 rcases Nat.lt_succ_iff_lt_or_eq.1 h1 with h2 | h2
 ·exact h e' h2
 ·rw [h2, ← hT]; exact hc
theorem tailR {n e : Int} {a p rm : Nat} {r : Option (Int × Int)} (hp : 0 < p) (h : leastE a p e) (h0 : -16 ≤ e) (hrm : roundE a p e = rm) (hr : r = fltNewP (sgn n rm) e) :
  rm ≤ 65536 ∧ (rm = 65536 → r = fltNewP (sgn n 32768) (e + 1)) ∧ (rm = 65536 → 30 < e + 1 → r = none) ∧ (rm ≠ 65536 → 30 < e → r = none) := by
 refine ⟨by rw [← hrm]; exact roundE_le h.1, fun h1 => ?_, fun h1 h2 => ?_, fun h1 h2 => ?_⟩
 ·rw [hr, h1, fltNewP_half]
 ·rw [hr, h1, fltNewP_half]
  exact fltNewP_big (by rw [sgn_abs]; exact Nat.le_refl _) (by omega)
 ·rw [hr]
  have h3 := leastE_big hp h (by omega)
  have h4 := roundE_ge a p e
  exact fltNewP_big (by rw [sgn_abs]; omega) (by omega)
theorem den_small {a p : Nat} {e : Int} (hp : 0 < p) (hp1 : p ≤ 10000000000000000) (ha : a < 100000000000000000) (h : ∀ e', -16 ≤ e' → e' < e → 65535 < quE a p e') : denE p e ≤ 10000000000000000 := by
 by_cases he : e ≤ 0
 ·unfold denE; rw [show e.toNat = 0 by omega, Nat.pow_zero, Nat.mul_one]; exact hp1
 ·obtain ⟨j, rfl⟩ : ∃ j : Nat, e = (j : Int) + 1 := ⟨(e - 1).toNat, by omega⟩
  have h1 := h j (by omega) (by omega)
  rw [quE_nat, Nat.div_div_eq_div_mul] at h1
  have h2 : 65536 ≤ a / (p * 2 ^ j) := h1
  have hpj : 0 < p * 2 ^ j := Nat.mul_pos hp (Nat.pow_pos (by decide))
  rw [Nat.le_div_iff_mul_le hpj] at h2
  unfold denE
  rw [show ((j : Int) + 1).toNat = j + 1 by omega, Nat.pow_succ, ← Nat.mul_assoc]
  generalize p * 2 ^ j = z at h2
  omega
theorem least_le {a p : Nat} {e : Int} (hp : 0 < p) (ha : a < 100000000000000000) (h : ∀ e', -16 ≤ e' → e' < e → 65535 < quE a p e') : e ≤ 42 := by
 apply Int.le_of_not_gt; intro hc
 have h1 := h 42 (by decide) hc
 have h2 : quE a p 42 ≤ a / 2 ^ 42 := by
  rw [show (42 : Int) = ((42 : Nat) : Int) from rfl, quE_nat]
  exact Nat.div_le_div_right (Nat.div_le_self a p)
 have h3 : a / 2 ^ 42 ≤ 22737 := by omega
 omega
theorem decOk_b {n x : Int} (h : decOkP n x = true) : -100000000000000000 < n ∧ n < 100000000000000000 ∧ -16 ≤ x ∧ x ≤ 0 := by
 unfold decOkP at h
 split at h
 ·rename_i h0
  have := of_decide_eq_true h
  omega
 ·simp only [Bool.and_eq_true, decide_eq_true_eq] at h
  have := (digI_17 n).1 h.1.2
  omega
theorem nearP_at {n x e : Int} {a p : Nat} (ha : a = n.natAbs) (hp : p = 10 ^ (-x).toNat) (h : leastE a p e) (h0 : -16 ≤ e) (h1 : e ≤ 50) : nearP n x = fltNewP (sgn n (roundE a p e)) e := by
 subst ha hp
 rw [nearP_of h h0 h1]; rfl
theorem leastE_to {a p : Nat} {e : Int} (h : quE a p e ≤ 65535) (h2 : ∀ e', -16 ≤ e' → e' < e → 65535 < quE a p e') : leastE a p e := ⟨h, h2⟩
theorem more_step {a p : Nat} {e : Int} (h2 : ∀ e', -16 ≤ e' → e' < e → 65535 < quE a p e') (h : ¬ quE a p e ≤ 65535) : ∀ e', -16 ≤ e' → e' < e + 1 → 65535 < quE a p e' := fun e' h0 h1 => by
 by_cases he : e' = e
 ·subst he; omega
 ·exact h2 e' h0 (by omega)
end Go.Proofs.YtlfblkekbcfjpaaGreatDoor
namespace Go.Proofs.YtlfblkekbcfjpaaGreatDoor
set_option maxRecDepth 100000
section
variable {y a b u t q r : Nat}
theorem dv_init (hy : y = a * 4294967296 + b) (ha : 0 < a) (ht : t < 4294967296) : (u * 4294967296 + t) / y ≤ u / a := by
 have hy0 : 0 < y := by omega
 rw [Nat.le_div_iff_mul_le ha]
 have h1 : (u * 4294967296 + t) / y * y ≤ u * 4294967296 + t := Nat.div_mul_le_self _ _
 generalize (u * 4294967296 + t) / y = Q at h1 ⊢
 rw [hy, Nat.mul_add, ← Nat.mul_assoc] at h1
 generalize Q * a = z at h1 ⊢
 omega
theorem dv_ge (hu : u < y) (ht : t < 4294967296) (hq : 4294967296 ≤ q) : (u * 4294967296 + t) / y < q := by
 have hy0 : 0 < y := by omega
 rw [Nat.div_lt_iff_lt_mul hy0]
 have h1 : 4294967296 * y ≤ q * y := Nat.mul_le_mul_right _ hq
 omega
theorem dv_gt (hy : y = a * 4294967296 + b) (hy0 : 0 < y) (hr : q * a + r = u) (h : 4294967296 * r + t < q * b) : (u * 4294967296 + t) / y < q := by
 rw [Nat.div_lt_iff_lt_mul hy0, hy, Nat.mul_add, ← Nat.mul_assoc]
 generalize q * a = z at hr ⊢
 generalize q * b = v at h ⊢
 omega
theorem dv_end (hy : y = a * 4294967296 + b) (hy0 : 0 < y) (hr : q * a + r = u) (hQ : (u * 4294967296 + t) / y ≤ q) (h : q * b ≤ 4294967296 * r + t) : q = (u * 4294967296 + t) / y := by
 apply Nat.le_antisymm _ hQ
 rw [Nat.le_div_iff_mul_le hy0, hy, Nat.mul_add, ← Nat.mul_assoc]
 generalize q * a = z at hr ⊢
 generalize q * b = v at h ⊢
 omega
theorem dv_break (hy : y = a * 4294967296 + b) (hb : b < 4294967296) (hu : u < y) (hr : q * a + r = u) (hQ : (u * 4294967296 + t) / y ≤ q) (h : 4294967296 ≤ r) : q = (u * 4294967296 + t) / y := by
 have hq : q < 4294967296 := by
  apply Nat.lt_of_not_le
  intro hc
  have h1 : 4294967296 * a ≤ q * a := Nat.mul_le_mul_right _ hc
  omega
 have h2 : q * b ≤ 4294967295 * 4294967295 := Nat.mul_le_mul (by omega) (by omega)
 exact dv_end hy (by omega) hr hQ (by omega)
end
theorem dv_two (K y u t1 t0 : Nat) (hy0 : 0 < y) : ((u * K + t1) / y) * K + (((u * K + t1) % y) * K + t0) / y = ((u * K + t1) * K + t0) / y ∧
  (((u * K + t1) % y) * K + t0) % y = ((u * K + t1) * K + t0) % y := by
 have h1 := Nat.div_add_mod (u * K + t1) y
 generalize (u * K + t1) / y = q1 at h1 ⊢
 generalize (u * K + t1) % y = r1 at h1 ⊢
 have e : (u * K + t1) * K + t0 = (r1 * K + t0) + (q1 * K) * y := by
  rw [← h1, Nat.add_mul, Nat.mul_right_comm q1 K y, Nat.mul_comm q1 y]; omega
 rw [e, Nat.add_mul_div_right _ _ hy0, Nat.add_mul_mod_self_right]
 exact ⟨by omega, rfl⟩
end Go.Proofs.YtlfblkekbcfjpaaGreatDoor
namespace Go.Proofs.YtlfblkekbcfjpaaGreatDoor
open Go.RowKit
def runeOkP (n : Int) : Bool := decide (0 ≤ n ∧ n ≤ 1114111) && !decide (55296 ≤ n ∧ n ≤ 57343)
def wideP (n : Int) : Nat := if runeOkP n then (if n < 128 then 1 else if n < 2048 then 2 else if n < 65536 then 3 else 4) else 0
def getP (l : List UInt8) : Option (Nat × Nat) := if l = [] ∨ Lib.decodeL l = (65533, 1) then none else some (Lib.decodeL l)
def byN (l : List UInt8) (i : Nat) : Nat := (l.getD i 0).toNat
def accN (l : List UInt8) (n0 : Nat) : Nat → Int
 | 0 => n0
 | j + 1 => 64 * accN l n0 j + byN l (j + 1) - 128
def headP (x : Nat) : Option (Nat × Nat) := if x < 128 then some (1, x) else if 192 ≤ x ∧ x ≤ 223 then some (2, x - 192) else if 224 ≤ x ∧ x ≤ 239 then some (3, x - 224) else if 240 ≤ x ∧ x ≤ 247 then some (4, x - 240) else none
theorem byN_lt (l : List UInt8) (i : Nat) : byN l i < 256 := (l.getD i 0).toNat_lt
theorem getP_eq {l : List UInt8} (hl : 0 < l.length) : getP l = if Lib.decodeN l.length (byN l 0) (byN l 1) (byN l 2) (byN l 3) = (65533, 1) then none else some (Lib.decodeN l.length (byN l 0) (byN l 1) (byN l 2) (byN l 3)) := by
 have hne : l ≠ [] := fun e => by subst e; simp at hl
 unfold getP
 rw [Lib.decodeL_N]
 simp only [hne, false_or]
 rfl
theorem getP_none_head {l : List UInt8} (hl : 0 < l.length) (h : headP (byN l 0) = none) : getP l = none := by
 rw [getP_eq hl]
 have h0 := byN_lt l 0
 unfold headP at h
 generalize byN l 0 = x at *
 have hx : ¬ x < 128 ∧ x / 32 ≠ 6 ∧ x / 16 ≠ 14 ∧ x / 8 ≠ 30 := by
  split at h
  ·cases h
  ·split at h
   ·cases h
   ·split at h
    ·cases h
    ·split at h
     ·cases h
     ·omega
 have e : Lib.decodeN l.length x (byN l 1) (byN l 2) (byN l 3) = (65533, 1) := by
  unfold Lib.decodeN
  rw [if_neg hx.1, if_neg (by omega), if_neg (by omega), if_neg (by omega)]
 rw [e, if_pos rfl]
theorem headP_cases {x W n0 : Nat} (h : headP x = some (W, n0)) (hx : x < 256) : (W = 1 ∧ n0 = x ∧ x < 128) ∨ (W = 2 ∧ x / 32 = 6 ∧ n0 = x % 32) ∨ (W = 3 ∧ x / 16 = 14 ∧ n0 = x % 16) ∨ (W = 4 ∧ x / 8 = 30 ∧ n0 = x % 8) := by
 unfold headP at h
 split at h
 ·injection h with h; injection h with h1 h2; omega
 ·split at h
  ·injection h with h; injection h with h1 h2; omega
  ·split at h
   ·injection h with h; injection h with h1 h2; omega
   ·split at h
    ·injection h with h; injection h with h1 h2; omega
    ·cases h
theorem getP_short {l : List UInt8} {W n0 : Nat} (hl : 0 < l.length) (h : headP (byN l 0) = some (W, n0)) (hs : l.length < W) : getP l = none := by
 have hb := byN_lt l 0
 rw [getP_eq hl]
 have e : Lib.decodeN l.length (byN l 0) (byN l 1) (byN l 2) (byN l 3) = (65533, 1) → (if Lib.decodeN l.length (byN l 0) (byN l 1) (byN l 2) (byN l 3) = (65533, 1) then none else some (Lib.decodeN l.length (byN l 0) (byN l 1) (byN l 2) (byN l 3))) = none := fun e => by rw [if_pos e]
 refine e ?_
 unfold Lib.decodeN
 rcases headP_cases h hb with ⟨h1, h2, h3⟩ | ⟨h1, h2, h3⟩ | ⟨h1, h2, h3⟩ | ⟨h1, h2, h3⟩
 ·omega
 all_goals
  rw [if_neg (by omega), if_neg (by omega), if_neg (by omega), if_neg (by omega)]
def contB (y : Nat) : Prop := 128 ≤ y ∧ y ≤ 191
instance (y : Nat) : Decidable (contB y) := by unfold contB; infer_instance
theorem getP_bad {l : List UInt8} {W n0 j : Nat} (hl : 0 < l.length) (h : headP (byN l 0) = some (W, n0)) (hj : 1 ≤ j) (hjW : j < W) (hb : ¬ contB (byN l j)) : getP l = none := by
 have h0 := byN_lt l 0
 rw [getP_eq hl]
 unfold contB at hb
 have e : Lib.decodeN l.length (byN l 0) (byN l 1) (byN l 2) (byN l 3) = (65533, 1) → (if Lib.decodeN l.length (byN l 0) (byN l 1) (byN l 2) (byN l 3) = (65533, 1) then none else some (Lib.decodeN l.length (byN l 0) (byN l 1) (byN l 2) (byN l 3))) = none := fun e => by rw [if_pos e]
 refine e ?_
 unfold Lib.decodeN
 have hj3 : j = 1 ∨ j = 2 ∨ j = 3 := by
  rcases headP_cases h h0 with ⟨h1, h2, h3⟩ | ⟨h1, h2, h3⟩ | ⟨h1, h2, h3⟩ | ⟨h1, h2, h3⟩ <;> omega
 have k1 := byN_lt l 1
 have k2 := byN_lt l 2
 have k3 := byN_lt l 3
 have hbb : (j = 1 ∧ byN l 1 / 64 ≠ 2) ∨ (j = 2 ∧ byN l 2 / 64 ≠ 2) ∨ (j = 3 ∧ byN l 3 / 64 ≠ 2) := by
  rcases hj3 with rfl | rfl | rfl
  ·left; exact ⟨rfl, by omega⟩
  ·right; left; exact ⟨rfl, by omega⟩
  ·right; right; exact ⟨rfl, by omega⟩
 rcases headP_cases h h0 with ⟨h1, h2, h3⟩ | ⟨h1, h2, h3⟩ | ⟨h1, h2, h3⟩ | ⟨h1, h2, h3⟩
 ·omega
 all_goals
  rw [if_neg (by omega), if_neg (by omega), if_neg (by omega), if_neg (by omega)]
theorem accN_val {l : List UInt8} {n0 j : Nat} (hc : ∀ i, 1 ≤ i → i ≤ j → contB (byN l i)) : ∃ m : Nat, accN l n0 j = m ∧ m < (n0 + 1) * 64 ^ j := by
 induction j with
 | zero => exact ⟨n0, rfl, by simp⟩
 | succ j ih =>
  obtain ⟨m, h1, h2⟩ := ih (fun i hi hi2 => hc i hi (by omega))
  obtain ⟨c1, c2⟩ := hc (j + 1) (by omega) (by omega)
  refine ⟨64 * m + (byN l (j + 1) - 128), ?_, ?_⟩
  ·rw [accN, h1]; omega
  ·rw [Nat.pow_succ, ← Nat.mul_assoc]
   generalize (n0 + 1) * 64 ^ j = z at h2
   omega
theorem runeOkP_iff (n : Int) : runeOkP n = true ↔ 0 ≤ n ∧ n ≤ 1114111 ∧ (n < 55296 ∨ 57343 < n) := by
 unfold runeOkP
 simp only [Bool.and_eq_true, decide_eq_true_eq, Bool.not_eq_true', decide_eq_false_iff_not]
 omega
theorem wideP_cases (n : Int) : (wideP n = 0 ∧ runeOkP n = false) ∨ (wideP n = 1 ∧ 0 ≤ n ∧ n < 128) ∨ (wideP n = 2 ∧ 128 ≤ n ∧ n < 2048) ∨ (wideP n = 3 ∧ 2048 ≤ n ∧ n < 65536 ∧ (n < 55296 ∨ 57343 < n)) ∨ (wideP n = 4 ∧ 65536 ≤ n ∧ n ≤ 1114111) := by
 unfold wideP
 cases h : runeOkP n
 ·left; simp -implicitDefEqProofs -dsimp
 ·have := (runeOkP_iff n).1 h
  simp only [if_true]
  split
  ·omega
  ·split
   ·omega
   ·split <;> omega
theorem fin_bad {d : Nat × Nat} (h : d = (65533, 1)) : (if d = (65533, 1) then none else some d) = none := by rw [if_pos h]
theorem fin_ok {d : Nat × Nat} {z W : Nat} (h : d = (z, W)) (hW : W ≠ 1) : (if d = (65533, 1) then none else some d) = some (z, W) := by
 rw [if_neg (by rw [h]; intro e; injection e with e1 e2; exact hW e2), h]
theorem getP_full {l : List UInt8} {W n0 : Nat} (hl : 0 < l.length) (h : headP (byN l 0) = some (W, n0)) (hs : W ≤ l.length) (hc : ∀ i, 1 ≤ i → i < W → contB (byN l i)) :
  (wideP (accN l n0 (W - 1)) = W → getP l = some ((accN l n0 (W - 1)).toNat, W)) ∧ (wideP (accN l n0 (W - 1)) ≠ W → getP l = none) := by
 have h0 := byN_lt l 0
 have k1 := byN_lt l 1
 have k2 := byN_lt l 2
 have k3 := byN_lt l 3
 rw [getP_eq hl]
 rcases headP_cases h h0 with ⟨rfl, rfl, h3⟩ | ⟨rfl, h2, rfl⟩ | ⟨rfl, h2, rfl⟩ | ⟨rfl, h2, rfl⟩
 ·have e : Lib.decodeN l.length (byN l 0) (byN l 1) (byN l 2) (byN l 3) = (byN l 0, 1) := by unfold Lib.decodeN; rw [if_pos h3]
  rw [e]
  have e2 : accN l (byN l 0) (1 - 1) = byN l 0 := rfl
  rw [e2]
  refine ⟨fun _ => ?_, fun hw => absurd ?_ hw⟩
  ·rw [if_neg (by intro e; injection e with e1 e2; omega)]; simp -implicitDefEqProofs -dsimp
  ·rcases wideP_cases (byN l 0 : Int) with h | h | h | h | h
   ·have := h.2; rw [Bool.eq_false_iff] at this; exact absurd ((runeOkP_iff _).2 (by omega)) this
   all_goals omega
 ·have c1 := hc 1 (by omega) (by omega)
  unfold contB at c1
  have e2 : accN l (byN l 0 % 32) (2 - 1) = ((byN l 0 % 32 * 64 + byN l 1 % 64 : Nat) : Int) := by
   show accN l _ 1 = _
   rw [accN, accN]; simp only [Nat.zero_add, Nat.reduceAdd]; omega
  rw [e2]
  generalize hz : byN l 0 % 32 * 64 + byN l 1 % 64 = z
  have hz2 : z < 2048 := by omega
  have e : Lib.decodeN l.length (byN l 0) (byN l 1) (byN l 2) (byN l 3) = if z ≥ 128 then (z, 2) else (65533, 1) := by
   unfold Lib.decodeN; rw [if_neg (by omega), if_pos (by omega), hz]
  rcases wideP_cases (z : Int) with h | h | h | h | h
  ·have := h.2; rw [Bool.eq_false_iff] at this; exact absurd ((runeOkP_iff _).2 (by omega)) this
  ·rw [fin_bad (e.trans (if_neg (by omega)))]; exact ⟨fun hw => by omega, fun _ => rfl⟩
  ·rw [fin_ok (e.trans (if_pos (by omega))) (by omega)]; exact ⟨fun _ => by simp, fun hw => by omega⟩
  all_goals omega
 ·have c1 := hc 1 (by omega) (by omega)
  have c2 := hc 2 (by omega) (by omega)
  unfold contB at c1 c2
  have e2 : accN l (byN l 0 % 16) (3 - 1) = ((byN l 0 % 16 * 4096 + byN l 1 % 64 * 64 + byN l 2 % 64 : Nat) : Int) := by
   show accN l _ 2 = _
   rw [accN, accN, accN]; simp only [Nat.zero_add, Nat.reduceAdd]; omega
  rw [e2]
  generalize hz : byN l 0 % 16 * 4096 + byN l 1 % 64 * 64 + byN l 2 % 64 = z
  have hz2 : z < 65536 := by omega
  have e : Lib.decodeN l.length (byN l 0) (byN l 1) (byN l 2) (byN l 3) = if z ≥ 2048 ∧ (z < 55296 ∨ (57344 ≤ z ∧ z ≤ 1114111)) then (z, 3) else (65533, 1) := by
   unfold Lib.decodeN; rw [if_neg (by omega), if_neg (by omega), if_pos (by omega), hz]
  rcases wideP_cases (z : Int) with h | h | h | h | h
  ·have := h.2; rw [Bool.eq_false_iff, Ne, runeOkP_iff] at this
   rw [fin_bad (e.trans (if_neg (by omega)))]; exact ⟨fun hw => by omega, fun _ => rfl⟩
  ·rw [fin_bad (e.trans (if_neg (by omega)))]; exact ⟨fun hw => by omega, fun _ => rfl⟩
  ·rw [fin_bad (e.trans (if_neg (by omega)))]; exact ⟨fun hw => by omega, fun _ => rfl⟩
  ·rw [fin_ok (e.trans (if_pos (by omega))) (by omega)]; exact ⟨fun _ => by simp, fun hw => by omega⟩
  ·omega
 ·have c1 := hc 1 (by omega) (by omega)
  have c2 := hc 2 (by omega) (by omega)
  have c3 := hc 3 (by omega) (by omega)
  unfold contB at c1 c2 c3
  have e2 : accN l (byN l 0 % 8) (4 - 1) = ((byN l 0 % 8 * 262144 + byN l 1 % 64 * 4096 + byN l 2 % 64 * 64 + byN l 3 % 64 : Nat) : Int) := by
   show accN l _ 3 = _
   rw [accN, accN, accN, accN]; simp only [Nat.zero_add, Nat.reduceAdd]; omega
  rw [e2]
  generalize hz : byN l 0 % 8 * 262144 + byN l 1 % 64 * 4096 + byN l 2 % 64 * 64 + byN l 3 % 64 = z
  have e : Lib.decodeN l.length (byN l 0) (byN l 1) (byN l 2) (byN l 3) = if z ≥ 65536 ∧ (z < 55296 ∨ (57344 ≤ z ∧ z ≤ 1114111)) then (z, 4) else (65533, 1) := by
   unfold Lib.decodeN; rw [if_neg (by omega), if_neg (by omega), if_neg (by omega), if_pos (by omega), hz]
  rcases wideP_cases (z : Int) with h | h | h | h | h
  ·have := h.2; rw [Bool.eq_false_iff, Ne, runeOkP_iff] at this
   rw [fin_bad (e.trans (if_neg (by omega)))]; exact ⟨fun hw => by omega, fun _ => rfl⟩
  ·rw [fin_bad (e.trans (if_neg (by omega)))]; exact ⟨fun hw => by omega, fun _ => rfl⟩
  ·rw [fin_bad (e.trans (if_neg (by omega)))]; exact ⟨fun hw => by omega, fun _ => rfl⟩
  ·rw [fin_bad (e.trans (if_neg (by omega)))]; exact ⟨fun hw => by omega, fun _ => rfl⟩
  ·rw [fin_ok (e.trans (if_pos (by omega))) (by omega)]; exact ⟨fun _ => by simp, fun hw => by omega⟩
def textOkP (s : ByteArray) : Bool := Lib.validD s.data.toList
theorem validD_getP {l : List UInt8} (hl : 0 < l.length) : (getP l = none → Lib.validD l = false) ∧ (∀ n w, getP l = some (n, w) → Lib.validD l = Lib.validD (l.drop w) ∧ 1 ≤ w ∧ w ≤ l.length) := by
 have hne : l ≠ [] := fun e => by subst e; simp at hl
 rw [Lib.validD_step l hne]
 have hw : 1 ≤ (Lib.decodeL l).2 ∧ (Lib.decodeL l).2 ≤ l.length := by
  refine ⟨Lib.decodeL_width l, ?_⟩
  rw [Lib.decodeL_N]
  rcases Lib.decodeN_shape l.length (l.getD 0 0).toNat (l.getD 1 0).toNat (l.getD 2 0).toNat (l.getD 3 0).toNat with ⟨_, e⟩ | ⟨_, h, _, _, e⟩ | ⟨_, h, _, _, _, _, e⟩ | ⟨_, h, _, _, _, _, _, e⟩ | e <;> rw [e] <;> simp only <;> omega
 unfold getP
 simp only [hne, false_or]
 refine ⟨fun h => ?_, fun n w h => ?_⟩
 ·split at h
  ·rename_i e; rw [e]; rfl
  ·cases h
 ·split at h
  ·cases h
  ·rename_i e
   injection h with h
   rw [if_neg (fun h2 => e (Prod.ext h2.1 h2.2)), h]
   rw [h] at hw
   simp only at hw
   exact ⟨rfl, hw.1, hw.2⟩
end Go.Proofs.YtlfblkekbcfjpaaGreatDoor
namespace Go.Proofs.YtlfblkekbcfjpaaGreatDoor
def isDg (x : UInt8) : Bool := decide (48 ≤ x.toNat) && decide (x.toNat ≤ 57)
def dgs (l : List UInt8) (a : Nat) : List UInt8 := (l.drop a).takeWhile isDg
def valFrom (n : Nat) (l : List UInt8) : Nat := l.foldl (fun n b => 10 * n + (b.toNat - 48)) n
def valD (l : List UInt8) : Nat := valFrom 0 l
theorem valFrom_lt : ∀ (l : List UInt8) (n : Nat), l.all isDg = true → valFrom n l < 10 ^ l.length * (n + 1)
 | [], n, _ => by simp -implicitDefEqProofs -dsimp [valFrom]
 | x :: l, n, h => by
  simp only [List.all_cons, Bool.and_eq_true, isDg, decide_eq_true_eq] at h
  have := valFrom_lt l (10 * n + (x.toNat - 48)) (by simpa [isDg] using h.2)
  show valFrom (10 * n + (x.toNat - 48)) l < _
  refine Nat.lt_of_lt_of_le this ?_
  rw [List.length_cons, Nat.pow_succ, Nat.mul_assoc]
  exact Nat.mul_le_mul_left _ (by omega)
theorem valD_lt {l : List UInt8} (h : l.all isDg = true) : valD l < 10 ^ l.length := by simpa [valD] using valFrom_lt l 0 h
theorem dgs_all (l : List UInt8) (a : Nat) : (dgs l a).all isDg = true := by
 unfold dgs; exact List.all_takeWhile
theorem dgs_no {l : List UInt8} {a : Nat} (h : ∀ x, l[a]? = some x → isDg x = false) : dgs l a = [] := by
 unfold dgs
 cases hd : l.drop a with
 | nil => rfl
 | cons x r =>
  have : l[a]? = some x := by have := List.getElem?_drop (xs := l) (i := a) (j := 0); rw [hd] at this; simpa using this.symm
  rw [List.takeWhile_cons, h x this]; rfl
theorem dgs_yes {l : List UInt8} {a : Nat} {x : UInt8} (h : l[a]? = some x) (hx : isDg x = true) : dgs l a = x :: dgs l (a + 1) := by
 unfold dgs
 have ha : a < l.length := by
  rcases Nat.lt_or_ge a l.length with h1 | h1
  ·exact h1
  ·rw [List.getElem?_eq_none h1] at h; cases h
 rw [List.drop_eq_getElem_cons ha, List.takeWhile_cons]
 have : l[a] = x := by rw [List.getElem?_eq_getElem ha] at h; exact Option.some.inj h
 rw [this, hx]; rfl
theorem dgs_len (l : List UInt8) (a : Nat) : (dgs l a).length ≤ l.length - a := by
 unfold dgs
 refine Nat.le_trans (List.takeWhile_sublist _).length_le ?_
 rw [List.length_drop]; exact Nat.le_refl _
theorem dgs_take (l : List UInt8) (a : Nat) : (l.drop a).take (dgs l a).length = dgs l a := by
 unfold dgs
 exact (List.prefix_iff_eq_take.1 (List.takeWhile_prefix _)).symm
theorem byN_some {l : List UInt8} {a : Nat} {x : UInt8} (h : l[a]? = some x) : byN l a = x.toNat := by
 unfold byN; rw [List.getD_eq_getElem?_getD, h]; rfl
theorem byN_none {l : List UInt8} {a : Nat} (h : l.length ≤ a) : byN l a = 0 := by
 unfold byN; rw [List.getD_eq_getElem?_getD, List.getElem?_eq_none h]; rfl
def wholeP (w : List UInt8) : List UInt8 := if w.headD 0 = 48 then [48] else w
def sgI (b : Bool) (n : Nat) : Int := if b then -(n : Int) else n
def num4 (neg : Bool) (w f : List UInt8) (s : Bool) (e : List UInt8) (a5 : Nat) : Int × Int × Nat × Int :=
 if 17 < ((w ++ f).dropWhile (· == 48)).length ∨ 3 < e.length then (0, 0, a5, 2) else (sgI neg (valD (w ++ f)), sgI s (valD e) - f.length, a5, 0)
def num3 (l : List UInt8) (neg : Bool) (w f : List UInt8) (a3 : Nat) : Int × Int × Nat × Int :=
 if byN l a3 = 101 ∨ byN l a3 = 69 then
  (if byN l (a3 + 1) = 43 ∨ byN l (a3 + 1) = 45 then
   (if dgs l (a3 + 2) = [] then (0, 0, a3 + 2, 1) else num4 neg w f (decide (byN l (a3 + 1) = 45)) (dgs l (a3 + 2)) (a3 + 2 + (dgs l (a3 + 2)).length))
  else if dgs l (a3 + 1) = [] then (0, 0, a3 + 1, 1) else num4 neg w f false (dgs l (a3 + 1)) (a3 + 1 + (dgs l (a3 + 1)).length))
 else num4 neg w f false [] a3
def num2 (l : List UInt8) (neg : Bool) (w : List UInt8) (a2 : Nat) : Int × Int × Nat × Int :=
 if byN l a2 = 46 then (if dgs l (a2 + 1) = [] then (0, 0, a2 + 1, 1) else num3 l neg w (dgs l (a2 + 1)) (a2 + 1 + (dgs l (a2 + 1)).length)) else num3 l neg w [] a2
def num1 (l : List UInt8) (neg : Bool) (a1 : Nat) : Int × Int × Nat × Int :=
 if dgs l a1 = [] then (0, 0, a1, 1) else num2 l neg (wholeP (dgs l a1)) (a1 + (wholeP (dgs l a1)).length)
def numP (l : List UInt8) (a : Nat) : Int × Int × Nat × Int := if byN l a = 45 then num1 l true (a + 1) else num1 l false a
def hexV (x : Nat) : Option Nat := if 48 ≤ x ∧ x ≤ 57 then some (x - 48) else if 97 ≤ x ∧ x ≤ 102 then some (x - 87) else if 65 ≤ x ∧ x ≤ 70 then some (x - 55) else none
def hexN : List UInt8 → Nat → Option Nat
 | [], n => some n
 | x :: t, n => match hexV x.toNat with | some d => hexN t (16 * n + d) | none => none
def fourP (l : List UInt8) (a : Nat) : Option Nat := if a + 4 ≤ l.length then hexN ((l.drop a).take 4) 0 else none
def unitP (l : List UInt8) (a : Nat) : Option Nat := if byN l a = 92 ∧ byN l (a + 1) = 117 then fourP l (a + 2) else none
def letP (b : Nat) : Option Nat := if b = 34 ∨ b = 92 ∨ b = 47 then some b else if b = 98 then some 8 else if b = 116 then some 9 else if b = 110 then some 10 else if b = 102 then some 12 else if b = 114 then some 13 else none
def escP (l : List UInt8) (a : Nat) : Option (Nat × Nat) := match letP (byN l (a + 1)) with
 | some n => some (n, a + 2)
 | none => match unitP l a with
  | none => none
  | some n => if 56320 ≤ n ∧ n ≤ 57343 then none else if ¬ (55296 ≤ n ∧ n ≤ 56319) then some (n, a + 6)
   else match unitP l (a + 6) with
    | none => none
    | some m => if 56320 ≤ m ∧ m ≤ 57343 then some (65536 + 1024 * (n - 55296) + m - 56320, a + 12) else none
def letterP (l : List UInt8) (a : Nat) : Option (Nat × Nat) := if byN l a = 92 then escP l a else match getP (l.drop a) with
 | some (n, w) => if n < 32 then none else some (n, a + w)
 | none => none
def strP (l : List UInt8) : Nat → Nat → Option (List Nat × Nat)
 | 0, _ => none
 | f + 1, a => if l.length ≤ a then none else if byN l a = 34 then some ([], a + 1) else match letterP l a with
  | none => none
  | some (n, e) => match strP l f e with
   | none => none
   | some (cs, e') => some (n :: cs, e')
def strQ (l : List UInt8) (a : Nat) : Option (List Nat × Nat) := strP l (l.length + 1 - a) a
theorem getP_w {l : List UInt8} {n w : Nat} (h : getP l = some (n, w)) : 1 ≤ w ∧ w ≤ l.length := by
 have hl : 0 < l.length := by
  cases l with
  | nil => simp -implicitDefEqProofs -dsimp [getP] at h
  | cons x t => simp -implicitDefEqProofs -dsimp
 exact ((validD_getP hl).2 n w h).2
theorem fourP_len {l : List UInt8} {a n : Nat} (h : fourP l a = some n) : a + 4 ≤ l.length := by
 unfold fourP at h; split at h
 ·assumption
 ·cases h
theorem unitP_len {l : List UInt8} {a n : Nat} (h : unitP l a = some n) : a + 6 ≤ l.length := by
 unfold unitP at h; split at h
 ·have := fourP_len h; omega
 ·cases h
theorem letP_ne {b n : Nat} (h : letP b = some n) : b ≠ 0 := by
 intro e; subst e
 have : letP 0 = none := by decide
 rw [this] at h; cases h
theorem escP_len {l : List UInt8} {a n e : Nat} (h : escP l a = some (n, e)) : a < e ∧ e ≤ l.length := by
 unfold escP at h
 cases h1 : letP (byN l (a + 1)) with
 | some m =>
  rw [h1] at h; cases h
  have h2 := letP_ne h1
  rcases Nat.lt_or_ge (a + 1) l.length with h3 | h3
  ·omega
  ·exact absurd (byN_none h3) h2
 | none =>
  rw [h1] at h; simp only at h
  cases h2 : unitP l a with
  | none => rw [h2] at h; cases h
  | some m =>
   have h3 := unitP_len h2
   rw [h2] at h; simp only at h
   split at h
   ·cases h
   ·split at h
    ·cases h; omega
    ·cases h4 : unitP l (a + 6) with
     | none => rw [h4] at h; cases h
     | some k =>
      have h5 := unitP_len h4
      rw [h4] at h; simp only at h
      split at h
      ·have h9 : a + 12 = e := congrArg Prod.snd (Option.some.inj h)
       clear h; omega
      ·cases h
theorem letterP_len {l : List UInt8} {a n e : Nat} (h : letterP l a = some (n, e)) : a < e ∧ e ≤ l.length := by
 unfold letterP at h
 split at h
 ·exact escP_len h
 ·cases h1 : getP (l.drop a) with
  | none => rw [h1] at h; cases h
  | some p =>
   obtain ⟨m, w⟩ := p
   have h2 := getP_w h1
   rw [h1] at h; simp only at h
   split at h
   ·cases h
   ·cases h; simp at h2; omega
theorem strP_more {l : List UInt8} : ∀ (f a : Nat), l.length + 1 - a ≤ f → strP l f a = strQ l a
 | 0, a, h => by
  have : l.length + 1 - a = 0 := by omega
  unfold strQ; rw [this]
 | f + 1, a, h => by
  by_cases ha : l.length ≤ a
  ·unfold strQ
   cases hk : l.length + 1 - a with
   | zero => simp -implicitDefEqProofs -dsimp [strP, ha]
   | succ k => simp -implicitDefEqProofs -dsimp [strP, ha]
  ·obtain ⟨k, hk⟩ : ∃ k, l.length + 1 - a = k + 1 := ⟨l.length - a, by omega⟩
   unfold strQ; rw [hk]
   unfold strP
   rw [if_neg ha, if_neg ha]
   split
   ·rfl
   ·cases h1 : letterP l a with
    | none => rfl
    | some p =>
     obtain ⟨n, e⟩ := p
     have h2 := letterP_len h1
     simp only
     rw [strP_more f e (by omega), strP_more k e (by omega)]
theorem strQ_end {l : List UInt8} {a : Nat} (h : l.length ≤ a) : strQ l a = none := by
 unfold strQ
 cases hk : l.length + 1 - a with
 | zero => rfl
 | succ k => simp -implicitDefEqProofs -dsimp [strP, h]
theorem strQ_shut {l : List UInt8} {a : Nat} (h : a < l.length) (hq : byN l a = 34) : strQ l a = some ([], a + 1) := by
 unfold strQ
 obtain ⟨k, hk⟩ : ∃ k, l.length + 1 - a = k + 1 := ⟨l.length - a, by omega⟩
 rw [hk]; unfold strP; rw [if_neg (by omega), if_pos hq]
theorem strQ_bad {l : List UInt8} {a : Nat} (hq : byN l a ≠ 34) (hb : letterP l a = none) : strQ l a = none := by
 unfold strQ
 cases hk : l.length + 1 - a with
 | zero => rfl
 | succ k => unfold strP; rw [if_neg hq, hb]; simp -implicitDefEqProofs -dsimp
theorem strQ_step {l : List UInt8} {a n e : Nat} (hq : byN l a ≠ 34) (hb : letterP l a = some (n, e)) : strQ l a = (strQ l e).map fun p => (n :: p.1, p.2) := by
 have h1 := letterP_len hb
 obtain ⟨k, hk⟩ : ∃ k, l.length + 1 - a = k + 1 := ⟨l.length - a, by omega⟩
 conv => lhs; unfold strQ
 rw [hk]; unfold strP; rw [if_neg (by omega), if_neg hq, hb]
 simp only
 rw [strP_more k e (by omega)]
 cases strQ l e <;> rfl
def encP (n : Nat) : List UInt8 := (Utf8.encode n).data.toList
structure Tok where
 k : Int
 s : List UInt8
 n : Int
 x : Int
def isBl (x : UInt8) : Bool := x == 9 || x == 10 || x == 13 || x == 32
def skipP (l : List UInt8) (a : Nat) : Nat := a + ((l.drop a).takeWhile isBl).length
def isSg (x : Nat) : Bool := x == 123 || x == 125 || x == 91 || x == 93 || x == 58 || x == 44
def startsAt (l : List UInt8) (a : Nat) (w : List UInt8) : Bool := w.isPrefixOf (l.drop a)
def wordP (l : List UInt8) (a : Nat) : Except Int (Tok × Nat) :=
 if startsAt l a [110, 117, 108, 108] then .ok (⟨4, [110, 117, 108, 108], 0, 0⟩, a + 4)
 else if startsAt l a [116, 114, 117, 101] then .ok (⟨4, [116, 114, 117, 101], 0, 0⟩, a + 4)
 else if startsAt l a [102, 97, 108, 115, 101] then .ok (⟨4, [102, 97, 108, 115, 101], 0, 0⟩, a + 5)
 else .error 1
def tokAt (l : List UInt8) (a : Nat) : Except Int (Tok × Nat) :=
 if l.length ≤ a then .ok (⟨0, [], 0, 0⟩, a)
 else if isSg (byN l a) = true then .ok (⟨1, [l.getD a 0], 0, 0⟩, a + 1)
 else if byN l a = 34 then (match strQ l (a + 1) with
  | none => .error 1
  | some (cs, e) => .ok (⟨2, cs.flatMap encP, 0, 0⟩, e))
 else if byN l a = 45 ∨ isDg (l.getD a 0) = true then (if (numP l a).2.2.2 = 0 then .ok (⟨3, [], (numP l a).1, (numP l a).2.1⟩, (numP l a).2.2.1) else .error (numP l a).2.2.2)
 else wordP l a
def tokP (l : List UInt8) (a : Nat) : Except Int (Tok × Nat) := tokAt l (skipP l a)
end Go.Proofs.YtlfblkekbcfjpaaGreatDoor
