/- Part of a proof: contracts and plain laws. -/
import Derived.Test.YtlfblkekbcfjpaaGreatDoorZ18
import Derived.Test.YtlfblkekbcfjpaaGreatDoorZ17
set_option linter.unusedVariables false
set_option linter.unusedSimpArgs false
namespace Go.Proofs.YtlfblkekbcfjpaaGreatDoor
open Go Go.RowKit
set_option maxRecDepth 100000
set_option maxHeartbeats 4000000
theorem dq_in {hi lo y C S B : Nat} (hCS : C * S = B) (hS : 0 < S) (hC : 0 < C) (hlo : lo < B) (hh : hi < y) :
  (hi * B + lo) * S = (hi * S + lo / C) * B + lo * S % B ∧ hi * S + lo / C < y * S ∧ lo / C < S := by
 have h1 : lo * S / B = lo / C := by rw [← hCS, Nat.mul_div_mul_right _ _ hS]
 have h2 := Nat.div_add_mod (lo * S) B
 rw [h1] at h2
 have h3 : lo / C < S := by rw [Nat.div_lt_iff_lt_mul hC, Nat.mul_comm, hCS]; exact hlo
 have h4 : (hi + 1) * S ≤ y * S := Nat.mul_le_mul_right _ hh
 rw [Nat.add_mul, Nat.one_mul] at h4
 refine ⟨?_, by omega, h3⟩
 rw [Nat.add_mul, Nat.add_mul, Nat.add_assoc, Nat.mul_comm (lo / C) B, h2, Nat.mul_right_comm]
theorem dq_out {N y S : Nat} (hS : 0 < S) : N * S / (y * S) = N / y ∧ N * S % (y * S) / S = N % y := by
 refine ⟨Nat.mul_div_mul_right _ _ hS, ?_⟩
 rw [Nat.mul_mod_mul_right, Nat.mul_div_cancel _ hS]
theorem u64_of {a : Nat} (h : a < 18446744073709551616) : wrK .u64 (a : Int) = (a : Int) := wrapu64_nat a (by omega)
theorem bv64 {a : Nat} (h : a < 18446744073709551616) : (BitVec.ofInt 64 (a : Int)).toNat = a := by
 rw [BitVec.ofInt_natCast, BitVec.toNat_ofNat]; exact Nat.mod_eq_of_lt h
theorem and32 {a : Nat} (h : a < 18446744073709551616) : bitsV (fun _ x y => x &&& y) .u64 (a : Int) 4294967295 = ((a % 4294967296 : Nat) : Int) := by
 have h3 : bitsV (fun _ x y => x &&& y) .u64 (a : Int) ((4294967295 : Nat) : Int) = wrK .u64 ((BitVec.ofInt 64 (a : Int) &&& BitVec.ofInt 64 ((4294967295 : Nat) : Int)).toNat : Int) := rfl
 show bitsV (fun _ x y => x &&& y) .u64 (a : Int) ((4294967295 : Nat) : Int) = _
 rw [h3, BitVec.toNat_and, bv64 h, bv64 (by decide), Nat.and_two_pow_sub_one_eq_mod a 32]
 exact u64_of (by have := Nat.mod_lt a (show 0 < 4294967296 by decide); omega)
theorem or64s {a b s : Nat} (ha : a * 2 ^ s < 18446744073709551616) (hb : b < 2 ^ s) (hs : s ≤ 63) : bitsV (fun _ x y => x ||| y) .u64 ((a * 2 ^ s : Nat) : Int) (b : Int) = ((a * 2 ^ s + b : Nat) : Int) := by
 have hs2 : 2 ^ s ≤ 2 ^ 63 := Nat.pow_le_pow_right (by decide) hs
 have hb2 : b < 18446744073709551616 := by omega
 have h3 : bitsV (fun _ x y => x ||| y) .u64 ((a * 2 ^ s : Nat) : Int) (b : Int) = wrK .u64 ((BitVec.ofInt 64 ((a * 2 ^ s : Nat) : Int) ||| BitVec.ofInt 64 (b : Int)).toNat : Int) := rfl
 have h4 : a * 2 ^ s ||| b = a * 2 ^ s + b := by rw [Nat.mul_comm a]; exact (Nat.two_pow_add_eq_or_of_lt hb a).symm
 rw [h3, BitVec.toNat_or, bv64 ha, bv64 hb2, h4]
 apply u64_of
 have hle : a * 2 ^ s + b < (a + 1) * 2 ^ s := by rw [Nat.add_mul]; omega
 have hd : 2 ^ s ∣ 18446744073709551616 := by
  refine ⟨2 ^ (64 - s), ?_⟩
  rw [← Nat.pow_add, show s + (64 - s) = 64 by omega]
 obtain ⟨c, hc⟩ := hd
 have hac : a < c := by
  apply Nat.lt_of_mul_lt_mul_right (a := 2 ^ s)
  rw [Nat.mul_comm c, ← hc]; exact ha
 have : (a + 1) * 2 ^ s ≤ c * 2 ^ s := Nat.mul_le_mul_right _ hac
 rw [Nat.mul_comm c, ← hc] at this
 omega
theorem lz_spec {y : Nat} (h0 : 0 < y) (h1 : y < 18446744073709551616) : ∃ s : Nat, s ≤ 63 ∧ (64 - (Lib.bitLen y : Int)) = (s : Int) ∧ 9223372036854775808 ≤ y * 2 ^ s ∧ y * 2 ^ s < 18446744073709551616 := by
 obtain ⟨h2, h3, h4⟩ := Lib.bitLenAux_bounds 64 y h1 (by omega)
 have hb : Lib.bitLen y = Lib.bitLenAux 64 y := rfl
 have h5 : Lib.bitLenAux 64 y ≤ 64 := by
  apply Nat.le_of_not_lt; intro hc
  have := Nat.pow_le_pow_right (show 0 < 2 by decide) (show 64 ≤ Lib.bitLenAux 64 y - 1 by omega)
  omega
 refine ⟨64 - Lib.bitLenAux 64 y, by omega, by rw [hb]; omega, ?_, ?_⟩
 ·have h6 : 2 ^ (Lib.bitLenAux 64 y - 1) * 2 ^ (64 - Lib.bitLenAux 64 y) = 9223372036854775808 := by
   rw [← Nat.pow_add, show Lib.bitLenAux 64 y - 1 + (64 - Lib.bitLenAux 64 y) = 63 by omega]
  rw [← h6]; exact Nat.mul_le_mul_right _ h3
 ·have h6 : 2 ^ (Lib.bitLenAux 64 y) * 2 ^ (64 - Lib.bitLenAux 64 y) = 18446744073709551616 := by
   rw [← Nat.pow_add, show Lib.bitLenAux 64 y + (64 - Lib.bitLenAux 64 y) = 64 by omega]
  rw [← h6]; exact Nat.mul_lt_mul_of_pos_right h4 (Nat.pow_pos (by decide))
theorem sub64 {U T q Y V : Nat} (hq : q = (U * 4294967296 + T) / Y) (hV : V = (U * 4294967296 + T) % Y) (hY : 0 < Y) (hY2 : Y < 18446744073709551616) :
  wrK .u64 (wrK .u64 (wrK .u64 ((U : Int) * 4294967296) + (T : Int)) - wrK .u64 ((q : Int) * (Y : Int))) = (V : Int) := by
 have h := Nat.div_add_mod (U * 4294967296 + T) Y
 have hl := Nat.mod_lt (U * 4294967296 + T) hY
 rw [← hq, ← hV] at h
 rw [← hV] at hl
 obtain ⟨C, hC⟩ : ∃ C, C = Y * q := ⟨_, rfl⟩
 rw [← hC] at h
 have hCi : (q : Int) * (Y : Int) = (C : Int) := by rw [hC, Nat.mul_comm]; simp +zeta
 rw [hCi, wrK_u64, wrK_u64, wrK_u64, wrK_u64]
 clear hCi hC hq hV
 omega
theorem two_e (U T1 T0 : Nat) : (U * 4294967296 + T1) * 4294967296 + T0 = U * 18446744073709551616 + (T1 * 4294967296 + T0) := by omega
structure Halves (Y A C : Nat) : Prop where
 eq : Y = A * 4294967296 + C
 c : C < 4294967296
 a : A < 4294967296
 lo : 2147483648 ≤ A
theorem dv_guess {Y A C U T : Nat} (h : Halves Y A C) (hT : T < 4294967296) (hU : U < Y) : ∃ q r : Nat, (U : Int) / A = q ∧ wrK .u64 (q : Int) = q ∧ wrK .u64 ((U : Int) - wrK .u64 ((q : Int) * A)) = r ∧ q ≤ 8589934591 ∧ r < 4294967296 ∧ q * A + r = U ∧ (U * 4294967296 + T) / Y ≤ q := by
 have hA := h.lo
 have hl := h.a
 have hlc := h.c
 have hY : Y < 18446744073709551616 := by have := h.eq; omega
 have h1 := Nat.div_add_mod U A
 have h2 := Nat.mod_lt U (show 0 < A by omega)
 obtain ⟨q, hq⟩ : ∃ q, U / A = q := ⟨_, rfl⟩
 obtain ⟨r, hr⟩ : ∃ r, U % A = r := ⟨_, rfl⟩
 have hi := dv_init h.eq (show 0 < A by omega) hT (u := U)
 rw [hq] at h1 hi; rw [hr] at h1 h2
 obtain ⟨M, hM⟩ : ∃ M, M = q * A := ⟨_, rfl⟩
 have hMi : (q : Int) * A = (M : Int) := by rw [hM]; simp +zeta
 have hM2 : M + r = U := by rw [hM, Nat.mul_comm]; exact h1
 have hqm : q ≤ 8589934591 := by
  apply Nat.le_of_not_lt; intro hc
  have h3 : 8589934592 * 2147483648 ≤ q * A := Nat.mul_le_mul hc hA
  omega
 refine ⟨q, r, by rw [← hq]; rfl, u64_of (by omega), ?_, hqm, by omega, by rw [← hM]; exact hM2, hi⟩
 rw [hMi, u64_of (by omega), show (U : Int) - M = (r : Int) by omega]
 exact u64_of (by omega)
theorem dv_facts {Y A C U T q r : Nat} (h : Halves Y A C) (hT : T < 4294967296) (hU : U < Y) (hq : q ≤ 8589934591) (hr : r < 4294967296) (hi : q * A + r = U) (hQ : (U * 4294967296 + T) / Y ≤ q) :
  (4294967296 ≤ q ∨ (q < 4294967296 ∧ ∃ M S2 : Nat, wrK .u64 ((q : Int) * C) = M ∧ wrK .u64 (wrK .u64 (4294967296 * (r : Int)) + T) = S2 ∧ (S2 < M ∨ (M ≤ S2 ∧ q = (U * 4294967296 + T) / Y)))) := by
 have hlc := h.c
 by_cases hg : 4294967296 ≤ q
 ·exact .inl hg
 ·obtain ⟨M, hM⟩ : ∃ M, M = q * C := ⟨_, rfl⟩
  have hMl : M ≤ 4294967295 * 4294967295 := by rw [hM]; exact Nat.mul_le_mul (by omega) (by omega)
  refine .inr ⟨by omega, M, 4294967296 * r + T, by rw [show (q : Int) * C = (M : Int) by rw [hM]; simp +zeta]; exact u64_of (by omega), ?_, ?_⟩
  ·rw [show 4294967296 * (r : Int) = ((4294967296 * r : Nat) : Int) by omega, u64_of (by omega), show ((4294967296 * r : Nat) : Int) + T = ((4294967296 * r + T : Nat) : Int) by omega]
   exact u64_of (by omega)
  ·by_cases hc : 4294967296 * r + T < M
   ·exact .inl hc
   ·exact .inr ⟨Nat.le_of_not_lt hc, dv_end h.eq (Nat.lt_of_le_of_lt (Nat.zero_le _) hU) hi hQ (by rw [← hM]; exact Nat.le_of_not_lt hc)⟩
theorem dv_less {Y A C U T q r : Nat} (h : Halves Y A C) (hT : T < 4294967296) (hU : U < Y) (hq : q ≤ 8589934591) (hr : r < 4294967296) (hi : q * A + r = U) (hQ : (U * 4294967296 + T) / Y ≤ q)
  (hc : 4294967296 ≤ q ∨ 4294967296 * r + T < q * C) : ∃ q' r' : Nat, q = q' + 1 ∧ r + A = r' ∧ wrK .u64 ((q : Int) - 1) = q' ∧ wrK .u64 ((r : Int) + A) = r' ∧ r' < 8589934592 ∧ q' * A + r' = U ∧ (U * 4294967296 + T) / Y ≤ q' ∧ (4294967296 ≤ r' → q' = (U * 4294967296 + T) / Y) := by
 have hl := h.a
 have hlt : (U * 4294967296 + T) / Y < q := by
  rcases hc with hc | hc
  ·exact dv_ge hU hT hc
  ·exact dv_gt h.eq (by omega) hi hc
 have hq0 : 0 < q := Nat.lt_of_le_of_lt (Nat.zero_le _) hlt
 obtain ⟨q', rfl⟩ : ∃ q', q = q' + 1 := ⟨q - 1, by omega⟩
 have hi2 : q' * A + (r + A) = U := by rw [Nat.add_mul, Nat.one_mul] at hi; omega
 refine ⟨q', r + A, rfl, rfl, ?_, ?_, by omega, hi2, by omega, fun hb => dv_break h.eq h.c hU hi2 (by omega) hb⟩
 ·rw [show ((q' + 1 : Nat) : Int) - 1 = (q' : Int) by omega]; exact u64_of (by omega)
 ·rw [show (r : Int) + A = ((r + A : Nat) : Int) by omega]; exact u64_of (by omega)
theorem lDiv64 {hi lo y : Nat} (hy : y < 18446744073709551616) (hlo : lo < 18446744073709551616) (hh : hi < y) :
  Fn Tryz.prog 195 [U hi, U lo, U y] [.un, .un, .un] [U (((hi * 18446744073709551616 + lo) / y : Nat) : Int), U (((hi * 18446744073709551616 + lo) % y : Nat) : Int)] := by
 obtain ⟨N, hN⟩ : ∃ N, N = hi * 18446744073709551616 + lo := ⟨_, rfl⟩
 rw [← hN]
 obtain ⟨Q, hQ⟩ : ∃ Q, Q = N / y := ⟨_, rfl⟩
 obtain ⟨R, hR⟩ : ∃ R, R = N % y := ⟨_, rfl⟩
 rw [← hQ, ← hR]
 have hy0 : ¬ (y : Int) = 0 := by omega
 have hy9 : ¬ y = 0 := by omega
 have hle : ¬ (y : Int) ≤ hi := by omega
 have hle9 : ¬ y ≤ hi := by omega
 by_cases h0 : hi = 0
 ·subst h0
  have hNl : N = lo := by omega
  subst hNl
  have hd1 : (N : Int) / y = (Q : Int) := by rw [hQ]; rfl
  have hd2 : (N : Int) % y = (R : Int) := by rw [hR]; rfl
  have hwQ := u64_of (show Q < 18446744073709551616 by rw [hQ]; exact Nat.lt_of_le_of_lt (Nat.div_le_self _ _) hlo)
  clear hQ hR hN
  refine Fn_of Tryz.func195 rfl rfl (by simp -implicitDefEqProofs -dsimp) rfl ?_; simp only [Tryz.f195]
  simp -implicitDefEqProofs -dsimp [hy0, hy9, hle, hle9, hd1, hd2, hwQ]; repeat' (first | with_reducible intro _ | with_reducible apply And.intro | (refine chkOk ?_; kernel_rfl))
 have hi0 : ¬ (hi : Int) = 0 := by omega
 obtain ⟨s, hs63, hs, hn1, hn2⟩ := lz_spec (show 0 < y by omega) hy
 have hLZ := lLead64 (x := (y : Int)) (by omega) (by omega)
 rw [Int.toNat_natCast, hs] at hLZ
 obtain ⟨Y, hY⟩ : ∃ Y : Nat, Y = y * 2 ^ s := ⟨_, rfl⟩
 rw [← hY] at hn1 hn2
 have fY : wrK .u64 ((y : Int) * 2 ^ s) = (Y : Int) := by rw [show (y : Int) * 2 ^ s = (Y : Int) by rw [hY]; simp +zeta]; exact u64_of hn2
 have fs : wrK .u64 (s : Int) = (s : Int) := u64_of (by omega)
 have fm : min s 64 = s := by omega
 obtain ⟨A, hA⟩ : ∃ A : Nat, A = Y / 4294967296 := ⟨_, rfl⟩
 have fA : (Y : Int).fdiv 4294967296 = (A : Int) := by rw [Int.fdiv_eq_ediv_of_nonneg _ (by decide), hA]; rfl
 obtain ⟨C, hC⟩ : ∃ C : Nat, C = Y % 4294967296 := ⟨_, rfl⟩
 have fC := and32 hn2
 rw [← hC] at fC
 have hH : Halves Y A C := ⟨by rw [hA, hC, Nat.mul_comm]; exact (Nat.div_add_mod _ _).symm, by omega, by omega, by omega⟩
 have hS0 : 0 < 2 ^ s := Nat.pow_pos (by decide)
 have hCS : 2 ^ (64 - s) * 2 ^ s = 18446744073709551616 := by rw [← Nat.pow_add, show 64 - s + s = 64 by omega]
 have hin := dq_in hCS hS0 (Nat.pow_pos (by decide)) hlo hh
 have hout := dq_out (N := N) (y := y) hS0
 rw [← hN, ← hY] at hin
 rw [← hY, ← hQ, ← hR] at hout
 have hiS : hi * 2 ^ s < 18446744073709551616 := by
  have h1 : hi * 2 ^ s ≤ y * 2 ^ s := Nat.mul_le_mul_right _ (Nat.le_of_lt hh)
  rw [← hY] at h1; exact Nat.lt_of_le_of_lt h1 hn2
 obtain ⟨Z, hZ⟩ : ∃ Z : Nat, Z = hi * 2 ^ s := ⟨_, rfl⟩
 have fZ : wrK .u64 ((hi : Int) * 2 ^ s) = (Z : Int) := by rw [show (hi : Int) * 2 ^ s = (Z : Int) by rw [hZ]; simp +zeta]; exact u64_of (by rw [hZ]; exact hiS)
 have f64 : wrK .u64 (64 - (s : Int)) = ((64 - s : Nat) : Int) := by rw [show 64 - (s : Int) = ((64 - s : Nat) : Int) by omega]; exact u64_of (by omega)
 obtain ⟨c, hc⟩ : ∃ c, 64 - s = c := ⟨_, rfl⟩
 rw [hc] at f64 hin
 have fmc : min c 64 = c := by omega
 obtain ⟨X, hX⟩ : ∃ X : Nat, X = lo / 2 ^ c := ⟨_, rfl⟩
 have fX : (lo : Int).fdiv (2 ^ c) = (X : Int) := by rw [Int.fdiv_eq_ediv_of_nonneg _ (Int.pow_nonneg (by decide)), hX]; simp +zeta
 rw [← hX, ← hZ] at hin
 obtain ⟨Uu, hU⟩ : ∃ Uu : Nat, Uu = Z + X := ⟨_, rfl⟩
 have fU : bitsV (fun _ x y => x ||| y) .u64 (Z : Int) (X : Int) = (Uu : Int) := by rw [hU, hZ]; exact or64s hiS hin.2.2 hs63
 obtain ⟨TT, hTT⟩ : ∃ TT : Nat, TT = lo * 2 ^ s % 18446744073709551616 := ⟨_, rfl⟩
 have fTT : wrK .u64 ((lo : Int) * 2 ^ s) = (TT : Int) := by rw [wrK_u64, hTT]; simp +zeta
 have hTTl : TT < 18446744073709551616 := by rw [hTT]; exact Nat.mod_lt _ (by decide)
 obtain ⟨T1, hT1⟩ : ∃ T1 : Nat, T1 = TT / 4294967296 := ⟨_, rfl⟩
 have fT1 : (TT : Int).fdiv 4294967296 = (T1 : Int) := by rw [Int.fdiv_eq_ediv_of_nonneg _ (by decide), hT1]; rfl
 obtain ⟨T0, hT0⟩ : ∃ T0 : Nat, T0 = TT % 4294967296 := ⟨_, rfl⟩
 have fT0 := and32 hTTl
 rw [← hT0] at fT0
 rw [← hU, ← hTT] at hin
 have T1l : T1 < 4294967296 := by omega
 have T0l : T0 < 4294967296 := by omega
 have Uul : Uu < Y := hin.2.1
 have hTe : T1 * 4294967296 + T0 = TT := by omega
 have hNS := hin.1
 have hpS : (2 : Int) ^ s = ((2 ^ s : Nat) : Int) := by simp +zeta
 clear hin hTT hTTl hT1 hT0 hX hU hZ hiS hCS hn1 hY hA hC hN hQ hR hlo hh
 have hAn : ¬ (A : Int) = 0 := by have := hH.lo; omega
 have hAn9 : ¬ A = 0 := by have := hH.lo; omega
 obtain ⟨q0, r0, g1, g2, g3, g4, g5, g6, g7⟩ := dv_guess hH T1l Uul
 refine Fn_ofW Tryz.func195 rfl rfl (by simp -implicitDefEqProofs -dsimp) rfl ?_; simp only [Tryz.f195]
 refine W_cutL (l := [_, _, _, _, _, _, _, _, _, _, _, _, _, _, _]) (fun p : Nat × Nat => [(2, U Y), (8, U s), (9, U A), (10, U C), (11, U Uu), (13, U T1), (14, U T0), (15, U p.1)]) (fun p => p.1 = (Uu * 4294967296 + T1) / Y) ?hb ?ha
 case ha =>
  simp -implicitDefEqProofs -dsimp [-head_L, hy0, hy9, hle, hle9, hi0, h0]
  refine wpcall_d hLZ ?_; simp -implicitDefEqProofs -dsimp [-head_L, fY, fs, fm, fA, fC, fZ, f64, fmc, fX, fU, fTT, fT1, fT0, hAn, hAn9, g1, g2, g3]
  refine WL_loop (fun p : Nat × Nat => [(2, U Y), (8, U s), (9, U A), (10, U C), (11, U Uu), (13, U T1), (14, U T0), (15, U p.1), (16, U p.2)]) (fun p => p.1) (fun p => p.1 ≤ 8589934591 ∧ p.2 < 4294967296 ∧ p.1 * A + p.2 = Uu ∧ (Uu * 4294967296 + T1) / Y ≤ p.1) (q0, r0) ⟨g4, g5, g6, g7⟩ ?_ ?_
  ·simp -implicitDefEqProofs -dsimp
  ·clear g1 g2 g3 g4 g5 g6 g7 q0 r0
   rintro ⟨q, r⟩ ⟨i1, i2, i3, i4⟩
   simp only at i1 i2 i3 i4 ⊢
   have hless := fun hc => dv_less hH T1l Uul i1 i2 i3 i4 hc
   rcases dv_facts hH T1l Uul i1 i2 i3 i4 with hg | ⟨hg, M, S2, hM, hS, hcmp⟩
   ·obtain ⟨q', r', e1, e2, e3, e4, e5, e6, e7, e8⟩ := hless (.inl hg)
    have hg' : (4294967296 : Int) ≤ q := by omega
    by_cases hb : 4294967296 ≤ r'
    ·have hb' : (4294967296 : Int) ≤ r' := by omega
     simp -implicitDefEqProofs -dsimp [-head_L, hg', e3, e4, hb']
     refine At.mk (q', r') (e8 hb) ?_; simp -implicitDefEqProofs -dsimp
    ·have hb' : ¬ (4294967296 : Int) ≤ r' := by omega
     simp -implicitDefEqProofs -dsimp [-head_L, -endOk, hg', e3, e4, hb']
     refine ⟨q', r', ⟨by omega, by omega, e6, e7⟩, by omega, ?_⟩
     simp -implicitDefEqProofs -dsimp
   ·have hg' : ¬ (4294967296 : Int) ≤ q := by omega
    rcases hcmp with hc | ⟨hc, hE⟩
    ·have hc' : (S2 : Int) < M := by omega
     have hlt : 4294967296 * r + T1 < q * C := by
      have hlc := hH.c
      obtain ⟨M9, hM9⟩ : ∃ M9, M9 = q * C := ⟨_, rfl⟩
      have hMl : M9 ≤ 4294967295 * 4294967295 := by rw [hM9]; exact Nat.mul_le_mul (by omega) (by omega)
      have a1 : (M : Int) = M9 := by rw [← hM, show (q : Int) * C = (M9 : Int) by rw [hM9]; simp +zeta]; exact u64_of (by omega)
      have a2 : (S2 : Int) = ((4294967296 * r + T1 : Nat) : Int) := by
       rw [← hS, show 4294967296 * (r : Int) = ((4294967296 * r : Nat) : Int) by omega, u64_of (by omega), show ((4294967296 * r : Nat) : Int) + T1 = ((4294967296 * r + T1 : Nat) : Int) by omega]
       exact u64_of (by omega)
      rw [← hM9]; omega
     obtain ⟨q', r', e1, e2, e3, e4, e5, e6, e7, e8⟩ := hless (.inr hlt)
     clear hlt
     by_cases hb : 4294967296 ≤ r'
     ·have hb' : (4294967296 : Int) ≤ r' := by omega
      simp -implicitDefEqProofs -dsimp [-head_L, hg', hM, hS, hc', e3, e4, hb']
      refine At.mk (q', r') (e8 hb) ?_; simp -implicitDefEqProofs -dsimp
     ·have hb' : ¬ (4294967296 : Int) ≤ r' := by omega
      simp -implicitDefEqProofs -dsimp [-head_L, -endOk, hg', hM, hS, hc', e3, e4, hb']
      refine ⟨q', r', ⟨by omega, by omega, e6, e7⟩, by omega, ?_⟩
      simp -implicitDefEqProofs -dsimp
    ·have hc' : ¬ (S2 : Int) < M := by omega
     simp -implicitDefEqProofs -dsimp [-head_L, hg', hM, hS, hc']
     refine At.mk (q, r) hE ?_; simp -implicitDefEqProofs -dsimp
 rintro ⟨q1, r1⟩ hq1
 simp only at hq1 ⊢
 clear g1 g2 g3 g4 g5 g6 g7 r1
 obtain ⟨V1, hV1⟩ : ∃ V1, V1 = (Uu * 4294967296 + T1) % Y := ⟨_, rfl⟩
 have hsub := sub64 hq1 hV1 (by omega) hn2
 have V1l : V1 < Y := by rw [hV1]; exact Nat.mod_lt _ (by omega)
 obtain ⟨q0, r0, g1, g2, g3, g4, g5, g6, g7⟩ := dv_guess hH T0l V1l
 refine W_cutL (l := [_, _, _, _]) (fun p : Nat × Nat => [(2, U Y), (8, U s), (14, U T0), (15, U q1), (17, U V1), (18, U p.1)]) (fun p => p.1 = (V1 * 4294967296 + T0) / Y) ?hb2 ?ha2
 case ha2 =>
  simp -implicitDefEqProofs -dsimp [-head_L, hsub, hAn, hAn9, g1, g2, g3]
  refine WL_loop (fun p : Nat × Nat => [(2, U Y), (8, U s), (9, U A), (10, U C), (14, U T0), (15, U q1), (17, U V1), (18, U p.1), (16, U p.2)]) (fun p => p.1) (fun p => p.1 ≤ 8589934591 ∧ p.2 < 4294967296 ∧ p.1 * A + p.2 = V1 ∧ (V1 * 4294967296 + T0) / Y ≤ p.1) (q0, r0) ⟨g4, g5, g6, g7⟩ ?_ ?_
  ·simp -implicitDefEqProofs -dsimp
  ·clear g1 g2 g3 g4 g5 g6 g7 q0 r0
   rintro ⟨q, r⟩ ⟨i1, i2, i3, i4⟩
   simp only at i1 i2 i3 i4 ⊢
   have hless := fun hc => dv_less hH T0l V1l i1 i2 i3 i4 hc
   rcases dv_facts hH T0l V1l i1 i2 i3 i4 with hg | ⟨hg, M, S2, hM, hS, hcmp⟩
   ·obtain ⟨q', r', e1, e2, e3, e4, e5, e6, e7, e8⟩ := hless (.inl hg)
    have hg' : (4294967296 : Int) ≤ q := by omega
    by_cases hb : 4294967296 ≤ r'
    ·have hb' : (4294967296 : Int) ≤ r' := by omega
     simp -implicitDefEqProofs -dsimp [-head_L, hg', e3, e4, hb']
     refine At.mk (q', r') (e8 hb) ?_; simp -implicitDefEqProofs -dsimp
    ·have hb' : ¬ (4294967296 : Int) ≤ r' := by omega
     simp -implicitDefEqProofs -dsimp [-head_L, -endOk, hg', e3, e4, hb']
     refine ⟨q', r', ⟨by omega, by omega, e6, e7⟩, by omega, ?_⟩
     simp -implicitDefEqProofs -dsimp
   ·have hg' : ¬ (4294967296 : Int) ≤ q := by omega
    rcases hcmp with hc | ⟨hc, hE⟩
    ·have hc' : (S2 : Int) < M := by omega
     have hlt : 4294967296 * r + T0 < q * C := by
      have hlc := hH.c
      obtain ⟨M9, hM9⟩ : ∃ M9, M9 = q * C := ⟨_, rfl⟩
      have hMl : M9 ≤ 4294967295 * 4294967295 := by rw [hM9]; exact Nat.mul_le_mul (by omega) (by omega)
      have a1 : (M : Int) = M9 := by rw [← hM, show (q : Int) * C = (M9 : Int) by rw [hM9]; simp +zeta]; exact u64_of (by omega)
      have a2 : (S2 : Int) = ((4294967296 * r + T0 : Nat) : Int) := by
       rw [← hS, show 4294967296 * (r : Int) = ((4294967296 * r : Nat) : Int) by omega, u64_of (by omega), show ((4294967296 * r : Nat) : Int) + T0 = ((4294967296 * r + T0 : Nat) : Int) by omega]
       exact u64_of (by omega)
      rw [← hM9]; omega
     obtain ⟨q', r', e1, e2, e3, e4, e5, e6, e7, e8⟩ := hless (.inr hlt)
     clear hlt
     by_cases hb : 4294967296 ≤ r'
     ·have hb' : (4294967296 : Int) ≤ r' := by omega
      simp -implicitDefEqProofs -dsimp [-head_L, hg', hM, hS, hc', e3, e4, hb']
      refine At.mk (q', r') (e8 hb) ?_; simp -implicitDefEqProofs -dsimp
     ·have hb' : ¬ (4294967296 : Int) ≤ r' := by omega
      simp -implicitDefEqProofs -dsimp [-head_L, -endOk, hg', hM, hS, hc', e3, e4, hb']
      refine ⟨q', r', ⟨by omega, by omega, e6, e7⟩, by omega, ?_⟩
      simp -implicitDefEqProofs -dsimp
    ·have hc' : ¬ (S2 : Int) < M := by omega
     simp -implicitDefEqProofs -dsimp [-head_L, hg', hM, hS, hc']
     refine At.mk (q, r) hE ?_; simp -implicitDefEqProofs -dsimp
 rintro ⟨q2, r2⟩ hq2
 simp only at hq2 ⊢
 clear g1 g2 g3 g4 g5 g6 g7 r2 q0 r0
 obtain ⟨V2, hV2⟩ : ∃ V2, V2 = (V1 * 4294967296 + T0) % Y := ⟨_, rfl⟩
 have hsub2 := sub64 hq2 hV2 (by omega) hn2
 have htwo := dv_two 4294967296 Y Uu T1 T0 (by omega)
 have hNN : (Uu * 4294967296 + T1) * 4294967296 + T0 = N * 2 ^ s := by rw [hNS, two_e, hTe]
 rw [← hq1, ← hV1, hNN, ← hq2, ← hV2, hout.1] at htwo
 have hR2 : V2 / 2 ^ s = R := by rw [htwo.2]; exact hout.2
 have hQ2 : q1 * 4294967296 + q2 = Q := htwo.1
 have fR : (V2 : Int).fdiv (2 ^ s) = (R : Int) := by rw [hpS, Int.fdiv_eq_ediv_of_nonneg _ (by omega), ← hR2]; rfl
 have hQl : wrK .u64 (wrK .u64 ((q1 : Int) * 4294967296) + q2) = (Q : Int) := by
  have h1 : Q < 18446744073709551616 := by
   rw [← hQ2]
   have a1 : q1 < 4294967296 := by
    rw [hq1, Nat.div_lt_iff_lt_mul (by omega)]
    have : Uu + 1 ≤ Y := Uul
    omega
   have a2 : q2 < 4294967296 := by
    rw [hq2, Nat.div_lt_iff_lt_mul (by omega)]
    have : V1 + 1 ≤ Y := V1l
    omega
   omega
  rw [show (q1 : Int) * 4294967296 = ((q1 * 4294967296 : Nat) : Int) by omega, u64_of (by omega), show ((q1 * 4294967296 : Nat) : Int) + q2 = (Q : Int) by omega]
  exact u64_of h1
 clear htwo hNN hR2 hQ2 hq1 hq2 hV1 hV2 hNS hout
 refine wpc_sound _ _ _ ?_
 simp -implicitDefEqProofs -dsimp [hsub2, fR, fm, hQl]; repeat' (first | with_reducible intro _ | with_reducible apply And.intro | (refine chkOk ?_; kernel_rfl))
end Go.Proofs.YtlfblkekbcfjpaaGreatDoor
namespace Go.Proofs.YtlfblkekbcfjpaaGreatDoor
open Go
set_option maxRecDepth 100000
theorem iwithin {n lo hi : Int} : Fn Tryz.prog 40 [I n, I lo, I hi] [.un, .un, .un] [B (decide (lo ≤ n) && decide (n ≤ hi))] := by
 refine Fn_of Tryz.func40 rfl rfl (by simp -implicitDefEqProofs -dsimp) rfl ?_; simp only [Tryz.f40]
 simp -implicitDefEqProofs -dsimp
theorem sIn {n lo hi : Int} : Fn Tryz.prog 35 [I n, I lo, I hi] [.un, .un, .un] [B (decide (lo ≤ n) && decide (n ≤ hi))] := by
 refine Fn_of Tryz.func35 rfl rfl (by simp -implicitDefEqProofs -dsimp) rfl ?_; simp only [Tryz.f35]
 simp -implicitDefEqProofs -dsimp
theorem iWayOk {n : Int} : Fn Tryz.prog 25 [I n] [.un] [B (decide (1 ≤ n) && decide (n ≤ 4))] := by
 refine Fn_of Tryz.func25 rfl rfl (by simp -implicitDefEqProofs -dsimp) rfl ?_; simp only [Tryz.f25]
 simp -implicitDefEqProofs -dsimp
 refine wpcall_d (iwithin) ?_; simp -implicitDefEqProofs -dsimp
theorem sWayOk {n : Int} : Fn Tryz.prog 21 [I n] [.un] [B (decide (1 ≤ n) && decide (n ≤ 4))] := by
 refine Fn_of Tryz.func21 rfl rfl (by simp -implicitDefEqProofs -dsimp) rfl ?_; simp only [Tryz.f21]
 simp -implicitDefEqProofs -dsimp
 refine wpcall_d (sIn) ?_; simp -implicitDefEqProofs -dsimp
def limOk (d b c : Int) : Bool := decide (1 ≤ d) && decide (d ≤ 20) && (decide (1 ≤ b) && decide (b ≤ 4096)) && (decide (1 ≤ c) && decide (c ≤ 2000))
theorem iLimitsOk {d b c : Int} : Fn Tryz.prog 24 [.ag [I d, I b, I c]] [.un] [B (limOk d b c)] := by
 refine Fn_of Tryz.func24 rfl rfl (by simp -implicitDefEqProofs -dsimp) rfl ?_; simp only [Tryz.f24]
 simp -implicitDefEqProofs -dsimp
 refine wpcall_d (iwithin) ?_; simp -implicitDefEqProofs -dsimp
 refine wpcall_d (iwithin) ?_; simp -implicitDefEqProofs -dsimp
 refine wpcall_d (iwithin) ?_; simp -implicitDefEqProofs -dsimp
 simp -implicitDefEqProofs -dsimp [limOk]
theorem sLimitsOk {d b c : Int} : Fn Tryz.prog 20 [.ag [I d, I b, I c]] [.un] [B (limOk d b c)] := by
 refine Fn_of Tryz.func20 rfl rfl (by simp -implicitDefEqProofs -dsimp) rfl ?_; simp only [Tryz.f20]
 simp -implicitDefEqProofs -dsimp
 refine wpcall_d (sIn) ?_; simp -implicitDefEqProofs -dsimp
 refine wpcall_d (sIn) ?_; simp -implicitDefEqProofs -dsimp
 refine wpcall_d (sIn) ?_; simp -implicitDefEqProofs -dsimp
 simp -implicitDefEqProofs -dsimp [limOk]
def isW (w : Int) : Bool := decide (w = 1) || decide (w = 2) || decide (w = 4) || decide (w = 8)
theorem isW_iff {w : Int} : isW w = true ↔ w = 1 ∨ w = 2 ∨ w = 4 ∨ w = 8 := by simp -implicitDefEqProofs -dsimp [isW, or_assoc]
theorem iisWidth {n : Int} : Fn Tryz.prog 211 [I n] [.un] [B (isW n)] := by
 refine Fn_of Tryz.func211 rfl rfl (by simp -implicitDefEqProofs -dsimp) rfl ?_; simp only [Tryz.f211]
 simp -implicitDefEqProofs -dsimp [isW]
theorem s3Width {n : Int} : Fn Tryz.prog 141 [I n] [.un] [B (isW n)] := by
 refine Fn_of Tryz.func141 rfl rfl (by simp -implicitDefEqProofs -dsimp) rfl ?_; simp only [Tryz.f141]
 simp -implicitDefEqProofs -dsimp [isW]
end Go.Proofs.YtlfblkekbcfjpaaGreatDoor
namespace Go.Proofs.YtlfblkekbcfjpaaGreatDoor
open Go
set_option maxRecDepth 100000
set_option maxHeartbeats 2000000
abbrev T (l : List UInt8) : V := .sc (.string ⟨l.toArray⟩)
@[simp] theorem T_size (l : List UInt8) : (ByteArray.mk l.toArray).size = l.length := by simp -implicitDefEqProofs -dsimp [ByteArray.size]
@[simp] theorem T_ext (l : List UInt8) (a b : Nat) : (ByteArray.mk l.toArray).extract a b = ⟨((l.take b).drop a).toArray⟩ := by
 apply ByteArray.ext
 simp +zeta [List.take_drop, List.extract_eq_take_drop]
 rw [List.drop_take, List.drop_take]; congr 1; omega
@[simp] theorem T_app (a b : List UInt8) : ByteArray.mk a.toArray ++ ByteArray.mk b.toArray = ⟨(a ++ b).toArray⟩ := by
 apply ByteArray.ext
 simp +zeta
@[simp] theorem T_eq (a b : List UInt8) : ByteArray.mk a.toArray = ByteArray.mk b.toArray ↔ a = b := by
 constructor
 ·intro h; have := congrArg (fun x => x.data.toList) h; simpa using this
 ·rintro rfl; rfl
theorem WC_no {P : Program} {g : Prop} {f : FuncId} {xs : List V} {d : Option Nat} {σ : St} {K : List (Comp × V) → List Comp → Prop} (hg : ¬ g) (hk : callK g xs [] [] [.un] d σ K) : WC P g f xs d σ K () :=
 ⟨[], [], [.un], fun h => absurd h hg, hk⟩
theorem WC_nr {P : Program} {g : Prop} {f : FuncId} {xs : List V} {d : Option Nat} {σ : St} {K : List (Comp × V) → List Comp → Prop} (rs : List V) (hg : ¬ g) (hk : callK g xs [] [] rs d σ K) : WC P g f xs d σ K () :=
 ⟨[], [], rs, fun h => absurd h hg, hk⟩
abbrev A8 (n : Int) : V := .sc (.int .u8 n)
theorem ibyteAt {l : List UInt8} {a : Nat} (hl : l.length ≤ 1099511627776) : Fn Tryz.prog 147 [T l, I a] [.un, .un] [A8 (byN l a)] := by
 have hL : wrK .i64 ((l.length : Int) - 1) = l.length - 1 := wrap64_id _ (by omega)
 by_cases ha : a < l.length
 ·have h1 : (a : Int) ≤ l.length - 1 := by omega
  refine Fn_of Tryz.func147 rfl rfl (by simp -implicitDefEqProofs -dsimp) rfl ?_; simp only [Tryz.f147]
  simp -implicitDefEqProofs -dsimp [byN, hL]
  repeat' (first | with_reducible intro _ | with_reducible apply And.intro | (refine chkOk ?_; kernel_rfl) | (refine wpcall_d (iwithin) ?_; simp -implicitDefEqProofs -dsimp [byN, hL, h1, ha]))
 ·have h1 : ¬ (a : Int) ≤ l.length - 1 := by omega
  refine Fn_of Tryz.func147 rfl rfl (by simp -implicitDefEqProofs -dsimp) rfl ?_; simp only [Tryz.f147]
  simp -implicitDefEqProofs -dsimp [byN, hL]
  repeat' (first | with_reducible intro _ | with_reducible apply And.intro | (refine chkOk ?_; kernel_rfl) | (refine wpcall_d (iwithin) ?_; simp -implicitDefEqProofs -dsimp [byN, hL, h1, ha]))
theorem iisDigit {l : List UInt8} {a : Nat} (hl : l.length ≤ 1099511627776) : Fn Tryz.prog 114 [T l, I a] [.un, .un] [B (isDg (l.getD a 0))] := by
 have hL : wrK .i64 ((l.length : Int) - 1) = l.length - 1 := wrap64_id _ (by omega)
 by_cases ha : a < l.length
 ·have h1 : (a : Int) ≤ l.length - 1 := by omega
  refine Fn_of Tryz.func114 rfl rfl (by simp -implicitDefEqProofs -dsimp) rfl ?_; simp only [Tryz.f114]
  simp -implicitDefEqProofs -dsimp [isDg, hL]
  repeat' (first | with_reducible intro _ | with_reducible apply And.intro | (refine chkOk ?_; kernel_rfl) | (refine wpcall_d (iwithin) ?_; simp -implicitDefEqProofs -dsimp [isDg, hL, h1, ha]))
  rw [Bool.eq_iff_iff]; simp -implicitDefEqProofs -dsimp; omega
 ·have h1 : ¬ (a : Int) ≤ l.length - 1 := by omega
  refine Fn_of Tryz.func114 rfl rfl (by simp -implicitDefEqProofs -dsimp) rfl ?_; simp only [Tryz.f114]
  simp -implicitDefEqProofs -dsimp [isDg, hL]
  repeat' (first | with_reducible intro _ | with_reducible apply And.intro | (refine chkOk ?_; kernel_rfl) | (refine wpcall_d (iwithin) ?_; simp -implicitDefEqProofs -dsimp [isDg, hL, h1, ha]))
theorem idigitsFrom {l : List UInt8} {a : Nat} (hl : l.length ≤ 1099511627776) (ha : a ≤ l.length) : Fn Tryz.prog 150 [T l, I a] [.un, .un] [T (dgs l a)] := by
 refine Fn_of Tryz.func150 rfl rfl (by simp -implicitDefEqProofs -dsimp) rfl ?_; simp only [Tryz.f150]
 simp -implicitDefEqProofs -dsimp
 refine WL_loop (fun k : Nat => [(0, T l), (1, I a), (5, I ((a + k : Nat) : Int))]) (fun k => l.length - (a + k)) (fun k => a + k ≤ l.length ∧ dgs l a = (l.drop a).take k ++ dgs l (a + k)) 0 ⟨by omega, by simp⟩ ?_ ?_
 ·simp -implicitDefEqProofs -dsimp
 ·rintro k ⟨hk, hd⟩
  have hw : wrK .i64 ((a : Int) + k + 1) = a + k + 1 := wrap64_id _ (by omega)
  have hi := iisDigit (l := l) (a := a + k) hl
  by_cases hk2 : a + k < l.length
  ·obtain ⟨x, hx⟩ : ∃ x, l[a + k]? = some x := ⟨_, List.getElem?_eq_getElem hk2⟩
   have hx2 : l.getD (a + k) 0 = x := by rw [List.getD_eq_getElem?_getD, hx]; rfl
   rw [hx2] at hi
   cases hdx : isDg x with
   | true =>
    rw [hdx] at hi
    simp -implicitDefEqProofs -dsimp [-head_L, -endOk]
    refine wpcall_d hi ?_; simp -implicitDefEqProofs -dsimp [-head_L, -endOk, hw]
    refine ⟨k + 1, ⟨by omega, ?_⟩, by omega, ?_⟩
    ·rw [hd, dgs_yes hx hdx, List.take_add_one, List.getElem?_drop, hx]; simp -implicitDefEqProofs -dsimp [Nat.add_assoc]
    ·simp -implicitDefEqProofs -dsimp; omega
   | false =>
    rw [hdx] at hi
    have h0 : dgs l (a + k) = [] := dgs_no fun y hy => by rw [hx] at hy; cases hy; exact hdx
    rw [h0, List.append_nil] at hd
    simp -implicitDefEqProofs -dsimp [-head_L]
    refine wpcall_d hi ?_; simp -implicitDefEqProofs -dsimp [-head_L]
    refine ⟨by omega, ?_⟩
    rw [hd, show ((a : Int) + k).toNat = a + k by omega, List.drop_take]; congr 1; omega
  ·have hx2 : l.getD (a + k) 0 = 0 := by rw [List.getD_eq_getElem?_getD, List.getElem?_eq_none (by omega)]; rfl
   rw [hx2] at hi
   have h0 : dgs l (a + k) = [] := dgs_no fun y hy => by rw [List.getElem?_eq_none (by omega)] at hy; cases hy
   rw [h0, List.append_nil] at hd
   have hdx : isDg 0 = false := by decide
   rw [hdx] at hi
   simp -implicitDefEqProofs -dsimp [-head_L]
   refine wpcall_d hi ?_; simp -implicitDefEqProofs -dsimp [-head_L]
   refine ⟨by omega, ?_⟩
   rw [hd, show ((a : Int) + k).toNat = a + k by omega, List.drop_take]; congr 1; omega
theorem s4Digits {l : List UInt8} {a : Nat} (hl : l.length ≤ 1099511627776) (ha : a ≤ l.length) : Fn Tryz.prog 135 [T l, I a] [.un, .un] [I ((a + (dgs l a).length : Nat) : Int)] := by
 refine Fn_of Tryz.func135 rfl rfl (by simp -implicitDefEqProofs -dsimp) rfl ?_; simp only [Tryz.f135]
 simp -implicitDefEqProofs -dsimp
 refine WL_loop (fun k : Nat => [(0, T l), (1, I ((a + k : Nat) : Int)), (4, I 0)]) (fun k => l.length - (a + k)) (fun k => a + k ≤ l.length ∧ (dgs l a).length = k + (dgs l (a + k)).length) 0 ⟨by omega, by simp⟩ ?_ ?_
 ·simp -implicitDefEqProofs -dsimp
 ·rintro k ⟨hk, hd⟩
  have hw : wrK .i64 ((a : Int) + k + 1) = a + k + 1 := wrap64_id _ (by omega)
  by_cases hk2 : a + k < l.length
  ·obtain ⟨x, hx⟩ : ∃ x, l[a + k]? = some x := ⟨_, List.getElem?_eq_getElem hk2⟩
   have hx2 : l[a + k] = x := by rw [List.getElem?_eq_getElem hk2] at hx; exact Option.some.inj hx
   have e1 : (a : Int) + k < l.length := by omega
   have e2 : ((a : Int) + k).toNat = a + k := by omega
   have e3 : (0 : Int) ≤ a + k := by omega
   have hi := @sIn x.toNat 48 57
   have hdx : (decide (48 ≤ (x.toNat : Int)) && decide ((x.toNat : Int) ≤ 57)) = isDg x := by rw [Bool.eq_iff_iff]; simp -implicitDefEqProofs -dsimp [isDg]; omega
   rw [hdx] at hi
   cases hx3 : isDg x with
   | true =>
    rw [hx3] at hi
    simp -implicitDefEqProofs -dsimp [-head_L, -endOk, e1, e2, e3, hk2, hx2]
    refine wpcall_d hi ?_; simp -implicitDefEqProofs -dsimp [-head_L, -endOk, hw]
    rw [dgs_yes hx hx3] at hd
    refine ⟨k + 1, ⟨by omega, ?_⟩, by omega, ?_⟩
    ·rw [hd]; simp -implicitDefEqProofs -dsimp [Nat.add_assoc]; omega
    ·simp -implicitDefEqProofs -dsimp [Int.add_assoc]
   | false =>
    rw [hx3] at hi
    rw [dgs_no (a := a + k) fun y hy => by rw [hx] at hy; cases hy; exact hx3] at hd
    simp -implicitDefEqProofs -dsimp [-head_L, e1, e2, e3, hk2, hx2]
    refine wpcall_d hi ?_; simp -implicitDefEqProofs -dsimp [-head_L]
    simp at hd; omega
  ·rw [dgs_no (a := a + k) fun y hy => by rw [List.getElem?_eq_none (by omega)] at hy; cases hy] at hd
   have e1 : ¬ (a : Int) + k < l.length := by omega
   simp -implicitDefEqProofs -dsimp [-head_L, e1, hk2]
   refine WC_no (by simp -implicitDefEqProofs -dsimp) ?_; simp -implicitDefEqProofs -dsimp [-head_L]
   simp at hd; omega
theorem dw_snoc (p : UInt8 → Bool) : ∀ (u : List UInt8) (x : UInt8), (u ++ [x]).dropWhile p = if u.dropWhile p = [] then [x].dropWhile p else u.dropWhile p ++ [x]
 | [], x => by simp -implicitDefEqProofs -dsimp
 | y :: u, x => by
  rw [List.cons_append, List.dropWhile_cons, List.dropWhile_cons]
  cases p y with
  | true => simpa using dw_snoc p u x
  | false => simp -implicitDefEqProofs -dsimp
theorem dw_mono (p : UInt8 → Bool) (u v : List UInt8) : (u.dropWhile p).length ≤ ((u ++ v).dropWhile p).length := by
 induction u with
 | nil => simp -implicitDefEqProofs -dsimp
 | cons y u ih =>
  rw [List.cons_append, List.dropWhile_cons, List.dropWhile_cons]
  cases p y <;> simp -implicitDefEqProofs -dsimp
  exact ih
theorem valD_snoc (u : List UInt8) (x : UInt8) : valD (u ++ [x]) = 10 * valD u + (x.toNat - 48) := by simp -implicitDefEqProofs -dsimp [valD, valFrom]
theorem valD_dw : ∀ (u : List UInt8), valD (u.dropWhile (· == 48)) = valD u
 | [] => rfl
 | y :: u => by
  rw [List.dropWhile_cons]
  by_cases h : y = 48
  ·subst h; simp -implicitDefEqProofs -dsimp
   rw [valD_dw u]; simp -implicitDefEqProofs -dsimp [valD, valFrom]
  ·simp -implicitDefEqProofs -dsimp [h]
theorem dw_all {u : List UInt8} {p q : UInt8 → Bool} (h : u.all q = true) : (u.dropWhile p).all q = true := by
 rw [List.all_eq_true] at h ⊢
 intro x hx
 exact h x ((List.dropWhile_sublist p).subset hx)
theorem s4Value {w : List UInt8} {m : Nat} (hw : w.all isDg = true) (hm : m ≤ 17) (hl : w.length ≤ 1099511627776) : Fn Tryz.prog 136 [T w, I m] [.un, .un] [I (if (w.dropWhile (· == 48)).length ≤ m then (valD w : Int) else 0), B (decide ((w.dropWhile (· == 48)).length ≤ m))] := by
 generalize hr : (if (w.dropWhile (· == 48)).length ≤ m then (valD w : Int) else 0) = r
 generalize hb : decide ((w.dropWhile (· == 48)).length ≤ m) = b
 refine Fn_of Tryz.func136 rfl rfl (by simp -implicitDefEqProofs -dsimp) rfl ?_; simp only [Tryz.f136]
 simp -implicitDefEqProofs -dsimp
 refine WL_loop (fun i : Nat => [(0, T w), (1, I m), (4, I 0), (5, B false), (6, I (valD (w.take i))), (7, I ((w.take i).dropWhile (· == 48)).length), (8, I i)]) (fun i => w.length - i) (fun i => i ≤ w.length ∧ ((w.take i).dropWhile (· == 48)).length ≤ m) 0 ⟨by omega, by simp⟩ ?_ ?_
 ·simp -implicitDefEqProofs -dsimp [valD, valFrom]
 ·rintro i ⟨hi, hk⟩
  by_cases hi2 : i < w.length
  ·obtain ⟨x, hx⟩ : ∃ x, w[i]? = some x := ⟨_, List.getElem?_eq_getElem hi2⟩
   have hx2 : w[i] = x := by rw [List.getElem?_eq_getElem hi2] at hx; exact Option.some.inj hx
   have hxd : 48 ≤ x.toNat ∧ x.toNat ≤ 57 := by
    have := List.all_eq_true.1 hw x (List.mem_of_getElem? hx)
    simpa [isDg] using this
   have ht : w.take (i + 1) = w.take i ++ [x] := by rw [List.take_add_one, hx]; rfl
   have hs := dw_snoc (· == 48) (w.take i) x
   rw [← ht] at hs
   have hv := valD_snoc (w.take i) x
   rw [← ht] at hv
   have hlt : valD (w.take i) < 100000000000000000 := by
    rw [← valD_dw]
    have h1 := valD_lt (dw_all (p := (· == 48)) (show (w.take i).all isDg = true from by rw [List.all_eq_true] at hw ⊢; exact fun y hy => hw y (List.mem_of_mem_take hy)))
    exact Nat.lt_of_lt_of_le h1 (Nat.pow_le_pow_right (by omega) (show _ ≤ 17 by omega))
   have hmono := dw_mono (· == 48) (w.take (i + 1)) (w.drop (i + 1))
   rw [List.take_append_drop] at hmono
   generalize (w.take i).dropWhile (· == 48) = u at hk hs ⊢
   generalize g2 : (w.take (i + 1)).dropWhile (· == 48) = u' at hs hmono
   generalize valD (w.take i) = n at hv hlt ⊢
   generalize g4 : valD (w.take (i + 1)) = n' at hv
   generalize (w.dropWhile (· == 48)).length = L at hmono hr hb
   have e1 : (i : Int) < w.length := by omega
   have e2 : wrK .i64 ((i : Int) + 1) = i + 1 := wrap64_id _ (by omega)
   have e3 : wrK .i64 (10 * (n : Int)) = 10 * n := wrap64_id _ (by omega)
   have e4 : wrK .u8 ((x.toNat : Int) - 48) = (x.toNat - 48 : Nat) := by rw [wrK_eq]; simp only [IntKind.wrap_u8]; omega
   have e5 : wrK .i64 ((x.toNat - 48 : Nat) : Int) = (x.toNat - 48 : Nat) := wrap64_id _ (by omega)
   have e6 : wrK .i64 (10 * (n : Int) + (x.toNat - 48 : Nat)) = n' := by rw [wrap64_id _ (by omega)]; omega
   have e7 : wrK .i64 ((u.length : Int) + 1) = u.length + 1 := wrap64_id _ (by omega)
   have e8 : ¬ ((m : Int) < u.length) := by omega
   have big : u.length + 1 ≤ L → m < u.length + 1 → r = 0 ∧ b = false := fun h1 h2 => by
    rw [if_neg (by omega)] at hr; rw [decide_eq_false (by omega)] at hb; exact ⟨hr.symm, hb.symm⟩
   by_cases hx48 : x = 48
   ·subst hx48
    by_cases hu : u = []
    ·subst hu
     simp at hs; subst hs
     simp -implicitDefEqProofs -dsimp [-head_L, -endOk, e1, hi2, hx2]
     simp at e4 e5 e6
     simp -implicitDefEqProofs -dsimp [-head_L, e2, e3, e4, e5, e6]
     refine ⟨by omega, i + 1, ⟨by omega, by rw [g2]; simp⟩, by omega, ?_⟩
     simp -implicitDefEqProofs -dsimp [g2, g4]
     simp at hv; omega
    ·rw [if_neg hu] at hs; subst hs
     have hul : 0 < u.length := by cases u <;> simp at hu ⊢
     simp at hmono
     simp -implicitDefEqProofs -dsimp [-head_L, -endOk, e1, hi2, hx2, hul, hu, e7]
     simp at e4 e5 e6
     simp -implicitDefEqProofs -dsimp [-head_L, e2, e3, e4, e5, e6]
     refine ⟨fun h => ⟨(big (by omega) (by omega)).1.symm, (big (by omega) (by omega)).2⟩, fun h => ⟨i + 1, ⟨by omega, by rw [g2]; simp -implicitDefEqProofs -dsimp; omega⟩, by omega, ?_⟩⟩
     simp -implicitDefEqProofs -dsimp [g2, g4]
     try (simp at hv; omega)
   ·have hx49 : ¬ x.toNat = 48 := fun h => hx48 (UInt8.toNat_inj.1 h)
    have hx50 : ¬ (x.toNat : Int) = 48 := by omega
    have hs : u' = u ++ [x] := by
     rw [hs]; split
     ·rename_i h; subst h; simp -implicitDefEqProofs -dsimp [hx48]
     ·rfl
    subst hs
    simp at hmono
    simp -implicitDefEqProofs -dsimp [-head_L, -endOk, e1, hi2, hx2, hx50, e7]
    simp -implicitDefEqProofs -dsimp [-head_L, e2, e3, e4, e5, e6]
    refine ⟨fun h => ⟨(big (by omega) (by omega)).1.symm, (big (by omega) (by omega)).2⟩, fun h => ⟨i + 1, ⟨by omega, by rw [g2]; simp -implicitDefEqProofs -dsimp; omega⟩, by omega, ?_⟩⟩
    simp -implicitDefEqProofs -dsimp [g2, g4]
  ·obtain rfl : i = w.length := by omega
   rw [List.take_length] at hk
   have h1 : ¬ (w.length : Int) < w.length := by omega
   rw [if_pos hk] at hr; rw [decide_eq_true hk] at hb; subst hr hb
   simp -implicitDefEqProofs -dsimp [-head_L]
end Go.Proofs.YtlfblkekbcfjpaaGreatDoor
