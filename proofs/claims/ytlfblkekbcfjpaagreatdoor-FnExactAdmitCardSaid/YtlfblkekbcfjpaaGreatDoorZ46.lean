/- Part of a proof: contracts and plain laws. -/
import Derived.Test.YtlfblkekbcfjpaaGreatDoorZ45
set_option linter.unusedVariables false
set_option linter.unusedSimpArgs false
namespace Go.Proofs.YtlfblkekbcfjpaaGreatDoor
open Go
set_option maxRecDepth 100000
set_option maxHeartbeats 4000000
def RdI (b : List UInt8) (d : Nat) : Prop := ∀ a : Int, 0 ≤ a → a ≤ b.length → Fn Tryz.prog 82 [trB b a 0, I d] [trO b (tightP b d a), .un] [tvU (tightP b d a)]
theorem openF_no {b : List UInt8} {rd : Int → Except Int (GVal × Int)} : ∀ (f : Nat) (o o' : Bool) (e : Int), openF b rd false f o e = openF b rd false f o' e
 | 0, _, _, _ => rfl
 | f + 1, o, o', e => by
  unfold openF
  rw [Bool.false_and, Bool.false_and]
  split
  ·rfl
  ·cases rd e with
   | error c => rfl
   | ok p =>
    obtain ⟨x, e'⟩ := p
    simp only
    rw [openF_no f (!o) (!o') e']
theorem manyP_e {α : Type} {rd : Int → Except Int (α × Int)} {n : Nat} {e e1 c : Int} {ys : List α} (h : manyP rd n e = .ok (ys, e1)) (h2 : rd e1 = .error c) : manyP rd (n + 1) e = .error c := by
 unfold manyP; simp only [h, h2]
theorem manyP_k {α : Type} {rd : Int → Except Int (α × Int)} {n : Nat} {e e1 e2 : Int} {ys : List α} {x : α} (h : manyP rd n e = .ok (ys, e1)) (h2 : rd e1 = .ok (x, e2)) : manyP rd (n + 1) e = .ok (ys ++ [x], e2) := by
 unfold manyP; simp only [h, h2]
theorem kindE_err {k n c : Int} : kindE k n (.error c) = .error c := rfl
theorem iTrElN_4 {b : List UInt8} {d N : Nat} {e0 w : Int} (hb : b.length ≤ 1073741824) (hd : d < 10000) (he : 0 ≤ e0 ∧ e0 ≤ b.length) (hNN : N ≤ 1000000000000000) (hw2 : ¬ w = -1) (hV : RdI b d) :
  Fn Tryz.prog 124 [trB b e0 0, .ag [I 4, I N, I w], I (d + 1)] [trO b (kindE 9 0 (manyP (tightP b d) (1 * N) e0)), .un, .un] [tvU (kindE 9 0 (manyP (tightP b d) (1 * N) e0))] := by
 generalize hR : kindE 9 0 (manyP (tightP b d) (1 * N) e0) = R
 have hd2 : wrK .i64 (d : Int) = d := wrap64_id _ (by omega)
 refine Fn_of Tryz.func124 rfl rfl (by simp -implicitDefEqProofs -dsimp) (by rcases R with _ | ⟨_, _⟩ <;> rfl) ?_; simp only [Tryz.f124]
 simp -implicitDefEqProofs -dsimp
 refine WL_loop (fun p : Nat × Int × List GVal => [(0, trB b p.2.1 0), (2, I (d + 1)), (4, .blk [I 4, I N, I w]), (6, .blk [I 0, I 0, I 0, T [], .nil]), (7, .blk [I 9, I 0, I 0, T [], .row true 27 (p.2.2.map vV)]), (8, I 1), (9, I p.1)]) (fun p => N - p.1) (fun p => p.1 ≤ N ∧ p.2.1 ≤ b.length ∧ 0 ≤ p.2.1 ∧ manyP (tightP b d) (1 * p.1) e0 = .ok (p.2.2, p.2.1)) (0, e0, []) ⟨Nat.zero_le _, he.2, he.1, rfl⟩ ?_ ?_
 ·simp -implicitDefEqProofs -dsimp
 ·rintro ⟨j, e, xs⟩ ⟨hj, hel, h0, hx⟩
  simp only at hj hx hel h0 ⊢
  by_cases hjn : j < N
  ·have hjn' : (j : Int) < N := by omega
   have hw9 : wrK .i64 ((j : Int) + 1) = j + 1 := wrap64_id _ (by omega)
   simp -implicitDefEqProofs -dsimp [-head_L, -endOk, hjn', hw2]
   refine WC_nr [B false] (by simp -implicitDefEqProofs -dsimp) ?_; simp -implicitDefEqProofs -dsimp [-head_L, -endOk, hw2]
   refine WL_loop (fun p : Nat × Int × List GVal => [(0, trB b p.2.1 0), (2, I (d + 1)), (4, .blk [I 4, I N, I w]), (6, .blk [I 0, I 0, I 0, T [], .nil]), (7, .blk [I 9, I 0, I 0, T [], .row true 27 (p.2.2.map vV)]), (8, I 1), (9, I j), (41, I 1), (42, I p.1)]) (fun p => 1 - p.1) (fun p => p.1 ≤ 1 ∧ p.2.1 ≤ b.length ∧ 0 ≤ p.2.1 ∧ manyP (tightP b d) (1 * j + p.1) e0 = .ok (p.2.2, p.2.1)) (0, e, xs) ⟨Nat.zero_le _, hel, h0, hx⟩ ?_ ?_
   ·simp -implicitDefEqProofs -dsimp
   ·clear hx hel h0 e xs
    rintro ⟨i, e1, ys⟩ ⟨hi, hel1, h01, hy⟩
    simp only at hi hel1 h01 hy ⊢
    have hadv := manyP_adv (L := b.length) (fun a v e h => (tightP_adv d a v e h).2) hy
    have hb9 : (ys.length + 1) * 64 ≤ 1099511627776 := by omega
    by_cases hin : i = 1
    ·subst hin
     simp -implicitDefEqProofs -dsimp [-head_L, -endOk, hw9]
     refine ⟨j + 1, e1, ys, ⟨by omega, hel1, h01, by rw [Nat.one_mul] at hy; exact hy⟩, by omega, ?_⟩
     simp -implicitDefEqProofs -dsimp
    by_cases hi0 : i = 0
    ·subst hi0
     have ihe := hV e1 h01 hel1
     cases hq : tightP b d e1 with
     | error c2 =>
      have hc2 := tightP_err _ _ _ hq
      have hnx : manyP (tightP b d) (1 * j + 0 + 1) e0 = .error c2 := manyP_e hy hq
      have h9 := manyP_err hnx (1 * N - (1 * j + 0 + 1))
      rw [show 1 * j + 0 + 1 + (1 * N - (1 * j + 0 + 1)) = 1 * N by omega] at h9
      rw [h9, kindE_err] at hR; subst hR
      rw [hq] at ihe; simp only [trO, exA, codeE, tvU] at ihe
      simp -implicitDefEqProofs -dsimp [-head_L, hw2, hd2]
      refine WC_nr [B false] (by simp -implicitDefEqProofs -dsimp) ?_; simp -implicitDefEqProofs -dsimp [-head_L, hw2, hd2]
      refine wpcall_q ihe ?_; simp -implicitDefEqProofs -dsimp [-head_L, hc2, hb9, trO, exA, codeE, tvU]
      repeat' (first | with_reducible apply And.intro | (refine chkOk ?_; kernel_rfl))
     | ok q =>
      obtain ⟨x, e2⟩ := q
      have h8 := tightP_adv _ _ _ _ hq
      have hnx : manyP (tightP b d) (1 * j + 0 + 1) e0 = .ok (ys ++ [x], e2) := manyP_k hy hq
      rw [hq] at ihe; simp only [trO, exA, codeE, tvU, vF] at ihe
      simp -implicitDefEqProofs -dsimp [-head_L, -endOk, hw2, hd2]
      refine WC_nr [B false] (by simp -implicitDefEqProofs -dsimp) ?_; simp -implicitDefEqProofs -dsimp [-head_L, -endOk, hw2, hd2]
      refine wpcall_q ihe ?_; simp -implicitDefEqProofs -dsimp [-head_L, -endOk, hb9]
      refine ⟨by refine chkOk ?_; kernel_rfl, 1, e2, ys ++ [x], ⟨by omega, h8.2.2, by omega, by rw [Nat.one_mul] at hnx; exact hnx⟩, by omega, ?_⟩
      simp -implicitDefEqProofs -dsimp
    omega
  ·have hjn' : ¬ (j : Int) < N := by omega
   obtain rfl : j = N := by omega
   rw [hx] at hR
   simp -implicitDefEqProofs -dsimp [kindE] at hR; subst hR
   simp -implicitDefEqProofs -dsimp [-head_L, hjn', hw2, trO, exA, codeE, tvU, vF]
theorem iTrElN_5 {b : List UInt8} {d N : Nat} {e0 w : Int} (hb : b.length ≤ 1073741824) (hd : d < 10000) (he : 0 ≤ e0 ∧ e0 ≤ b.length) (hNN : N ≤ 1000000000000000) (hw2 : ¬ w = -1) (hV : RdI b d) :
  Fn Tryz.prog 124 [trB b e0 0, .ag [I 5, I N, I w], I (d + 1)] [trO b (kindE 10 0 (manyP (tightP b d) (2 * N) e0)), .un, .un] [tvU (kindE 10 0 (manyP (tightP b d) (2 * N) e0))] := by
 generalize hR : kindE 10 0 (manyP (tightP b d) (2 * N) e0) = R
 have hd2 : wrK .i64 (d : Int) = d := wrap64_id _ (by omega)
 refine Fn_of Tryz.func124 rfl rfl (by simp -implicitDefEqProofs -dsimp) (by rcases R with _ | ⟨_, _⟩ <;> rfl) ?_; simp only [Tryz.f124]
 simp -implicitDefEqProofs -dsimp
 refine WL_loop (fun p : Nat × Int × List GVal => [(0, trB b p.2.1 0), (2, I (d + 1)), (4, .blk [I 5, I N, I w]), (6, .blk [I 0, I 0, I 0, T [], .nil]), (7, .blk [I 10, I 0, I 0, T [], .row true 27 (p.2.2.map vV)]), (8, I 2), (9, I p.1)]) (fun p => N - p.1) (fun p => p.1 ≤ N ∧ p.2.1 ≤ b.length ∧ 0 ≤ p.2.1 ∧ manyP (tightP b d) (2 * p.1) e0 = .ok (p.2.2, p.2.1)) (0, e0, []) ⟨Nat.zero_le _, he.2, he.1, rfl⟩ ?_ ?_
 ·simp -implicitDefEqProofs -dsimp
 ·rintro ⟨j, e, xs⟩ ⟨hj, hel, h0, hx⟩
  simp only at hj hx hel h0 ⊢
  by_cases hjn : j < N
  ·have hjn' : (j : Int) < N := by omega
   have hw9 : wrK .i64 ((j : Int) + 1) = j + 1 := wrap64_id _ (by omega)
   simp -implicitDefEqProofs -dsimp [-head_L, -endOk, hjn', hw2]
   refine WC_nr [B false] (by simp -implicitDefEqProofs -dsimp) ?_; simp -implicitDefEqProofs -dsimp [-head_L, -endOk, hw2]
   refine WL_loop (fun p : Nat × Int × List GVal => [(0, trB b p.2.1 0), (2, I (d + 1)), (4, .blk [I 5, I N, I w]), (6, .blk [I 0, I 0, I 0, T [], .nil]), (7, .blk [I 10, I 0, I 0, T [], .row true 27 (p.2.2.map vV)]), (8, I 2), (9, I j), (41, I 2), (42, I p.1)]) (fun p => 2 - p.1) (fun p => p.1 ≤ 2 ∧ p.2.1 ≤ b.length ∧ 0 ≤ p.2.1 ∧ manyP (tightP b d) (2 * j + p.1) e0 = .ok (p.2.2, p.2.1)) (0, e, xs) ⟨Nat.zero_le _, hel, h0, hx⟩ ?_ ?_
   ·simp -implicitDefEqProofs -dsimp
   ·clear hx hel h0 e xs
    rintro ⟨i, e1, ys⟩ ⟨hi, hel1, h01, hy⟩
    simp only at hi hel1 h01 hy ⊢
    have hadv := manyP_adv (L := b.length) (fun a v e h => (tightP_adv d a v e h).2) hy
    have hb9 : (ys.length + 1) * 64 ≤ 1099511627776 := by omega
    by_cases hin : i = 2
    ·subst hin
     simp -implicitDefEqProofs -dsimp [-head_L, -endOk, hw9]
     refine ⟨j + 1, e1, ys, ⟨by omega, hel1, h01, by rw [Nat.mul_add, Nat.mul_one]; exact hy⟩, by omega, ?_⟩
     simp -implicitDefEqProofs -dsimp
    by_cases hi0 : i = 0
    ·subst hi0
     have ihe := hV e1 h01 hel1
     cases hq : tightP b d e1 with
     | error c2 =>
      have hc2 := tightP_err _ _ _ hq
      have hnx : manyP (tightP b d) (2 * j + 0 + 1) e0 = .error c2 := manyP_e hy hq
      have h9 := manyP_err hnx (2 * N - (2 * j + 0 + 1))
      rw [show 2 * j + 0 + 1 + (2 * N - (2 * j + 0 + 1)) = 2 * N by omega] at h9
      rw [h9, kindE_err] at hR; subst hR
      rw [hq] at ihe; simp only [trO, exA, codeE, tvU] at ihe
      simp -implicitDefEqProofs -dsimp [-head_L, hw2, hd2]
      refine WC_nr [B false] (by simp -implicitDefEqProofs -dsimp) ?_; simp -implicitDefEqProofs -dsimp [-head_L, hw2, hd2]
      refine wpcall_q ihe ?_; simp -implicitDefEqProofs -dsimp [-head_L, hc2, hb9, trO, exA, codeE, tvU]
      repeat' (first | with_reducible apply And.intro | (refine chkOk ?_; kernel_rfl))
     | ok q =>
      obtain ⟨x, e2⟩ := q
      have h8 := tightP_adv _ _ _ _ hq
      have hnx : manyP (tightP b d) (2 * j + 0 + 1) e0 = .ok (ys ++ [x], e2) := manyP_k hy hq
      rw [hq] at ihe; simp only [trO, exA, codeE, tvU, vF] at ihe
      simp -implicitDefEqProofs -dsimp [-head_L, -endOk, hw2, hd2]
      refine WC_nr [B false] (by simp -implicitDefEqProofs -dsimp) ?_; simp -implicitDefEqProofs -dsimp [-head_L, -endOk, hw2, hd2]
      refine wpcall_q ihe ?_; simp -implicitDefEqProofs -dsimp [-head_L, -endOk, hb9]
      refine ⟨by refine chkOk ?_; kernel_rfl, 1, e2, ys ++ [x], ⟨by omega, h8.2.2, by omega, hnx⟩, by omega, ?_⟩
      simp -implicitDefEqProofs -dsimp
    by_cases hi1 : i = 1
    ·subst hi1
     have ihe := hV e1 h01 hel1
     cases hq : tightP b d e1 with
     | error c2 =>
      have hc2 := tightP_err _ _ _ hq
      have hnx : manyP (tightP b d) (2 * j + 1 + 1) e0 = .error c2 := manyP_e hy hq
      have h9 := manyP_err hnx (2 * N - (2 * j + 1 + 1))
      rw [show 2 * j + 1 + 1 + (2 * N - (2 * j + 1 + 1)) = 2 * N by omega] at h9
      rw [h9, kindE_err] at hR; subst hR
      rw [hq] at ihe; simp only [trO, exA, codeE, tvU] at ihe
      simp -implicitDefEqProofs -dsimp [-head_L, hw2, hd2]
      refine WC_nr [B false] (by simp -implicitDefEqProofs -dsimp) ?_; simp -implicitDefEqProofs -dsimp [-head_L, hw2, hd2]
      refine wpcall_q ihe ?_; simp -implicitDefEqProofs -dsimp [-head_L, hc2, hb9, trO, exA, codeE, tvU]
      repeat' (first | with_reducible apply And.intro | (refine chkOk ?_; kernel_rfl))
     | ok q =>
      obtain ⟨x, e2⟩ := q
      have h8 := tightP_adv _ _ _ _ hq
      have hnx : manyP (tightP b d) (2 * j + 1 + 1) e0 = .ok (ys ++ [x], e2) := manyP_k hy hq
      rw [hq] at ihe; simp only [trO, exA, codeE, tvU, vF] at ihe
      simp -implicitDefEqProofs -dsimp [-head_L, -endOk, hw2, hd2]
      refine WC_nr [B false] (by simp -implicitDefEqProofs -dsimp) ?_; simp -implicitDefEqProofs -dsimp [-head_L, -endOk, hw2, hd2]
      refine wpcall_q ihe ?_; simp -implicitDefEqProofs -dsimp [-head_L, -endOk, hb9]
      refine ⟨by refine chkOk ?_; kernel_rfl, 2, e2, ys ++ [x], ⟨by omega, h8.2.2, by omega, hnx⟩, by omega, ?_⟩
      simp -implicitDefEqProofs -dsimp
    omega
  ·have hjn' : ¬ (j : Int) < N := by omega
   obtain rfl : j = N := by omega
   rw [hx] at hR
   simp -implicitDefEqProofs -dsimp [kindE] at hR; subst hR
   simp -implicitDefEqProofs -dsimp [-head_L, hjn', hw2, trO, exA, codeE, tvU, vF]
theorem iTrElO_4 {b : List UInt8} {d : Nat} {e0 : Int} (hb : b.length ≤ 1073741824) (hd : d < 10000) (he : 0 ≤ e0 ∧ e0 ≤ b.length) (hV : RdI b d) :
  Fn Tryz.prog 124 [trB b e0 0, .ag [I 4, I 0, I (-1)], I (d + 1)] [trO b (kindE 9 0 (openQ b (tightP b d) false false e0)), .un, .un] [tvU (kindE 9 0 (openQ b (tightP b d) false false e0))] := by
 generalize hR : kindE 9 0 (openQ b (tightP b d) false false e0) = R
 have hd2 : wrK .i64 (d : Int) = d := wrap64_id _ (by omega)
 have hw2 : True := trivial
 refine Fn_of Tryz.func124 rfl rfl (by simp -implicitDefEqProofs -dsimp) (by rcases R with _ | ⟨_, _⟩ <;> rfl) ?_; simp only [Tryz.f124]
 simp -implicitDefEqProofs -dsimp
 refine WL_loop (fun p : Nat × Int × List GVal => [(0, trB b p.2.1 0), (2, I (d + 1)), (4, .blk [I 4, I 0, I (-1)]), (6, .blk [I 0, I 0, I 0, T [], .nil]), (7, .blk [I 9, I 0, I 0, T [], .row true 27 (p.2.2.map vV)]), (8, I 1), (9, I p.1)]) (fun p => b.length - p.2.1.toNat) (fun p => 0 ≤ p.2.1 ∧ p.2.1 ≤ b.length ∧ p.1 ≤ p.2.1 ∧ p.2.2.length ≤ p.2.1 ∧ kindE 9 0 (kApp p.2.2 (openQ b (tightP b d) false false p.2.1)) = R) (0, e0, []) ⟨he.1, he.2, he.1, he.1, by rw [kApp_nil]; exact hR⟩ ?_ ?_
 ·simp -implicitDefEqProofs -dsimp
 ·clear hR
  rintro ⟨j, e, xs⟩ ⟨h0, hel, hje, hlen, hR⟩
  simp only at h0 hel hje hlen hR ⊢
  have hN := iTrEnds (b := b) (a := e) (c := 0) (by omega) h0
  have hw9 : wrK .i64 ((j : Int) + 1) = j + 1 := wrap64_id _ (by omega)
  cases hE : endB b e with
  | true =>
   have hat := endB_at hE
   have hw1 : wrK .i64 (e + 1) = e + 1 := wrap64_id _ (by omega)
   rw [openQ_end hE] at hR; simp -implicitDefEqProofs -dsimp [kApp, kindE] at hR; subst hR
   rw [hE] at hN
   simp -implicitDefEqProofs -dsimp [-head_L]
   refine wpcall_q hN ?_; simp -implicitDefEqProofs -dsimp [-head_L, hw1, trO, exA, codeE, tvU, vF]
  | false =>
   rw [hE] at hN
   simp -implicitDefEqProofs -dsimp [-head_L, -endOk]
   refine wpcall_q hN ?_; simp -implicitDefEqProofs -dsimp [-head_L, -endOk]
   refine WL_loop (fun p : Nat × Int × List GVal => [(0, trB b p.2.1 0), (2, I (d + 1)), (4, .blk [I 4, I 0, I (-1)]), (6, .blk [I 0, I 0, I 0, T [], .nil]), (7, .blk [I 9, I 0, I 0, T [], .row true 27 (p.2.2.map vV)]), (8, I 1), (9, I j), (41, I 1), (42, I p.1)]) (fun p => 1 - p.1) (fun p => p.1 ≤ 1 ∧ 0 ≤ p.2.1 ∧ p.2.1 ≤ b.length ∧ (p.1 = 0 → p.2.1 = e) ∧ (0 < p.1 → e < p.2.1) ∧ p.2.2.length ≤ p.2.1 ∧ kindE 9 0 (kApp p.2.2 (openQ b (tightP b d) false false p.2.1)) = R) (0, e, xs) ⟨Nat.zero_le _, h0, hel, fun _ => rfl, fun h => (by cases h), hlen, hR⟩ ?_ ?_
   ·simp -implicitDefEqProofs -dsimp
   ·clear hR hlen xs
    rintro ⟨i, e1, ys⟩ ⟨hi, h01, hel1, hz, hz2, hlen, hy⟩
    simp only at hi h01 hel1 hz hz2 hlen hy ⊢
    have hb9 : (ys.length + 1) * 64 ≤ 1099511627776 := by omega
    by_cases hin : i = 1
    ·subst hin
     have hz3 := hz2 (by decide)
     simp -implicitDefEqProofs -dsimp [-head_L, -endOk, hw9]
     refine ⟨j + 1, e1, ys, ⟨h01, hel1, by omega, hlen, hy⟩, by omega, ?_⟩
     simp -implicitDefEqProofs -dsimp
    by_cases hi0 : i = 0
    ·subst hi0
     have hE1 : ¬ endB b e1 = true := by rw [hz rfl, hE]; decide
     have ihe := hV e1 h01 hel1
     cases hq : tightP b d e1 with
     | error c2 =>
      have hc2 := tightP_err _ _ _ hq
      rw [openQ_err hel1 hE1 hq] at hy; simp -implicitDefEqProofs -dsimp [kApp, kindE] at hy; subst hy
      rw [hq] at ihe; simp only [trO, exA, codeE, tvU] at ihe
      simp -implicitDefEqProofs -dsimp [-head_L, hw2, hd2]
      refine WC_nr [B false] (by simp -implicitDefEqProofs -dsimp) ?_; simp -implicitDefEqProofs -dsimp [-head_L, hw2, hd2]
      refine wpcall_q ihe ?_; simp -implicitDefEqProofs -dsimp [-head_L, hc2, hb9, trO, exA, codeE, tvU]
      repeat' (first | with_reducible apply And.intro | (refine chkOk ?_; kernel_rfl))
     | ok q =>
      obtain ⟨x, e2⟩ := q
      have h8 := tightP_adv _ _ _ _ hq
      rw [openQ_step (fun a v e h => tightP_adv d a v e h) hE1 hq] at hy
      rw [show openQ b (tightP b d) false (!false) e2 = openQ b (tightP b d) false false e2 from openF_no _ _ _ _] at hy
      rw [hq] at ihe; simp only [trO, exA, codeE, tvU, vF] at ihe
      simp -implicitDefEqProofs -dsimp [-head_L, -endOk, hw2, hd2]
      refine WC_nr [B false] (by simp -implicitDefEqProofs -dsimp) ?_; simp -implicitDefEqProofs -dsimp [-head_L, -endOk, hw2, hd2]
      refine wpcall_q ihe ?_; simp -implicitDefEqProofs -dsimp [-head_L, -endOk, hb9]
      refine ⟨by refine chkOk ?_; kernel_rfl, 1, e2, ys ++ [x], ⟨by omega, by omega, h8.2.2, fun h => by omega, fun h => by omega, by simp -implicitDefEqProofs -dsimp; omega, hy⟩, by omega, ?_⟩
      simp -implicitDefEqProofs -dsimp
    omega
theorem iTrElO_5 {b : List UInt8} {d : Nat} {e0 : Int} (hb : b.length ≤ 1073741824) (hd : d < 10000) (he : 0 ≤ e0 ∧ e0 ≤ b.length) (hV : RdI b d) :
  Fn Tryz.prog 124 [trB b e0 0, .ag [I 5, I 0, I (-1)], I (d + 1)] [trO b (kindE 10 0 (openQ b (tightP b d) true false e0)), .un, .un] [tvU (kindE 10 0 (openQ b (tightP b d) true false e0))] := by
 generalize hR : kindE 10 0 (openQ b (tightP b d) true false e0) = R
 have hd2 : wrK .i64 (d : Int) = d := wrap64_id _ (by omega)
 have hw2 : True := trivial
 refine Fn_of Tryz.func124 rfl rfl (by simp -implicitDefEqProofs -dsimp) (by rcases R with _ | ⟨_, _⟩ <;> rfl) ?_; simp only [Tryz.f124]
 simp -implicitDefEqProofs -dsimp
 refine WL_loop (fun p : Nat × Int × List GVal => [(0, trB b p.2.1 0), (2, I (d + 1)), (4, .blk [I 5, I 0, I (-1)]), (6, .blk [I 0, I 0, I 0, T [], .nil]), (7, .blk [I 10, I 0, I 0, T [], .row true 27 (p.2.2.map vV)]), (8, I 2), (9, I p.1)]) (fun p => b.length - p.2.1.toNat) (fun p => 0 ≤ p.2.1 ∧ p.2.1 ≤ b.length ∧ p.1 ≤ p.2.1 ∧ p.2.2.length ≤ p.2.1 ∧ kindE 10 0 (kApp p.2.2 (openQ b (tightP b d) true false p.2.1)) = R) (0, e0, []) ⟨he.1, he.2, he.1, he.1, by rw [kApp_nil]; exact hR⟩ ?_ ?_
 ·simp -implicitDefEqProofs -dsimp
 ·clear hR
  rintro ⟨j, e, xs⟩ ⟨h0, hel, hje, hlen, hR⟩
  simp only at h0 hel hje hlen hR ⊢
  have hN := iTrEnds (b := b) (a := e) (c := 0) (by omega) h0
  have hw9 : wrK .i64 ((j : Int) + 1) = j + 1 := wrap64_id _ (by omega)
  cases hE : endB b e with
  | true =>
   have hat := endB_at hE
   have hw1 : wrK .i64 (e + 1) = e + 1 := wrap64_id _ (by omega)
   rw [openQ_end hE] at hR; simp -implicitDefEqProofs -dsimp [kApp, kindE] at hR; subst hR
   rw [hE] at hN
   simp -implicitDefEqProofs -dsimp [-head_L]
   refine wpcall_q hN ?_; simp -implicitDefEqProofs -dsimp [-head_L, hw1, trO, exA, codeE, tvU, vF]
  | false =>
   rw [hE] at hN
   simp -implicitDefEqProofs -dsimp [-head_L, -endOk]
   refine wpcall_q hN ?_; simp -implicitDefEqProofs -dsimp [-head_L, -endOk]
   refine WL_loop (fun p : Nat × Int × List GVal => [(0, trB b p.2.1 0), (2, I (d + 1)), (4, .blk [I 5, I 0, I (-1)]), (6, .blk [I 0, I 0, I 0, T [], .nil]), (7, .blk [I 10, I 0, I 0, T [], .row true 27 (p.2.2.map vV)]), (8, I 2), (9, I j), (41, I 2), (42, I p.1)]) (fun p => 2 - p.1) (fun p => p.1 ≤ 2 ∧ 0 ≤ p.2.1 ∧ p.2.1 ≤ b.length ∧ (p.1 = 0 → p.2.1 = e) ∧ (0 < p.1 → e < p.2.1) ∧ p.2.2.length ≤ p.2.1 ∧ kindE 10 0 (kApp p.2.2 (openQ b (tightP b d) true (decide (p.1 = 1)) p.2.1)) = R) (0, e, xs) ⟨Nat.zero_le _, h0, hel, fun _ => rfl, fun h => (by cases h), hlen, hR⟩ ?_ ?_
   ·simp -implicitDefEqProofs -dsimp
   ·clear hR hlen xs
    rintro ⟨i, e1, ys⟩ ⟨hi, h01, hel1, hz, hz2, hlen, hy⟩
    simp only at hi h01 hel1 hz hz2 hlen hy ⊢
    have hb9 : (ys.length + 1) * 64 ≤ 1099511627776 := by omega
    by_cases hin : i = 2
    ·subst hin
     have hz3 := hz2 (by decide)
     simp -implicitDefEqProofs -dsimp [-head_L, -endOk, hw9]
     refine ⟨j + 1, e1, ys, ⟨h01, hel1, by omega, hlen, hy⟩, by omega, ?_⟩
     simp -implicitDefEqProofs -dsimp
    by_cases hi0 : i = 0
    ·subst hi0
     have hE1 : ¬ endB b e1 = true := by rw [hz rfl, hE]; decide
     rw [show decide ((0 : Nat) = 1) = false from rfl] at hy
     have ihe := hV e1 h01 hel1
     cases hq : tightP b d e1 with
     | error c2 =>
      have hc2 := tightP_err _ _ _ hq
      rw [openQ_err hel1 hE1 hq] at hy; simp -implicitDefEqProofs -dsimp [kApp, kindE] at hy; subst hy
      rw [hq] at ihe; simp only [trO, exA, codeE, tvU] at ihe
      simp -implicitDefEqProofs -dsimp [-head_L, hw2, hd2]
      refine WC_nr [B false] (by simp -implicitDefEqProofs -dsimp) ?_; simp -implicitDefEqProofs -dsimp [-head_L, hw2, hd2]
      refine wpcall_q ihe ?_; simp -implicitDefEqProofs -dsimp [-head_L, hc2, hb9, trO, exA, codeE, tvU]
      repeat' (first | with_reducible apply And.intro | (refine chkOk ?_; kernel_rfl))
     | ok q =>
      obtain ⟨x, e2⟩ := q
      have h8 := tightP_adv _ _ _ _ hq
      rw [openQ_step (fun a v e h => tightP_adv d a v e h) hE1 hq] at hy
      rw [hq] at ihe; simp only [trO, exA, codeE, tvU, vF] at ihe
      simp -implicitDefEqProofs -dsimp [-head_L, -endOk, hw2, hd2]
      refine WC_nr [B false] (by simp -implicitDefEqProofs -dsimp) ?_; simp -implicitDefEqProofs -dsimp [-head_L, -endOk, hw2, hd2]
      refine wpcall_q ihe ?_; simp -implicitDefEqProofs -dsimp [-head_L, -endOk, hb9]
      refine ⟨by refine chkOk ?_; kernel_rfl, 1, e2, ys ++ [x], ⟨by omega, by omega, h8.2.2, fun h => by omega, fun h => by omega, by simp -implicitDefEqProofs -dsimp; omega, hy⟩, by omega, ?_⟩
      simp -implicitDefEqProofs -dsimp
    by_cases hi1 : i = 1
    ·subst hi1
     have hz3 := hz2 (by decide)
     have hN1 := iTrEnds (b := b) (a := e1) (c := 0) (by omega) h01
     rw [show decide ((1 : Nat) = 1) = true from rfl] at hy
     by_cases hE1 : endB b e1 = true
     ·have hF := iTrFail (b := b) (a := e1) (k := 1)
      rw [hE1] at hN1
      rw [openQ_end hE1] at hy; simp -implicitDefEqProofs -dsimp [kApp, kindE] at hy; subst hy
      simp -implicitDefEqProofs -dsimp [-head_L]
      refine wpcall_q hN1 ?_; simp -implicitDefEqProofs -dsimp [-head_L]
      refine wpcall_q hF ?_; simp -implicitDefEqProofs -dsimp [-head_L, trO, exA, codeE, tvU, vF, zeroG]
     have hE2 : endB b e1 = false := by simpa using hE1
     rw [hE2] at hN1
     have ihe := hV e1 h01 hel1
     cases hq : tightP b d e1 with
     | error c2 =>
      have hc2 := tightP_err _ _ _ hq
      rw [openQ_err hel1 hE1 hq] at hy; simp -implicitDefEqProofs -dsimp [kApp, kindE] at hy; subst hy
      rw [hq] at ihe; simp only [trO, exA, codeE, tvU] at ihe
      simp -implicitDefEqProofs -dsimp [-head_L, hw2, hd2]
      refine wpcall_q hN1 ?_; simp -implicitDefEqProofs -dsimp [-head_L, hw2, hd2]
      refine wpcall_q ihe ?_; simp -implicitDefEqProofs -dsimp [-head_L, hc2, hb9, trO, exA, codeE, tvU]
      repeat' (first | with_reducible apply And.intro | (refine chkOk ?_; kernel_rfl))
     | ok q =>
      obtain ⟨x, e2⟩ := q
      have h8 := tightP_adv _ _ _ _ hq
      rw [openQ_step (fun a v e h => tightP_adv d a v e h) hE1 hq] at hy
      rw [hq] at ihe; simp only [trO, exA, codeE, tvU, vF] at ihe
      simp -implicitDefEqProofs -dsimp [-head_L, -endOk, hw2, hd2]
      refine wpcall_q hN1 ?_; simp -implicitDefEqProofs -dsimp [-head_L, -endOk, hw2, hd2]
      refine wpcall_q ihe ?_; simp -implicitDefEqProofs -dsimp [-head_L, -endOk, hb9]
      refine ⟨by refine chkOk ?_; kernel_rfl, 2, e2, ys ++ [x], ⟨by omega, by omega, h8.2.2, fun h => by omega, fun h => by omega, by simp -implicitDefEqProofs -dsimp; omega, hy⟩, by omega, ?_⟩
      simp -implicitDefEqProofs -dsimp
    omega
end Go.Proofs.YtlfblkekbcfjpaaGreatDoor
namespace Go.Proofs.YtlfblkekbcfjpaaGreatDoor
open Go
set_option maxRecDepth 100000
set_option maxHeartbeats 4000000
theorem iTr_0 {b : List UInt8} : RdI b 0 := by
 intro a h0 ha
 have hF := iTrFail (b := b) (a := a) (k := 2)
 unfold tightP
 refine Fn_of Tryz.func82 rfl rfl (by simp -implicitDefEqProofs -dsimp) rfl ?_; simp only [Tryz.f82]
 simp -implicitDefEqProofs -dsimp
 refine wpcall_q hF ?_; simp -implicitDefEqProofs -dsimp [vF, zeroG, trO, exA, codeE, tvU]
section
variable {b : List UInt8} {d : Nat} {a m n w e : Int}
theorem iTr_head (hb : b.length ≤ 1073741824) (hd : d < 10000) (hc : ¬ (getHeadP b a).2.2 = 0) :
  Fn Tryz.prog 82 [trB b a 0, I (d + 1)] [trO b (tightP b (d + 1) a), .un] [tvU (tightP b (d + 1) a)] := by
 have hH := iTrHeadE (b := b) (a := a) (c := 0) (by omega) hc
 have hd1 : ¬ (d : Int) + 1 < 1 := by omega
 unfold tightP; rw [if_pos hc]
 refine Fn_of Tryz.func82 rfl rfl (by simp -implicitDefEqProofs -dsimp) rfl ?_; simp only [Tryz.f82]
 simp -implicitDefEqProofs -dsimp [hd1]
 refine wpcall_q hH ?_; simp -implicitDefEqProofs -dsimp [hc, trO, exA, codeE, tvU, vF, zeroG]
theorem iTr_int (hb : b.length ≤ 1073741824) (hd : d < 10000) (hh : getHeadP b a = ((m, n, w), e, 0)) (hm : m = 0 ∨ m = 1) :
  Fn Tryz.prog 82 [trB b a 0, I (d + 1)] [trO b (tightP b (d + 1) a), .un] [tvU (tightP b (d + 1) a)] := by
 have hH := iTrHead (b := b) (a := a) (by omega) hh
 have ho := head_ok hh
 have hd1 : ¬ (d : Int) + 1 < 1 := by omega
 rcases hm with rfl | rfl
 ·rw [show tightP b (d + 1) a = .ok (⟨3, n, 0, ⟨[].toArray⟩, []⟩, e) from by unfold tightP; rw [hh]; simp -implicitDefEqProofs -dsimp [tightB]]
  have hI := iIntVal (n := n)
  refine Fn_of Tryz.func82 rfl rfl (by simp -implicitDefEqProofs -dsimp) rfl ?_; simp only [Tryz.f82]
  simp -implicitDefEqProofs -dsimp [hd1]
  refine wpcall_q hH ?_; simp -implicitDefEqProofs -dsimp
  refine wpcall_q hI ?_; simp -implicitDefEqProofs -dsimp [trO, exA, codeE, tvU, vF]
 ·by_cases hn : 1000000000000000 ≤ n
  ·rw [show tightP b (d + 1) a = .error 2 from by unfold tightP; rw [hh]; simp -implicitDefEqProofs -dsimp [tightB, hn]]
   have hF := iTrFail (b := b) (a := e) (k := 2)
   have hn2 : 999999999999999 < n := by omega
   refine Fn_of Tryz.func82 rfl rfl (by simp -implicitDefEqProofs -dsimp) rfl ?_; simp only [Tryz.f82]
   simp -implicitDefEqProofs -dsimp [hd1]
   refine wpcall_q hH ?_; simp -implicitDefEqProofs -dsimp [hn2]
   refine wpcall_q hF ?_; simp -implicitDefEqProofs -dsimp [hn, trO, exA, codeE, tvU, vF, zeroG]
  ·rw [show tightP b (d + 1) a = .ok (⟨3, -1 - n, 0, ⟨[].toArray⟩, []⟩, e) from by unfold tightP; rw [hh]; simp -implicitDefEqProofs -dsimp [tightB, hn]]
   have hI := iIntVal (n := -1 - n)
   have hw : wrK .i64 (-1 - n) = -1 - n := wrap64_id _ (by omega)
   have hn2 : ¬ 999999999999999 < n := by omega
   refine Fn_of Tryz.func82 rfl rfl (by simp -implicitDefEqProofs -dsimp) rfl ?_; simp only [Tryz.f82]
   simp -implicitDefEqProofs -dsimp [hd1]
   refine wpcall_q hH ?_; simp -implicitDefEqProofs -dsimp [hn2, hw]
   refine wpcall_q hI ?_; simp -implicitDefEqProofs -dsimp [hn, trO, exA, codeE, tvU, vF]
theorem iTr_simple (hb : b.length ≤ 1073741824) (hd : d < 10000) (hh : getHeadP b a = ((7, n, w), e, 0)) :
  Fn Tryz.prog 82 [trB b a 0, I (d + 1)] [trO b (tightP b (d + 1) a), .un] [tvU (tightP b (d + 1) a)] := by
 have hH := iTrHead (b := b) (a := a) (by omega) hh
 have ho := head_ok hh
 have hd1 : ¬ (d : Int) + 1 < 1 := by omega
 have hS := iTrSimple (b := b) (n := n) (w := w) (e := e) ⟨by omega, by omega⟩ (by omega)
 have hB : tightP b (d + 1) a = simpleP n w e := by
  unfold tightP; rw [hh]; simp -implicitDefEqProofs -dsimp [tightB]
 rw [hB]
 generalize simpleP n w e = R at *
 refine Fn_of Tryz.func82 rfl rfl (by simp -implicitDefEqProofs -dsimp) (by rcases R with _ | ⟨_, _⟩ <;> rfl) ?_; simp only [Tryz.f82]
 simp -implicitDefEqProofs -dsimp [hd1]
 refine wpcall_q hH ?_; simp -implicitDefEqProofs -dsimp
 rcases R with c | ⟨v, e2⟩
 all_goals
  simp only [trO, exA, codeE, tvU, vF] at hS ⊢
  refine wpcall_q hS ?_; simp -implicitDefEqProofs -dsimp
theorem iTr_text (hb : b.length ≤ 1073741824) (hd : d < 10000) (hh : getHeadP b a = ((m, n, w), e, 0)) (hm : m = 2 ∨ m = 3) :
  Fn Tryz.prog 82 [trB b a 0, I (d + 1)] [trO b (tightP b (d + 1) a), .un] [tvU (tightP b (d + 1) a)] := by
 have hH := iTrHead (b := b) (a := a) (by omega) hh
 have ho := head_ok hh
 have hd1 : ¬ (d : Int) + 1 < 1 := by omega
 have hB : tightP b (d + 1) a = textE m (if w < 0 then partsQ b m e else strB b e m n) := by
  unfold tightP; rw [hh]; simp -implicitDefEqProofs -dsimp [tightB]
  rcases hm with rfl | rfl <;> simp -implicitDefEqProofs -dsimp
 have hS : Fn Tryz.prog 123 [trB b e 0, .ag [I m, I n, I w]] [trO b (tightP b (d + 1) a), .un] [tvU (tightP b (d + 1) a)] := by
  rw [hB]
  by_cases hw : w < 0
  ·obtain ⟨rfl, rfl, _⟩ := ho.2.2.2.2.2.2.2.1 hw
   rw [if_pos hw]
   rcases hm with rfl | rfl
   ·exact iTrTextO_2 hb ⟨by omega, by omega⟩
   ·exact iTrTextO_3 hb ⟨by omega, by omega⟩
  ·rw [if_neg hw]
   exact iTrTextD hb ⟨by omega, by omega⟩ (by omega) (by omega) hm
 clear hB ho hh
 generalize tightP b (d + 1) a = R at *
 rcases hm with rfl | rfl
 all_goals
  refine Fn_of Tryz.func82 rfl rfl (by simp -implicitDefEqProofs -dsimp) (by rcases R with _ | ⟨_, _⟩ <;> rfl) ?_; simp only [Tryz.f82]
  simp -implicitDefEqProofs -dsimp [hd1]
  refine wpcall_q hH ?_; simp -implicitDefEqProofs -dsimp
  rcases R with c | ⟨v, e2⟩
  all_goals
   simp only [trO, exA, codeE, tvU, vF] at hS ⊢
   refine wpcall_q hS ?_; simp -implicitDefEqProofs -dsimp
theorem iTr_many (hb : b.length ≤ 1073741824) (hd : d < 10000) (hh : getHeadP b a = ((m, n, w), e, 0)) (hm : m = 4 ∨ m = 5) (hV : RdI b d) :
  Fn Tryz.prog 82 [trB b a 0, I (d + 1)] [trO b (tightP b (d + 1) a), .un] [tvU (tightP b (d + 1) a)] := by
 have hH := iTrHead (b := b) (a := a) (by omega) hh
 have ho := head_ok hh
 have hd1 : ¬ (d : Int) + 1 < 1 := by omega
 have hS : Fn Tryz.prog 124 [trB b e 0, .ag [I m, I n, I w], I (d + 1)] [trO b (tightP b (d + 1) a), .un, .un] [tvU (tightP b (d + 1) a)] := by
  obtain ⟨N, rfl⟩ : ∃ N : Nat, n = N := ⟨n.toNat, by omega⟩
  by_cases hw : w < 0
  ·obtain ⟨rfl, hn0, _⟩ := ho.2.2.2.2.2.2.2.1 hw
   obtain rfl : N = 0 := by omega
   rcases hm with rfl | rfl
   ·have hB : tightP b (d + 1) a = kindE 9 0 (openQ b (tightP b d) false false e) := by
     unfold tightP; rw [hh]; simp -implicitDefEqProofs -dsimp [tightB]
    rw [hB]; exact iTrElO_4 hb hd ⟨by omega, by omega⟩ hV
   ·have hB : tightP b (d + 1) a = kindE 10 0 (openQ b (tightP b d) true false e) := by
     unfold tightP; rw [hh]; simp -implicitDefEqProofs -dsimp [tightB]
    rw [hB]; exact iTrElO_5 hb hd ⟨by omega, by omega⟩ hV
  ·rcases hm with rfl | rfl
   ·have hB : tightP b (d + 1) a = kindE 9 0 (manyP (tightP b d) (1 * N) e) := by
     unfold tightP; rw [hh]; simp -implicitDefEqProofs -dsimp [tightB, hw]
    rw [hB]; exact iTrElN_4 hb hd ⟨by omega, by omega⟩ (by omega) (by omega) hV
   ·have hB : tightP b (d + 1) a = kindE 10 0 (manyP (tightP b d) (2 * N) e) := by
     unfold tightP; rw [hh]; simp -implicitDefEqProofs -dsimp [tightB, hw]
    rw [hB]; exact iTrElN_5 hb hd ⟨by omega, by omega⟩ (by omega) (by omega) hV
 clear ho hh
 generalize tightP b (d + 1) a = R at *
 rcases hm with rfl | rfl
 all_goals
  refine Fn_of Tryz.func82 rfl rfl (by simp -implicitDefEqProofs -dsimp) (by rcases R with _ | ⟨_, _⟩ <;> rfl) ?_; simp only [Tryz.f82]
  simp -implicitDefEqProofs -dsimp [hd1]
  refine wpcall_q hH ?_; simp -implicitDefEqProofs -dsimp
  rcases R with c | ⟨v, e2⟩
  all_goals
   simp only [trO, exA, codeE, tvU, vF] at hS ⊢
   refine wpcall_q hS ?_; simp -implicitDefEqProofs -dsimp
theorem iTr_tag (hb : b.length ≤ 1073741824) (hd : d < 10000) (hh : getHeadP b a = ((6, n, w), e, 0)) (hV : RdI b d) :
  Fn Tryz.prog 82 [trB b a 0, I (d + 1)] [trO b (tightP b (d + 1) a), .un] [tvU (tightP b (d + 1) a)] := by
 have hH := iTrHead (b := b) (a := a) (by omega) hh
 have ho := head_ok hh
 have hd1 : ¬ (d : Int) + 1 < 1 := by omega
 have hd2 : wrK .i64 (d : Int) = d := wrap64_id _ (by omega)
 have hS := hV e (by omega) (by omega)
 have hB : tightP b (d + 1) a = match tightP b d e with | .error c => .error c | .ok (x, e') => .ok (⟨11, n, 0, ⟨[].toArray⟩, [x]⟩, e') := by
  have hB0 : tightP b (d + 1) a = kindE 11 n (manyP (tightP b d) 1 e) := by
   unfold tightP; rw [hh]; simp -implicitDefEqProofs -dsimp [tightB]
  rw [hB0]
  generalize tightP b d = rd
  unfold manyP; unfold manyP
  simp only
  cases rd e <;> rfl
 rw [hB]
 rcases hq : tightP b d e with c | ⟨x, e2⟩
 ·rw [hq] at hS
  simp only [trO, exA, codeE, tvU, vF] at hS ⊢
  refine Fn_of Tryz.func82 rfl rfl (by simp -implicitDefEqProofs -dsimp) rfl ?_; simp only [Tryz.f82]
  simp -implicitDefEqProofs -dsimp [hd1]
  refine wpcall_q hH ?_; simp -implicitDefEqProofs -dsimp [hd2]
  refine wpcall_q hS ?_; simp -implicitDefEqProofs -dsimp
 ·rw [hq] at hS
  simp only [trO, exA, codeE, tvU, vF] at hS ⊢
  refine Fn_of Tryz.func82 rfl rfl (by simp -implicitDefEqProofs -dsimp) rfl ?_; simp only [Tryz.f82]
  simp -implicitDefEqProofs -dsimp [hd1]
  refine wpcall_q hH ?_; simp -implicitDefEqProofs -dsimp [hd2]
  refine wpcall_q hS ?_; simp -implicitDefEqProofs -dsimp
end
theorem iTr {b : List UInt8} (hb : b.length ≤ 1073741824) : ∀ d : Nat, d ≤ 10000 → RdI b d
 | 0, _ => iTr_0
 | d + 1, hd => by
  have ih := iTr hb d (by omega)
  intro a h0 ha
  rw [show ((d + 1 : Nat) : Int) = (d : Int) + 1 by omega]
  rcases hh : getHeadP b a with ⟨⟨m, n, w⟩, e, c⟩
  by_cases hc : c = 0
  ·subst hc
   have ho := head_ok hh
   have hm : m = 0 ∨ m = 1 ∨ m = 2 ∨ m = 3 ∨ m = 4 ∨ m = 5 ∨ m = 6 ∨ m = 7 := by omega
   rcases hm with h | h | h | h | h | h | h | h
   ·exact iTr_int hb hd hh (.inl h)
   ·exact iTr_int hb hd hh (.inr h)
   ·exact iTr_text hb hd hh (.inl h)
   ·exact iTr_text hb hd hh (.inr h)
   ·exact iTr_many hb hd hh (.inl h) ih
   ·exact iTr_many hb hd hh (.inr h) ih
   ·subst h; exact iTr_tag hb hd hh ih
   ·subst h; exact iTr_simple hb hd hh
  ·exact iTr_head hb hd (by rw [hh]; exact hc)
theorem iGetTight {b : List UInt8} {d : Nat} (hb : b.length ≤ 1073741824) (hd : d ≤ 10000) :
  Fn Tryz.prog 58 [Y b, I 0, I d] [.un, .un, .un] [vF 27 (exV (tightP b d 0)), I (exE (tightP b d 0)), I (codeE (tightP b d 0))] := by
 have hS := iTr hb d hd 0 (by omega) (by omega)
 have hmin : min (d : Int) 10000 = d := by omega
 rcases hs : tightP b d 0 with c | ⟨v, e⟩
 ·have hc := tightP_err _ _ _ hs
  rw [hs] at hS; simp only [trO, exA, codeE, tvU] at hS
  refine Fn_of Tryz.func58 rfl rfl (by simp -implicitDefEqProofs -dsimp) rfl ?_; simp only [Tryz.f58]
  simp -implicitDefEqProofs -dsimp [hmin]
  refine wpcall_q hS ?_; simp -implicitDefEqProofs -dsimp [hc, exV, exE, codeE, vF, zeroG]
  refine chkOk ?_; kernel_rfl
 ·rw [hs] at hS; simp only [trO, exA, codeE, tvU, vF] at hS
  refine Fn_of Tryz.func58 rfl rfl (by simp -implicitDefEqProofs -dsimp) rfl ?_; simp only [Tryz.f58]
  simp -implicitDefEqProofs -dsimp [hmin]
  refine wpcall_q hS ?_; simp -implicitDefEqProofs -dsimp [exV, exE, codeE, vF]
  refine chkOk ?_; kernel_rfl
theorem iReadTight {b : List UInt8} {d : Nat} (hb : b.length ≤ 1073741824) (hd : d ≤ 10000) :
  Fn Tryz.prog 42 [Y b, I d] [.un, .un] [vF 27 (exG (readTightP b d)), I (codeE (readTightP b d))] := by
 have hG := iGetTight hb hd
 unfold readTightP
 rcases hs : tightP b d 0 with c | ⟨v, e⟩
 ·have hc := tightP_err _ _ _ hs
  rw [hs] at hG; simp -implicitDefEqProofs -dsimp [exV, exE, codeE, vF, zeroG] at hG
  refine Fn_of Tryz.func42 rfl rfl (by simp -implicitDefEqProofs -dsimp) rfl ?_; simp only [Tryz.f42]
  simp -implicitDefEqProofs -dsimp
  refine wpcall_q hG ?_; simp -implicitDefEqProofs -dsimp [hc, exG, codeE, vF, zeroG]
  all_goals (refine chkOk ?_; kernel_rfl)
 ·have hadv := tightP_adv _ _ _ _ hs
  rw [hs] at hG; simp -implicitDefEqProofs -dsimp [exV, exE, codeE, vF] at hG
  by_cases he : e = b.length
  ·simp only [if_pos he]
   have he2 : ¬ e < b.length := by omega
   refine Fn_of Tryz.func42 rfl rfl (by simp -implicitDefEqProofs -dsimp) rfl ?_; simp only [Tryz.f42]
   simp -implicitDefEqProofs -dsimp
   refine wpcall_q hG ?_; simp -implicitDefEqProofs -dsimp [he2, exG, codeE, vF, zeroG]
   all_goals (refine chkOk ?_; kernel_rfl)
  ·simp only [if_neg he]
   have he2 : e < b.length := by omega
   refine Fn_of Tryz.func42 rfl rfl (by simp -implicitDefEqProofs -dsimp) rfl ?_; simp only [Tryz.f42]
   simp -implicitDefEqProofs -dsimp
   refine wpcall_q hG ?_; simp -implicitDefEqProofs -dsimp [he2, exG, codeE, vF, zeroG]
   all_goals (refine chkOk ?_; kernel_rfl)
end Go.Proofs.YtlfblkekbcfjpaaGreatDoor
