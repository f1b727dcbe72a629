/- Part of a proof: contracts and plain laws. -/
import Derived.Test.YtlfblkekbcfjpaaGreatDoorZ27
set_option linter.unusedVariables false
set_option linter.unusedSimpArgs false
namespace Go.Proofs.YtlfblkekbcfjpaaGreatDoor
open Go
set_option maxRecDepth 100000
set_option maxHeartbeats 2000000
theorem shortP_bounds {x k n : Int} (h : shortP x = some (k, n)) (hx : 0 ≤ x ∧ x < 256) : 1 ≤ k ∧ k ≤ 10 ∧ k ≠ 4 ∧ (7 ≤ k → 0 ≤ n ∧ n ≤ 65535) := by
 unfold shortP at h
 repeat' split at h
 all_goals first | (simp at h; omega) | cases h
theorem getMarkP_bounds {b : List UInt8} {at_ k n e : Int} (h : getMarkP b at_ = ((k, n), e, 0)) : 0 ≤ at_ ∧ at_ < e ∧ e ≤ b.length ∧ 1 ≤ k ∧ k ≤ 10 ∧ (7 ≤ k → 0 ≤ n ∧ n ≤ 65535) := by
 by_cases hat : 0 ≤ at_ ∧ at_ < b.length
 ·obtain ⟨a, rfl⟩ : ∃ a : Nat, at_ = a := ⟨at_.toNat, by omega⟩
  have ha : a < b.length := by omega
  rw [getMarkP_at (List.getElem?_eq_getElem ha)] at h
  have hz := b[a].toNat_lt
  unfold markAt at h
  cases hs : shortP (b[a].toNat : Int) with
  | some m =>
   rw [hs] at h; simp only at h
   obtain ⟨k', n'⟩ := m
   simp only [Prod.mk.injEq] at h
   obtain ⟨⟨rfl, rfl⟩, rfl, _⟩ := h
   have := shortP_bounds hs (by omega)
   omega
  | none =>
   rw [hs] at h; simp only at h
   obtain ⟨f, w, hf, hc⟩ := formP_cases (b[a].toNat : Int)
   rw [hf] at h; simp only at h
   split at h
   ·simp at h
   ·rename_i hne
    have hE : existP b (a + 1) w = true := by
     rcases Bool.eq_false_or_eq_true (existP b (a + 1) w) with h1 | h1
     ·exact h1
     ·exact absurd (.inr h1) hne
    have hE2 := existP_iff.1 hE
    repeat' split at h
    all_goals (simp at h; try omega)
 ·rw [getMarkP_no hat] at h; simp at h
theorem sFltVal {m e : Int} : Fn Tryz.prog 73 [.ag [I m, I e]] [.un] [vF 27 ⟨4, m, e, .empty, []⟩] := by
 refine Fn_of Tryz.func73 rfl rfl (by simp -implicitDefEqProofs -dsimp) rfl ?_; simp only [Tryz.f73]
 simp -implicitDefEqProofs -dsimp [vF]
theorem manyP_ne {α : Type} {rd : Int → Except Int (α × Int)} (hrd : ∀ e c, rd e = .error c → c ≠ 0) : ∀ {n : Nat} {e c : Int}, manyP rd n e = .error c → c ≠ 0
 | 0, _, _, h => by cases h
 | n + 1, e, c, h => by
  unfold manyP at h
  cases h1 : manyP rd n e with
  | error c1 => rw [h1] at h; cases h; exact manyP_ne hrd h1
  | ok p =>
   obtain ⟨ys, e1⟩ := p
   rw [h1] at h; simp only at h
   cases h2 : rd e1 with
   | error c1 => rw [h2] at h; cases h; exact hrd _ _ h2
   | ok q => rw [h2] at h; cases h
theorem packP_err {b : List UInt8} : ∀ {d : Nat} {at_ c : Int}, packP b d at_ = .error c → c ≠ 0
 | 0, _, c, h => by unfold packP at h; cases h; decide
 | d + 1, at_, c, h => by
  unfold packP at h
  simp only at h
  have hm := @manyP_ne _ (packP b d) (fun e c h => packP_err h)
  repeat' split at h
  all_goals first | (cases h; done) | (cases h; assumption) | (cases h; decide) | (rename_i h1; cases h; exact hm h1)
theorem sGP_4 {b : List UInt8} {d : Nat} {at_ k n e c : Int} (hb : b.length ≤ 1099511627776) (hd : d + 1 ≤ 1000000) (ih : ∀ e, Fn Tryz.prog 53 [Y b, I e, I d] [.un, .un, .un] [vF 27 (resE (packP b d e)).1, I (resE (packP b d e)).2.1, I (resE (packP b d e)).2.2]) (hm : getMarkP b at_ = ((4, n), e, 0)) (hK : 0 ≤ at_ ∧ at_ < e ∧ e ≤ b.length ∧ 1 ≤ (4 : Int) ∧ (4 : Int) ≤ 10 ∧ (7 ≤ (4 : Int) → 0 ≤ n ∧ n ≤ 65535)) : Fn Tryz.prog 53 [Y b, I at_, I ((d + 1 : Nat) : Int)] [.un, .un, .un] [vF 27 (resE (packP b (d + 1) at_)).1, I (resE (packP b (d + 1) at_)).2.1, I (resE (packP b (d + 1) at_)).2.2] := by
 have hd1 : ¬ ((d : Int) + 1 < 1) := by omega
 have hd2 : wrK .i64 (d : Int) = d := wrap64_id _ (by omega)
 obtain ⟨b1, b2, b3, b4, b5, b6⟩ := hK
 obtain ⟨fm, fe, ho⟩ : ∃ fm fe, (optF (bitsFltP n)).1 = (fm, fe) := ⟨_, _, rfl⟩
 obtain ⟨N, hN⟩ : ∃ N : Nat, N = 0 := ⟨_, rfl⟩
 rw [show packP b (d + 1) at_ = match manyP (packP b d) N (e) with | .error c => .error c | .ok (xs, e) => .ok (⟨4, fm, fe, .empty, xs⟩, e) from by unfold packP; simp -implicitDefEqProofs -dsimp [hm, ho, manyP, hN] <;> rfl]
 generalize hR : resE _ = R
 refine Fn_of Tryz.func53 rfl rfl (by simp -implicitDefEqProofs -dsimp) rfl ?_; simp only [Tryz.f53]
 simp -implicitDefEqProofs -dsimp [hd1]
 repeat' (first | with_reducible intro _ | with_reducible apply And.intro | (refine chkOk ?_; kernel_rfl) | (refine wpcall_d (sGetMark hb) ?_; simp -implicitDefEqProofs -dsimp [resE, zeroG, vF, hd1, hm, vF, ho]) | (refine wpcall_d (sBitsFlt) ?_; simp -implicitDefEqProofs -dsimp [resE, zeroG, vF, hd1, hm, vF, ho]) | (refine wpcall_d (sFltVal) ?_; simp -implicitDefEqProofs -dsimp [resE, zeroG, vF, hd1, hm, vF, ho]) | (refine wpcall_d (sSlice hb) ?_; simp -implicitDefEqProofs -dsimp [resE, zeroG, vF, hd1, hm, vF, ho]))
 refine WL_loop (fun p : Nat × Int × List GVal => [(0, Y b), (2, I (d + 1)), (6, .blk [I 0, I 0, I 0, S .empty, .nil]), (9, .blk [I 0, I 0, I 0, S .empty, .nil]), (11, I p.2.1), (13, .blk [I (4), I (fm), I (fe), S (.empty), .row true 27 (p.2.2.map vV)]), (14, I N), (19, I p.1)]) (fun p => N - p.1) (fun p => p.1 ≤ N ∧ manyP (packP b d) p.1 (e) = .ok (p.2.2, p.2.1)) (0, e, []) ⟨Nat.zero_le _, rfl⟩ ?_ ?_
 ·first | (simp -implicitDefEqProofs -dsimp [hN]; done) | (simp -implicitDefEqProofs -dsimp; omega)
 ·rintro ⟨j, e', xs⟩ ⟨hj, hx⟩
  simp only at hj hx
  have hlen := manyP_len hx
  by_cases hjn : j < N
  ·have hjn' : (j : Int) < N := by omega
   have ihe := ih e'
   have hnx : manyP (packP b d) (j + 1) (e) = match packP b d e' with | .error c => .error c | .ok (x, e) => .ok (xs ++ [x], e) := by unfold manyP; simp only [hx]; cases packP b d e' <;> rfl
   cases hq : packP b d e' with
   | error c2 =>
    have hc2 := packP_err hq
    rw [hq] at hnx
    have h9 := manyP_err hnx (N - (j + 1))
    rw [show j + 1 + (N - (j + 1)) = N by omega] at h9
    rw [h9] at hR
    subst hR
    rw [hq] at ihe
    simp only [resE] at ihe ⊢
    simp -implicitDefEqProofs -dsimp [-head_L, hjn', hd2]
    refine wpcall_d ihe ?_; simp -implicitDefEqProofs -dsimp [-head_L, vF, hc2, zeroG]
   | ok q =>
    obtain ⟨x, e2⟩ := q
    rw [hq] at hnx ihe
    simp only [resE] at ihe
    have hb9 : (xs.length + 1) * 64 ≤ 1099511627776 := by omega
    have hw9 : wrK .i64 ((j : Int) + 1) = j + 1 := wrap64_id _ (by omega)
    simp -implicitDefEqProofs -dsimp [-head_L, -endOk, hjn', hd2]
    refine wpcall_d ihe ?_; simp -implicitDefEqProofs -dsimp [-head_L, -endOk, vF, hw9, hb9]
    refine ⟨j + 1, e2, xs ++ [x], ⟨by omega, hnx⟩, by omega, ?_⟩
    simp -implicitDefEqProofs -dsimp
  ·have hjn' : ¬ (j : Int) < N := by omega
   obtain rfl : j = N := by omega
   rw [hx] at hR
   subst hR
   simp -implicitDefEqProofs -dsimp [-head_L, resE, vF]
theorem sGP_7 {b : List UInt8} {d : Nat} {at_ k n e c : Int} (hb : b.length ≤ 1099511627776) (hd : d + 1 ≤ 1000000) (ih : ∀ e, Fn Tryz.prog 53 [Y b, I e, I d] [.un, .un, .un] [vF 27 (resE (packP b d e)).1, I (resE (packP b d e)).2.1, I (resE (packP b d e)).2.2]) (hm : getMarkP b at_ = ((7, n), e, 0)) (hK : 0 ≤ at_ ∧ at_ < e ∧ e ≤ b.length ∧ 1 ≤ (7 : Int) ∧ (7 : Int) ≤ 10 ∧ (7 ≤ (7 : Int) → 0 ≤ n ∧ n ≤ 65535)) (hE : existP b e n = true) (ht : textOkP (Bs ((b.drop e.toNat).take n.toNat)) = true) : Fn Tryz.prog 53 [Y b, I at_, I ((d + 1 : Nat) : Int)] [.un, .un, .un] [vF 27 (resE (packP b (d + 1) at_)).1, I (resE (packP b (d + 1) at_)).2.1, I (resE (packP b (d + 1) at_)).2.2] := by
 have hd1 : ¬ ((d : Int) + 1 < 1) := by omega
 have hd2 : wrK .i64 (d : Int) = d := wrap64_id _ (by omega)
 obtain ⟨b1, b2, b3, b4, b5, b6⟩ := hK
 have hE2 := existP_iff.1 hE
 have hw : wrK .i64 (e + n) = e + n := wrap64_id _ (by omega)
 have hz : ∀ x : UInt8, (x.toNat : Int) < 256 := fun x => by have := x.toNat_lt; omega
 obtain ⟨l, hl⟩ : ∃ l, (b.drop e.toNat).take n.toNat = l := ⟨_, rfl⟩
 rw [hl] at ht
 have hll : l.length ≤ 65535 := by rw [← hl]; simp -implicitDefEqProofs -dsimp; omega
 have hB : (Bs l).size ≤ 1099511627776 := by show l.length ≤ _; clear hw; omega
 obtain ⟨N, hN⟩ : ∃ N : Nat, N = 0 := ⟨_, rfl⟩
 rw [show packP b (d + 1) at_ = match manyP (packP b d) N ((e + n)) with | .error c => .error c | .ok (xs, e) => .ok (⟨7, 0, 0, (Bs l), xs⟩, e) from by unfold packP; simp -implicitDefEqProofs -dsimp [hm, hE, hl, ht, manyP, hN] <;> rfl]
 generalize hR : resE _ = R
 refine Fn_of Tryz.func53 rfl rfl (by simp -implicitDefEqProofs -dsimp) rfl ?_; simp only [Tryz.f53]
 simp -implicitDefEqProofs -dsimp [hd1]
 repeat' (first | with_reducible intro _ | with_reducible apply And.intro | (refine chkOk ?_; kernel_rfl) | (refine wpcall_d (sGetMark hb) ?_; simp -implicitDefEqProofs -dsimp [resE, zeroG, vF, hd1, hm, vF, hE, hl, ht, hw, hB, hz]) | (refine wpcall_d (sBitsFlt) ?_; simp -implicitDefEqProofs -dsimp [resE, zeroG, vF, hd1, hm, vF, hE, hl, ht, hw, hB, hz]) | (refine wpcall_d (sFltVal) ?_; simp -implicitDefEqProofs -dsimp [resE, zeroG, vF, hd1, hm, vF, hE, hl, ht, hw, hB, hz]) | (refine wpcall_d (sSlice hb) ?_; simp -implicitDefEqProofs -dsimp [resE, zeroG, vF, hd1, hm, vF, hE, hl, ht, hw, hB, hz]) | (refine wpcall_d (sTextOk hB) ?_; simp -implicitDefEqProofs -dsimp [resE, zeroG, vF, hd1, hm, vF, hE, hl, ht, hw, hB, hz]))
 refine WL_loop (fun p : Nat × Int × List GVal => [(0, Y b), (2, I (d + 1)), (6, .blk [I 0, I 0, I 0, S .empty, .nil]), (9, .blk [I 0, I 0, I 0, S .empty, .nil]), (11, I p.2.1), (13, .blk [I (7), I (0), I (0), S ((Bs l)), .row true 27 (p.2.2.map vV)]), (14, I N), (19, I p.1)]) (fun p => N - p.1) (fun p => p.1 ≤ N ∧ manyP (packP b d) p.1 ((e + n)) = .ok (p.2.2, p.2.1)) (0, (e + n), []) ⟨Nat.zero_le _, rfl⟩ ?_ ?_
 ·first | (simp -implicitDefEqProofs -dsimp [hN]; done) | (simp -implicitDefEqProofs -dsimp; omega)
 ·rintro ⟨j, e', xs⟩ ⟨hj, hx⟩
  simp only at hj hx
  have hlen := manyP_len hx
  by_cases hjn : j < N
  ·have hjn' : (j : Int) < N := by omega
   have ihe := ih e'
   have hnx : manyP (packP b d) (j + 1) ((e + n)) = match packP b d e' with | .error c => .error c | .ok (x, e) => .ok (xs ++ [x], e) := by unfold manyP; simp only [hx]; cases packP b d e' <;> rfl
   cases hq : packP b d e' with
   | error c2 =>
    have hc2 := packP_err hq
    rw [hq] at hnx
    have h9 := manyP_err hnx (N - (j + 1))
    rw [show j + 1 + (N - (j + 1)) = N by omega] at h9
    rw [h9] at hR
    subst hR
    rw [hq] at ihe
    simp only [resE] at ihe ⊢
    simp -implicitDefEqProofs -dsimp [-head_L, hjn', hd2]
    refine wpcall_d ihe ?_; simp -implicitDefEqProofs -dsimp [-head_L, vF, hc2, zeroG]
   | ok q =>
    obtain ⟨x, e2⟩ := q
    rw [hq] at hnx ihe
    simp only [resE] at ihe
    have hb9 : (xs.length + 1) * 64 ≤ 1099511627776 := by omega
    have hw9 : wrK .i64 ((j : Int) + 1) = j + 1 := wrap64_id _ (by omega)
    simp -implicitDefEqProofs -dsimp [-head_L, -endOk, hjn', hd2]
    refine wpcall_d ihe ?_; simp -implicitDefEqProofs -dsimp [-head_L, -endOk, vF, hw9, hb9]
    refine ⟨j + 1, e2, xs ++ [x], ⟨by omega, hnx⟩, by omega, ?_⟩
    simp -implicitDefEqProofs -dsimp
  ·have hjn' : ¬ (j : Int) < N := by omega
   obtain rfl : j = N := by omega
   rw [hx] at hR
   subst hR
   simp -implicitDefEqProofs -dsimp [-head_L, resE, vF]
theorem sGP_7b {b : List UInt8} {d : Nat} {at_ k n e c : Int} (hb : b.length ≤ 1099511627776) (hd : d + 1 ≤ 1000000) (ih : ∀ e, Fn Tryz.prog 53 [Y b, I e, I d] [.un, .un, .un] [vF 27 (resE (packP b d e)).1, I (resE (packP b d e)).2.1, I (resE (packP b d e)).2.2]) (hm : getMarkP b at_ = ((7, n), e, 0)) (hK : 0 ≤ at_ ∧ at_ < e ∧ e ≤ b.length ∧ 1 ≤ (7 : Int) ∧ (7 : Int) ≤ 10 ∧ (7 ≤ (7 : Int) → 0 ≤ n ∧ n ≤ 65535)) (hE : existP b e n = true) (ht : ¬ textOkP (Bs ((b.drop e.toNat).take n.toNat)) = true) : Fn Tryz.prog 53 [Y b, I at_, I ((d + 1 : Nat) : Int)] [.un, .un, .un] [vF 27 (resE (packP b (d + 1) at_)).1, I (resE (packP b (d + 1) at_)).2.1, I (resE (packP b (d + 1) at_)).2.2] := by
 have hd1 : ¬ ((d : Int) + 1 < 1) := by omega
 have hd2 : wrK .i64 (d : Int) = d := wrap64_id _ (by omega)
 obtain ⟨b1, b2, b3, b4, b5, b6⟩ := hK
 have hE2 := existP_iff.1 hE
 have hw : wrK .i64 (e + n) = e + n := wrap64_id _ (by omega)
 have hz : ∀ x : UInt8, (x.toNat : Int) < 256 := fun x => by have := x.toNat_lt; omega
 obtain ⟨l, hl⟩ : ∃ l, (b.drop e.toNat).take n.toNat = l := ⟨_, rfl⟩
 rw [hl] at ht
 have hll : l.length ≤ 65535 := by rw [← hl]; simp -implicitDefEqProofs -dsimp; omega
 have hB : (Bs l).size ≤ 1099511627776 := by show l.length ≤ _; clear hw; omega
 rw [show packP b (d + 1) at_ = .error 1 from by unfold packP; simp -implicitDefEqProofs -dsimp [hm, hE, hl, ht]]
 refine Fn_of Tryz.func53 rfl rfl (by simp -implicitDefEqProofs -dsimp) rfl ?_; simp only [Tryz.f53]
 simp -implicitDefEqProofs -dsimp [resE, zeroG, vF, hd1]
 repeat' (first | with_reducible intro _ | with_reducible apply And.intro | (refine chkOk ?_; kernel_rfl) | (refine wpcall_d (sGetMark hb) ?_; simp -implicitDefEqProofs -dsimp [resE, zeroG, vF, hd1, hm, hE, hl, ht, hz]) | (refine wpcall_d (sSlice hb) ?_; simp -implicitDefEqProofs -dsimp [resE, zeroG, vF, hd1, hm, hE, hl, ht, hz]) | (refine wpcall_d (sTextOk hB) ?_; simp -implicitDefEqProofs -dsimp [resE, zeroG, vF, hd1, hm, hE, hl, ht, hz]))
theorem sGP_8 {b : List UInt8} {d : Nat} {at_ k n e c : Int} (hb : b.length ≤ 1099511627776) (hd : d + 1 ≤ 1000000) (ih : ∀ e, Fn Tryz.prog 53 [Y b, I e, I d] [.un, .un, .un] [vF 27 (resE (packP b d e)).1, I (resE (packP b d e)).2.1, I (resE (packP b d e)).2.2]) (hm : getMarkP b at_ = ((8, n), e, 0)) (hK : 0 ≤ at_ ∧ at_ < e ∧ e ≤ b.length ∧ 1 ≤ (8 : Int) ∧ (8 : Int) ≤ 10 ∧ (7 ≤ (8 : Int) → 0 ≤ n ∧ n ≤ 65535)) (hE : existP b e n = true) : Fn Tryz.prog 53 [Y b, I at_, I ((d + 1 : Nat) : Int)] [.un, .un, .un] [vF 27 (resE (packP b (d + 1) at_)).1, I (resE (packP b (d + 1) at_)).2.1, I (resE (packP b (d + 1) at_)).2.2] := by
 have hd1 : ¬ ((d : Int) + 1 < 1) := by omega
 have hd2 : wrK .i64 (d : Int) = d := wrap64_id _ (by omega)
 obtain ⟨b1, b2, b3, b4, b5, b6⟩ := hK
 have hE2 := existP_iff.1 hE
 have hw : wrK .i64 (e + n) = e + n := wrap64_id _ (by omega)
 have hz : ∀ x : UInt8, (x.toNat : Int) < 256 := fun x => by have := x.toNat_lt; omega
 obtain ⟨l, hl⟩ : ∃ l, (b.drop e.toNat).take n.toNat = l := ⟨_, rfl⟩
 have hll : l.length ≤ 65535 := by rw [← hl]; simp -implicitDefEqProofs -dsimp; omega
 have hB : (Bs l).size ≤ 1099511627776 := by show l.length ≤ _; clear hw; omega
 obtain ⟨N, hN⟩ : ∃ N : Nat, N = 0 := ⟨_, rfl⟩
 rw [show packP b (d + 1) at_ = match manyP (packP b d) N ((e + n)) with | .error c => .error c | .ok (xs, e) => .ok (⟨8, 0, 0, (Bs l), xs⟩, e) from by unfold packP; simp -implicitDefEqProofs -dsimp [hm, hE, hl, manyP, hN] <;> rfl]
 generalize hR : resE _ = R
 refine Fn_of Tryz.func53 rfl rfl (by simp -implicitDefEqProofs -dsimp) rfl ?_; simp only [Tryz.f53]
 simp -implicitDefEqProofs -dsimp [hd1]
 repeat' (first | with_reducible intro _ | with_reducible apply And.intro | (refine chkOk ?_; kernel_rfl) | (refine wpcall_d (sGetMark hb) ?_; simp -implicitDefEqProofs -dsimp [resE, zeroG, vF, hd1, hm, vF, hE, hl, hw, hB, hz]) | (refine wpcall_d (sBitsFlt) ?_; simp -implicitDefEqProofs -dsimp [resE, zeroG, vF, hd1, hm, vF, hE, hl, hw, hB, hz]) | (refine wpcall_d (sFltVal) ?_; simp -implicitDefEqProofs -dsimp [resE, zeroG, vF, hd1, hm, vF, hE, hl, hw, hB, hz]) | (refine wpcall_d (sSlice hb) ?_; simp -implicitDefEqProofs -dsimp [resE, zeroG, vF, hd1, hm, vF, hE, hl, hw, hB, hz]) | (refine wpcall_d (sTextOk hB) ?_; simp -implicitDefEqProofs -dsimp [resE, zeroG, vF, hd1, hm, vF, hE, hl, hw, hB, hz]))
 refine WL_loop (fun p : Nat × Int × List GVal => [(0, Y b), (2, I (d + 1)), (6, .blk [I 0, I 0, I 0, S .empty, .nil]), (9, .blk [I 0, I 0, I 0, S .empty, .nil]), (11, I p.2.1), (13, .blk [I (8), I (0), I (0), S ((Bs l)), .row true 27 (p.2.2.map vV)]), (14, I N), (19, I p.1)]) (fun p => N - p.1) (fun p => p.1 ≤ N ∧ manyP (packP b d) p.1 ((e + n)) = .ok (p.2.2, p.2.1)) (0, (e + n), []) ⟨Nat.zero_le _, rfl⟩ ?_ ?_
 ·first | (simp -implicitDefEqProofs -dsimp [hN]; done) | (simp -implicitDefEqProofs -dsimp; omega)
 ·rintro ⟨j, e', xs⟩ ⟨hj, hx⟩
  simp only at hj hx
  have hlen := manyP_len hx
  by_cases hjn : j < N
  ·have hjn' : (j : Int) < N := by omega
   have ihe := ih e'
   have hnx : manyP (packP b d) (j + 1) ((e + n)) = match packP b d e' with | .error c => .error c | .ok (x, e) => .ok (xs ++ [x], e) := by unfold manyP; simp only [hx]; cases packP b d e' <;> rfl
   cases hq : packP b d e' with
   | error c2 =>
    have hc2 := packP_err hq
    rw [hq] at hnx
    have h9 := manyP_err hnx (N - (j + 1))
    rw [show j + 1 + (N - (j + 1)) = N by omega] at h9
    rw [h9] at hR
    subst hR
    rw [hq] at ihe
    simp only [resE] at ihe ⊢
    simp -implicitDefEqProofs -dsimp [-head_L, hjn', hd2]
    refine wpcall_d ihe ?_; simp -implicitDefEqProofs -dsimp [-head_L, vF, hc2, zeroG]
   | ok q =>
    obtain ⟨x, e2⟩ := q
    rw [hq] at hnx ihe
    simp only [resE] at ihe
    have hb9 : (xs.length + 1) * 64 ≤ 1099511627776 := by omega
    have hw9 : wrK .i64 ((j : Int) + 1) = j + 1 := wrap64_id _ (by omega)
    simp -implicitDefEqProofs -dsimp [-head_L, -endOk, hjn', hd2]
    refine wpcall_d ihe ?_; simp -implicitDefEqProofs -dsimp [-head_L, -endOk, vF, hw9, hb9]
    refine ⟨j + 1, e2, xs ++ [x], ⟨by omega, hnx⟩, by omega, ?_⟩
    simp -implicitDefEqProofs -dsimp
  ·have hjn' : ¬ (j : Int) < N := by omega
   obtain rfl : j = N := by omega
   rw [hx] at hR
   subst hR
   simp -implicitDefEqProofs -dsimp [-head_L, resE, vF]
theorem sGP_7n {b : List UInt8} {d : Nat} {at_ k n e c : Int} (hb : b.length ≤ 1099511627776) (hd : d + 1 ≤ 1000000) (ih : ∀ e, Fn Tryz.prog 53 [Y b, I e, I d] [.un, .un, .un] [vF 27 (resE (packP b d e)).1, I (resE (packP b d e)).2.1, I (resE (packP b d e)).2.2]) (hm : getMarkP b at_ = ((7, n), e, 0)) (hK : 0 ≤ at_ ∧ at_ < e ∧ e ≤ b.length ∧ 1 ≤ (7 : Int) ∧ (7 : Int) ≤ 10 ∧ (7 ≤ (7 : Int) → 0 ≤ n ∧ n ≤ 65535)) (hE : ¬ existP b e n = true) : Fn Tryz.prog 53 [Y b, I at_, I ((d + 1 : Nat) : Int)] [.un, .un, .un] [vF 27 (resE (packP b (d + 1) at_)).1, I (resE (packP b (d + 1) at_)).2.1, I (resE (packP b (d + 1) at_)).2.2] := by
 have hd1 : ¬ ((d : Int) + 1 < 1) := by omega
 have hd2 : wrK .i64 (d : Int) = d := wrap64_id _ (by omega)
 have hE' : existP b e n = false := by simpa using hE
 rw [show packP b (d + 1) at_ = .error 1 from by unfold packP; simp -implicitDefEqProofs -dsimp [hm, hE']]
 refine Fn_of Tryz.func53 rfl rfl (by simp -implicitDefEqProofs -dsimp) rfl ?_; simp only [Tryz.f53]
 simp -implicitDefEqProofs -dsimp [resE, zeroG, vF, hd1]
 repeat' (first | with_reducible intro _ | with_reducible apply And.intro | (refine chkOk ?_; kernel_rfl) | (refine wpcall_d (sGetMark hb) ?_; simp -implicitDefEqProofs -dsimp [resE, zeroG, vF, hd1, hm, hE']) | (refine wpcall_d (sSlice hb) ?_; simp -implicitDefEqProofs -dsimp [resE, zeroG, vF, hd1, hm, hE']) | (refine wpcall_d (sTextOk (s := Bs []) (by decide)) ?_; simp -implicitDefEqProofs -dsimp [resE, zeroG, vF, hd1, hm, hE']))
theorem sGP_8n {b : List UInt8} {d : Nat} {at_ k n e c : Int} (hb : b.length ≤ 1099511627776) (hd : d + 1 ≤ 1000000) (ih : ∀ e, Fn Tryz.prog 53 [Y b, I e, I d] [.un, .un, .un] [vF 27 (resE (packP b d e)).1, I (resE (packP b d e)).2.1, I (resE (packP b d e)).2.2]) (hm : getMarkP b at_ = ((8, n), e, 0)) (hK : 0 ≤ at_ ∧ at_ < e ∧ e ≤ b.length ∧ 1 ≤ (8 : Int) ∧ (8 : Int) ≤ 10 ∧ (7 ≤ (8 : Int) → 0 ≤ n ∧ n ≤ 65535)) (hE : ¬ existP b e n = true) : Fn Tryz.prog 53 [Y b, I at_, I ((d + 1 : Nat) : Int)] [.un, .un, .un] [vF 27 (resE (packP b (d + 1) at_)).1, I (resE (packP b (d + 1) at_)).2.1, I (resE (packP b (d + 1) at_)).2.2] := by
 have hd1 : ¬ ((d : Int) + 1 < 1) := by omega
 have hd2 : wrK .i64 (d : Int) = d := wrap64_id _ (by omega)
 have hE' : existP b e n = false := by simpa using hE
 rw [show packP b (d + 1) at_ = .error 1 from by unfold packP; simp -implicitDefEqProofs -dsimp [hm, hE']]
 refine Fn_of Tryz.func53 rfl rfl (by simp -implicitDefEqProofs -dsimp) rfl ?_; simp only [Tryz.f53]
 simp -implicitDefEqProofs -dsimp [resE, zeroG, vF, hd1]
 repeat' (first | with_reducible intro _ | with_reducible apply And.intro | (refine chkOk ?_; kernel_rfl) | (refine wpcall_d (sGetMark hb) ?_; simp -implicitDefEqProofs -dsimp [resE, zeroG, vF, hd1, hm, hE']) | (refine wpcall_d (sSlice hb) ?_; simp -implicitDefEqProofs -dsimp [resE, zeroG, vF, hd1, hm, hE']) | (refine wpcall_d (sTextOk (s := Bs []) (by decide)) ?_; simp -implicitDefEqProofs -dsimp [resE, zeroG, vF, hd1, hm, hE']))
theorem sGP_9 {b : List UInt8} {d : Nat} {at_ k n e c : Int} (hb : b.length ≤ 1099511627776) (hd : d + 1 ≤ 1000000) (ih : ∀ e, Fn Tryz.prog 53 [Y b, I e, I d] [.un, .un, .un] [vF 27 (resE (packP b d e)).1, I (resE (packP b d e)).2.1, I (resE (packP b d e)).2.2]) (hm : getMarkP b at_ = ((9, n), e, 0)) (hK : 0 ≤ at_ ∧ at_ < e ∧ e ≤ b.length ∧ 1 ≤ (9 : Int) ∧ (9 : Int) ≤ 10 ∧ (7 ≤ (9 : Int) → 0 ≤ n ∧ n ≤ 65535)) : Fn Tryz.prog 53 [Y b, I at_, I ((d + 1 : Nat) : Int)] [.un, .un, .un] [vF 27 (resE (packP b (d + 1) at_)).1, I (resE (packP b (d + 1) at_)).2.1, I (resE (packP b (d + 1) at_)).2.2] := by
 have hd1 : ¬ ((d : Int) + 1 < 1) := by omega
 have hd2 : wrK .i64 (d : Int) = d := wrap64_id _ (by omega)
 obtain ⟨b1, b2, b3, b4, b5, b6⟩ := hK
 obtain ⟨m, rfl⟩ : ∃ m : Nat, n = m := ⟨n.toNat, by omega⟩
 obtain ⟨N, hN⟩ : ∃ N : Nat, N = m := ⟨_, rfl⟩
 rw [show packP b (d + 1) at_ = match manyP (packP b d) N (e) with | .error c => .error c | .ok (xs, e) => .ok (⟨9, 0, 0, .empty, xs⟩, e) from by unfold packP; simp -implicitDefEqProofs -dsimp [hm, manyP, hN] <;> rfl]
 have hnN : (m : Int) = (N : Int) := by omega
 generalize hR : resE _ = R
 refine Fn_of Tryz.func53 rfl rfl (by simp -implicitDefEqProofs -dsimp) rfl ?_; simp only [Tryz.f53]
 simp -implicitDefEqProofs -dsimp [hd1]
 repeat' (first | with_reducible intro _ | with_reducible apply And.intro | (refine chkOk ?_; kernel_rfl) | (refine wpcall_d (sGetMark hb) ?_; simp -implicitDefEqProofs -dsimp [resE, zeroG, vF, hd1, hm, vF, hnN]) | (refine wpcall_d (sBitsFlt) ?_; simp -implicitDefEqProofs -dsimp [resE, zeroG, vF, hd1, hm, vF, hnN]) | (refine wpcall_d (sFltVal) ?_; simp -implicitDefEqProofs -dsimp [resE, zeroG, vF, hd1, hm, vF, hnN]) | (refine wpcall_d (sSlice hb) ?_; simp -implicitDefEqProofs -dsimp [resE, zeroG, vF, hd1, hm, vF, hnN]))
 refine WL_loop (fun p : Nat × Int × List GVal => [(0, Y b), (2, I (d + 1)), (6, .blk [I 0, I 0, I 0, S .empty, .nil]), (9, .blk [I 0, I 0, I 0, S .empty, .nil]), (11, I p.2.1), (13, .blk [I (9), I (0), I (0), S (.empty), .row true 27 (p.2.2.map vV)]), (14, I N), (19, I p.1)]) (fun p => N - p.1) (fun p => p.1 ≤ N ∧ manyP (packP b d) p.1 (e) = .ok (p.2.2, p.2.1)) (0, e, []) ⟨Nat.zero_le _, rfl⟩ ?_ ?_
 ·first | (simp -implicitDefEqProofs -dsimp [hN]; done) | (simp -implicitDefEqProofs -dsimp; omega)
 ·rintro ⟨j, e', xs⟩ ⟨hj, hx⟩
  simp only at hj hx
  have hlen := manyP_len hx
  by_cases hjn : j < N
  ·have hjn' : (j : Int) < N := by omega
   have ihe := ih e'
   have hnx : manyP (packP b d) (j + 1) (e) = match packP b d e' with | .error c => .error c | .ok (x, e) => .ok (xs ++ [x], e) := by unfold manyP; simp only [hx]; cases packP b d e' <;> rfl
   cases hq : packP b d e' with
   | error c2 =>
    have hc2 := packP_err hq
    rw [hq] at hnx
    have h9 := manyP_err hnx (N - (j + 1))
    rw [show j + 1 + (N - (j + 1)) = N by omega] at h9
    rw [h9] at hR
    subst hR
    rw [hq] at ihe
    simp only [resE] at ihe ⊢
    simp -implicitDefEqProofs -dsimp [-head_L, hjn', hd2]
    refine wpcall_d ihe ?_; simp -implicitDefEqProofs -dsimp [-head_L, vF, hc2, zeroG]
   | ok q =>
    obtain ⟨x, e2⟩ := q
    rw [hq] at hnx ihe
    simp only [resE] at ihe
    have hb9 : (xs.length + 1) * 64 ≤ 1099511627776 := by omega
    have hw9 : wrK .i64 ((j : Int) + 1) = j + 1 := wrap64_id _ (by omega)
    simp -implicitDefEqProofs -dsimp [-head_L, -endOk, hjn', hd2]
    refine wpcall_d ihe ?_; simp -implicitDefEqProofs -dsimp [-head_L, -endOk, vF, hw9, hb9]
    refine ⟨j + 1, e2, xs ++ [x], ⟨by omega, hnx⟩, by omega, ?_⟩
    simp -implicitDefEqProofs -dsimp
  ·have hjn' : ¬ (j : Int) < N := by omega
   obtain rfl : j = N := by omega
   rw [hx] at hR
   subst hR
   simp -implicitDefEqProofs -dsimp [-head_L, resE, vF]
theorem sGP_10 {b : List UInt8} {d : Nat} {at_ k n e c : Int} (hb : b.length ≤ 1099511627776) (hd : d + 1 ≤ 1000000) (ih : ∀ e, Fn Tryz.prog 53 [Y b, I e, I d] [.un, .un, .un] [vF 27 (resE (packP b d e)).1, I (resE (packP b d e)).2.1, I (resE (packP b d e)).2.2]) (hm : getMarkP b at_ = ((10, n), e, 0)) (hK : 0 ≤ at_ ∧ at_ < e ∧ e ≤ b.length ∧ 1 ≤ (10 : Int) ∧ (10 : Int) ≤ 10 ∧ (7 ≤ (10 : Int) → 0 ≤ n ∧ n ≤ 65535)) : Fn Tryz.prog 53 [Y b, I at_, I ((d + 1 : Nat) : Int)] [.un, .un, .un] [vF 27 (resE (packP b (d + 1) at_)).1, I (resE (packP b (d + 1) at_)).2.1, I (resE (packP b (d + 1) at_)).2.2] := by
 have hd1 : ¬ ((d : Int) + 1 < 1) := by omega
 have hd2 : wrK .i64 (d : Int) = d := wrap64_id _ (by omega)
 obtain ⟨b1, b2, b3, b4, b5, b6⟩ := hK
 obtain ⟨m, rfl⟩ : ∃ m : Nat, n = m := ⟨n.toNat, by omega⟩
 obtain ⟨N, hN⟩ : ∃ N : Nat, N = 2 * m := ⟨_, rfl⟩
 rw [show packP b (d + 1) at_ = match manyP (packP b d) N (e) with | .error c => .error c | .ok (xs, e) => .ok (⟨10, 0, 0, .empty, xs⟩, e) from by unfold packP; simp -implicitDefEqProofs -dsimp [hm, manyP, hN] <;> rfl]
 have hnN : wrK .i64 (2 * (m : Int)) = (N : Int) := by rw [wrap64_id _ (by omega)]; omega
 generalize hR : resE _ = R
 refine Fn_of Tryz.func53 rfl rfl (by simp -implicitDefEqProofs -dsimp) rfl ?_; simp only [Tryz.f53]
 simp -implicitDefEqProofs -dsimp [hd1]
 repeat' (first | with_reducible intro _ | with_reducible apply And.intro | (refine chkOk ?_; kernel_rfl) | (refine wpcall_d (sGetMark hb) ?_; simp -implicitDefEqProofs -dsimp [resE, zeroG, vF, hd1, hm, vF, hnN]) | (refine wpcall_d (sBitsFlt) ?_; simp -implicitDefEqProofs -dsimp [resE, zeroG, vF, hd1, hm, vF, hnN]) | (refine wpcall_d (sFltVal) ?_; simp -implicitDefEqProofs -dsimp [resE, zeroG, vF, hd1, hm, vF, hnN]) | (refine wpcall_d (sSlice hb) ?_; simp -implicitDefEqProofs -dsimp [resE, zeroG, vF, hd1, hm, vF, hnN]))
 refine WL_loop (fun p : Nat × Int × List GVal => [(0, Y b), (2, I (d + 1)), (6, .blk [I 0, I 0, I 0, S .empty, .nil]), (9, .blk [I 0, I 0, I 0, S .empty, .nil]), (11, I p.2.1), (13, .blk [I (10), I (0), I (0), S (.empty), .row true 27 (p.2.2.map vV)]), (14, I N), (19, I p.1)]) (fun p => N - p.1) (fun p => p.1 ≤ N ∧ manyP (packP b d) p.1 (e) = .ok (p.2.2, p.2.1)) (0, e, []) ⟨Nat.zero_le _, rfl⟩ ?_ ?_
 ·first | (simp -implicitDefEqProofs -dsimp [hN]; done) | (simp -implicitDefEqProofs -dsimp; omega)
 ·rintro ⟨j, e', xs⟩ ⟨hj, hx⟩
  simp only at hj hx
  have hlen := manyP_len hx
  by_cases hjn : j < N
  ·have hjn' : (j : Int) < N := by omega
   have ihe := ih e'
   have hnx : manyP (packP b d) (j + 1) (e) = match packP b d e' with | .error c => .error c | .ok (x, e) => .ok (xs ++ [x], e) := by unfold manyP; simp only [hx]; cases packP b d e' <;> rfl
   cases hq : packP b d e' with
   | error c2 =>
    have hc2 := packP_err hq
    rw [hq] at hnx
    have h9 := manyP_err hnx (N - (j + 1))
    rw [show j + 1 + (N - (j + 1)) = N by omega] at h9
    rw [h9] at hR
    subst hR
    rw [hq] at ihe
    simp only [resE] at ihe ⊢
    simp -implicitDefEqProofs -dsimp [-head_L, hjn', hd2]
    refine wpcall_d ihe ?_; simp -implicitDefEqProofs -dsimp [-head_L, vF, hc2, zeroG]
   | ok q =>
    obtain ⟨x, e2⟩ := q
    rw [hq] at hnx ihe
    simp only [resE] at ihe
    have hb9 : (xs.length + 1) * 64 ≤ 1099511627776 := by omega
    have hw9 : wrK .i64 ((j : Int) + 1) = j + 1 := wrap64_id _ (by omega)
    simp -implicitDefEqProofs -dsimp [-head_L, -endOk, hjn', hd2]
    refine wpcall_d ihe ?_; simp -implicitDefEqProofs -dsimp [-head_L, -endOk, vF, hw9, hb9]
    refine ⟨j + 1, e2, xs ++ [x], ⟨by omega, hnx⟩, by omega, ?_⟩
    simp -implicitDefEqProofs -dsimp
  ·have hjn' : ¬ (j : Int) < N := by omega
   obtain rfl : j = N := by omega
   rw [hx] at hR
   subst hR
   simp -implicitDefEqProofs -dsimp [-head_L, resE, vF]
theorem sGP_o {b : List UInt8} {d : Nat} {at_ k n e c : Int} (hb : b.length ≤ 1099511627776) (hd : d + 1 ≤ 1000000) (ih : ∀ e, Fn Tryz.prog 53 [Y b, I e, I d] [.un, .un, .un] [vF 27 (resE (packP b d e)).1, I (resE (packP b d e)).2.1, I (resE (packP b d e)).2.2]) (hm : getMarkP b at_ = ((k, n), e, 0)) (hK : 0 ≤ at_ ∧ at_ < e ∧ e ≤ b.length ∧ 1 ≤ (k : Int) ∧ (k : Int) ≤ 10 ∧ (7 ≤ (k : Int) → 0 ≤ n ∧ n ≤ 65535)) (h4 : ¬ k = 4) (h7 : ¬ k = 7) (h8 : ¬ k = 8) (h9 : ¬ k = 9) (h10 : ¬ k = 10) : Fn Tryz.prog 53 [Y b, I at_, I ((d + 1 : Nat) : Int)] [.un, .un, .un] [vF 27 (resE (packP b (d + 1) at_)).1, I (resE (packP b (d + 1) at_)).2.1, I (resE (packP b (d + 1) at_)).2.2] := by
 have hd1 : ¬ ((d : Int) + 1 < 1) := by omega
 have hd2 : wrK .i64 (d : Int) = d := wrap64_id _ (by omega)
 obtain ⟨b1, b2, b3, b4, b5, b6⟩ := hK
 obtain ⟨N, hN⟩ : ∃ N : Nat, N = 0 := ⟨_, rfl⟩
 rw [show packP b (d + 1) at_ = match manyP (packP b d) N (e) with | .error c => .error c | .ok (xs, e) => .ok (⟨k, n, 0, .empty, xs⟩, e) from by unfold packP; simp -implicitDefEqProofs -dsimp [hm, h4, h7, h8, h9, h10, manyP, hN] <;> rfl]
 generalize hR : resE _ = R
 refine Fn_of Tryz.func53 rfl rfl (by simp -implicitDefEqProofs -dsimp) rfl ?_; simp only [Tryz.f53]
 simp -implicitDefEqProofs -dsimp [hd1]
 repeat' (first | with_reducible intro _ | with_reducible apply And.intro | (refine chkOk ?_; kernel_rfl) | (refine wpcall_d (sGetMark hb) ?_; simp -implicitDefEqProofs -dsimp [resE, zeroG, vF, hd1, hm, vF, h4, h7, h8, h9, h10]) | (refine wpcall_d (sBitsFlt) ?_; simp -implicitDefEqProofs -dsimp [resE, zeroG, vF, hd1, hm, vF, h4, h7, h8, h9, h10]) | (refine wpcall_d (sFltVal) ?_; simp -implicitDefEqProofs -dsimp [resE, zeroG, vF, hd1, hm, vF, h4, h7, h8, h9, h10]) | (refine wpcall_d (sSlice hb) ?_; simp -implicitDefEqProofs -dsimp [resE, zeroG, vF, hd1, hm, vF, h4, h7, h8, h9, h10]))
 refine WL_loop (fun p : Nat × Int × List GVal => [(0, Y b), (2, I (d + 1)), (6, .blk [I 0, I 0, I 0, S .empty, .nil]), (9, .blk [I 0, I 0, I 0, S .empty, .nil]), (11, I p.2.1), (13, .blk [I (k), I (n), I (0), S (.empty), .row true 27 (p.2.2.map vV)]), (14, I N), (19, I p.1)]) (fun p => N - p.1) (fun p => p.1 ≤ N ∧ manyP (packP b d) p.1 (e) = .ok (p.2.2, p.2.1)) (0, e, []) ⟨Nat.zero_le _, rfl⟩ ?_ ?_
 ·first | (simp -implicitDefEqProofs -dsimp [hN]; done) | (simp -implicitDefEqProofs -dsimp; omega)
 ·rintro ⟨j, e', xs⟩ ⟨hj, hx⟩
  simp only at hj hx
  have hlen := manyP_len hx
  by_cases hjn : j < N
  ·have hjn' : (j : Int) < N := by omega
   have ihe := ih e'
   have hnx : manyP (packP b d) (j + 1) (e) = match packP b d e' with | .error c => .error c | .ok (x, e) => .ok (xs ++ [x], e) := by unfold manyP; simp only [hx]; cases packP b d e' <;> rfl
   cases hq : packP b d e' with
   | error c2 =>
    have hc2 := packP_err hq
    rw [hq] at hnx
    have h9 := manyP_err hnx (N - (j + 1))
    rw [show j + 1 + (N - (j + 1)) = N by omega] at h9
    rw [h9] at hR
    subst hR
    rw [hq] at ihe
    simp only [resE] at ihe ⊢
    simp -implicitDefEqProofs -dsimp [-head_L, hjn', hd2]
    refine wpcall_d ihe ?_; simp -implicitDefEqProofs -dsimp [-head_L, vF, hc2, zeroG]
   | ok q =>
    obtain ⟨x, e2⟩ := q
    rw [hq] at hnx ihe
    simp only [resE] at ihe
    have hb9 : (xs.length + 1) * 64 ≤ 1099511627776 := by omega
    have hw9 : wrK .i64 ((j : Int) + 1) = j + 1 := wrap64_id _ (by omega)
    simp -implicitDefEqProofs -dsimp [-head_L, -endOk, hjn', hd2]
    refine wpcall_d ihe ?_; simp -implicitDefEqProofs -dsimp [-head_L, -endOk, vF, hw9, hb9]
    refine ⟨j + 1, e2, xs ++ [x], ⟨by omega, hnx⟩, by omega, ?_⟩
    simp -implicitDefEqProofs -dsimp
  ·have hjn' : ¬ (j : Int) < N := by omega
   obtain rfl : j = N := by omega
   rw [hx] at hR
   subst hR
   simp -implicitDefEqProofs -dsimp [-head_L, resE, vF]
theorem sGP_e {b : List UInt8} {d : Nat} {at_ k n e c : Int} (hb : b.length ≤ 1099511627776) (hd : d + 1 ≤ 1000000) (ih : ∀ e, Fn Tryz.prog 53 [Y b, I e, I d] [.un, .un, .un] [vF 27 (resE (packP b d e)).1, I (resE (packP b d e)).2.1, I (resE (packP b d e)).2.2]) (hm : getMarkP b at_ = ((k, n), e, c)) (hc : ¬ c = 0) : Fn Tryz.prog 53 [Y b, I at_, I ((d + 1 : Nat) : Int)] [.un, .un, .un] [vF 27 (resE (packP b (d + 1) at_)).1, I (resE (packP b (d + 1) at_)).2.1, I (resE (packP b (d + 1) at_)).2.2] := by
 have hd1 : ¬ ((d : Int) + 1 < 1) := by omega
 have hd2 : wrK .i64 (d : Int) = d := wrap64_id _ (by omega)
 rw [show packP b (d + 1) at_ = .error c from by unfold packP; simp -implicitDefEqProofs -dsimp [hm, hc]]
 refine Fn_of Tryz.func53 rfl rfl (by simp -implicitDefEqProofs -dsimp) rfl ?_; simp only [Tryz.f53]
 simp -implicitDefEqProofs -dsimp [resE, zeroG, vF, hd1]
 repeat' (first | with_reducible intro _ | with_reducible apply And.intro | (refine chkOk ?_; kernel_rfl) | (refine wpcall_d (sGetMark hb) ?_; simp -implicitDefEqProofs -dsimp [resE, zeroG, vF, hd1, hm, hc]))
theorem sGetPacked {b : List UInt8} (hb : b.length ≤ 1099511627776) : ∀ (d : Nat) (at_ : Int), d ≤ 1000000 → Fn Tryz.prog 53 [Y b, I at_, I d] [.un, .un, .un] [vF 27 (resE (packP b d at_)).1, I (resE (packP b d at_)).2.1, I (resE (packP b d at_)).2.2]
 | 0, at_, _ => by
  refine Fn_of Tryz.func53 rfl rfl (by simp -implicitDefEqProofs -dsimp) rfl ?_; simp only [Tryz.f53]
  simp -implicitDefEqProofs -dsimp [packP, resE, vF, zeroG]
 | d + 1, at_, hd => by
  have ih := fun e => sGetPacked hb d e (by omega)
  obtain ⟨k, n, e, c, hm⟩ : ∃ k n e c, getMarkP b at_ = ((k, n), e, c) := ⟨_, _, _, _, rfl⟩
  by_cases hc : c = 0
  ·subst hc
   have hK := getMarkP_bounds hm
   by_cases h4 : k = 4
   ·subst h4; exact sGP_4 (k := 0) (c := 0) hb hd ih hm hK
   by_cases h7 : k = 7
   ·subst h7
    by_cases hE : existP b e n = true
    ·by_cases ht : textOkP (Bs ((b.drop e.toNat).take n.toNat)) = true
     ·exact sGP_7 (k := 0) (c := 0) hb hd ih hm hK hE ht
     ·exact sGP_7b (k := 0) (c := 0) hb hd ih hm hK hE ht
    ·exact sGP_7n (k := 0) (c := 0) hb hd ih hm hK hE
   by_cases h8 : k = 8
   ·subst h8
    by_cases hE : existP b e n = true
    ·exact sGP_8 (k := 0) (c := 0) hb hd ih hm hK hE
    ·exact sGP_8n (k := 0) (c := 0) hb hd ih hm hK hE
   by_cases h9 : k = 9
   ·subst h9; exact sGP_9 (k := 0) (c := 0) hb hd ih hm hK
   by_cases h10 : k = 10
   ·subst h10; exact sGP_10 (k := 0) (c := 0) hb hd ih hm hK
   exact sGP_o (k := k) (c := 0) hb hd ih hm hK h4 h7 h8 h9 h10
  ·exact sGP_e (k := k) (c := c) hb hd ih hm hc
end Go.Proofs.YtlfblkekbcfjpaaGreatDoor
