/- Part of a proof: contracts and plain laws. -/
import Derived.Test.YtlfblkekbcfjpaaGreatDoorZ43
set_option linter.unusedVariables false
set_option linter.unusedSimpArgs false
namespace Go.Proofs.YtlfblkekbcfjpaaGreatDoor
open Go
set_option maxRecDepth 100000
set_option maxHeartbeats 4000000
theorem s14_simple {b : List UInt8} {d : Nat} {a n w e : Int} (hb : b.length ≤ 1073741824) (hd : d < 10000) (hh : getHeadP b a = ((7, n, w), e, 0)) :
  Fn Tryz.prog 52 [Y b, I a, I ((d + 1 : Nat) : Int)] [.un, .un, .un] [vF 27 (exV (tightP b (d + 1) a)), I (exE (tightP b (d + 1) a)), I (codeE (tightP b (d + 1) a))] := by
 have hH := sGetHead (b := b) (at_ := a) (by omega)
 have ho := head_ok hh
 have hd1 : ¬ (10000 : Int) < (d : Int) + 1 := by omega
 have hd2 : ¬ ((d : Int) + 1) < 1 := by omega
 have hS := s14Simple (n := n) (w := w) (e := e) ⟨by omega, by omega⟩
 have hB : tightP b (d + 1) a = simpleP n w e := by
  unfold tightP; rw [hh]; simp -implicitDefEqProofs -dsimp [tightB]
 rw [hB]
 rw [hh] at hH
 rcases hs : simpleP n w e with c | ⟨v, e2⟩
 ·have hc := simpleP_err hs
  rw [hs] at hS; simp -implicitDefEqProofs -dsimp [exG, codeE, Except.map, vF, zeroG] at hS
  refine Fn_of Tryz.func52 rfl rfl (by simp -implicitDefEqProofs -dsimp) rfl ?_; simp only [Tryz.f52]
  simp -implicitDefEqProofs -dsimp [hd1, hd2]
  refine wpcall_d hH ?_; simp -implicitDefEqProofs -dsimp
  refine wpcall_d hS ?_; simp -implicitDefEqProofs -dsimp [hc, exV, exE, codeE, vF, zeroG]
 ·have he := simpleP_end hs; subst he
  rw [hs] at hS; simp -implicitDefEqProofs -dsimp [exG, codeE, Except.map, vF] at hS
  refine Fn_of Tryz.func52 rfl rfl (by simp -implicitDefEqProofs -dsimp) rfl ?_; simp only [Tryz.f52]
  simp -implicitDefEqProofs -dsimp [hd1, hd2]
  refine wpcall_d hH ?_; simp -implicitDefEqProofs -dsimp
  refine wpcall_d hS ?_; simp -implicitDefEqProofs -dsimp [exV, exE, codeE, vF]
theorem s14_text {b : List UInt8} {d : Nat} {a m n w e : Int} (hb : b.length ≤ 1073741824) (hd : d < 10000) (hh : getHeadP b a = ((m, n, w), e, 0)) (hm : m = 2 ∨ m = 3) :
  Fn Tryz.prog 52 [Y b, I a, I ((d + 1 : Nat) : Int)] [.un, .un, .un] [vF 27 (exV (tightP b (d + 1) a)), I (exE (tightP b (d + 1) a)), I (codeE (tightP b (d + 1) a))] := by
 have hH := sGetHead (b := b) (at_ := a) (by omega)
 have ho := head_ok hh
 have hd1 : ¬ (10000 : Int) < (d : Int) + 1 := by omega
 have hd2 : ¬ ((d : Int) + 1) < 1 := by omega
 have hS := s14Str (b := b) (e := e) (m := m) (n := n) (w := w) (by omega)
 have hP := s14Parts (b := b) (e := e) (m := m) (by omega) ⟨by omega, by omega⟩
 have hB : tightP b (d + 1) a = textE m (if w < 0 then partsQ b m e else strB b e m n) := by
  unfold tightP; rw [hh]; simp -implicitDefEqProofs -dsimp [tightB]
  rcases hm with rfl | rfl <;> simp -implicitDefEqProofs -dsimp
 rw [hB]
 rw [hh] at hH
 by_cases hw : w < 0
 ·rw [if_pos hw]
  rcases hs : partsQ b m e with c | ⟨s, e2⟩
  ·have hc := partsF_err _ _ hs
   rw [hs] at hP; simp -implicitDefEqProofs -dsimp [exS, exE, codeE] at hP
   rcases hm with rfl | rfl
   all_goals
    refine Fn_of Tryz.func52 rfl rfl (by simp -implicitDefEqProofs -dsimp) rfl ?_; simp only [Tryz.f52]
    simp -implicitDefEqProofs -dsimp [hd1, hd2]
    refine wpcall_d hH ?_; simp -implicitDefEqProofs -dsimp
    refine wpcall_d hS ?_; simp -implicitDefEqProofs -dsimp [hw]
    refine wpcall_d hP ?_; simp -implicitDefEqProofs -dsimp [hc, textE, exV, exE, codeE, vF, zeroG]
  ·rw [hs] at hP; simp -implicitDefEqProofs -dsimp [exS, exE, codeE] at hP
   rcases hm with rfl | rfl
   all_goals
    refine Fn_of Tryz.func52 rfl rfl (by simp -implicitDefEqProofs -dsimp) rfl ?_; simp only [Tryz.f52]
    simp -implicitDefEqProofs -dsimp [hd1, hd2]
    refine wpcall_d hH ?_; simp -implicitDefEqProofs -dsimp
    refine wpcall_d hS ?_; simp -implicitDefEqProofs -dsimp [hw]
    refine wpcall_d hP ?_; simp -implicitDefEqProofs -dsimp [textE, exV, exE, codeE, vF]
 ·rw [if_neg hw]
  rcases hs : strB b e m n with c | ⟨s, e2⟩
  ·have hc := strB_err hs
   have hc2 : ¬ c = 0 := by omega
   rw [hs] at hS; simp -implicitDefEqProofs -dsimp [exS, exE, codeE] at hS
   rcases hm with rfl | rfl
   all_goals
    refine Fn_of Tryz.func52 rfl rfl (by simp -implicitDefEqProofs -dsimp) rfl ?_; simp only [Tryz.f52]
    simp -implicitDefEqProofs -dsimp [hd1, hd2]
    refine wpcall_d hH ?_; simp -implicitDefEqProofs -dsimp
    refine wpcall_d hS ?_; simp -implicitDefEqProofs -dsimp [hw, hc2, textE, exV, exE, codeE, vF, zeroG]
  ·rw [hs] at hS; simp -implicitDefEqProofs -dsimp [exS, exE, codeE] at hS
   rcases hm with rfl | rfl
   all_goals
    refine Fn_of Tryz.func52 rfl rfl (by simp -implicitDefEqProofs -dsimp) rfl ?_; simp only [Tryz.f52]
    simp -implicitDefEqProofs -dsimp [hd1, hd2]
    refine wpcall_d hH ?_; simp -implicitDefEqProofs -dsimp
    refine wpcall_d hS ?_; simp -implicitDefEqProofs -dsimp [hw, textE, exV, exE, codeE, vF]
end Go.Proofs.YtlfblkekbcfjpaaGreatDoor
namespace Go.Proofs.YtlfblkekbcfjpaaGreatDoor
open Go
set_option maxRecDepth 100000
set_option maxHeartbeats 4000000
theorem s14_tree {b : List UInt8} {d : Nat} {a m n w e : Int} (hb : b.length ≤ 1073741824) (hd : d < 10000) (hh : getHeadP b a = ((m, n, w), e, 0)) (hm : m = 4 ∨ m = 5 ∨ m = 6) (hV : RdS 52 b d) :
  Fn Tryz.prog 52 [Y b, I a, I ((d + 1 : Nat) : Int)] [.un, .un, .un] [vF 27 (exV (tightP b (d + 1) a)), I (exE (tightP b (d + 1) a)), I (codeE (tightP b (d + 1) a))] := by
 have hH := sGetHead (b := b) (at_ := a) (by omega)
 have ho := head_ok hh
 have hd1 : ¬ (10000 : Int) < (d : Int) + 1 := by omega
 have hd2 : ¬ ((d : Int) + 1) < 1 := by omega
 rw [hh] at hH
 have ih := tightP_err (b := b) d
 obtain ⟨N, rfl⟩ : ∃ N : Nat, n = N := ⟨n.toNat, by omega⟩
 have hN := ho.2.2.2.2.1
 have hw2 : wrK .i64 (2 * (N : Int)) = 2 * N := wrap64_id _ (by omega)
 by_cases hw : w < 0
 ·rcases hm with rfl | rfl | rfl
  ·have hP := s14ManyO (b := b) (d := d) (e0 := e) (pairs := false) hb hd ⟨by omega, by omega⟩ hV
   have hB : tightP b (d + 1) a = kindE 9 0 (openQ b (tightP b d) false false e) := by
    unfold tightP; rw [hh]; simp -implicitDefEqProofs -dsimp [tightB, hw]
   rw [hB]
   rcases hs : openQ b (tightP b d) false false e with c | ⟨xs, e2⟩
   ·have hc := openF_err ih _ _ _ hs
    rw [hs] at hP; simp -implicitDefEqProofs -dsimp [mnV, exE, codeE] at hP
    refine Fn_of Tryz.func52 rfl rfl (by simp -implicitDefEqProofs -dsimp) rfl ?_; simp only [Tryz.f52]
    simp -implicitDefEqProofs -dsimp [hd1, hd2]
    refine wpcall_d hH ?_; simp -implicitDefEqProofs -dsimp [hw, hw2]
    refine wpcall_d hP ?_; simp -implicitDefEqProofs -dsimp [hc, kindE, exV, exE, codeE, vF, zeroG]
   ·rw [hs] at hP; simp -implicitDefEqProofs -dsimp [mnV, exE, codeE] at hP
    refine Fn_of Tryz.func52 rfl rfl (by simp -implicitDefEqProofs -dsimp) rfl ?_; simp only [Tryz.f52]
    simp -implicitDefEqProofs -dsimp [hd1, hd2]
    refine wpcall_d hH ?_; simp -implicitDefEqProofs -dsimp [hw, hw2]
    refine wpcall_d hP ?_; simp -implicitDefEqProofs -dsimp [kindE, exV, exE, codeE, vF]
  ·have hP := s14ManyO (b := b) (d := d) (e0 := e) (pairs := true) hb hd ⟨by omega, by omega⟩ hV
   have hB : tightP b (d + 1) a = kindE 10 0 (openQ b (tightP b d) true false e) := by
    unfold tightP; rw [hh]; simp -implicitDefEqProofs -dsimp [tightB, hw]
   rw [hB]
   rcases hs : openQ b (tightP b d) true false e with c | ⟨xs, e2⟩
   ·have hc := openF_err ih _ _ _ hs
    rw [hs] at hP; simp -implicitDefEqProofs -dsimp [mnV, exE, codeE] at hP
    refine Fn_of Tryz.func52 rfl rfl (by simp -implicitDefEqProofs -dsimp) rfl ?_; simp only [Tryz.f52]
    simp -implicitDefEqProofs -dsimp [hd1, hd2]
    refine wpcall_d hH ?_; simp -implicitDefEqProofs -dsimp [hw, hw2]
    refine wpcall_d hP ?_; simp -implicitDefEqProofs -dsimp [hc, kindE, exV, exE, codeE, vF, zeroG]
   ·rw [hs] at hP; simp -implicitDefEqProofs -dsimp [mnV, exE, codeE] at hP
    refine Fn_of Tryz.func52 rfl rfl (by simp -implicitDefEqProofs -dsimp) rfl ?_; simp only [Tryz.f52]
    simp -implicitDefEqProofs -dsimp [hd1, hd2]
    refine wpcall_d hH ?_; simp -implicitDefEqProofs -dsimp [hw, hw2]
    refine wpcall_d hP ?_; simp -implicitDefEqProofs -dsimp [kindE, exV, exE, codeE, vF]
  ·have := ho.2.2.2.2.2.2.2.1 hw; omega
 ·rcases hm with rfl | rfl | rfl
  ·have hP := s14ManyN (b := b) (d := d) (k := N) (e0 := e) (pairs := false) hb hd ⟨by omega, by omega⟩ (by omega) hV
   have hB : tightP b (d + 1) a = kindE 9 0 (manyP (tightP b d) N e) := by
    unfold tightP; rw [hh]; simp -implicitDefEqProofs -dsimp [tightB, hw]
   rw [hB]
   rcases hs : manyP (tightP b d) N e with c | ⟨xs, e2⟩
   ·have hc := manyP_ne ih hs
    rw [hs] at hP; simp -implicitDefEqProofs -dsimp [mnV, exE, codeE] at hP
    refine Fn_of Tryz.func52 rfl rfl (by simp -implicitDefEqProofs -dsimp) rfl ?_; simp only [Tryz.f52]
    simp -implicitDefEqProofs -dsimp [hd1, hd2]
    refine wpcall_d hH ?_; simp -implicitDefEqProofs -dsimp [hw, hw2]
    refine wpcall_d hP ?_; simp -implicitDefEqProofs -dsimp [hc, kindE, exV, exE, codeE, vF, zeroG]
   ·rw [hs] at hP; simp -implicitDefEqProofs -dsimp [mnV, exE, codeE] at hP
    refine Fn_of Tryz.func52 rfl rfl (by simp -implicitDefEqProofs -dsimp) rfl ?_; simp only [Tryz.f52]
    simp -implicitDefEqProofs -dsimp [hd1, hd2]
    refine wpcall_d hH ?_; simp -implicitDefEqProofs -dsimp [hw, hw2]
    refine wpcall_d hP ?_; simp -implicitDefEqProofs -dsimp [kindE, exV, exE, codeE, vF]
  ·have hP := s14ManyN (b := b) (d := d) (k := 2 * N) (e0 := e) (pairs := true) hb hd ⟨by omega, by omega⟩ (by omega) hV
   have hB : tightP b (d + 1) a = kindE 10 0 (manyP (tightP b d) (2 * N) e) := by
    unfold tightP; rw [hh]; simp -implicitDefEqProofs -dsimp [tightB, hw]
   rw [hB]
   rcases hs : manyP (tightP b d) (2 * N) e with c | ⟨xs, e2⟩
   ·have hc := manyP_ne ih hs
    rw [hs] at hP; simp -implicitDefEqProofs -dsimp [mnV, exE, codeE] at hP
    refine Fn_of Tryz.func52 rfl rfl (by simp -implicitDefEqProofs -dsimp) rfl ?_; simp only [Tryz.f52]
    simp -implicitDefEqProofs -dsimp [hd1, hd2]
    refine wpcall_d hH ?_; simp -implicitDefEqProofs -dsimp [hw, hw2]
    refine wpcall_d hP ?_; simp -implicitDefEqProofs -dsimp [hc, kindE, exV, exE, codeE, vF, zeroG]
   ·rw [hs] at hP; simp -implicitDefEqProofs -dsimp [mnV, exE, codeE] at hP
    refine Fn_of Tryz.func52 rfl rfl (by simp -implicitDefEqProofs -dsimp) rfl ?_; simp only [Tryz.f52]
    simp -implicitDefEqProofs -dsimp [hd1, hd2]
    refine wpcall_d hH ?_; simp -implicitDefEqProofs -dsimp [hw, hw2]
    refine wpcall_d hP ?_; simp -implicitDefEqProofs -dsimp [kindE, exV, exE, codeE, vF]
  ·have hP := s14ManyN (b := b) (d := d) (k := 1) (e0 := e) (pairs := false) hb hd ⟨by omega, by omega⟩ (by omega) hV
   have hB : tightP b (d + 1) a = kindE 11 N (manyP (tightP b d) 1 e) := by
    unfold tightP; rw [hh]; simp -implicitDefEqProofs -dsimp [tightB, hw]
   rw [hB]
   rcases hs : manyP (tightP b d) 1 e with c | ⟨xs, e2⟩
   ·have hc := manyP_ne ih hs
    rw [hs] at hP; simp -implicitDefEqProofs -dsimp [mnV, exE, codeE] at hP
    refine Fn_of Tryz.func52 rfl rfl (by simp -implicitDefEqProofs -dsimp) rfl ?_; simp only [Tryz.f52]
    simp -implicitDefEqProofs -dsimp [hd1, hd2]
    refine wpcall_d hH ?_; simp -implicitDefEqProofs -dsimp [hw, hw2]
    refine wpcall_d hP ?_; simp -implicitDefEqProofs -dsimp [hc, kindE, exV, exE, codeE, vF, zeroG]
   ·rw [hs] at hP; simp -implicitDefEqProofs -dsimp [mnV, exE, codeE] at hP
    refine Fn_of Tryz.func52 rfl rfl (by simp -implicitDefEqProofs -dsimp) rfl ?_; simp only [Tryz.f52]
    simp -implicitDefEqProofs -dsimp [hd1, hd2]
    refine wpcall_d hH ?_; simp -implicitDefEqProofs -dsimp [hw, hw2]
    refine wpcall_d hP ?_; simp -implicitDefEqProofs -dsimp [kindE, exV, exE, codeE, vF]
theorem sGetTight {b : List UInt8} (hb : b.length ≤ 1073741824) : ∀ d : Nat, d ≤ 10000 → RdS 52 b d
 | 0, _ => s14_0
 | d + 1, hd => by
  have ih := sGetTight hb d (by omega)
  intro a
  rcases hh : getHeadP b a with ⟨⟨m, n, w⟩, e, c⟩
  by_cases hc : c = 0
  ·subst hc
   have ho := head_ok hh
   have hm : m = 0 ∨ m = 1 ∨ m = 2 ∨ m = 3 ∨ m = 4 ∨ m = 5 ∨ m = 6 ∨ m = 7 := by omega
   rcases hm with h | h | h | h | h | h | h | h
   ·exact s14_int hb hd hh (.inl h)
   ·exact s14_int hb hd hh (.inr h)
   ·exact s14_text hb hd hh (.inl h)
   ·exact s14_text hb hd hh (.inr h)
   ·exact s14_tree hb hd hh (.inl h) ih
   ·exact s14_tree hb hd hh (.inr (.inl h)) ih
   ·exact s14_tree hb hd hh (.inr (.inr h)) ih
   ·subst h; exact s14_simple hb hd hh
  ·exact s14_head hb hd (by rw [hh]; exact hc)
end Go.Proofs.YtlfblkekbcfjpaaGreatDoor
namespace Go.Proofs.YtlfblkekbcfjpaaGreatDoor
open Go
set_option maxRecDepth 100000
set_option maxHeartbeats 4000000
def readTightP (b : List UInt8) (d : Nat) : Except Int GVal := match tightP b d 0 with
 | .error c => .error c
 | .ok (v, e) => if e = b.length then .ok v else .error 1
theorem sReadTight {b : List UInt8} {d : Nat} (hb : b.length ≤ 1073741824) (hd : d ≤ 10000) :
  Fn Tryz.prog 37 [Y b, I d] [.un, .un] [vF 27 (exG (readTightP b d)), I (codeE (readTightP b d))] := by
 have hG := sGetTight hb d hd 0
 unfold readTightP
 rcases hs : tightP b d 0 with c | ⟨v, e⟩
 ·have hc := tightP_err _ _ _ hs
  rw [hs] at hG; simp -implicitDefEqProofs -dsimp [exV, exE, codeE, vF, zeroG] at hG
  refine Fn_of Tryz.func37 rfl rfl (by simp -implicitDefEqProofs -dsimp) rfl ?_; simp only [Tryz.f37]
  simp -implicitDefEqProofs -dsimp
  refine wpcall_d hG ?_; simp -implicitDefEqProofs -dsimp [hc, exG, codeE, vF, zeroG]
 ·rw [hs] at hG; simp -implicitDefEqProofs -dsimp [exV, exE, codeE, vF] at hG
  by_cases he : e = b.length
  ·simp only [if_pos he]
   refine Fn_of Tryz.func37 rfl rfl (by simp -implicitDefEqProofs -dsimp) rfl ?_; simp only [Tryz.f37]
   simp -implicitDefEqProofs -dsimp
   refine wpcall_d hG ?_; simp -implicitDefEqProofs -dsimp [he, exG, codeE, vF, zeroG]
  ·simp only [if_neg he]
   refine Fn_of Tryz.func37 rfl rfl (by simp -implicitDefEqProofs -dsimp) rfl ?_; simp only [Tryz.f37]
   simp -implicitDefEqProofs -dsimp
   refine wpcall_d hG ?_; simp -implicitDefEqProofs -dsimp [he, exG, codeE, vF, zeroG]
end Go.Proofs.YtlfblkekbcfjpaaGreatDoor
namespace Go.Proofs.YtlfblkekbcfjpaaGreatDoor
open Go
set_option maxRecDepth 100000
set_option maxHeartbeats 4000000
abbrev trB (b : List UInt8) (a c : Int) : V := .blk [Y b, I a, I c]
theorem iTrFail {b : List UInt8} {a k : Int} : Fn Tryz.prog 120 [trB b a 0, I k] [trB b a k, .un] [vF 27 zeroG] := by
 refine Fn_of Tryz.func120 rfl rfl (by simp -implicitDefEqProofs -dsimp) rfl ?_; simp only [Tryz.f120]
 simp -implicitDefEqProofs -dsimp [vF, zeroG]
theorem iTrHead {b : List UInt8} {a m n w e : Int} (hb : b.length ≤ 1099511627776) (hh : getHeadP b a = ((m, n, w), e, 0)) : Fn Tryz.prog 121 [trB b a 0] [trB b e 0] [.ag [I m, I n, I w]] := by
 have hH := iGetHead (b := b) (at_ := a) hb
 rw [hh] at hH
 refine Fn_of Tryz.func121 rfl rfl (by simp -implicitDefEqProofs -dsimp) rfl ?_; simp only [Tryz.f121]
 simp -implicitDefEqProofs -dsimp
 refine wpcall_d hH ?_; simp -implicitDefEqProofs -dsimp
 refine chkOk ?_; kernel_rfl
theorem iTrHeadE {b : List UInt8} {a c : Int} (hb : b.length ≤ 1099511627776) (hc : ¬ (getHeadP b a).2.2 = 0) : Fn Tryz.prog 121 [trB b a 0] [trB b a (getHeadP b a).2.2] [.ag [I 0, I 0, I 0]] := by
 have hH := iGetHead (b := b) (at_ := a) hb
 generalize getHeadP b a = r at *
 obtain ⟨⟨m, n, w⟩, e, c⟩ := r
 simp only at hH hc ⊢
 refine Fn_of Tryz.func121 rfl rfl (by simp -implicitDefEqProofs -dsimp) rfl ?_; simp only [Tryz.f121]
 simp -implicitDefEqProofs -dsimp
 refine wpcall_d hH ?_; simp -implicitDefEqProofs -dsimp [hc]
 refine ⟨?_, ?_⟩
 ·refine chkOk ?_; kernel_rfl
 refine wpcall_q (iTrFail (b := b) (a := a) (k := c)) ?_; simp -implicitDefEqProofs -dsimp [vF, zeroG]
end Go.Proofs.YtlfblkekbcfjpaaGreatDoor
namespace Go.Proofs.YtlfblkekbcfjpaaGreatDoor
open Go
set_option maxRecDepth 100000
set_option maxHeartbeats 4000000
def exA {α : Type} : Except Int (α × Int) → V
 | .ok p => I p.2
 | .error _ => .un
abbrev trO {α : Type} (b : List UInt8) (o : Except Int (α × Int)) : V := .blk [Y b, exA o, I (codeE o)]
def tvU : Except Int (GVal × Int) → V
 | .ok p => vF 27 p.1
 | .error _ => gV
theorem iTrEnds {b : List UInt8} {a c : Int} (hb : b.length ≤ 1099511627776) (h0 : 0 ≤ a) : Fn Tryz.prog 162 [trB b a c] [trB b a c] [B (endB b a)] := by
 unfold endB
 obtain ⟨k, rfl⟩ : ∃ k : Nat, a = k := ⟨a.toNat, by omega⟩
 by_cases h : k < b.length
 ·have h' : (k : Int) < b.length := by omega
  by_cases hx2 : b[k] = 255
  ·refine Fn_of Tryz.func162 rfl rfl (by simp -implicitDefEqProofs -dsimp) rfl ?_; simp only [Tryz.f162]
   simp -implicitDefEqProofs -dsimp [h, h', hx2]; repeat' (first | with_reducible intro _ | with_reducible apply And.intro | (refine chkOk ?_; kernel_rfl))
  ·have hx3 : ¬ (b[k].toNat : Int) = 255 := fun h => hx2 (UInt8.toNat_inj.1 (by simpa using (Int.ofNat.inj h)))
   refine Fn_of Tryz.func162 rfl rfl (by simp -implicitDefEqProofs -dsimp) rfl ?_; simp only [Tryz.f162]
   simp -implicitDefEqProofs -dsimp [h, h', hx2, hx3]; repeat' (first | with_reducible intro _ | with_reducible apply And.intro | (refine chkOk ?_; kernel_rfl))
 ·have h' : ¬ (k : Int) < b.length := by omega
  have h2 : b[k]? = none := List.getElem?_eq_none (by omega)
  refine Fn_of Tryz.func162 rfl rfl (by simp -implicitDefEqProofs -dsimp) rfl ?_; simp only [Tryz.f162]
  simp -implicitDefEqProofs -dsimp [h, h', h2]; repeat' (first | with_reducible intro _ | with_reducible apply And.intro | (refine chkOk ?_; kernel_rfl))
theorem iTrBytes {b : List UInt8} {a m n w e : Int} {s : List UInt8} (hb : b.length ≤ 1073741824) (h : strB b a m n = .ok (s, e)) :
  Fn Tryz.prog 161 [trB b a 0, .ag [I m, I n, I w]] [trB b e 0, .un] [T s] := by
 have hk := strB_ok h
 unfold strB at h
 split at h
 case isFalse => cases h
 rename_i hh
 have hE := existP_iff.1 hh.1
 have hw : wrK .i64 (a + n) = a + n := wrap64_id _ (by omega)
 have hw2 : wrK .i64 ((b.length : Int) - a) = b.length - a := wrap64_id _ (by clear hw; omega)
 have hw3 : ¬ (b.length : Int) - a < n := by clear hw hw2; omega
 have hz : ∀ x : UInt8, (x.toNat : Int) < 256 := fun x => by have := x.toNat_lt; omega
 obtain ⟨l, hl⟩ : ∃ l, (b.drop a.toNat).take n.toNat = l := ⟨_, rfl⟩
 have hsl : List.drop a.toNat (List.take (a + n).toNat (List.map bv b)) = List.map bv l := by clear hw hw2; rw [← hl, List.drop_take, List.map_take, List.map_drop]; congr 1; omega
 rw [hl] at h hh
 simp at h
 obtain ⟨rfl, rfl⟩ := h
 have h1 : 0 ≤ a := by omega
 have h2 : a ≤ a + n := by clear hw hw2; omega
 have h3 : a + n ≤ b.length := by clear hw hw2; omega
 by_cases hm : m = 3
 ·have ht := iTextOk (s := Bs l) (by show l.length ≤ _; clear hw hw2; omega)
  rw [hh.2 hm] at ht
  refine Fn_of Tryz.func161 rfl rfl (by simp -implicitDefEqProofs -dsimp) rfl ?_; simp only [Tryz.f161]
  simp -implicitDefEqProofs -dsimp [hm, hw, hw2, hw3, hsl, hz, h1, h2, h3]; repeat' (first | with_reducible intro _ | with_reducible apply And.intro | (refine chkOk ?_; kernel_rfl) | (refine wpcall_d (ht) ?_; simp -implicitDefEqProofs -dsimp [hm, hw, hw2, hw3, hsl, hz, h1, h2, h3]))
 ·refine Fn_of Tryz.func161 rfl rfl (by simp -implicitDefEqProofs -dsimp) rfl ?_; simp only [Tryz.f161]
  simp -implicitDefEqProofs -dsimp [hm, hw, hw2, hw3, hsl, hz, h1, h2, h3]; repeat' (first | with_reducible intro _ | with_reducible apply And.intro | (refine chkOk ?_; kernel_rfl))
  refine WC_nr [B false] (by simp -implicitDefEqProofs -dsimp [hm]) ?_; simp -implicitDefEqProofs -dsimp [hm, hw, hw2, hw3, hsl, hz, h1, h2, h3]
  repeat' (first | with_reducible intro _ | with_reducible apply And.intro | (refine chkOk ?_; kernel_rfl))
theorem iTrBytesE {b : List UInt8} {a m n w c : Int} (hb : b.length ≤ 1073741824) (ha : 0 ≤ a ∧ a ≤ b.length) (hn : 0 ≤ n) (h : strB b a m n = .error c) :
  Fn Tryz.prog 161 [trB b a 0, .ag [I m, I n, I w]] [trB b a 1, .un] [T []] := by
 have hF := iTrFail (b := b) (a := a) (k := 1)
 unfold strB at h
 split at h
 ·cases h
 ·rename_i hh
  have hw2 : wrK .i64 ((b.length : Int) - a) = b.length - a := wrap64_id _ (by omega)
  by_cases hlt : (b.length : Int) - a < n
  ·refine Fn_of Tryz.func161 rfl rfl (by simp -implicitDefEqProofs -dsimp) rfl ?_; simp only [Tryz.f161]
   simp -implicitDefEqProofs -dsimp [hw2, hlt, vF, zeroG]; repeat' (first | with_reducible intro _ | with_reducible apply And.intro | (refine chkOk ?_; kernel_rfl) | (refine wpcall_q (hF) ?_; simp -implicitDefEqProofs -dsimp [hw2, hlt, vF, zeroG]))
  ·have hE : existP b a n = true := existP_iff.2 (by omega)
   rw [hE] at hh
   obtain ⟨l, hl⟩ : ∃ l, (b.drop a.toNat).take n.toNat = l := ⟨_, rfl⟩
   rw [hl] at hh
   have hw : wrK .i64 (a + n) = a + n := wrap64_id _ (by omega)
   have hz : ∀ x : UInt8, (x.toNat : Int) < 256 := fun x => by have := x.toNat_lt; omega
   have hsl : List.drop a.toNat (List.take (a + n).toNat (List.map bv b)) = List.map bv l := by clear hw hw2; rw [← hl, List.drop_take, List.map_take, List.map_drop]; congr 1; omega
   have h1 : 0 ≤ a := by omega
   have h2 : a ≤ a + n := by clear hw hw2; omega
   have h3 : a + n ≤ b.length := by clear hw hw2; omega
   have hll : l.length ≤ b.length := by rw [← hl]; simp -implicitDefEqProofs -dsimp; omega
   have ht := iTextOk (s := Bs l) (by show l.length ≤ _; clear hw hw2; omega)
   by_cases hm : m = 3
   ·have ht2 : textOkP (Bs l) = false := by
     cases h9 : textOkP (Bs l) with
     | false => rfl
     | true => exact absurd ⟨rfl, fun _ => h9⟩ hh
    rw [ht2] at ht
    refine Fn_of Tryz.func161 rfl rfl (by simp -implicitDefEqProofs -dsimp) rfl ?_; simp only [Tryz.f161]
    simp -implicitDefEqProofs -dsimp [hm, hw, hw2, hlt, hsl, hz, h1, h2, h3, vF, zeroG]; repeat' (first | with_reducible intro _ | with_reducible apply And.intro | (refine chkOk ?_; kernel_rfl) | (refine wpcall_d (ht) ?_; simp -implicitDefEqProofs -dsimp [hm, hw, hw2, hlt, hsl, hz, h1, h2, h3, vF, zeroG]) | (refine wpcall_q (hF) ?_; simp -implicitDefEqProofs -dsimp [hm, hw, hw2, hlt, hsl, hz, h1, h2, h3, vF, zeroG]))
   ·exact absurd ⟨rfl, fun h9 => absurd h9 hm⟩ hh
theorem iTrSimple {b : List UInt8} {n w e : Int} (hn : 0 ≤ n ∧ n ≤ 1000000000000000) (he : 0 ≤ e) :
  Fn Tryz.prog 125 [trB b e 0, .ag [I 7, I n, I w]] [trO b (simpleP n w e), .un] [tvU (simpleP n w e)] := by
 have hF := iTrFail (b := b) (a := e) (k := 1)
 generalize hR : simpleP n w e = R
 unfold simpleP at hR
 by_cases h1 : w = 0
 ·subst h1
  by_cases a1 : n = 20
  ·subst a1; simp at hR; subst hR
   refine Fn_of Tryz.func125 rfl rfl (by simp -implicitDefEqProofs -dsimp) rfl ?_; simp only [Tryz.f125]
   simp -implicitDefEqProofs -dsimp [vF, trO, exA, codeE, tvU]
  ·by_cases a2 : n = 21
   ·subst a2; simp at hR; subst hR
    refine Fn_of Tryz.func125 rfl rfl (by simp -implicitDefEqProofs -dsimp) rfl ?_; simp only [Tryz.f125]
    simp -implicitDefEqProofs -dsimp [vF, trO, exA, codeE, tvU]
   ·by_cases a3 : n = 22
    ·subst a3; simp at hR; subst hR
     refine Fn_of Tryz.func125 rfl rfl (by simp -implicitDefEqProofs -dsimp) rfl ?_; simp only [Tryz.f125]
     simp -implicitDefEqProofs -dsimp [vF, trO, exA, codeE, tvU]
    ·simp -implicitDefEqProofs -dsimp [a1, a2, a3] at hR; subst hR
     refine Fn_of Tryz.func125 rfl rfl (by simp -implicitDefEqProofs -dsimp) rfl ?_; simp only [Tryz.f125]
     simp -implicitDefEqProofs -dsimp [a1, a2, a3]
     refine WC_nr [B false] (by simp -implicitDefEqProofs -dsimp) ?_; simp -implicitDefEqProofs -dsimp [a1, a2, a3]
     refine wpcall_q hF ?_; simp -implicitDefEqProofs -dsimp [vF, zeroG, trO, exA, codeE, tvU]
 ·by_cases h2 : w = 1
  ·subst h2
   have hI := iwithin (n := n) (lo := 32) (hi := 34)
   by_cases a1 : 32 ≤ n ∧ n ≤ 34
   ·rw [decide_eq_true a1.1, decide_eq_true a1.2] at hI
    simp -implicitDefEqProofs -dsimp [a1] at hR; subst hR
    have hw : wrK .i64 (n - 32) = n - 32 := wrap64_id _ (by omega)
    refine Fn_of Tryz.func125 rfl rfl (by simp -implicitDefEqProofs -dsimp) rfl ?_; simp only [Tryz.f125]
    simp -implicitDefEqProofs -dsimp [vF, trO, exA, codeE, tvU, hw]; repeat' (first | with_reducible intro _ | with_reducible apply And.intro | (refine chkOk ?_; kernel_rfl) | (refine wpcall_d (hI) ?_; simp -implicitDefEqProofs -dsimp [vF, trO, exA, codeE, tvU, hw]))
   ·have hd : (decide (32 ≤ n) && decide (n ≤ 34)) = false := by simp -implicitDefEqProofs -dsimp; omega
    rw [hd] at hI
    simp -implicitDefEqProofs -dsimp [a1] at hR; subst hR
    refine Fn_of Tryz.func125 rfl rfl (by simp -implicitDefEqProofs -dsimp) rfl ?_; simp only [Tryz.f125]
    simp -implicitDefEqProofs -dsimp [vF, zeroG, trO, exA, codeE, tvU]; repeat' (first | with_reducible intro _ | with_reducible apply And.intro | (refine chkOk ?_; kernel_rfl) | (refine wpcall_d (hI) ?_; simp -implicitDefEqProofs -dsimp [vF, zeroG, trO, exA, codeE, tvU]) | (refine wpcall_q (hF) ?_; simp -implicitDefEqProofs -dsimp [vF, zeroG, trO, exA, codeE, tvU]))
  ·by_cases h4 : w = 4
   ·subst h4
    have hB := iBitsFlt (n := n)
    simp at hR
    rcases hf : bitsFltP n with _ | ⟨x, y⟩
    ·rw [hf] at hB hR; simp -implicitDefEqProofs -dsimp [optF] at hB hR; subst hR
     refine Fn_of Tryz.func125 rfl rfl (by simp -implicitDefEqProofs -dsimp) rfl ?_; simp only [Tryz.f125]
     simp -implicitDefEqProofs -dsimp
     refine WC_nr [B false] (by simp -implicitDefEqProofs -dsimp) ?_; simp -implicitDefEqProofs -dsimp
     refine wpcall_d hB ?_; simp -implicitDefEqProofs -dsimp
     refine wpcall_q hF ?_; simp -implicitDefEqProofs -dsimp [vF, zeroG, trO, exA, codeE, tvU]
    ·rw [hf] at hB hR; simp -implicitDefEqProofs -dsimp [optF] at hB hR; subst hR
     refine Fn_of Tryz.func125 rfl rfl (by simp -implicitDefEqProofs -dsimp) rfl ?_; simp only [Tryz.f125]
     simp -implicitDefEqProofs -dsimp
     refine WC_nr [B false] (by simp -implicitDefEqProofs -dsimp) ?_; simp -implicitDefEqProofs -dsimp
     refine wpcall_d hB ?_; simp -implicitDefEqProofs -dsimp [vF, trO, exA, codeE, tvU]
   ·simp -implicitDefEqProofs -dsimp [h1, h2, h4] at hR; subst hR
    refine Fn_of Tryz.func125 rfl rfl (by simp -implicitDefEqProofs -dsimp) rfl ?_; simp only [Tryz.f125]
    simp -implicitDefEqProofs -dsimp [h1, h2, h4]
    refine WC_nr [B false] (by simp -implicitDefEqProofs -dsimp) ?_; simp -implicitDefEqProofs -dsimp [h4]
    refine wpcall_q hF ?_; simp -implicitDefEqProofs -dsimp [vF, zeroG, trO, exA, codeE, tvU]
end Go.Proofs.YtlfblkekbcfjpaaGreatDoor
