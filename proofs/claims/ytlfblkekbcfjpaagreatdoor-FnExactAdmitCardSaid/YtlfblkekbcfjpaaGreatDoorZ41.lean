/- Part of a proof: contracts and plain laws. -/
import Derived.Test.YtlfblkekbcfjpaaGreatDoorZ38
import Derived.Test.YtlfblkekbcfjpaaGreatDoorZ39
import Derived.Test.YtlfblkekbcfjpaaGreatDoorZ40
set_option linter.unusedVariables false
set_option linter.unusedSimpArgs false
namespace Go.Proofs.YtlfblkekbcfjpaaGreatDoor
open Go
set_option maxRecDepth 100000
set_option maxHeartbeats 4000000
def readPlainP (l : List UInt8) (d : Nat) : Except Int GVal := match readTextP l d with
 | .error c => .error c
 | .ok v => match halvG v with
  | none => .error 2
  | some w => .ok (onceG w)
theorem readTextP_err {l : List UInt8} {d : Nat} {c : Int} (h : readTextP l d = .error c) : ¬ c = 0 := by
 unfold readTextP at h
 cases ht : toksQ l 0 with
 | error c1 => rw [ht] at h; cases h; have := toksQ_err_ne ht; omega
 | ok ts =>
  rw [ht] at h; simp only at h
  unfold treeP at h
  rcases hv : valueP ts d 0 with c2 | ⟨v', e⟩
  ·rw [hv] at h; cases h; have := valueP_err d 0 _ hv; omega
  ·rw [hv] at h; simp only at h
   split at h
   ·cases h; decide
   ·cases h
theorem iReadPlain {l : List UInt8} {d : Nat} (hl : l.length ≤ 1073741824) (hd : d ≤ 1000000) :
  Fn Tryz.prog 44 [T l, I d] [.un, .un] [vF 27 (exG (readPlainP l d)), I (codeE (readPlainP l d))] := by
 have hT := iReadText hl hd
 unfold readPlainP
 rcases ht : readTextP l d with c | v
 ·have hc := readTextP_err ht
  rw [ht] at hT; simp only [exG, codeE, vF] at hT
  refine Fn_of Tryz.func44 rfl rfl (by simp -implicitDefEqProofs -dsimp) rfl ?_; simp only [Tryz.f44]
  simp -implicitDefEqProofs -dsimp
  refine wpcall_d hT ?_; simp -implicitDefEqProofs -dsimp [hc, exG, codeE, vF, zeroG]
  all_goals (refine chkOk ?_; kernel_rfl)
 ·obtain ⟨g1, g2⟩ := readTextP_good ht
  rw [ht] at hT; simp only [exG, codeE, vF] at hT
  have hH := iHalved v (by omega) g1
  rcases hh : halvG v with _ | w
  ·simp only [hh]
   rw [hh] at hH; simp only [vV_eq, oG, Option.isSome] at hH
   refine Fn_of Tryz.func44 rfl rfl (by simp -implicitDefEqProofs -dsimp) rfl ?_; simp only [Tryz.f44]
   simp -implicitDefEqProofs -dsimp
   refine wpcall_d hT ?_; simp -implicitDefEqProofs -dsimp
   refine wpcall_q hH ?_; simp -implicitDefEqProofs -dsimp [exG, codeE, vF, zeroG]
  ·have hcw := cnt_halv v w hh
   have hO := iOnceLast w (by omega)
   simp only [hh]
   rw [hh] at hH; simp only [vV_eq, oG, Option.isSome] at hH
   simp only [vV_eq, vF] at hO
   refine Fn_of Tryz.func44 rfl rfl (by simp -implicitDefEqProofs -dsimp) rfl ?_; simp only [Tryz.f44]
   simp -implicitDefEqProofs -dsimp
   refine wpcall_d hT ?_; simp -implicitDefEqProofs -dsimp
   refine wpcall_q hH ?_; simp -implicitDefEqProofs -dsimp
   refine wpcall_q hO ?_; simp -implicitDefEqProofs -dsimp [exG, codeE, vF, zeroG]
theorem sReadPlain {l : List UInt8} {d : Nat} (hl : l.length ≤ 1073741824) (hd : d ≤ 1000000) :
  Fn Tryz.prog 39 [T l, I d] [.un, .un] [vV (exG (readPlainP l d)), I (codeE (readPlainP l d))] := by
 have hT := sReadText hl hd
 unfold readPlainP
 rcases ht : readTextP l d with c | v
 ·have hc := readTextP_err ht
  rw [ht] at hT; simp only [exG, codeE, vF] at hT
  refine Fn_of Tryz.func39 rfl rfl (by simp -implicitDefEqProofs -dsimp) rfl ?_; simp only [Tryz.f39]
  simp -implicitDefEqProofs -dsimp
  refine wpcall_d hT ?_; simp -implicitDefEqProofs -dsimp [hc, exG, codeE, zeroG]
  all_goals (refine chkOk ?_; kernel_rfl)
 ·obtain ⟨g1, g2⟩ := readTextP_good ht
  rw [ht] at hT; simp only [exG, codeE, vF] at hT
  have hH := sHalved v (by omega) g1
  rcases hh : halvG v with _ | w
  ·simp only [hh]
   rw [hh] at hH; simp only [vV_eq, oG, Option.isSome] at hH
   refine Fn_of Tryz.func39 rfl rfl (by simp -implicitDefEqProofs -dsimp) rfl ?_; simp only [Tryz.f39]
   simp -implicitDefEqProofs -dsimp
   refine wpcall_d hT ?_; simp -implicitDefEqProofs -dsimp
   refine wpcall_q hH ?_; simp -implicitDefEqProofs -dsimp [exG, codeE, zeroG]
  ·have hcw := cnt_halv v w hh
   have hO := sOnceLast w (by omega)
   simp only [hh]
   rw [hh] at hH; simp only [vV_eq, oG, Option.isSome] at hH
   simp only [vV_eq] at hO
   refine Fn_of Tryz.func39 rfl rfl (by simp -implicitDefEqProofs -dsimp) rfl ?_; simp only [Tryz.f39]
   simp -implicitDefEqProofs -dsimp
   refine wpcall_d hT ?_; simp -implicitDefEqProofs -dsimp
   refine wpcall_q hH ?_; simp -implicitDefEqProofs -dsimp
   refine wpcall_q hO ?_; simp -implicitDefEqProofs -dsimp [exG, codeE, zeroG]
end Go.Proofs.YtlfblkekbcfjpaaGreatDoor
