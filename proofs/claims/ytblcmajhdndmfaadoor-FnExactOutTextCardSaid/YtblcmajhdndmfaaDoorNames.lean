/- Contracts: the names of losses, in the program and in the reference. -/
import Derived.Test.YtblcmajhdndmfaaDoorCode
namespace Go.Proofs.YtblcmajhdndmfaaDoor
open Go.RowKit
set_option linter.unusedVariables false
set_option maxRecDepth 100000

def lossS (n : Int) : ByteArray := if n = 1 then ⟨#[107, 105, 110, 100]⟩ else if n = 2 then ⟨#[114, 111, 117, 110, 100]⟩ else if n = 3 then ⟨#[114, 97, 110, 103, 101]⟩ else if n = 4 then ⟨#[111, 100, 100]⟩ else if n = 5 then ⟨#[98, 121, 116, 101, 115]⟩ else if n = 6 then ⟨#[116, 97, 103]⟩ else if n = 7 then ⟨#[110, 97, 109, 101]⟩ else if n = 8 then ⟨#[116, 119, 105, 99, 101]⟩ else if n = 9 then ⟨#[111, 114, 100, 101, 114]⟩ else ⟨#[]⟩
theorem lossS_size (n : Int) : (lossS n).size ≤ 5 := by
  unfold lossS
  repeat' split
  all_goals first | exact (by decide : (4 : Nat) ≤ 5) | exact (by decide : (5 : Nat) ≤ 5) | exact (by decide : (3 : Nat) ≤ 5) | exact (by decide : (0 : Nat) ≤ 5)
theorem lossS_none {n : Int} (h : ¬ (1 ≤ n ∧ n ≤ 9)) : lossS n = ⟨#[]⟩ := by
  unfold lossS
  rw [if_neg (by omega), if_neg (by omega), if_neg (by omega), if_neg (by omega), if_neg (by omega), if_neg (by omega), if_neg (by omega), if_neg (by omega), if_neg (by omega)]

theorem lossIx0 (w : World) : (Instr.index 86 (.agg #[.string ⟨#[107, 105, 110, 100]⟩, .string ⟨#[114, 111, 117, 110, 100]⟩, .string ⟨#[114, 97, 110, 103, 101]⟩, .string ⟨#[111, 100, 100]⟩, .string ⟨#[98, 121, 116, 101, 115]⟩, .string ⟨#[116, 97, 103]⟩, .string ⟨#[110, 97, 109, 101]⟩, .string ⟨#[116, 119, 105, 99, 101]⟩, .string ⟨#[111, 114, 100, 101, 114]⟩]) (.int .i64 0)).run Tryd.prog w = .ok (.string ⟨#[107, 105, 110, 100]⟩) w := by kernel_rfl
theorem lossIx1 (w : World) : (Instr.index 86 (.agg #[.string ⟨#[107, 105, 110, 100]⟩, .string ⟨#[114, 111, 117, 110, 100]⟩, .string ⟨#[114, 97, 110, 103, 101]⟩, .string ⟨#[111, 100, 100]⟩, .string ⟨#[98, 121, 116, 101, 115]⟩, .string ⟨#[116, 97, 103]⟩, .string ⟨#[110, 97, 109, 101]⟩, .string ⟨#[116, 119, 105, 99, 101]⟩, .string ⟨#[111, 114, 100, 101, 114]⟩]) (.int .i64 1)).run Tryd.prog w = .ok (.string ⟨#[114, 111, 117, 110, 100]⟩) w := by kernel_rfl
theorem lossIx2 (w : World) : (Instr.index 86 (.agg #[.string ⟨#[107, 105, 110, 100]⟩, .string ⟨#[114, 111, 117, 110, 100]⟩, .string ⟨#[114, 97, 110, 103, 101]⟩, .string ⟨#[111, 100, 100]⟩, .string ⟨#[98, 121, 116, 101, 115]⟩, .string ⟨#[116, 97, 103]⟩, .string ⟨#[110, 97, 109, 101]⟩, .string ⟨#[116, 119, 105, 99, 101]⟩, .string ⟨#[111, 114, 100, 101, 114]⟩]) (.int .i64 2)).run Tryd.prog w = .ok (.string ⟨#[114, 97, 110, 103, 101]⟩) w := by kernel_rfl
theorem lossIx3 (w : World) : (Instr.index 86 (.agg #[.string ⟨#[107, 105, 110, 100]⟩, .string ⟨#[114, 111, 117, 110, 100]⟩, .string ⟨#[114, 97, 110, 103, 101]⟩, .string ⟨#[111, 100, 100]⟩, .string ⟨#[98, 121, 116, 101, 115]⟩, .string ⟨#[116, 97, 103]⟩, .string ⟨#[110, 97, 109, 101]⟩, .string ⟨#[116, 119, 105, 99, 101]⟩, .string ⟨#[111, 114, 100, 101, 114]⟩]) (.int .i64 3)).run Tryd.prog w = .ok (.string ⟨#[111, 100, 100]⟩) w := by kernel_rfl
theorem lossIx4 (w : World) : (Instr.index 86 (.agg #[.string ⟨#[107, 105, 110, 100]⟩, .string ⟨#[114, 111, 117, 110, 100]⟩, .string ⟨#[114, 97, 110, 103, 101]⟩, .string ⟨#[111, 100, 100]⟩, .string ⟨#[98, 121, 116, 101, 115]⟩, .string ⟨#[116, 97, 103]⟩, .string ⟨#[110, 97, 109, 101]⟩, .string ⟨#[116, 119, 105, 99, 101]⟩, .string ⟨#[111, 114, 100, 101, 114]⟩]) (.int .i64 4)).run Tryd.prog w = .ok (.string ⟨#[98, 121, 116, 101, 115]⟩) w := by kernel_rfl
theorem lossIx5 (w : World) : (Instr.index 86 (.agg #[.string ⟨#[107, 105, 110, 100]⟩, .string ⟨#[114, 111, 117, 110, 100]⟩, .string ⟨#[114, 97, 110, 103, 101]⟩, .string ⟨#[111, 100, 100]⟩, .string ⟨#[98, 121, 116, 101, 115]⟩, .string ⟨#[116, 97, 103]⟩, .string ⟨#[110, 97, 109, 101]⟩, .string ⟨#[116, 119, 105, 99, 101]⟩, .string ⟨#[111, 114, 100, 101, 114]⟩]) (.int .i64 5)).run Tryd.prog w = .ok (.string ⟨#[116, 97, 103]⟩) w := by kernel_rfl
theorem lossIx6 (w : World) : (Instr.index 86 (.agg #[.string ⟨#[107, 105, 110, 100]⟩, .string ⟨#[114, 111, 117, 110, 100]⟩, .string ⟨#[114, 97, 110, 103, 101]⟩, .string ⟨#[111, 100, 100]⟩, .string ⟨#[98, 121, 116, 101, 115]⟩, .string ⟨#[116, 97, 103]⟩, .string ⟨#[110, 97, 109, 101]⟩, .string ⟨#[116, 119, 105, 99, 101]⟩, .string ⟨#[111, 114, 100, 101, 114]⟩]) (.int .i64 6)).run Tryd.prog w = .ok (.string ⟨#[110, 97, 109, 101]⟩) w := by kernel_rfl
theorem lossIx7 (w : World) : (Instr.index 86 (.agg #[.string ⟨#[107, 105, 110, 100]⟩, .string ⟨#[114, 111, 117, 110, 100]⟩, .string ⟨#[114, 97, 110, 103, 101]⟩, .string ⟨#[111, 100, 100]⟩, .string ⟨#[98, 121, 116, 101, 115]⟩, .string ⟨#[116, 97, 103]⟩, .string ⟨#[110, 97, 109, 101]⟩, .string ⟨#[116, 119, 105, 99, 101]⟩, .string ⟨#[111, 114, 100, 101, 114]⟩]) (.int .i64 7)).run Tryd.prog w = .ok (.string ⟨#[116, 119, 105, 99, 101]⟩) w := by kernel_rfl
theorem lossIx8 (w : World) : (Instr.index 86 (.agg #[.string ⟨#[107, 105, 110, 100]⟩, .string ⟨#[114, 111, 117, 110, 100]⟩, .string ⟨#[114, 97, 110, 103, 101]⟩, .string ⟨#[111, 100, 100]⟩, .string ⟨#[98, 121, 116, 101, 115]⟩, .string ⟨#[116, 97, 103]⟩, .string ⟨#[110, 97, 109, 101]⟩, .string ⟨#[116, 119, 105, 99, 101]⟩, .string ⟨#[111, 114, 100, 101, 114]⟩]) (.int .i64 8)).run Tryd.prog w = .ok (.string ⟨#[111, 114, 100, 101, 114]⟩) w := by kernel_rfl

theorem isLoss_any (n : Int) (w : World) : Calls Tryd.prog 57 #[.int .i64 n] w (Ret w (.bool (decide (1 ≤ n ∧ n ≤ 9)))) := by
  obtain ⟨r, hr⟩ : ∃ r, r = decide (1 ≤ n ∧ n ≤ 9) := ⟨_, rfl⟩
  rw [← hr]
  have R := Lib.hid hr; clear hr
  go_enter Tryd.func57, Tryd.ntmps57
  go_wp2_with fail
  refine (within_any _ _ _ _).mono ?_
  rintro e w1 ⟨rfl, hb1⟩
  rw [← R.out]
  have HB := Lib.hid hb1; clear hb1
  go_wp2_with fail
  go_ret
  exact ⟨rfl, HB.out⟩
set_option maxHeartbeats 2000000 in
theorem implLossName_any (n : Int) (w : World) : Calls Tryd.prog 47 #[.int .i64 n] w (Ret w (.string (lossS n))) := by
  obtain ⟨r, hr⟩ : ∃ r, r = lossS n := ⟨_, rfl⟩
  rw [← hr]
  by_cases h : 1 ≤ n ∧ n ≤ 9
  · have h3 : n = 1 ∨ n = 2 ∨ n = 3 ∨ n = 4 ∨ n = 5 ∨ n = 6 ∨ n = 7 ∨ n = 8 ∨ n = 9 := by omega
    rcases h3 with rfl | rfl | rfl | rfl | rfl | rfl | rfl | rfl | rfl
    · have R := Lib.hid hr; clear hr
      go_enter Tryd.func47, Tryd.ntmps47
      go_wp2_with fail
      refine (isLoss_any _ _).mono ?_
      rintro e w1 ⟨rfl, hb1⟩
      have HB := Lib.hid hb1; clear hb1
      have x := lossIx0 w1
      go_wp2_with fail
      go_ret
      exact ⟨by rw [R.out]; rfl, HB.out⟩
    · have R := Lib.hid hr; clear hr
      go_enter Tryd.func47, Tryd.ntmps47
      go_wp2_with fail
      refine (isLoss_any _ _).mono ?_
      rintro e w1 ⟨rfl, hb1⟩
      have HB := Lib.hid hb1; clear hb1
      have x := lossIx1 w1
      go_wp2_with fail
      go_ret
      exact ⟨by rw [R.out]; rfl, HB.out⟩
    · have R := Lib.hid hr; clear hr
      go_enter Tryd.func47, Tryd.ntmps47
      go_wp2_with fail
      refine (isLoss_any _ _).mono ?_
      rintro e w1 ⟨rfl, hb1⟩
      have HB := Lib.hid hb1; clear hb1
      have x := lossIx2 w1
      go_wp2_with fail
      go_ret
      exact ⟨by rw [R.out]; rfl, HB.out⟩
    · have R := Lib.hid hr; clear hr
      go_enter Tryd.func47, Tryd.ntmps47
      go_wp2_with fail
      refine (isLoss_any _ _).mono ?_
      rintro e w1 ⟨rfl, hb1⟩
      have HB := Lib.hid hb1; clear hb1
      have x := lossIx3 w1
      go_wp2_with fail
      go_ret
      exact ⟨by rw [R.out]; rfl, HB.out⟩
    · have R := Lib.hid hr; clear hr
      go_enter Tryd.func47, Tryd.ntmps47
      go_wp2_with fail
      refine (isLoss_any _ _).mono ?_
      rintro e w1 ⟨rfl, hb1⟩
      have HB := Lib.hid hb1; clear hb1
      have x := lossIx4 w1
      go_wp2_with fail
      go_ret
      exact ⟨by rw [R.out]; rfl, HB.out⟩
    · have R := Lib.hid hr; clear hr
      go_enter Tryd.func47, Tryd.ntmps47
      go_wp2_with fail
      refine (isLoss_any _ _).mono ?_
      rintro e w1 ⟨rfl, hb1⟩
      have HB := Lib.hid hb1; clear hb1
      have x := lossIx5 w1
      go_wp2_with fail
      go_ret
      exact ⟨by rw [R.out]; rfl, HB.out⟩
    · have R := Lib.hid hr; clear hr
      go_enter Tryd.func47, Tryd.ntmps47
      go_wp2_with fail
      refine (isLoss_any _ _).mono ?_
      rintro e w1 ⟨rfl, hb1⟩
      have HB := Lib.hid hb1; clear hb1
      have x := lossIx6 w1
      go_wp2_with fail
      go_ret
      exact ⟨by rw [R.out]; rfl, HB.out⟩
    · have R := Lib.hid hr; clear hr
      go_enter Tryd.func47, Tryd.ntmps47
      go_wp2_with fail
      refine (isLoss_any _ _).mono ?_
      rintro e w1 ⟨rfl, hb1⟩
      have HB := Lib.hid hb1; clear hb1
      have x := lossIx7 w1
      go_wp2_with fail
      go_ret
      exact ⟨by rw [R.out]; rfl, HB.out⟩
    · have R := Lib.hid hr; clear hr
      go_enter Tryd.func47, Tryd.ntmps47
      go_wp2_with fail
      refine (isLoss_any _ _).mono ?_
      rintro e w1 ⟨rfl, hb1⟩
      have HB := Lib.hid hb1; clear hb1
      have x := lossIx8 w1
      go_wp2_with fail
      go_ret
      exact ⟨by rw [R.out]; rfl, HB.out⟩
  · have hd : decide (1 ≤ n ∧ n ≤ 9) = false := decide_eq_false h
    have hr0 : r = ⟨#[]⟩ := by rw [hr, lossS_none h]
    have R := Lib.hid hr0; clear hr hr0
    go_enter Tryd.func47, Tryd.ntmps47
    go_wp2_with fail
    refine (isLoss_any _ _).mono ?_
    rintro e w1 ⟨rfl, hb1⟩
    have HB := Lib.hid hb1; clear hb1
    rw [hd]
    go_wp2_with fail
    go_ret
    exact ⟨by rw [R.out]; rfl, HB.out⟩

set_option maxHeartbeats 2000000 in
theorem specLossName_any (n : Int) (w : World) : Calls Tryd.prog 44 #[.int .i64 n] w (Ret w (.string (lossS n))) := by
  obtain ⟨r, hr⟩ : ∃ r, r = lossS n := ⟨_, rfl⟩
  rw [← hr]
  have P0 := Lib.hid (Blk.new w 9 #[.string ⟨#[]⟩, .string ⟨#[107, 105, 110, 100]⟩, .string ⟨#[114, 111, 117, 110, 100]⟩, .string ⟨#[114, 97, 110, 103, 101]⟩, .string ⟨#[111, 100, 100]⟩, .string ⟨#[98, 121, 116, 101, 115]⟩, .string ⟨#[116, 97, 103]⟩, .string ⟨#[110, 97, 109, 101]⟩, .string ⟨#[116, 119, 105, 99, 101]⟩, .string ⟨#[111, 114, 100, 101, 114]⟩])
  by_cases h : 0 ≤ n ∧ n ≤ 9
  · have h3 : n = 0 ∨ n = 1 ∨ n = 2 ∨ n = 3 ∨ n = 4 ∨ n = 5 ∨ n = 6 ∨ n = 7 ∨ n = 8 ∨ n = 9 := by omega
    rcases h3 with rfl | rfl | rfl | rfl | rfl | rfl | rfl | rfl | rfl | rfl
    all_goals
      have R := Lib.hid hr; clear hr
      go_enter Tryd.func44, Tryd.ntmps44
      go_wp2_with fail
      refine (l1In_any _ _ _ _).mono ?_
      rintro e w1 ⟨rfl, hb1⟩
      have P1 := P0.out.below hb1
      have k0 : w1.cell? ⟨w.heap.size, 0, none⟩ = some (.string ⟨#[]⟩) := P1.cell 0
      have k1 : w1.cell? ⟨w.heap.size, 1, none⟩ = some (.string ⟨#[107, 105, 110, 100]⟩) := P1.cell 1
      have k2 : w1.cell? ⟨w.heap.size, 2, none⟩ = some (.string ⟨#[114, 111, 117, 110, 100]⟩) := P1.cell 2
      have k3 : w1.cell? ⟨w.heap.size, 3, none⟩ = some (.string ⟨#[114, 97, 110, 103, 101]⟩) := P1.cell 3
      have k4 : w1.cell? ⟨w.heap.size, 4, none⟩ = some (.string ⟨#[111, 100, 100]⟩) := P1.cell 4
      have k5 : w1.cell? ⟨w.heap.size, 5, none⟩ = some (.string ⟨#[98, 121, 116, 101, 115]⟩) := P1.cell 5
      have k6 : w1.cell? ⟨w.heap.size, 6, none⟩ = some (.string ⟨#[116, 97, 103]⟩) := P1.cell 6
      have k7 : w1.cell? ⟨w.heap.size, 7, none⟩ = some (.string ⟨#[110, 97, 109, 101]⟩) := P1.cell 7
      have k8 : w1.cell? ⟨w.heap.size, 8, none⟩ = some (.string ⟨#[116, 119, 105, 99, 101]⟩) := P1.cell 8
      have k9 : w1.cell? ⟨w.heap.size, 9, none⟩ = some (.string ⟨#[111, 114, 100, 101, 114]⟩) := P1.cell 9
      have HB := Lib.hid (bTr (bAl (bRf w) _) hb1); clear hb1 P1
      go_wp2_with fail
      go_ret
      exact ⟨by rw [R.out]; rfl, HB.out⟩
  · have hd : decide (0 ≤ n ∧ n ≤ 9) = false := decide_eq_false h
    have hr0 : r = ⟨#[]⟩ := by rw [hr, lossS_none (by omega)]
    have R := Lib.hid hr0; clear hr hr0
    go_enter Tryd.func44, Tryd.ntmps44
    go_wp2_with fail
    refine (l1In_any _ _ _ _).mono ?_
    rintro e w1 ⟨rfl, hb1⟩
    have HB := Lib.hid (bTr (bAl (bRf w) _) hb1); clear hb1
    rw [hd]
    go_wp2_with fail
    go_ret
    exact ⟨by rw [R.out]; rfl, HB.out⟩
end Go.Proofs.YtblcmajhdndmfaaDoor
