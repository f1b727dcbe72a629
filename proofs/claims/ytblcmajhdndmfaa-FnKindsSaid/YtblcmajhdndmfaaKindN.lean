/- Contracts: the names of kinds, in the program. -/
import Derived.Test.YtblcmajhdndmfaaPlace
import Derived.Test.YtblcmajhdndmfaaPathEq
namespace Go.Proofs.Ytblcmajhdndmfaa
open Go.RowKit
set_option linter.unusedVariables false
set_option maxRecDepth 100000

theorem kindIx0 (w : World) : (Instr.index 100 (.agg #[.string ⟨#[110, 117, 108, 108]⟩, .string ⟨#[98, 111, 111, 108]⟩, .string ⟨#[105, 110, 116]⟩, .string ⟨#[102, 108, 116]⟩, .string ⟨#[111, 100, 100]⟩, .string ⟨#[100, 101, 99]⟩, .string ⟨#[116, 101, 120, 116]⟩, .string ⟨#[98, 121, 116, 101, 115]⟩, .string ⟨#[108, 105, 115, 116]⟩, .string ⟨#[109, 97, 112]⟩, .string ⟨#[116, 97, 103]⟩]) (.int .i64 0)).run Try.prog w = .ok (.string ⟨#[110, 117, 108, 108]⟩) w := by kernel_rfl
theorem kindIx1 (w : World) : (Instr.index 100 (.agg #[.string ⟨#[110, 117, 108, 108]⟩, .string ⟨#[98, 111, 111, 108]⟩, .string ⟨#[105, 110, 116]⟩, .string ⟨#[102, 108, 116]⟩, .string ⟨#[111, 100, 100]⟩, .string ⟨#[100, 101, 99]⟩, .string ⟨#[116, 101, 120, 116]⟩, .string ⟨#[98, 121, 116, 101, 115]⟩, .string ⟨#[108, 105, 115, 116]⟩, .string ⟨#[109, 97, 112]⟩, .string ⟨#[116, 97, 103]⟩]) (.int .i64 1)).run Try.prog w = .ok (.string ⟨#[98, 111, 111, 108]⟩) w := by kernel_rfl
theorem kindIx2 (w : World) : (Instr.index 100 (.agg #[.string ⟨#[110, 117, 108, 108]⟩, .string ⟨#[98, 111, 111, 108]⟩, .string ⟨#[105, 110, 116]⟩, .string ⟨#[102, 108, 116]⟩, .string ⟨#[111, 100, 100]⟩, .string ⟨#[100, 101, 99]⟩, .string ⟨#[116, 101, 120, 116]⟩, .string ⟨#[98, 121, 116, 101, 115]⟩, .string ⟨#[108, 105, 115, 116]⟩, .string ⟨#[109, 97, 112]⟩, .string ⟨#[116, 97, 103]⟩]) (.int .i64 2)).run Try.prog w = .ok (.string ⟨#[105, 110, 116]⟩) w := by kernel_rfl
theorem kindIx3 (w : World) : (Instr.index 100 (.agg #[.string ⟨#[110, 117, 108, 108]⟩, .string ⟨#[98, 111, 111, 108]⟩, .string ⟨#[105, 110, 116]⟩, .string ⟨#[102, 108, 116]⟩, .string ⟨#[111, 100, 100]⟩, .string ⟨#[100, 101, 99]⟩, .string ⟨#[116, 101, 120, 116]⟩, .string ⟨#[98, 121, 116, 101, 115]⟩, .string ⟨#[108, 105, 115, 116]⟩, .string ⟨#[109, 97, 112]⟩, .string ⟨#[116, 97, 103]⟩]) (.int .i64 3)).run Try.prog w = .ok (.string ⟨#[102, 108, 116]⟩) w := by kernel_rfl
theorem kindIx4 (w : World) : (Instr.index 100 (.agg #[.string ⟨#[110, 117, 108, 108]⟩, .string ⟨#[98, 111, 111, 108]⟩, .string ⟨#[105, 110, 116]⟩, .string ⟨#[102, 108, 116]⟩, .string ⟨#[111, 100, 100]⟩, .string ⟨#[100, 101, 99]⟩, .string ⟨#[116, 101, 120, 116]⟩, .string ⟨#[98, 121, 116, 101, 115]⟩, .string ⟨#[108, 105, 115, 116]⟩, .string ⟨#[109, 97, 112]⟩, .string ⟨#[116, 97, 103]⟩]) (.int .i64 4)).run Try.prog w = .ok (.string ⟨#[111, 100, 100]⟩) w := by kernel_rfl
theorem kindIx5 (w : World) : (Instr.index 100 (.agg #[.string ⟨#[110, 117, 108, 108]⟩, .string ⟨#[98, 111, 111, 108]⟩, .string ⟨#[105, 110, 116]⟩, .string ⟨#[102, 108, 116]⟩, .string ⟨#[111, 100, 100]⟩, .string ⟨#[100, 101, 99]⟩, .string ⟨#[116, 101, 120, 116]⟩, .string ⟨#[98, 121, 116, 101, 115]⟩, .string ⟨#[108, 105, 115, 116]⟩, .string ⟨#[109, 97, 112]⟩, .string ⟨#[116, 97, 103]⟩]) (.int .i64 5)).run Try.prog w = .ok (.string ⟨#[100, 101, 99]⟩) w := by kernel_rfl
theorem kindIx6 (w : World) : (Instr.index 100 (.agg #[.string ⟨#[110, 117, 108, 108]⟩, .string ⟨#[98, 111, 111, 108]⟩, .string ⟨#[105, 110, 116]⟩, .string ⟨#[102, 108, 116]⟩, .string ⟨#[111, 100, 100]⟩, .string ⟨#[100, 101, 99]⟩, .string ⟨#[116, 101, 120, 116]⟩, .string ⟨#[98, 121, 116, 101, 115]⟩, .string ⟨#[108, 105, 115, 116]⟩, .string ⟨#[109, 97, 112]⟩, .string ⟨#[116, 97, 103]⟩]) (.int .i64 6)).run Try.prog w = .ok (.string ⟨#[116, 101, 120, 116]⟩) w := by kernel_rfl
theorem kindIx7 (w : World) : (Instr.index 100 (.agg #[.string ⟨#[110, 117, 108, 108]⟩, .string ⟨#[98, 111, 111, 108]⟩, .string ⟨#[105, 110, 116]⟩, .string ⟨#[102, 108, 116]⟩, .string ⟨#[111, 100, 100]⟩, .string ⟨#[100, 101, 99]⟩, .string ⟨#[116, 101, 120, 116]⟩, .string ⟨#[98, 121, 116, 101, 115]⟩, .string ⟨#[108, 105, 115, 116]⟩, .string ⟨#[109, 97, 112]⟩, .string ⟨#[116, 97, 103]⟩]) (.int .i64 7)).run Try.prog w = .ok (.string ⟨#[98, 121, 116, 101, 115]⟩) w := by kernel_rfl
theorem kindIx8 (w : World) : (Instr.index 100 (.agg #[.string ⟨#[110, 117, 108, 108]⟩, .string ⟨#[98, 111, 111, 108]⟩, .string ⟨#[105, 110, 116]⟩, .string ⟨#[102, 108, 116]⟩, .string ⟨#[111, 100, 100]⟩, .string ⟨#[100, 101, 99]⟩, .string ⟨#[116, 101, 120, 116]⟩, .string ⟨#[98, 121, 116, 101, 115]⟩, .string ⟨#[108, 105, 115, 116]⟩, .string ⟨#[109, 97, 112]⟩, .string ⟨#[116, 97, 103]⟩]) (.int .i64 8)).run Try.prog w = .ok (.string ⟨#[108, 105, 115, 116]⟩) w := by kernel_rfl
theorem kindIx9 (w : World) : (Instr.index 100 (.agg #[.string ⟨#[110, 117, 108, 108]⟩, .string ⟨#[98, 111, 111, 108]⟩, .string ⟨#[105, 110, 116]⟩, .string ⟨#[102, 108, 116]⟩, .string ⟨#[111, 100, 100]⟩, .string ⟨#[100, 101, 99]⟩, .string ⟨#[116, 101, 120, 116]⟩, .string ⟨#[98, 121, 116, 101, 115]⟩, .string ⟨#[108, 105, 115, 116]⟩, .string ⟨#[109, 97, 112]⟩, .string ⟨#[116, 97, 103]⟩]) (.int .i64 9)).run Try.prog w = .ok (.string ⟨#[109, 97, 112]⟩) w := by kernel_rfl
theorem kindIx10 (w : World) : (Instr.index 100 (.agg #[.string ⟨#[110, 117, 108, 108]⟩, .string ⟨#[98, 111, 111, 108]⟩, .string ⟨#[105, 110, 116]⟩, .string ⟨#[102, 108, 116]⟩, .string ⟨#[111, 100, 100]⟩, .string ⟨#[100, 101, 99]⟩, .string ⟨#[116, 101, 120, 116]⟩, .string ⟨#[98, 121, 116, 101, 115]⟩, .string ⟨#[108, 105, 115, 116]⟩, .string ⟨#[109, 97, 112]⟩, .string ⟨#[116, 97, 103]⟩]) (.int .i64 10)).run Try.prog w = .ok (.string ⟨#[116, 97, 103]⟩) w := by kernel_rfl
def kindS (n : Int) : ByteArray := if n = 1 then ⟨#[110, 117, 108, 108]⟩ else if n = 2 then ⟨#[98, 111, 111, 108]⟩ else if n = 3 then ⟨#[105, 110, 116]⟩ else if n = 4 then ⟨#[102, 108, 116]⟩ else if n = 5 then ⟨#[111, 100, 100]⟩ else if n = 6 then ⟨#[100, 101, 99]⟩ else if n = 7 then ⟨#[116, 101, 120, 116]⟩ else if n = 8 then ⟨#[98, 121, 116, 101, 115]⟩ else if n = 9 then ⟨#[108, 105, 115, 116]⟩ else if n = 10 then ⟨#[109, 97, 112]⟩ else if n = 11 then ⟨#[116, 97, 103]⟩ else ⟨#[]⟩

theorem within_q (x a b : Int) (w : World) : Calls Try.prog 68 #[.int .i64 x, .int .i64 a, .int .i64 b] w (RetQ w (.bool (decide (a ≤ x ∧ x ≤ b)))) := by
  obtain ⟨r, hr⟩ : ∃ r, r = decide (a ≤ x ∧ x ≤ b) := ⟨_, rfl⟩
  rw [← hr]
  have R := Lib.hid hr; clear hr
  by_cases h1 : a ≤ x
  · by_cases h2 : x ≤ b
    all_goals
      go_enter Try.func68, Try.ntmps68
      go_wp2_with fail
      go_ret
      exact ⟨by rw [R.out]; simp [h1, h2], 0, rfl⟩
  · go_enter Try.func68, Try.ntmps68
    go_wp2_with fail
    go_ret
    exact ⟨by rw [R.out, decide_eq_false (by omega)]; rfl, 0, rfl⟩
theorem isKind_q (n : Int) (w : World) : Calls Try.prog 87 #[.int .i64 n] w (RetQ w (.bool (decide (1 ≤ n ∧ n ≤ 11)))) := by
  obtain ⟨r, hr⟩ : ∃ r, r = decide (1 ≤ n ∧ n ≤ 11) := ⟨_, rfl⟩
  rw [← hr]
  have R := Lib.hid hr; clear hr
  go_enter Try.func87, Try.ntmps87
  go_wp2_with fail
  refine (within_q _ _ _ _).mono ?_
  rintro e w1 ⟨rfl, m, rfl⟩
  rw [← R.out]
  go_wp2_with fail
  go_ret
  exact ⟨rfl, m, rfl⟩
set_option maxHeartbeats 2000000 in
theorem implKindName_q (n : Int) (w : World) (h0 : 1 ≤ n) (h1 : n ≤ 11) : Calls Try.prog 45 #[.int .i64 n] w (RetQ w (.string (kindS n))) := by
  have h3 : n = 1 ∨ n = 2 ∨ n = 3 ∨ n = 4 ∨ n = 5 ∨ n = 6 ∨ n = 7 ∨ n = 8 ∨ n = 9 ∨ n = 10 ∨ n = 11 := by omega
  rcases h3 with rfl | rfl | rfl | rfl | rfl | rfl | rfl | rfl | rfl | rfl | rfl
  · go_enter Try.func45, Try.ntmps45
    go_wp2_with fail
    refine (isKind_q _ _).mono ?_
    rintro e w1 ⟨rfl, m, rfl⟩
    have x := kindIx0 (w.drewN m)
    go_wp2_with fail
    go_ret
    exact ⟨rfl, m, rfl⟩
  · go_enter Try.func45, Try.ntmps45
    go_wp2_with fail
    refine (isKind_q _ _).mono ?_
    rintro e w1 ⟨rfl, m, rfl⟩
    have x := kindIx1 (w.drewN m)
    go_wp2_with fail
    go_ret
    exact ⟨rfl, m, rfl⟩
  · go_enter Try.func45, Try.ntmps45
    go_wp2_with fail
    refine (isKind_q _ _).mono ?_
    rintro e w1 ⟨rfl, m, rfl⟩
    have x := kindIx2 (w.drewN m)
    go_wp2_with fail
    go_ret
    exact ⟨rfl, m, rfl⟩
  · go_enter Try.func45, Try.ntmps45
    go_wp2_with fail
    refine (isKind_q _ _).mono ?_
    rintro e w1 ⟨rfl, m, rfl⟩
    have x := kindIx3 (w.drewN m)
    go_wp2_with fail
    go_ret
    exact ⟨rfl, m, rfl⟩
  · go_enter Try.func45, Try.ntmps45
    go_wp2_with fail
    refine (isKind_q _ _).mono ?_
    rintro e w1 ⟨rfl, m, rfl⟩
    have x := kindIx4 (w.drewN m)
    go_wp2_with fail
    go_ret
    exact ⟨rfl, m, rfl⟩
  · go_enter Try.func45, Try.ntmps45
    go_wp2_with fail
    refine (isKind_q _ _).mono ?_
    rintro e w1 ⟨rfl, m, rfl⟩
    have x := kindIx5 (w.drewN m)
    go_wp2_with fail
    go_ret
    exact ⟨rfl, m, rfl⟩
  · go_enter Try.func45, Try.ntmps45
    go_wp2_with fail
    refine (isKind_q _ _).mono ?_
    rintro e w1 ⟨rfl, m, rfl⟩
    have x := kindIx6 (w.drewN m)
    go_wp2_with fail
    go_ret
    exact ⟨rfl, m, rfl⟩
  · go_enter Try.func45, Try.ntmps45
    go_wp2_with fail
    refine (isKind_q _ _).mono ?_
    rintro e w1 ⟨rfl, m, rfl⟩
    have x := kindIx7 (w.drewN m)
    go_wp2_with fail
    go_ret
    exact ⟨rfl, m, rfl⟩
  · go_enter Try.func45, Try.ntmps45
    go_wp2_with fail
    refine (isKind_q _ _).mono ?_
    rintro e w1 ⟨rfl, m, rfl⟩
    have x := kindIx8 (w.drewN m)
    go_wp2_with fail
    go_ret
    exact ⟨rfl, m, rfl⟩
  · go_enter Try.func45, Try.ntmps45
    go_wp2_with fail
    refine (isKind_q _ _).mono ?_
    rintro e w1 ⟨rfl, m, rfl⟩
    have x := kindIx9 (w.drewN m)
    go_wp2_with fail
    go_ret
    exact ⟨rfl, m, rfl⟩
  · go_enter Try.func45, Try.ntmps45
    go_wp2_with fail
    refine (isKind_q _ _).mono ?_
    rintro e w1 ⟨rfl, m, rfl⟩
    have x := kindIx10 (w.drewN m)
    go_wp2_with fail
    go_ret
    exact ⟨rfl, m, rfl⟩
theorem kindS_ne {n : Int} (h0 : 1 ≤ n) (h1 : n ≤ 11) : kindS n ≠ ⟨#[]⟩ := by
  have h3 : n = 1 ∨ n = 2 ∨ n = 3 ∨ n = 4 ∨ n = 5 ∨ n = 6 ∨ n = 7 ∨ n = 8 ∨ n = 9 ∨ n = 10 ∨ n = 11 := by omega
  rcases h3 with rfl | rfl | rfl | rfl | rfl | rfl | rfl | rfl | rfl | rfl | rfl
  all_goals (intro e; exact absurd (congrArg ByteArray.size e) (by decide))
end Go.Proofs.Ytblcmajhdndmfaa
