/- Contracts: ranges, the names of codes. -/
import Derived.Test.YtblcmajhdndmfaaDoorNum
import Derived.Test.YtblcmajhdndmfaaDoorPlace
namespace Go.Proofs.YtblcmajhdndmfaaDoor
open Go.RowKit
set_option linter.unusedVariables false
set_option maxRecDepth 100000

def codeS (n : Int) : ByteArray := if n = 0 then ⟨#[103, 111, 111, 100]⟩ else if n = 1 then ⟨#[102, 111, 114, 109]⟩ else if n = 2 then ⟨#[108, 105, 109, 105, 116]⟩ else ⟨#[]⟩
theorem codeS_size (n : Int) : (codeS n).size ≤ 5 := by
  unfold codeS
  split
  · exact (by decide : (4 : Nat) ≤ 5)
  · split
    · exact (by decide : (4 : Nat) ≤ 5)
    · split
      · exact (by decide : (5 : Nat) ≤ 5)
      · exact (by decide : (0 : Nat) ≤ 5)

theorem codeIx0 (w : World) : (Instr.index 65 (.agg #[.string ⟨#[103, 111, 111, 100]⟩, .string ⟨#[102, 111, 114, 109]⟩, .string ⟨#[108, 105, 109, 105, 116]⟩]) (.int .i64 0)).run Tryd.prog w = .ok (.string ⟨#[103, 111, 111, 100]⟩) w := by kernel_rfl
theorem codeIx1 (w : World) : (Instr.index 65 (.agg #[.string ⟨#[103, 111, 111, 100]⟩, .string ⟨#[102, 111, 114, 109]⟩, .string ⟨#[108, 105, 109, 105, 116]⟩]) (.int .i64 1)).run Tryd.prog w = .ok (.string ⟨#[102, 111, 114, 109]⟩) w := by kernel_rfl
theorem codeIx2 (w : World) : (Instr.index 65 (.agg #[.string ⟨#[103, 111, 111, 100]⟩, .string ⟨#[102, 111, 114, 109]⟩, .string ⟨#[108, 105, 109, 105, 116]⟩]) (.int .i64 2)).run Tryd.prog w = .ok (.string ⟨#[108, 105, 109, 105, 116]⟩) w := by kernel_rfl
theorem implCodeName_any (n : Int) (w : World) : Calls Tryd.prog 28 #[.int .i64 n] w (Ret w (.string (codeS n))) := by
  obtain ⟨r, hr⟩ : ∃ r, r = codeS n := ⟨_, rfl⟩
  rw [← hr]
  by_cases h : 0 ≤ n ∧ n ≤ 2
  · have h3 : n = 0 ∨ n = 1 ∨ n = 2 := by omega
    rcases h3 with rfl | rfl | rfl
    all_goals
      have R := Lib.hid hr; clear hr
      go_enter Tryd.func28, Tryd.ntmps28
      go_wp2_with fail
      refine (within_any _ _ _ _).mono ?_
      rintro e w1 ⟨rfl, hb1⟩
      have HB := Lib.hid hb1; clear hb1
      have x0 := codeIx0 w1
      have x1 := codeIx1 w1
      have x2 := codeIx2 w1
      go_wp2_with fail
      go_ret
      exact ⟨by rw [R.out]; rfl, HB.out⟩
  · have hd : decide (0 ≤ n ∧ n ≤ 2) = false := decide_eq_false h
    have hr0 : r = ⟨#[]⟩ := by rw [hr]; unfold codeS; rw [if_neg (by omega), if_neg (by omega), if_neg (by omega)]
    have R := Lib.hid hr0; clear hr hr0
    go_enter Tryd.func28, Tryd.ntmps28
    go_wp2_with fail
    refine (within_any _ _ _ _).mono ?_
    rintro e w1 ⟨rfl, hb1⟩
    have HB := Lib.hid hb1; clear hb1
    rw [hd]
    go_wp2_with fail
    go_ret
    exact ⟨by rw [R.out]; rfl, HB.out⟩

theorem specCodeName_any (n : Int) (w : World) : Calls Tryd.prog 22 #[.int .i64 n] w (Ret w (.string (codeS n))) := by
  obtain ⟨r, hr⟩ : ∃ r, r = codeS n := ⟨_, rfl⟩
  rw [← hr]
  have P0 := Lib.hid (Blk.new w 9 #[.string ⟨#[103, 111, 111, 100]⟩, .string ⟨#[102, 111, 114, 109]⟩, .string ⟨#[108, 105, 109, 105, 116]⟩])
  by_cases h : 0 ≤ n ∧ n ≤ 2
  · have h3 : n = 0 ∨ n = 1 ∨ n = 2 := by omega
    rcases h3 with rfl | rfl | rfl
    all_goals
      have R := Lib.hid hr; clear hr
      go_enter Tryd.func22, Tryd.ntmps22
      go_wp2_with fail
      refine (l1In_any _ _ _ _).mono ?_
      rintro e w1 ⟨rfl, hb1⟩
      obtain ⟨k0, k1, k2⟩ := (P0.out.below hb1).c3
      have HB := Lib.hid (bTr (bAl (bRf w) _) hb1); clear hb1
      go_wp2_with fail
      go_ret
      exact ⟨by rw [R.out]; rfl, HB.out⟩
  · have hd : decide (0 ≤ n ∧ n ≤ 2) = false := decide_eq_false h
    have hr0 : r = ⟨#[]⟩ := by rw [hr]; unfold codeS; rw [if_neg (by omega), if_neg (by omega), if_neg (by omega)]
    have R := Lib.hid hr0; clear hr hr0
    go_enter Tryd.func22, Tryd.ntmps22
    go_wp2_with fail
    refine (l1In_any _ _ _ _).mono ?_
    rintro e w1 ⟨rfl, hb1⟩
    have HB := Lib.hid (bTr (bAl (bRf w) _) hb1); clear hb1
    rw [hd]
    go_wp2_with fail
    go_ret
    exact ⟨by rw [R.out]; rfl, HB.out⟩
end Go.Proofs.YtblcmajhdndmfaaDoor
