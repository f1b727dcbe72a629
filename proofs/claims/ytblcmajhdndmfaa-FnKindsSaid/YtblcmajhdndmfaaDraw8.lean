/- Contracts (what is wanted for draws): decimal and floating-point numbers. -/
import Derived.Test.YtblcmajhdndmfaaDraw7
namespace Go.Proofs.Ytblcmajhdndmfaa
open Go.RowKit
set_option linter.unusedVariables false
set_option maxRecDepth 100000

theorem specDecOkW_any (n x : Int) (w : World) (hI : I64 n) : Calls Try.prog 153 #[.agg #[.int .i64 n, .int .i64 x]] w (RetBo w) := by
  have P0 := Lib.hid (Blk.new w 155 #[.int .i64 n, .int .i64 x])
  have B0 := Lib.hid (bAl (bRf w) (.cells #[.int .i64 n, .int .i64 x] 155))
  have HI := Lib.hid hI; clear hI
  by_cases hx : x = 0
  · have hxb : (x == 0) = true := by simp [hx]
    clear hx
    go_enter Try.func153, Try.ntmps153
    go_wp2_with fail
    refine (l1In_any _ _ _ _).mono ?_
    rintro e w1 ⟨rfl, hb1⟩
    generalize decide (-1000000000000000 ≤ n ∧ n ≤ 1000000000000000) = b
    have B1 := Lib.hid (bTr B0.out hb1); clear hb1
    go_wp2_with fail
    go_ret
    exact ⟨b, rfl, B1.out⟩
  · have hxb : (x == 0) = false := by simp [hx]
    clear hx
    cases hd : decide (-16 ≤ x ∧ x ≤ -1) with
    | false =>
      have HD := Lib.hid hd; clear hd
      go_enter Try.func153, Try.ntmps153
      go_wp2_with fail
      refine (l1In_any _ _ _ _).mono ?_
      rintro e w1 ⟨rfl, hb1⟩
      rw [HD.out]
      have B1 := Lib.hid (bTr B0.out hb1); clear hb1
      go_wp2_with fail
      go_ret
      exact ⟨false, rfl, B1.out⟩
    | true =>
      have HD := Lib.hid hd; clear hd
      by_cases hm : n.tmod 10 = 0
      · have hmb : (n.tmod 10 != 0) = false := by simp [hm]
        clear hm
        go_enter Try.func153, Try.ntmps153
        go_wp2_with fail
        refine (l1In_any _ _ _ _).mono ?_
        rintro e w1 ⟨rfl, hb1⟩
        rw [HD.out]
        obtain ⟨p0, p1⟩ := (P0.out.below hb1).c2
        have B1 := Lib.hid (bTr B0.out hb1); clear hb1
        go_wp2_with fail
        go_ret
        exact ⟨false, rfl, B1.out⟩
      · have hmb : (n.tmod 10 != 0) = true := by simp [hm]
        clear hm
        go_enter Try.func153, Try.ntmps153
        go_wp2_with fail
        refine (l1In_any _ _ _ _).mono ?_
        rintro e w1 ⟨rfl, hb1⟩
        rw [HD.out]
        obtain ⟨p0, p1⟩ := (P0.out.below hb1).c2
        have B1 := Lib.hid (bTr B0.out hb1); clear hb1
        go_wp2_with fail
        refine (specDigitsW_any n w1 HI.out).mono ?_
        rintro e w2 ⟨k, rfl, hk, hb2⟩
        have B2 := Lib.hid (bTr B1.out hb2); clear hb2
        go_wp2_with fail
        go_ret
        exact ⟨_, rfl, B2.out⟩

theorem specFltOkW_any (m x : Int) (w : World) (hI : I64 m) : Calls Try.prog 159 #[.agg #[.int .i64 m, .int .i64 x]] w (RetBo w) := by
  have P0 := Lib.hid (Blk.new w 151 #[.int .i64 m, .int .i64 x])
  have B0 := Lib.hid (bAl (bRf w) (.cells #[.int .i64 m, .int .i64 x] 151))
  have HI := Lib.hid hI; clear hI
  by_cases hm0 : m = 0
  · have hmb : (m == 0) = true := by simp [hm0]
    clear hm0
    go_enter Try.func159, Try.ntmps159
    go_wp2_with fail
    go_ret
    exact ⟨_, rfl, B0.out⟩
  have hmb : (m == 0) = false := by simp [hm0]
  clear hm0
  cases hd : decide (-65535 ≤ m ∧ m ≤ 65535) with
  | false =>
    have HD := Lib.hid hd; clear hd
    go_enter Try.func159, Try.ntmps159
    go_wp2_with fail
    refine (l1In_any _ _ _ _).mono ?_
    rintro e w1 ⟨rfl, hb1⟩
    rw [HD.out]
    have B1 := Lib.hid (bTr B0.out hb1); clear hb1
    go_wp2_with fail
    go_ret
    exact ⟨_, rfl, B1.out⟩
  | true =>
    have HD := Lib.hid hd; clear hd
    by_cases hm : m.tmod 2 = 0
    · have hm2 : (m.tmod 2 == 0) = true := by simp [hm]
      clear hm
      go_enter Try.func159, Try.ntmps159
      go_wp2_with fail
      refine (l1In_any _ _ _ _).mono ?_
      rintro e w1 ⟨rfl, hb1⟩
      rw [HD.out]
      obtain ⟨p0, p1⟩ := (P0.out.below hb1).c2
      have B1 := Lib.hid (bTr B0.out hb1); clear hb1
      go_wp2_with fail
      go_ret
      exact ⟨_, rfl, B1.out⟩
    have hm2 : (m.tmod 2 == 0) = false := by simp [hm]
    clear hm
    cases he : decide (-16 ≤ x ∧ x ≤ 45) with
    | false =>
      have HE := Lib.hid he; clear he
      go_enter Try.func159, Try.ntmps159
      go_wp2_with fail
      refine (l1In_any _ _ _ _).mono ?_
      rintro e w1 ⟨rfl, hb1⟩
      rw [HD.out]
      obtain ⟨p0, p1⟩ := (P0.out.below hb1).c2
      have B1 := Lib.hid (bTr B0.out hb1); clear hb1
      go_wp2_with fail
      refine (l1In_any _ _ _ _).mono ?_
      rintro e w2 ⟨rfl, hb2⟩
      rw [HE.out]
      have B2 := Lib.hid (bTr B1.out hb2); clear hb2
      go_wp2_with fail
      go_ret
      exact ⟨_, rfl, B2.out⟩
    | true =>
      have hx := of_decide_eq_true he
      have HE := Lib.hid he; clear he
      by_cases h30 : x ≤ 30
      · go_enter Try.func159, Try.ntmps159
        go_wp2_with fail
        refine (l1In_any _ _ _ _).mono ?_
        rintro e w1 ⟨rfl, hb1⟩
        rw [HD.out]
        obtain ⟨p0, p1⟩ := (P0.out.below hb1).c2
        have P1 := Lib.hid (P0.out.below hb1)
        have B1 := Lib.hid (bTr B0.out hb1); clear hb1
        go_wp2_with fail
        refine (l1In_any _ _ _ _).mono ?_
        rintro e w2 ⟨rfl, hb2⟩
        rw [HE.out]
        obtain ⟨q0, q1⟩ := (P1.out.below hb2).c2
        have B2 := Lib.hid (bTr B1.out hb2); clear hb2
        go_wp2_with fail
        go_ret
        exact ⟨_, rfl, B2.out⟩
      · obtain ⟨j, hj⟩ : ∃ j : Nat, x - 30 = j := ⟨(x - 30).toNat, by omega⟩
        have hx30 : x = (j : Int) + 30 := by omega
        subst hx30
        have hj2 : j ≤ 15 := by omega
        go_enter Try.func159, Try.ntmps159
        go_wp2_with fail
        refine (l1In_any _ _ _ _).mono ?_
        rintro e w1 ⟨rfl, hb1⟩
        rw [HD.out]
        obtain ⟨p0, p1⟩ := (P0.out.below hb1).c2
        have P1 := Lib.hid (P0.out.below hb1)
        have B1 := Lib.hid (bTr B0.out hb1); clear hb1
        go_wp2_with fail
        refine (l1In_any _ _ _ _).mono ?_
        rintro e w2 ⟨rfl, hb2⟩
        rw [HE.out]
        obtain ⟨q0, q1⟩ := (P1.out.below hb2).c2
        have B2 := Lib.hid (bTr B1.out hb2); clear hb2
        go_wp2_with fail
        trace_state
        refine (l1In_any _ _ _ _).mono ?_
        rintro e w3 ⟨rfl, hb3⟩
        have B3 := Lib.hid (bTr B2.out hb3); clear hb3
        go_wp2_with fail
        go_ret
        exact ⟨_, rfl, B3.out⟩
end Go.Proofs.Ytblcmajhdndmfaa
