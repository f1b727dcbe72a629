/- Contracts: the place that a step leads to, in the program and in the reference. -/
import Derived.Test.YtblcmajhdndmfaaCopyS
import Derived.Test.YtblcmajhdndmfaaTree
namespace Go.Proofs.Ytblcmajhdndmfaa
open Go.RowKit
set_option linter.unusedVariables false
set_option maxRecDepth 100000

theorem l1In_any (x a b : Int) (w : World) : Calls Try.prog 66 #[.int .i64 x, .int .i64 a, .int .i64 b] w (Ret w (.bool (decide (a ≤ x ∧ x ≤ b)))) := by
  obtain ⟨r, hr⟩ : ∃ r, r = decide (a ≤ x ∧ x ≤ b) := ⟨_, rfl⟩
  rw [← hr]
  have R := Lib.hid hr; clear hr
  by_cases h1 : a ≤ x
  · by_cases h2 : x ≤ b
    all_goals
      go_enter Try.func66, Try.ntmps66
      go_wp2_with fail
      go_ret
      exact ⟨by rw [R.out]; simp [h1, h2], bRf w⟩
  · go_enter Try.func66, Try.ntmps66
    go_wp2_with fail
    go_ret
    exact ⟨by rw [R.out, decide_eq_false (by omega)]; rfl, bRf w⟩
theorem within_any (x a b : Int) (w : World) : Calls Try.prog 68 #[.int .i64 x, .int .i64 a, .int .i64 b] w (Ret w (.bool (decide (a ≤ x ∧ x ≤ b)))) := by
  obtain ⟨r, hr⟩ : ∃ r, r = decide (a ≤ x ∧ x ≤ b) := ⟨_, rfl⟩
  rw [← hr]
  have R := Lib.hid hr; clear hr
  by_cases h1 : a ≤ x
  · by_cases h2 : x ≤ b
    all_goals
      go_enter Try.func68, Try.ntmps68
      go_wp2_with fail
      go_ret
      exact ⟨by rw [R.out]; simp [h1, h2], bRf w⟩
  · go_enter Try.func68, Try.ntmps68
    go_wp2_with fail
    go_ret
    exact ⟨by rw [R.out, decide_eq_false (by omega)]; rfl, bRf w⟩

theorem l8Place_any (v : GVal) (s : GStep) (A : Option Addr) (c : Nat) (w : World) (hn : v.l.length ≤ 1048576) (hI : I64 s.at_) :
    Calls Try.prog 114 #[.agg #[.int .i64 v.kind, .int .i64 v.n, .int .i64 v.x, .string v.s, .slice A v.l.length c], .agg #[.int .i64 s.at_, .bool s.name]] w (Ret w (.int .i64 (placeI v s))) := by
  obtain ⟨r, hr⟩ : ∃ r, r = placeI v s := ⟨_, rfl⟩
  rw [← hr]
  unfold placeI placeK at hr
  have hI1 := hI.1; have hI2 := hI.2
  clear hI
  by_cases h1 : v.kind = 10
  · by_cases h2 : s.name = true
    all_goals
      simp only [h1, h2, if_true, true_or, true_and, Bool.false_eq_true, if_false] at hr
      by_cases h3 : s.at_ < 0
      · rw [if_neg (by omega)] at hr
        have R := Lib.hid hr; clear hr
        go_enter Try.func114, Try.ntmps114
        go_wp2_with fail
        go_ret
        exact ⟨by rw [R.out]; rfl, bAl (bAl (bRf w) _) _⟩
      · by_cases h4 : s.at_ > v.l.length
        · rw [if_neg (by simp; omega)] at hr
          have R := Lib.hid hr; clear hr
          go_enter Try.func114, Try.ntmps114
          go_wp2_with fail
          go_ret
          exact ⟨by rw [R.out]; rfl, bAl (bAl (bRf w) _) _⟩
        · have R := Lib.hid hr; clear hr
          go_enter Try.func114, Try.ntmps114
          go_wp2_with (go_at_call 66; (refine (l1In_any _ _ _ _).mono ?_; rintro e w1 ⟨rfl, hb1⟩; have b1 := Lib.hid (bTr (bAl (bAl (bRf w) _) _) hb1); clear hb1))
          all_goals
            go_ret
            refine ⟨?_, b1.out⟩
            rw [R.out]
            split
            all_goals first | rfl | (exfalso; simp_all <;> omega)
  · by_cases h2 : s.name = true
    · simp only [h1, h2, if_false, false_or, Bool.true_eq_false, false_and, and_false] at hr
      have R := Lib.hid hr; clear hr
      go_enter Try.func114, Try.ntmps114
      go_wp2_with fail
      go_ret
      exact ⟨by rw [R.out]; rfl, bAl (bAl (bRf w) _) _⟩
    · simp only [h1, h2, if_false, false_or, true_and] at hr
      have R := Lib.hid hr; clear hr
      go_enter Try.func114, Try.ntmps114
      go_wp2_with (go_at_call 66; (refine (l1In_any _ _ _ _).mono ?_; rintro e w1 ⟨rfl, hb1⟩; have b1 := Lib.hid (bTr (bAl (bAl (bRf w) _) _) hb1); clear hb1))
      all_goals
        go_ret
        refine ⟨?_, b1.out⟩
        rw [R.out]
        split
        all_goals first | rfl | (exfalso; simp_all <;> omega)

theorem index_any (v : GVal) (s : GStep) (A : Option Addr) (c : Nat) (w : World) (hn : v.l.length ≤ 1048576) (hI : I64 s.at_) :
    Calls Try.prog 105 #[.agg #[.int .i64 s.at_, .bool s.name], .agg #[.int .i64 v.kind, .int .i64 v.n, .int .i64 v.x, .string v.s, .slice A v.l.length c]] w (Ret w (.int .i64 (placeI v s))) := by
  obtain ⟨r, hr⟩ : ∃ r, r = placeI v s := ⟨_, rfl⟩
  rw [← hr]
  unfold placeI placeK at hr
  have hI1 := hI.1; have hI2 := hI.2
  clear hI
  by_cases h0 : 0 ≤ s.at_ ∧ s.at_ ≤ v.l.length - 1
  · by_cases h1 : v.kind = 10
    · by_cases h2 : s.name = true
      all_goals
        simp only [h1, h2, if_true, true_or, true_and, Bool.false_eq_true, if_false] at hr
        have R := Lib.hid hr; clear hr
        go_enter Try.func105, Try.ntmps105
        go_wp2_with (go_at_call 68; (refine (within_any _ _ _ _).mono ?_; rintro e w1 ⟨rfl, hb1⟩; rw [decide_eq_true h0]; obtain ⟨hc, hf⟩ := bCell hb1; have hz : w.heap.size + 1 < w1.heap.size := (by have := hb1.size; simp at this; omega); have hz' : w.heap.size < w1.heap.size := (by omega); have b1 := Lib.hid (bTr (bAl (bAl (bRf w) _) _) hb1); clear hb1))
        all_goals
          go_ret
          refine ⟨?_, b1.out⟩
          rw [R.out]
          split
          all_goals first | rfl | (exfalso; simp_all <;> omega)
    · by_cases h2 : s.name = true
      all_goals
        simp only [h1, h2, if_true, if_false, false_or, Bool.true_eq_false, false_and, and_false, true_and] at hr
        have R := Lib.hid hr; clear hr
        go_enter Try.func105, Try.ntmps105
        go_wp2_with (go_at_call 68; (refine (within_any _ _ _ _).mono ?_; rintro e w1 ⟨rfl, hb1⟩; rw [decide_eq_true h0]; obtain ⟨hc, hf⟩ := bCell hb1; have hz : w.heap.size + 1 < w1.heap.size := (by have := hb1.size; simp at this; omega); have hz' : w.heap.size < w1.heap.size := (by omega); have b1 := Lib.hid (bTr (bAl (bAl (bRf w) _) _) hb1); clear hb1))
        all_goals
          go_ret
          refine ⟨?_, b1.out⟩
          rw [R.out]
          (try split)
          all_goals first | rfl | (exfalso; simp_all <;> omega)
  · have hr' : r = -1 := by
      rw [hr, if_neg]
      intro h
      have : s.at_ ≤ placeK v s := placeK_le h.1
      unfold placeK at this
      omega
    have R := Lib.hid hr'; clear hr hr'
    have h0' : decide (0 ≤ s.at_ ∧ s.at_ ≤ (v.l.length : Int) - 1) = false := decide_eq_false h0
    have H0 := Lib.hid h0; clear h0
    go_enter Try.func105, Try.ntmps105
    go_wp2_with (go_at_call 68; (refine (within_any _ _ _ _).mono ?_; rintro e w1 ⟨rfl, hb1⟩; rw [h0']; have b1 := Lib.hid (bTr (bAl (bAl (bRf w) _) _) hb1); clear hb1))
    go_ret
    exact ⟨by rw [R.out]; rfl, b1.out⟩
end Go.Proofs.Ytblcmajhdndmfaa
