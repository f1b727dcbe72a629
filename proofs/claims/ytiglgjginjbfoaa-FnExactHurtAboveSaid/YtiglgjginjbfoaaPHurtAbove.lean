/- Proved: for all arguments the program's HurtAbove returns what the reference's returns, and leaves its arguments as they were. No conditions. -/
import Derived.Test.YtiglgjginjbfoaaHurt2
import Derived.Test.YtiglgjginjbfoaaTypes
namespace Go.Proofs.Ytiglgjginjbfoaa
open Go.ChangeShapes Go.WideShapes Go.ChangeAt Go.RowKit
set_option linter.unusedVariables false

theorem fnExactHurtAbove_walk (l : List GLoss) (A0 : Option Addr) (c0 : Nat) (p : List GStep) (A1 : Option Addr) (c1 : Nat) (w : World) (h0_0 : SA w l A0 c0) (h1_0 : SA w p A1 c1) :
    Calls Try.prog 4 #[.slice A0 l.length c0, .slice A1 p.length c1] w (Ret w (.bool true)) := by
  have w0 := Lib.hid (bRf w)
  have H0_0 := Lib.hid h0_0; clear h0_0
  have H1_0 := Lib.hid h1_0; clear h1_0
  obtain ⟨r, hr⟩ : ∃ r, r = hurtAboveL l p := ⟨_, rfl⟩
  have R := Lib.hid hr; clear hr
  go_enter Try.func4, Try.ntmps4
  go_wp2_with fail
  refine (szLossS_any l A0 c0 1048576 _ (by omega) (by omega) (H0_0.out.below w0.out)).mono ?_
  rintro e ws0 ⟨rfl, hbws0⟩
  have bwws0 := Lib.hid (bTr w0.out hbws0)
  clear hbws0
  rcases lft_cases (left := 1048576) (k := bulkLossS l) (by omega) with L0 | ⟨l0, L0, l0lo, l0hi, l0k⟩
  · rw [L0]
    clear L0
    go_wp2_with fail
    go_ret
    exact ⟨rfl, bwws0.out⟩
  rw [L0]
  clear L0
  have N0 : bulkLossS l ≤ 1048576 := by omega
  go_wp2_with fail
  refine (szStepS_any p A1 c1 l0 _ (by omega) (by omega) (H1_0.out.below bwws0.out)).mono ?_
  rintro e ws1 ⟨rfl, hbws1⟩
  have bwws1 := Lib.hid (bTr bwws0.out hbws1)
  clear hbws1
  rcases lft_cases (left := l0) (k := p.length) (by omega) with L1 | ⟨l1, L1, l1lo, l1hi, l1k⟩
  · rw [L1]
    clear L1
    go_wp2_with fail
    go_ret
    exact ⟨rfl, bwws1.out⟩
  rw [L1]
  clear L1
  have N1 : p.length ≤ 1048576 := by omega
  go_wp2_with fail
  refine (toLossS_any l A0 c0 _ N0 (H0_0.out.below bwws1.out)).mono ?_
  rintro e wt1 ⟨B1, d1, rfl, hs1, hbwt1⟩
  have bwwt1 := Lib.hid (bTr bwws1.out hbwt1)
  clear hbwt1
  have T1 := Lib.hid (hs1.sa); clear hs1
  have rwt1 := Lib.hid (bRf wt1)
  go_wp2_with fail
  refine (toStepS_any p A1 c1 _ N1 (H1_0.out.below bwwt1.out)).mono ?_
  rintro e wt2 ⟨B2, d2, rfl, hs2, hbwt2⟩
  have bwwt2 := Lib.hid (bTr bwwt1.out hbwt2)
  have bwt1wt2 := Lib.hid (bTr rwt1.out hbwt2)
  clear hbwt2
  have T2 := Lib.hid (hs2.sa); clear hs2
  have rwt2 := Lib.hid (bRf wt2)
  go_wp2_with fail
  refine (specHurtAbove_any l p B1 B2 d1 d2 _ (T1.out.below bwt1wt2.out) (T2.out.below rwt2.out)).mono ?_
  rintro e wsp hpost
  obtain ⟨rfl, hbwsp⟩ := hpost.ret
  have bwwsp := Lib.hid (bTr bwwt2.out hbwsp)
  have bwt1wsp := Lib.hid (bTr bwt1wt2.out hbwsp)
  have bwt2wsp := Lib.hid (bTr rwt2.out hbwsp)
  clear hbwsp
  rw [← R.out]
  go_wp2_with fail
  refine (toLossS_any l A0 c0 _ N0 (H0_0.out.below bwwsp.out)).mono ?_
  rintro e wt3 ⟨B3, d3, rfl, hs3, hbwt3⟩
  have bwwt3 := Lib.hid (bTr bwwsp.out hbwt3)
  clear hbwt3
  have T3 := Lib.hid (hs3.sa); clear hs3
  have rwt3 := Lib.hid (bRf wt3)
  go_wp2_with fail
  refine (toStepS_any p A1 c1 _ N1 (H1_0.out.below bwwt3.out)).mono ?_
  rintro e wt4 ⟨B4, d4, rfl, hs4, hbwt4⟩
  have bwwt4 := Lib.hid (bTr bwwt3.out hbwt4)
  have bwt3wt4 := Lib.hid (bTr rwt3.out hbwt4)
  clear hbwt4
  have T4 := Lib.hid (hs4.sa); clear hs4
  have rwt4 := Lib.hid (bRf wt4)
  go_wp2_with fail
  refine (implHurtAbove_any l p B3 B4 d3 d4 _ (T3.out.below bwt3wt4.out) (T4.out.below rwt4.out)).mono ?_
  rintro e wim hpost
  obtain ⟨rfl, hbwim⟩ := hpost
  have bwwim := Lib.hid (bTr bwwt4.out hbwim)
  have bwt3wim := Lib.hid (bTr bwt3wt4.out hbwim)
  have bwt4wim := Lib.hid (bTr rwt4.out hbwim)
  clear hbwim
  rw [← R.out]
  go_wp2_with fail
  refine (toLossS_any l A0 c0 _ N0 (H0_0.out.below bwwim.out)).mono ?_
  rintro e wt5 ⟨B5, d5, rfl, hs5, hbwt5⟩
  have bwwt5 := Lib.hid (bTr bwwim.out hbwt5)
  have bwt3wt5 := Lib.hid (bTr bwt3wim.out hbwt5)
  have bwt4wt5 := Lib.hid (bTr bwt4wim.out hbwt5)
  clear hbwt5
  have T5 := Lib.hid (hs5.sa); clear hs5
  have rwt5 := Lib.hid (bRf wt5)
  go_wp2_with fail
  refine (eqLossS_any l l B3 B5 d3 d5 _ (T3.out.below bwt3wt5.out) (T5.out.below rwt5.out)).mono ?_
  rintro e we0 ⟨rfl, hbwe0⟩
  have bwwe0 := Lib.hid (bTr bwwt5.out hbwe0)
  have bwt3we0 := Lib.hid (bTr bwt3wt5.out hbwe0)
  have bwt4we0 := Lib.hid (bTr bwt4wt5.out hbwe0)
  have bwt5we0 := Lib.hid (bTr rwt5.out hbwe0)
  clear hbwe0
  rw [decide_eq_true rfl]
  go_wp2_with fail
  refine (toStepS_any p A1 c1 _ N1 (H1_0.out.below bwwe0.out)).mono ?_
  rintro e wt6 ⟨B6, d6, rfl, hs6, hbwt6⟩
  have bwwt6 := Lib.hid (bTr bwwe0.out hbwt6)
  have bwt3wt6 := Lib.hid (bTr bwt3we0.out hbwt6)
  have bwt4wt6 := Lib.hid (bTr bwt4we0.out hbwt6)
  clear hbwt6
  have T6 := Lib.hid (hs6.sa); clear hs6
  have rwt6 := Lib.hid (bRf wt6)
  go_wp2_with fail
  refine (eqStepS_any p p B4 B6 d4 d6 _ (T4.out.below bwt4wt6.out) (T6.out.below rwt6.out)).mono ?_
  rintro e we1 ⟨rfl, hbwe1⟩
  have bwwe1 := Lib.hid (bTr bwwt6.out hbwe1)
  have bwt3we1 := Lib.hid (bTr bwt3wt6.out hbwe1)
  have bwt4we1 := Lib.hid (bTr bwt4wt6.out hbwe1)
  have bwt6we1 := Lib.hid (bTr rwt6.out hbwe1)
  clear hbwe1
  rw [decide_eq_true rfl]
  go_wp2_with fail
  go_ret
  exact ⟨rfl, bwwe1.out⟩

set_option maxRecDepth 100000 in
theorem fnExactHurtAbove_lifted (os : Os) (started : os.Started) (H : Type) (enc : TypeId × Value → H) :
    ReturnsInHanded {} Try.checked os 4 .any (Rows.fnExactHurtAboveSpec.pre6 enc Try.prog Try.f4 Rows.fnExactHurtAboveRow.domain false) (Rows.fnExactHurtAboveSpec.post enc Try.prog Try.f4 false true false false) := by
  refine returnsInHanded_of_change (C := Try.checked) lawOwn started (by kernel_rfl) Try.func4
    (ChangeSpec.witness6 (enc := enc) (C := Try.checked) false ⟨#[], #[.slice none 0 0, .slice none 0 0], []⟩ 8 (by kernel_rfl) (by kernel_rfl) (by kernel_rfl) (by kernel_rfl)) ?_
  intro W base args ds gs before hval0 hW _ _
  have hval : ∀ (j : Nat) t v, Try.f4.params[j]? = some t → args[j]? = some v → Value.okWide Try.prog W .any base t v := hval0
  have hW' := hW
  obtain ⟨p, q, hA0, hV, rfl, hfz, hnd⟩ := hW
  have hA : DataW.TrodAll enc Try.prog W 0 (fun _ => true) true Try.f4.params.toList args.toList ds p := hA0
  rw [Try.params4] at hA hval
  obtain ⟨v0, vs0, d0, ds0, p0, q0, hargs, rfl, rfl, ⟨n0, h0⟩, r0⟩ := trodAll_cons hA
  obtain ⟨v1, vs1, d1, ds1, p1, q1, rfl, rfl, rfl, ⟨n1, h1⟩, r1⟩ := trodAll_cons r0
  obtain ⟨rfl, rfl, rfl⟩ := trodAll_nil r1
  obtain rfl : args = #[v0, v1] := by cases args; simp_all
  obtain ⟨rfl, rfl⟩ := trodVars_none hV
  obtain ⟨a0, len0, cap0, rfl⟩ := okWide_slice Try.underlying22 (hval 0 _ v0 rfl rfl)
  obtain ⟨x0, hx0⟩ := opensLossS H enc W n0 _ _ h0
  obtain ⟨A0, c0, e0, s0⟩ := hx0.sa
  simp only [Value.cells, List.cons.injEq, and_true, Value.slice.injEq] at e0
  obtain ⟨rfl, rfl, rfl⟩ := e0
  obtain ⟨a1, len1, cap1, rfl⟩ := okWide_slice Try.underlying23 (hval 1 _ v1 rfl rfl)
  obtain ⟨x1, hx1⟩ := opensStepS H enc W n1 _ _ h1
  obtain ⟨A1, c1, e1, s1⟩ := hx1.sa
  simp only [Value.cells, List.cons.injEq, and_true, Value.slice.injEq] at e1
  obtain ⟨rfl, rfl, rfl⟩ := e1
  clear hA0 hval0
  refine (fnExactHurtAbove_walk x0 _ _ x1 _ _ W s0 s1).mono fun e W' ⟨he, hb⟩ => ?_
  subst he
  exact ⟨_, rfl, law_post rfl (by kernel_rfl) Try.underlying4 lawLaid (by kernel_rfl) rfl hW' hb⟩

theorem fnExactHurtAbove_holds : Rows.FnExactHurtAboveSaid :=
  OpenClaim.holds_of_wide 4 Try.f4 rfl rfl rfl rfl rfl rfl rfl ⟨rfl, rfl, rfl, rfl, rfl⟩ rfl rfl rfl rfl rfl (by kernel_rfl) Try.func4 (by kernel_rfl)
    (of_decide_eq_true (by kernel_rfl)) (by unfold Func.isWrapper; first | (rw [if_pos (by decide +kernel)]; kernel_rfl) | (rw [if_neg (by decide +kernel)]; exact ⟨rfl, rfl⟩))
    (fun os started H enc _ => fnExactHurtAbove_lifted os started H enc)
end Go.Proofs.Ytiglgjginjbfoaa
