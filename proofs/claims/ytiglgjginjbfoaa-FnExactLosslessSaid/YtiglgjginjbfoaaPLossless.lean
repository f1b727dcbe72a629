/- Proved: for all arguments the program's Lossless returns what the reference's returns, and leaves its arguments as they were. No conditions. -/
import Derived.Test.YtiglgjginjbfoaaOuts
import Derived.Test.YtiglgjginjbfoaaTypes
import Derived.Deep.RegionHeld3
namespace Go.Proofs.Ytiglgjginjbfoaa
open Go.ChangeShapes Go.WideShapes Go.ChangeAt Go.RowKit
set_option linter.unusedVariables false

theorem fnExactLossless_walk (o : GOut) (A0 A0' : Option Addr) (c0 c0' : Nat) (w : World) (h0_0 : SA w o.b A0 c0) (h0_1 : SA w o.l A0' c0') (I0 : I64 o.code) :
    Calls Try.prog 5 #[.agg #[.slice A0 o.b.length c0, .slice A0' o.l.length c0', .int .i64 o.code]] w (Ret w (.bool true)) := by
  have w0 := Lib.hid (bAl (bRf w) (.cells #[.slice A0 o.b.length c0, .slice A0' o.l.length c0', .int .i64 o.code] 36))
  have P0 : Hid (Blk (w.alloc (.cells #[.slice A0 o.b.length c0, .slice A0' o.l.length c0', .int .i64 o.code] 36)) (w.heap.size) 36 #[.slice A0 o.b.length c0, .slice A0' o.l.length c0', .int .i64 o.code]) := Blk.new _ 36 #[.slice A0 o.b.length c0, .slice A0' o.l.length c0', .int .i64 o.code]
  have H0_0 := Lib.hid h0_0; clear h0_0
  have H0_1 := Lib.hid h0_1; clear h0_1
  obtain ⟨r, hr⟩ : ∃ r, r = losslessO o := ⟨_, rfl⟩
  have R := Lib.hid hr; clear hr
  go_enter Try.func5, Try.ntmps5
  obtain ⟨q0, q1, q2⟩ := P0.out.c3
  go_wp2_with fail
  refine (szOut_any o A0 A0' c0 c0' 1048576 _ (by omega) (by omega) (H0_0.out.below w0.out) (H0_1.out.below w0.out)).mono ?_
  clear q0 q1 q2
  rintro e ws0 ⟨rfl, hbws0⟩
  have bwws0 := Lib.hid (bTr w0.out hbws0)
  have P0ws0 := Lib.hid (P0.out.below hbws0)
  clear hbws0
  rcases lft_cases (left := 1048576) (k := bulkOut o) (by omega) with L0 | ⟨l0, L0, l0lo, l0hi, l0k⟩
  · rw [L0]
    clear L0
    go_wp2_with fail
    go_ret
    exact ⟨rfl, bwws0.out⟩
  rw [L0]
  clear L0
  have N0 : bulkOut o ≤ 1048576 := by omega
  obtain ⟨q3, q4, q5⟩ := P0ws0.out.c3
  go_wp2_with fail
  refine (toOut_any o A0 A0' c0 c0' _ N0 I0 (H0_0.out.below bwws0.out) (H0_1.out.below bwws0.out)).mono ?_
  clear q3 q4 q5
  rintro e wt1 ⟨B1, d1, B1', d1', rfl, hs1, hbwt1⟩
  have bwwt1 := Lib.hid (bTr bwws0.out hbwt1)
  have P0wt1 := Lib.hid (P0ws0.out.below hbwt1)
  clear hbwt1
  have T1 := Lib.hid (hs1.outSA); clear hs1
  have rwt1 := Lib.hid (bRf wt1)
  obtain ⟨q6, q7, q8⟩ := P0wt1.out.c3
  go_wp2_with fail
  refine (specLossless_any o B1 B1' d1 d1' _ (T1.out.2.1.below rwt1.out)).mono ?_
  clear q6 q7 q8
  rintro e wsp hpost
  obtain ⟨rfl, hbwsp⟩ := hpost
  have bwwsp := Lib.hid (bTr bwwt1.out hbwsp)
  have bwt1wsp := Lib.hid (bTr rwt1.out hbwsp)
  have P0wsp := Lib.hid (P0wt1.out.below hbwsp)
  clear hbwsp
  rw [← R.out]
  obtain ⟨q9, q10, q11⟩ := P0wsp.out.c3
  go_wp2_with fail
  refine (toOut_any o A0 A0' c0 c0' _ N0 I0 (H0_0.out.below bwwsp.out) (H0_1.out.below bwwsp.out)).mono ?_
  clear q9 q10 q11
  rintro e wt2 ⟨B2, d2, B2', d2', rfl, hs2, hbwt2⟩
  have bwwt2 := Lib.hid (bTr bwwsp.out hbwt2)
  have P0wt2 := Lib.hid (P0wsp.out.below hbwt2)
  clear hbwt2
  have T2 := Lib.hid (hs2.outSA); clear hs2
  have rwt2 := Lib.hid (bRf wt2)
  have bwwt2x := Lib.hid (bAl bwwt2.out (.cells #[.slice B2 o.b.length d2, .slice B2' o.l.length d2', .int .i64 o.code] 40))
  have rwt2x := Lib.hid (bAl rwt2.out (.cells #[.slice B2 o.b.length d2, .slice B2' o.l.length d2', .int .i64 o.code] 40))
  have P0wt2x := Lib.hid (P0wt2.out.alloc (.cells #[.slice B2 o.b.length d2, .slice B2' o.l.length d2', .int .i64 o.code] 40))
  have X2 := Lib.hid (Blk.new wt2 40 #[.slice B2 o.b.length d2, .slice B2' o.l.length d2', .int .i64 o.code])
  obtain ⟨q12, q13, q14⟩ := P0wt2x.out.c3
  obtain ⟨q15, q16, q17⟩ := X2.out.c3
  go_wp2_with fail
  refine (implLossless_any o B2 B2' d2 d2' _ (T2.out.2.1.below rwt2x.out)).mono ?_
  clear q12 q13 q14 q15 q16 q17
  rintro e wim hpost
  obtain ⟨rfl, hbwim⟩ := hpost
  have bwwim := Lib.hid (bTr bwwt2x.out hbwim)
  have bwt2wim := Lib.hid (bTr rwt2x.out hbwim)
  have P0wim := Lib.hid (P0wt2x.out.below hbwim)
  have P1wim := Lib.hid (X2.out.below hbwim)
  clear hbwim
  rw [← R.out]
  obtain ⟨q18, q19, q20⟩ := P0wim.out.c3
  obtain ⟨q21, q22, q23⟩ := P1wim.out.c3
  go_wp2_with fail
  go_region_held3 (fun u => u.cell? ⟨w.heap.size, 0, none⟩ = some (.slice A0 o.b.length c0) ∧ u.cell? ⟨w.heap.size, 1, none⟩ = some (.slice A0' o.l.length c0') ∧ u.cell? ⟨w.heap.size, 2, none⟩ = some (.int .i64 o.code) ∧ u.cell? ⟨wt2.heap.size, 0, none⟩ = some (.slice B2 o.b.length d2) ∧ u.cell? ⟨wt2.heap.size, 1, none⟩ = some (.slice B2' o.l.length d2') ∧ u.cell? ⟨wt2.heap.size, 2, none⟩ = some (.int .i64 o.code)) (go_keep)
    (first
      | (go_at_call 22; refine (toOut_any o A0 A0' c0 c0' _ N0 I0 (H0_0.out.below bwwim.out.drew) (H0_1.out.below bwwim.out.drew)).mono ?_; rintro e wt3 ⟨B3, d3, B3', d3', rfl, hs3, hbwt3⟩; have T3 := Lib.hid (hs3.outSA); clear hs3; have bwwt3 := Lib.hid (bTr bwwim.out.drew hbwt3); have bwt2wt3 := Lib.hid (bTr bwt2wim.out.drew hbwt3); have P0wt3 := Lib.hid (P0wim.out.drew.below hbwt3); have P1wt3 := Lib.hid (P1wim.out.drew.below hbwt3); clear hbwt3; obtain ⟨q24, q25, q26⟩ := P0wt3.out.c3; obtain ⟨q27, q28, q29⟩ := P1wt3.out.c3; have rwt3 := Lib.hid (bRf wt3))
      | (go_at_call 24; refine (eqOut_any o o B2 B2' B3 B3' d2 d2' d3 d3' _ (T2.out.1.below bwt2wt3.out) (T2.out.2.1.below bwt2wt3.out) (T3.out.1.below rwt3.out) (T3.out.2.1.below rwt3.out)).mono ?_; rintro e we0 ⟨rfl, hbwe0⟩; have bwwe0 := Lib.hid (bTr bwwt3.out hbwe0); have bwt2we0 := Lib.hid (bTr bwt2wt3.out hbwe0); have bwt3we0 := Lib.hid (bTr rwt3.out hbwe0); have P0we0 := Lib.hid (P0wt3.out.below hbwe0); have P1we0 := Lib.hid (P1wt3.out.below hbwe0); clear hbwe0; obtain ⟨q30, q31, q32⟩ := P0we0.out.c3; obtain ⟨q33, q34, q35⟩ := P1we0.out.c3; rw [decide_eq_true rfl]))
  go_wp2_with fail
  go_ret
  exact ⟨rfl, bwwe0.out⟩

set_option maxRecDepth 100000 in
theorem fnExactLossless_lifted (os : Os) (started : os.Started) (H : Type) (enc : TypeId × Value → H) :
    ReturnsInHanded {} Try.checked os 5 .any (Rows.fnExactLosslessSpec.pre6 enc Try.prog Try.f5 Rows.fnExactLosslessRow.domain false) (Rows.fnExactLosslessSpec.post enc Try.prog Try.f5 false true false false) := by
  refine returnsInHanded_of_change (C := Try.checked) lawOwn started (by kernel_rfl) Try.func5
    (ChangeSpec.witness6 (enc := enc) (C := Try.checked) false ⟨#[], #[.agg #[.slice none 0 0, .slice none 0 0, .int .i64 0]], []⟩ 8 (by kernel_rfl) (by kernel_rfl) (by kernel_rfl) (by kernel_rfl)) ?_
  intro W base args ds gs before hval0 hW _ _
  have hval : ∀ (j : Nat) t v, Try.f5.params[j]? = some t → args[j]? = some v → Value.okWide Try.prog W .any base t v := hval0
  have hW' := hW
  obtain ⟨p, q, hA0, hV, rfl, hfz, hnd⟩ := hW
  have hA : DataW.TrodAll enc Try.prog W 0 (fun _ => true) true Try.f5.params.toList args.toList ds p := hA0
  rw [Try.params5] at hA hval
  obtain ⟨v0, vs0, d0, ds0, p0, q0, hargs, rfl, rfl, ⟨n0, h0⟩, r0⟩ := trodAll_cons hA
  obtain ⟨rfl, rfl, rfl⟩ := trodAll_nil r0
  obtain rfl : args = #[v0] := by cases args; simp_all
  obtain ⟨rfl, rfl⟩ := trodVars_none hV
  obtain ⟨cs0, rfl, _⟩ := okWide_struct Try.underlying36 (hval 0 _ v0 rfl rfl)
  obtain ⟨x0, hx0⟩ := opensOut H enc W n0 _ _ h0
  obtain ⟨A0, c0, A0', c0', e0, s0, s0', I0⟩ := hx0.outSA
  obtain ⟨cs0⟩ := cs0
  simp only [Value.cells] at e0
  subst e0
  clear hA0 hval0
  refine (fnExactLossless_walk x0 _ _ _ _ W s0 s0' I0).mono fun e W' ⟨he, hb⟩ => ?_
  subst he
  exact ⟨_, rfl, law_post rfl (by kernel_rfl) Try.underlying4 lawLaid (by kernel_rfl) rfl hW' hb⟩

theorem fnExactLossless_holds : Rows.FnExactLosslessSaid :=
  OpenClaim.holds_of_wide 5 Try.f5 rfl rfl rfl rfl rfl rfl rfl ⟨rfl, rfl, rfl, rfl, rfl⟩ rfl rfl rfl rfl rfl (by kernel_rfl) Try.func5 (by kernel_rfl)
    (of_decide_eq_true (by kernel_rfl)) (by unfold Func.isWrapper; first | (rw [if_pos (by decide +kernel)]; kernel_rfl) | (rw [if_neg (by decide +kernel)]; exact ⟨rfl, rfl⟩))
    (fun os started H enc _ => fnExactLossless_lifted os started H enc)
end Go.Proofs.Ytiglgjginjbfoaa
