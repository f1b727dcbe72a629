/- Proved: for all arguments the program's CountKind returns what the reference's returns, and leaves its arguments as they were. No conditions. -/
import Derived.Test.YtblcmajhdndmfaaFind4
import Derived.Test.YtblcmajhdndmfaaLawV2
import Derived.Test.YtblcmajhdndmfaaTypes
import Derived.Test.YtblcmajhdndmfaaRowV
import Derived.Deep.RegionHeld3
namespace Go.Proofs.Ytblcmajhdndmfaa
open Go.ChangeShapes Go.WideShapes Go.ChangeAt Go.RowKit
set_option linter.unusedVariables false
set_option maxRecDepth 100000

theorem fnExactCountKind_walk (v : GVal) (A0 : Option Addr) (c0 : Nat) (kind : Int)  (w : World) (h0_0 : SA w v.l A0 c0) (I0 : VInt v) (I1 : I64 kind) :
    Calls Try.prog 4 #[.agg #[.int .i64 v.kind, .int .i64 v.n, .int .i64 v.x, .string v.s, .slice A0 v.l.length c0], .int .i64 kind] w (Ret w (.bool true)) := by
  have w0 := Lib.hid (bAl (bRf w) (.cells #[.int .i64 v.kind, .int .i64 v.n, .int .i64 v.x, .string v.s, .slice A0 v.l.length c0] 35))
  have P0 : Hid (Blk (w.alloc (.cells #[.int .i64 v.kind, .int .i64 v.n, .int .i64 v.x, .string v.s, .slice A0 v.l.length c0] 35)) (w.heap.size) 35 #[.int .i64 v.kind, .int .i64 v.n, .int .i64 v.x, .string v.s, .slice A0 v.l.length c0]) := Blk.new _ 35 #[.int .i64 v.kind, .int .i64 v.n, .int .i64 v.x, .string v.s, .slice A0 v.l.length c0]
  have H0_0 := Lib.hid h0_0; clear h0_0
  obtain ⟨r, hr⟩ : ∃ r, r = (((findG v kind).length : Nat) : Int) := ⟨_, rfl⟩
  have R := Lib.hid hr; clear hr
  go_enter Try.func4, Try.ntmps4
  obtain ⟨q0, q1, q2, q3, q4⟩ := P0.out.c5
  go_wp2_with fail
  refine (szVal_law v A0 c0 1048576 _ (by omega) (by omega) I0 (H0_0.out.below w0.out)).mono ?_
  clear q0 q1 q2 q3 q4
  rintro e ws0 ⟨rfl, hbws0⟩
  have bwws0 := Lib.hid (bTr w0.out hbws0)
  have P0ws0 := Lib.hid (P0.out.below hbws0)
  clear hbws0
  rcases lft_cases (left := 1048576) (k := bulkVal v) (by omega) with L0 | ⟨l0, L0, l0lo, l0hi, l0k⟩
  · rw [L0]
    clear L0
    go_wp2_with fail
    go_ret
    exact ⟨rfl, bwws0.out⟩
  rw [L0]
  clear L0
  have N0 : bulkVal v ≤ 1048576 := by omega
  obtain ⟨q5, q6, q7, q8, q9⟩ := P0ws0.out.c5
  go_wp2_with fail
  refine (toVal_any v A0 c0 _ N0 I0 (H0_0.out.below bwws0.out)).mono ?_
  clear q5 q6 q7 q8 q9
  rintro e wt1 ⟨B1, d1, rfl, hs1, hbwt1⟩
  have bwwt1 := Lib.hid (bTr bwws0.out hbwt1)
  have P0wt1 := Lib.hid (P0ws0.out.below hbwt1)
  clear hbwt1
  have T1 := Lib.hid (hs1.sa); clear hs1
  have rwt1 := Lib.hid (bRf wt1)
  obtain ⟨q10, q11, q12, q13, q14⟩ := P0wt1.out.c5
  go_wp2_with fail
  refine (specCountKind_any v kind B1 d1 _ N0 I0 (T1.out.below rwt1.out)).mono ?_
  clear q10 q11 q12 q13 q14
  rintro e wsp hpost
  obtain ⟨rfl, hbwsp⟩ := hpost
  have bwwsp := Lib.hid (bTr bwwt1.out hbwsp)
  have bwt1wsp := Lib.hid (bTr rwt1.out hbwsp)
  have P0wsp := Lib.hid (P0wt1.out.below hbwsp)
  clear hbwsp
  rw [← R.out]
  obtain ⟨q15, q16, q17, q18, q19⟩ := P0wsp.out.c5
  go_wp2_with fail
  refine (toVal_any v A0 c0 _ N0 I0 (H0_0.out.below bwwsp.out)).mono ?_
  clear q15 q16 q17 q18 q19
  rintro e wt2 ⟨B2, d2, rfl, hs2, hbwt2⟩
  have bwwt2 := Lib.hid (bTr bwwsp.out hbwt2)
  have P0wt2 := Lib.hid (P0wsp.out.below hbwt2)
  clear hbwt2
  have T2 := Lib.hid (hs2.sa); clear hs2
  have rwt2 := Lib.hid (bRf wt2)
  have bwwt2x := Lib.hid (bAl bwwt2.out (.cells #[.int .i64 v.kind, .int .i64 v.n, .int .i64 v.x, .string v.s, .slice B2 v.l.length d2] 40))
  have rwt2x := Lib.hid (bAl rwt2.out (.cells #[.int .i64 v.kind, .int .i64 v.n, .int .i64 v.x, .string v.s, .slice B2 v.l.length d2] 40))
  have P0wt2x := Lib.hid (P0wt2.out.alloc (.cells #[.int .i64 v.kind, .int .i64 v.n, .int .i64 v.x, .string v.s, .slice B2 v.l.length d2] 40))
  have X2 := Lib.hid (Blk.new wt2 40 #[.int .i64 v.kind, .int .i64 v.n, .int .i64 v.x, .string v.s, .slice B2 v.l.length d2])
  obtain ⟨q20, q21, q22, q23, q24⟩ := P0wt2x.out.c5
  obtain ⟨q25, q26, q27, q28, q29⟩ := X2.out.c5
  go_wp2_with fail
  refine (implCountKind_any v kind B2 d2 _ N0 I0 (T2.out.below rwt2x.out)).mono ?_
  clear q20 q21 q22 q23 q24 q25 q26 q27 q28 q29
  rintro e wim hpost
  obtain ⟨rfl, hbwim⟩ := hpost
  have bwwim := Lib.hid (bTr bwwt2x.out hbwim)
  have bwt2wim := Lib.hid (bTr rwt2x.out hbwim)
  have P0wim := Lib.hid (P0wt2x.out.below hbwim)
  have P1wim := Lib.hid (X2.out.below hbwim)
  clear hbwim
  rw [← R.out]
  obtain ⟨q30, q31, q32, q33, q34⟩ := P0wim.out.c5
  obtain ⟨q35, q36, q37, q38, q39⟩ := P1wim.out.c5
  go_wp2_with fail
  go_region_held3 (fun u => u.cell? ⟨w.heap.size, 0, none⟩ = some (.int .i64 v.kind) ∧ u.cell? ⟨w.heap.size, 1, none⟩ = some (.int .i64 v.n) ∧ u.cell? ⟨w.heap.size, 2, none⟩ = some (.int .i64 v.x) ∧ u.cell? ⟨w.heap.size, 3, none⟩ = some (.string v.s) ∧ u.cell? ⟨w.heap.size, 4, none⟩ = some (.slice A0 v.l.length c0) ∧ u.cell? ⟨wt2.heap.size, 0, none⟩ = some (.int .i64 v.kind) ∧ u.cell? ⟨wt2.heap.size, 1, none⟩ = some (.int .i64 v.n) ∧ u.cell? ⟨wt2.heap.size, 2, none⟩ = some (.int .i64 v.x) ∧ u.cell? ⟨wt2.heap.size, 3, none⟩ = some (.string v.s) ∧ u.cell? ⟨wt2.heap.size, 4, none⟩ = some (.slice B2 v.l.length d2)) (go_keep)
    (first
      | (go_at_call 18; refine (toVal_any v A0 c0 _ N0 I0 (H0_0.out.below bwwim.out.drew)).mono ?_; rintro e wt3 ⟨B3, d3, rfl, hs3, hbwt3⟩; have T3 := Lib.hid (hs3.sa); clear hs3; have bwwt3 := Lib.hid (bTr bwwim.out.drew hbwt3); have bwt2wt3 := Lib.hid (bTr bwt2wim.out.drew hbwt3); have P0wt3 := Lib.hid (P0wim.out.drew.below hbwt3); have P1wt3 := Lib.hid (P1wim.out.drew.below hbwt3); clear hbwt3; obtain ⟨q40, q41, q42, q43, q44⟩ := P0wt3.out.c5; obtain ⟨q45, q46, q47, q48, q49⟩ := P1wt3.out.c5; have rwt3 := Lib.hid (bRf wt3))
      | (go_at_call 20; refine (eqVal_any v v B2 B3 d2 d3 _ (T2.out.below bwt2wt3.out) (T3.out.below rwt3.out)).mono ?_; rintro e we0 ⟨rfl, hbwe0⟩; have bwwe0 := Lib.hid (bTr bwwt3.out hbwe0); have bwt2we0 := Lib.hid (bTr bwt2wt3.out hbwe0); have bwt3we0 := Lib.hid (bTr rwt3.out hbwe0); have P0we0 := Lib.hid (P0wt3.out.below hbwe0); have P1we0 := Lib.hid (P1wt3.out.below hbwe0); clear hbwe0; obtain ⟨q50, q51, q52, q53, q54⟩ := P0we0.out.c5; obtain ⟨q55, q56, q57, q58, q59⟩ := P1we0.out.c5; rw [decide_eq_true rfl]))
  go_wp2_with fail
  go_ret
  exact ⟨rfl, bwwe0.out⟩


theorem fnExactCountKind_lifted (os : Os) (started : os.Started) (H : Type) (enc : TypeId × Value → H) :
    ReturnsInHanded {} Try.checked os 4 .any (Rows.fnExactCountKindSpec.pre6 enc Try.prog Try.f4 Rows.fnExactCountKindRow.domain false) (Rows.fnExactCountKindSpec.post enc Try.prog Try.f4 false true false false) := by
  refine returnsInHanded_of_change (C := Try.checked) lawOwn started (by kernel_rfl) Try.func4
    (ChangeSpec.witness6 (enc := enc) (C := Try.checked) false ⟨#[], #[.agg #[.int .i64 0, .int .i64 0, .int .i64 0, .string .empty, .slice none 0 0], .int .i64 0], []⟩ 8 (by kernel_rfl) (by kernel_rfl) (by kernel_rfl) (by kernel_rfl)) ?_
  intro W base args ds gs before hval0 hW _ _
  have hval : ∀ (j : Nat) t v, Try.f4.params[j]? = some t → args[j]? = some v → Value.okWide Try.prog W .any base t v := hval0
  have hW' := hW
  obtain ⟨p, q, hA0, hV, rfl, hfz, hnd⟩ := hW
  have hA : DataW.TrodAll enc Try.prog W 0 (fun _ => true) true Try.f4.params.toList args.toList ds p := hA0
  rw [Try.params4] at hA hval
  obtain ⟨v0, vs0, d0, ds0, p0, q0, hargs, rfl, rfl, ⟨n0, h0⟩, r0⟩ := trodAll_cons hA
  obtain ⟨v1, vs1, d1, ds1, p1, q1, rfl, rfl, rfl, ⟨n1, h1⟩, r1⟩ := trodAll_cons r0
  obtain ⟨rfl, rfl, rfl⟩ := trodAll_nil r1
  obtain rfl : args = #[v0, v1] := by cases args; simp_all
  obtain ⟨rfl, rfl⟩ := trodVars_none hV
  obtain ⟨cs0, rfl, _⟩ := okWide_struct Try.underlying35 (hval 0 _ v0 rfl rfl)
  obtain ⟨x0, hx0⟩ := opensVal H enc W n0 _ _ h0
  obtain ⟨A0, c0, e0, s0, I0⟩ := hx0.valSA
  obtain ⟨cs0⟩ := cs0
  simp only [Value.cells] at e0
  subst e0
  obtain ⟨x1, rfl⟩ := okWide_int Try.underlying3 (hval 1 _ v1 rfl rfl)
  have I1 := i64_of Try.underlying3 h1
  clear hA0 hval0
  refine (fnExactCountKind_walk x0 _ _ x1 W s0 I0 I1).mono fun e W' ⟨he, hb⟩ => ?_
  subst he
  exact ⟨_, rfl, law_post rfl (by kernel_rfl) Try.underlying4 lawLaid (by kernel_rfl) rfl hW' hb⟩

theorem fnExactCountKind_holds : Rows.FnExactCountKindSaid :=
  OpenClaim.holds_of_wide 4 Try.f4 rfl rfl rfl rfl rfl rfl rfl ⟨rfl, rfl, rfl, rfl, rfl⟩ rfl rfl rfl rfl rfl (by kernel_rfl) Try.func4 (by kernel_rfl)
    (of_decide_eq_true (by kernel_rfl)) (by unfold Func.isWrapper; first | (rw [if_pos (by decide +kernel)]; kernel_rfl) | (rw [if_neg (by decide +kernel)]; exact ⟨rfl, rfl⟩))
    (fun os started H enc _ => fnExactCountKind_lifted os started H enc)
end Go.Proofs.Ytblcmajhdndmfaa
