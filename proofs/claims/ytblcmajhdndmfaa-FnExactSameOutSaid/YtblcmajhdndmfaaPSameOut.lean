/- Proved: for all arguments the program's SameOut returns what the reference's returns, and leaves its arguments as they were. No conditions. -/
import Derived.Test.YtblcmajhdndmfaaSameOut2
import Derived.Test.YtblcmajhdndmfaaTypes
import Derived.Deep.RegionHeld3
namespace Go.Proofs.Ytblcmajhdndmfaa
open Go.ChangeShapes Go.WideShapes Go.ChangeAt Go.RowKit
set_option linter.unusedVariables false
set_option maxRecDepth 100000

theorem fnExactSameOut_walk (x : GOut) (A0 A0' : Option Addr) (c0 c0' : Nat) (y : GOut) (A1 A1' : Option Addr) (c1 c1' : Nat) (w : World) (h0_0 : SA w x.b A0 c0) (h0_1 : SA w x.l A0' c0') (I0 : I64 x.code) (h1_0 : SA w y.b A1 c1) (h1_1 : SA w y.l A1' c1') (I1 : I64 y.code) :
    Calls Try.prog 3 #[.agg #[.slice A0 x.b.length c0, .slice A0' x.l.length c0', .int .i64 x.code], .agg #[.slice A1 y.b.length c1, .slice A1' y.l.length c1', .int .i64 y.code]] w (Ret w (.bool true)) := by
  have w0 := Lib.hid (bAl (bAl (bRf w) (.cells #[.slice A0 x.b.length c0, .slice A0' x.l.length c0', .int .i64 x.code] 25)) (.cells #[.slice A1 y.b.length c1, .slice A1' y.l.length c1', .int .i64 y.code] 25))
  have P0 : Hid (Blk ((w.alloc (.cells #[.slice A0 x.b.length c0, .slice A0' x.l.length c0', .int .i64 x.code] 25)).alloc (.cells #[.slice A1 y.b.length c1, .slice A1' y.l.length c1', .int .i64 y.code] 25)) (w.heap.size) 25 #[.slice A0 x.b.length c0, .slice A0' x.l.length c0', .int .i64 x.code]) := (Blk.new _ 25 #[.slice A0 x.b.length c0, .slice A0' x.l.length c0', .int .i64 x.code]).alloc (.cells #[.slice A1 y.b.length c1, .slice A1' y.l.length c1', .int .i64 y.code] 25)
  have P1 : Hid (Blk ((w.alloc (.cells #[.slice A0 x.b.length c0, .slice A0' x.l.length c0', .int .i64 x.code] 25)).alloc (.cells #[.slice A1 y.b.length c1, .slice A1' y.l.length c1', .int .i64 y.code] 25)) (w.heap.size + 1) 25 #[.slice A1 y.b.length c1, .slice A1' y.l.length c1', .int .i64 y.code]) := (by have h := Blk.new (w.alloc (.cells #[.slice A0 x.b.length c0, .slice A0' x.l.length c0', .int .i64 x.code] 25)) 25 #[.slice A1 y.b.length c1, .slice A1' y.l.length c1', .int .i64 y.code]; simp only [World.size_alloc] at h; exact h)
  have H0_0 := Lib.hid h0_0; clear h0_0
  have H0_1 := Lib.hid h0_1; clear h0_1
  have H1_0 := Lib.hid h1_0; clear h1_0
  have H1_1 := Lib.hid h1_1; clear h1_1
  obtain ⟨r, hr⟩ : ∃ r, r = decide (x = y) := ⟨_, rfl⟩
  have R := Lib.hid hr; clear hr
  go_enter Try.func3, Try.ntmps3
  obtain ⟨q0, q1, q2⟩ := P0.out.c3
  obtain ⟨q3, q4, q5⟩ := P1.out.c3
  go_wp2_with fail
  refine (szOut_any x A0 A0' c0 c0' 1048576 _ (by omega) (by omega) (H0_0.out.below w0.out) (H0_1.out.below w0.out)).mono ?_
  clear q0 q1 q2 q3 q4 q5
  rintro e ws0 ⟨rfl, hbws0⟩
  have bwws0 := Lib.hid (bTr w0.out hbws0)
  have P0ws0 := Lib.hid (P0.out.below hbws0)
  have P1ws0 := Lib.hid (P1.out.below hbws0)
  clear hbws0
  rcases lft_cases (left := 1048576) (k := bulkOut x) (by omega) with L0 | ⟨l0, L0, l0lo, l0hi, l0k⟩
  · rw [L0]
    clear L0
    go_wp2_with fail
    go_ret
    exact ⟨rfl, bwws0.out⟩
  rw [L0]
  clear L0
  have N0 : bulkOut x ≤ 1048576 := by omega
  obtain ⟨q6, q7, q8⟩ := P0ws0.out.c3
  obtain ⟨q9, q10, q11⟩ := P1ws0.out.c3
  go_wp2_with fail
  refine (szOut_any y A1 A1' c1 c1' l0 _ (by omega) (by omega) (H1_0.out.below bwws0.out) (H1_1.out.below bwws0.out)).mono ?_
  clear q6 q7 q8 q9 q10 q11
  rintro e ws1 ⟨rfl, hbws1⟩
  have bwws1 := Lib.hid (bTr bwws0.out hbws1)
  have P0ws1 := Lib.hid (P0ws0.out.below hbws1)
  have P1ws1 := Lib.hid (P1ws0.out.below hbws1)
  clear hbws1
  rcases lft_cases (left := l0) (k := bulkOut y) (by omega) with L1 | ⟨l1, L1, l1lo, l1hi, l1k⟩
  · rw [L1]
    clear L1
    go_wp2_with fail
    go_ret
    exact ⟨rfl, bwws1.out⟩
  rw [L1]
  clear L1
  have N1 : bulkOut y ≤ 1048576 := by omega
  obtain ⟨q12, q13, q14⟩ := P0ws1.out.c3
  obtain ⟨q15, q16, q17⟩ := P1ws1.out.c3
  go_wp2_with fail
  go_region_held3 (fun u => u.cell? ⟨w.heap.size, 0, none⟩ = some (.slice A0 x.b.length c0) ∧ u.cell? ⟨w.heap.size, 1, none⟩ = some (.slice A0' x.l.length c0') ∧ u.cell? ⟨w.heap.size, 2, none⟩ = some (.int .i64 x.code) ∧ u.cell? ⟨w.heap.size + 1, 0, none⟩ = some (.slice A1 y.b.length c1) ∧ u.cell? ⟨w.heap.size + 1, 1, none⟩ = some (.slice A1' y.l.length c1') ∧ u.cell? ⟨w.heap.size + 1, 2, none⟩ = some (.int .i64 y.code)) (go_keep)
    (first
      | (go_at_call_of 13 (Value.slice A0 x.b.length c0); refine (toOut_any x A0 A0' c0 c0' _ N0 I0 (H0_0.out.below bwws1.out.drew) (H0_1.out.below bwws1.out.drew)).mono ?_; rintro e wt1 ⟨B1, d1, B1', d1', rfl, hs1, hbwt1⟩; have T1 := Lib.hid (hs1.outSA); clear hs1; have bwwt1 := Lib.hid (bTr bwws1.out.drew hbwt1); have P0wt1 := Lib.hid (P0ws1.out.drew.below hbwt1); have P1wt1 := Lib.hid (P1ws1.out.drew.below hbwt1); clear hbwt1; obtain ⟨q18, q19, q20⟩ := P0wt1.out.c3; obtain ⟨q21, q22, q23⟩ := P1wt1.out.c3; have rwt1 := Lib.hid (bRf wt1))
      | (go_at_call_of 13 (Value.slice A1 y.b.length c1); refine (toOut_any y A1 A1' c1 c1' _ N1 I1 (H1_0.out.below bwwt1.out) (H1_1.out.below bwwt1.out)).mono ?_; rintro e wt2 ⟨B2, d2, B2', d2', rfl, hs2, hbwt2⟩; have T2 := Lib.hid (hs2.outSA); clear hs2; have bwwt2 := Lib.hid (bTr bwwt1.out hbwt2); have bwt1wt2 := Lib.hid (bTr rwt1.out hbwt2); have P0wt2 := Lib.hid (P0wt1.out.below hbwt2); have P1wt2 := Lib.hid (P1wt1.out.below hbwt2); clear hbwt2; obtain ⟨q24, q25, q26⟩ := P0wt2.out.c3; obtain ⟨q27, q28, q29⟩ := P1wt2.out.c3; have rwt2 := Lib.hid (bRf wt2))
      | (go_at_call 12; refine (specSameOut_any x y B1 B1' B2 B2' d1 d1' d2 d2' _ (T1.out.1.below bwt1wt2.out) (T1.out.2.1.below bwt1wt2.out) (T2.out.1.below rwt2.out) (T2.out.2.1.below rwt2.out)).mono ?_; rintro e wsp hpost; obtain ⟨rfl, hbwsp⟩ := hpost; have bwwsp := Lib.hid (bTr bwwt2.out hbwsp); have bwt1wsp := Lib.hid (bTr bwt1wt2.out hbwsp); have bwt2wsp := Lib.hid (bTr rwt2.out hbwsp); have P0wsp := Lib.hid (P0wt2.out.below hbwsp); have P1wsp := Lib.hid (P1wt2.out.below hbwsp); clear hbwsp; rw [← R.out]; obtain ⟨q30, q31, q32⟩ := P0wsp.out.c3; obtain ⟨q33, q34, q35⟩ := P1wsp.out.c3))
  go_wp2_with fail
  refine (toOut_any x A0 A0' c0 c0' _ N0 I0 (H0_0.out.below bwwsp.out) (H0_1.out.below bwwsp.out)).mono ?_
  rintro e wt3 ⟨B3, d3, B3', d3', rfl, hs3, hbwt3⟩
  have bwwt3 := Lib.hid (bTr bwwsp.out hbwt3)
  have P0wt3 := Lib.hid (P0wsp.out.below hbwt3)
  have P1wt3 := Lib.hid (P1wsp.out.below hbwt3)
  clear hbwt3
  have T3 := Lib.hid (hs3.outSA); clear hs3
  have rwt3 := Lib.hid (bRf wt3)
  have bwwt3x := Lib.hid (bAl bwwt3.out (.cells #[.slice B3 x.b.length d3, .slice B3' x.l.length d3', .int .i64 x.code] 30))
  have rwt3x := Lib.hid (bAl rwt3.out (.cells #[.slice B3 x.b.length d3, .slice B3' x.l.length d3', .int .i64 x.code] 30))
  have P0wt3x := Lib.hid (P0wt3.out.alloc (.cells #[.slice B3 x.b.length d3, .slice B3' x.l.length d3', .int .i64 x.code] 30))
  have P1wt3x := Lib.hid (P1wt3.out.alloc (.cells #[.slice B3 x.b.length d3, .slice B3' x.l.length d3', .int .i64 x.code] 30))
  have X3 := Lib.hid (Blk.new wt3 30 #[.slice B3 x.b.length d3, .slice B3' x.l.length d3', .int .i64 x.code])
  obtain ⟨q36, q37, q38⟩ := P0wt3x.out.c3
  obtain ⟨q39, q40, q41⟩ := P1wt3x.out.c3
  obtain ⟨q42, q43, q44⟩ := X3.out.c3
  go_wp2_with fail
  refine (toOut_any y A1 A1' c1 c1' _ N1 I1 (H1_0.out.below bwwt3x.out) (H1_1.out.below bwwt3x.out)).mono ?_
  clear q36 q37 q38 q39 q40 q41 q42 q43 q44
  rintro e wt4 ⟨B4, d4, B4', d4', rfl, hs4, hbwt4⟩
  have bwwt4 := Lib.hid (bTr bwwt3x.out hbwt4)
  have bwt3wt4 := Lib.hid (bTr rwt3x.out hbwt4)
  have P0wt4 := Lib.hid (P0wt3x.out.below hbwt4)
  have P1wt4 := Lib.hid (P1wt3x.out.below hbwt4)
  have P2wt4 := Lib.hid (X3.out.below hbwt4)
  clear hbwt4
  have T4 := Lib.hid (hs4.outSA); clear hs4
  have rwt4 := Lib.hid (bRf wt4)
  have bwwt4x := Lib.hid (bAl bwwt4.out (.cells #[.slice B4 y.b.length d4, .slice B4' y.l.length d4', .int .i64 y.code] 30))
  have bwt3wt4x := Lib.hid (bAl bwt3wt4.out (.cells #[.slice B4 y.b.length d4, .slice B4' y.l.length d4', .int .i64 y.code] 30))
  have rwt4x := Lib.hid (bAl rwt4.out (.cells #[.slice B4 y.b.length d4, .slice B4' y.l.length d4', .int .i64 y.code] 30))
  have P0wt4x := Lib.hid (P0wt4.out.alloc (.cells #[.slice B4 y.b.length d4, .slice B4' y.l.length d4', .int .i64 y.code] 30))
  have P1wt4x := Lib.hid (P1wt4.out.alloc (.cells #[.slice B4 y.b.length d4, .slice B4' y.l.length d4', .int .i64 y.code] 30))
  have P2wt4x := Lib.hid (P2wt4.out.alloc (.cells #[.slice B4 y.b.length d4, .slice B4' y.l.length d4', .int .i64 y.code] 30))
  have X4 := Lib.hid (Blk.new wt4 30 #[.slice B4 y.b.length d4, .slice B4' y.l.length d4', .int .i64 y.code])
  obtain ⟨q45, q46, q47⟩ := P0wt4x.out.c3
  obtain ⟨q48, q49, q50⟩ := P1wt4x.out.c3
  obtain ⟨q51, q52, q53⟩ := P2wt4x.out.c3
  obtain ⟨q54, q55, q56⟩ := X4.out.c3
  go_wp2_with fail
  refine (implSameOut_any x y B3 B3' B4 B4' d3 d3' d4 d4' _ (T3.out.1.below bwt3wt4x.out) (T3.out.2.1.below bwt3wt4x.out) (T4.out.1.below rwt4x.out) (T4.out.2.1.below rwt4x.out)).mono ?_
  clear q45 q46 q47 q48 q49 q50 q51 q52 q53 q54 q55 q56
  rintro e wim hpost
  obtain ⟨rfl, hbwim⟩ := hpost
  have bwwim := Lib.hid (bTr bwwt4x.out hbwim)
  have bwt3wim := Lib.hid (bTr bwt3wt4x.out hbwim)
  have bwt4wim := Lib.hid (bTr rwt4x.out hbwim)
  have P0wim := Lib.hid (P0wt4x.out.below hbwim)
  have P1wim := Lib.hid (P1wt4x.out.below hbwim)
  have P2wim := Lib.hid (P2wt4x.out.below hbwim)
  have P3wim := Lib.hid (X4.out.below hbwim)
  clear hbwim
  rw [← R.out]
  obtain ⟨q57, q58, q59⟩ := P0wim.out.c3
  obtain ⟨q60, q61, q62⟩ := P1wim.out.c3
  obtain ⟨q63, q64, q65⟩ := P2wim.out.c3
  obtain ⟨q66, q67, q68⟩ := P3wim.out.c3
  go_wp2_with fail
  go_region_held3 (fun u => u.cell? ⟨w.heap.size, 0, none⟩ = some (.slice A0 x.b.length c0) ∧ u.cell? ⟨w.heap.size, 1, none⟩ = some (.slice A0' x.l.length c0') ∧ u.cell? ⟨w.heap.size, 2, none⟩ = some (.int .i64 x.code) ∧ u.cell? ⟨w.heap.size + 1, 0, none⟩ = some (.slice A1 y.b.length c1) ∧ u.cell? ⟨w.heap.size + 1, 1, none⟩ = some (.slice A1' y.l.length c1') ∧ u.cell? ⟨w.heap.size + 1, 2, none⟩ = some (.int .i64 y.code) ∧ u.cell? ⟨wt3.heap.size, 0, none⟩ = some (.slice B3 x.b.length d3) ∧ u.cell? ⟨wt3.heap.size, 1, none⟩ = some (.slice B3' x.l.length d3') ∧ u.cell? ⟨wt3.heap.size, 2, none⟩ = some (.int .i64 x.code) ∧ u.cell? ⟨wt4.heap.size, 0, none⟩ = some (.slice B4 y.b.length d4) ∧ u.cell? ⟨wt4.heap.size, 1, none⟩ = some (.slice B4' y.l.length d4') ∧ u.cell? ⟨wt4.heap.size, 2, none⟩ = some (.int .i64 y.code)) (go_keep)
    (first
      | (go_at_call 13; refine (toOut_any x A0 A0' c0 c0' _ N0 I0 (H0_0.out.below bwwim.out.drew) (H0_1.out.below bwwim.out.drew)).mono ?_; rintro e wt5 ⟨B5, d5, B5', d5', rfl, hs5, hbwt5⟩; have T5 := Lib.hid (hs5.outSA); clear hs5; have bwwt5 := Lib.hid (bTr bwwim.out.drew hbwt5); have bwt3wt5 := Lib.hid (bTr bwt3wim.out.drew hbwt5); have bwt4wt5 := Lib.hid (bTr bwt4wim.out.drew hbwt5); have P0wt5 := Lib.hid (P0wim.out.drew.below hbwt5); have P1wt5 := Lib.hid (P1wim.out.drew.below hbwt5); have P2wt5 := Lib.hid (P2wim.out.drew.below hbwt5); have P3wt5 := Lib.hid (P3wim.out.drew.below hbwt5); clear hbwt5; obtain ⟨q69, q70, q71⟩ := P0wt5.out.c3; obtain ⟨q72, q73, q74⟩ := P1wt5.out.c3; obtain ⟨q75, q76, q77⟩ := P2wt5.out.c3; obtain ⟨q78, q79, q80⟩ := P3wt5.out.c3; have rwt5 := Lib.hid (bRf wt5))
      | (go_at_call 15; refine (eqOut_any x x B3 B3' B5 B5' d3 d3' d5 d5' _ (T3.out.1.below bwt3wt5.out) (T3.out.2.1.below bwt3wt5.out) (T5.out.1.below rwt5.out) (T5.out.2.1.below rwt5.out)).mono ?_; rintro e we0 ⟨rfl, hbwe0⟩; have bwwe0 := Lib.hid (bTr bwwt5.out hbwe0); have bwt3we0 := Lib.hid (bTr bwt3wt5.out hbwe0); have bwt4we0 := Lib.hid (bTr bwt4wt5.out hbwe0); have bwt5we0 := Lib.hid (bTr rwt5.out hbwe0); have P0we0 := Lib.hid (P0wt5.out.below hbwe0); have P1we0 := Lib.hid (P1wt5.out.below hbwe0); have P2we0 := Lib.hid (P2wt5.out.below hbwe0); have P3we0 := Lib.hid (P3wt5.out.below hbwe0); clear hbwe0; obtain ⟨q81, q82, q83⟩ := P0we0.out.c3; obtain ⟨q84, q85, q86⟩ := P1we0.out.c3; obtain ⟨q87, q88, q89⟩ := P2we0.out.c3; obtain ⟨q90, q91, q92⟩ := P3we0.out.c3; rw [decide_eq_true rfl]))
  go_wp2_with fail
  go_region_held3 (fun u => u.cell? ⟨w.heap.size, 0, none⟩ = some (.slice A0 x.b.length c0) ∧ u.cell? ⟨w.heap.size, 1, none⟩ = some (.slice A0' x.l.length c0') ∧ u.cell? ⟨w.heap.size, 2, none⟩ = some (.int .i64 x.code) ∧ u.cell? ⟨w.heap.size + 1, 0, none⟩ = some (.slice A1 y.b.length c1) ∧ u.cell? ⟨w.heap.size + 1, 1, none⟩ = some (.slice A1' y.l.length c1') ∧ u.cell? ⟨w.heap.size + 1, 2, none⟩ = some (.int .i64 y.code) ∧ u.cell? ⟨wt3.heap.size, 0, none⟩ = some (.slice B3 x.b.length d3) ∧ u.cell? ⟨wt3.heap.size, 1, none⟩ = some (.slice B3' x.l.length d3') ∧ u.cell? ⟨wt3.heap.size, 2, none⟩ = some (.int .i64 x.code) ∧ u.cell? ⟨wt4.heap.size, 0, none⟩ = some (.slice B4 y.b.length d4) ∧ u.cell? ⟨wt4.heap.size, 1, none⟩ = some (.slice B4' y.l.length d4') ∧ u.cell? ⟨wt4.heap.size, 2, none⟩ = some (.int .i64 y.code)) (go_keep)
    (first
      | (go_at_call 13; refine (toOut_any y A1 A1' c1 c1' _ N1 I1 (H1_0.out.below bwwe0.out.drew) (H1_1.out.below bwwe0.out.drew)).mono ?_; rintro e wt6 ⟨B6, d6, B6', d6', rfl, hs6, hbwt6⟩; have T6 := Lib.hid (hs6.outSA); clear hs6; have bwwt6 := Lib.hid (bTr bwwe0.out.drew hbwt6); have bwt3wt6 := Lib.hid (bTr bwt3we0.out.drew hbwt6); have bwt4wt6 := Lib.hid (bTr bwt4we0.out.drew hbwt6); have P0wt6 := Lib.hid (P0we0.out.drew.below hbwt6); have P1wt6 := Lib.hid (P1we0.out.drew.below hbwt6); have P2wt6 := Lib.hid (P2we0.out.drew.below hbwt6); have P3wt6 := Lib.hid (P3we0.out.drew.below hbwt6); clear hbwt6; obtain ⟨q93, q94, q95⟩ := P0wt6.out.c3; obtain ⟨q96, q97, q98⟩ := P1wt6.out.c3; obtain ⟨q99, q100, q101⟩ := P2wt6.out.c3; obtain ⟨q102, q103, q104⟩ := P3wt6.out.c3; have rwt6 := Lib.hid (bRf wt6))
      | (go_at_call 15; refine (eqOut_any y y B4 B4' B6 B6' d4 d4' d6 d6' _ (T4.out.1.below bwt4wt6.out) (T4.out.2.1.below bwt4wt6.out) (T6.out.1.below rwt6.out) (T6.out.2.1.below rwt6.out)).mono ?_; rintro e we1 ⟨rfl, hbwe1⟩; have bwwe1 := Lib.hid (bTr bwwt6.out hbwe1); have bwt3we1 := Lib.hid (bTr bwt3wt6.out hbwe1); have bwt4we1 := Lib.hid (bTr bwt4wt6.out hbwe1); have bwt6we1 := Lib.hid (bTr rwt6.out hbwe1); have P0we1 := Lib.hid (P0wt6.out.below hbwe1); have P1we1 := Lib.hid (P1wt6.out.below hbwe1); have P2we1 := Lib.hid (P2wt6.out.below hbwe1); have P3we1 := Lib.hid (P3wt6.out.below hbwe1); clear hbwe1; obtain ⟨q105, q106, q107⟩ := P0we1.out.c3; obtain ⟨q108, q109, q110⟩ := P1we1.out.c3; obtain ⟨q111, q112, q113⟩ := P2we1.out.c3; obtain ⟨q114, q115, q116⟩ := P3we1.out.c3; rw [decide_eq_true rfl]))
  go_wp2_with fail
  go_ret
  exact ⟨rfl, bwwe1.out⟩


theorem fnExactSameOut_lifted (os : Os) (started : os.Started) (H : Type) (enc : TypeId × Value → H) :
    ReturnsInHanded {} Try.checked os 3 .any (Rows.fnExactSameOutSpec.pre6 enc Try.prog Try.f3 Rows.fnExactSameOutRow.domain false) (Rows.fnExactSameOutSpec.post enc Try.prog Try.f3 false true false false) := by
  refine returnsInHanded_of_change (C := Try.checked) lawOwn started (by kernel_rfl) Try.func3
    (ChangeSpec.witness6 (enc := enc) (C := Try.checked) false ⟨#[], #[.agg #[.slice none 0 0, .slice none 0 0, .int .i64 0], .agg #[.slice none 0 0, .slice none 0 0, .int .i64 0]], []⟩ 8 (by kernel_rfl) (by kernel_rfl) (by kernel_rfl) (by kernel_rfl)) ?_
  intro W base args ds gs before hval0 hW _ _
  have hval : ∀ (j : Nat) t v, Try.f3.params[j]? = some t → args[j]? = some v → Value.okWide Try.prog W .any base t v := hval0
  have hW' := hW
  obtain ⟨p, q, hA0, hV, rfl, hfz, hnd⟩ := hW
  have hA : DataW.TrodAll enc Try.prog W 0 (fun _ => true) true Try.f3.params.toList args.toList ds p := hA0
  rw [Try.params3] at hA hval
  obtain ⟨v0, vs0, d0, ds0, p0, q0, hargs, rfl, rfl, ⟨n0, h0⟩, r0⟩ := trodAll_cons hA
  obtain ⟨v1, vs1, d1, ds1, p1, q1, rfl, rfl, rfl, ⟨n1, h1⟩, r1⟩ := trodAll_cons r0
  obtain ⟨rfl, rfl, rfl⟩ := trodAll_nil r1
  obtain rfl : args = #[v0, v1] := by cases args; simp_all
  obtain ⟨rfl, rfl⟩ := trodVars_none hV
  obtain ⟨cs0, rfl, _⟩ := okWide_struct Try.underlying25 (hval 0 _ v0 rfl rfl)
  obtain ⟨x0, hx0⟩ := opensOut H enc W n0 _ _ h0
  obtain ⟨A0, c0, A0', c0', e0, s0, s0', I0⟩ := hx0.outSA
  obtain ⟨cs0⟩ := cs0
  simp only [Value.cells] at e0
  subst e0
  obtain ⟨cs1, rfl, _⟩ := okWide_struct Try.underlying25 (hval 1 _ v1 rfl rfl)
  obtain ⟨x1, hx1⟩ := opensOut H enc W n1 _ _ h1
  obtain ⟨A1, c1, A1', c1', e1, s1, s1', I1⟩ := hx1.outSA
  obtain ⟨cs1⟩ := cs1
  simp only [Value.cells] at e1
  subst e1
  clear hA0 hval0
  refine (fnExactSameOut_walk x0 _ _ _ _ x1 _ _ _ _ W s0 s0' I0 s1 s1' I1).mono fun e W' ⟨he, hb⟩ => ?_
  subst he
  exact ⟨_, rfl, law_post rfl (by kernel_rfl) Try.underlying4 lawLaid (by kernel_rfl) rfl hW' hb⟩

theorem fnExactSameOut_holds : Rows.FnExactSameOutSaid :=
  OpenClaim.holds_of_wide 3 Try.f3 rfl rfl rfl rfl rfl rfl rfl ⟨rfl, rfl, rfl, rfl, rfl⟩ rfl rfl rfl rfl rfl (by kernel_rfl) Try.func3 (by kernel_rfl)
    (of_decide_eq_true (by kernel_rfl)) (by unfold Func.isWrapper; first | (rw [if_pos (by decide +kernel)]; kernel_rfl) | (rw [if_neg (by decide +kernel)]; exact ⟨rfl, rfl⟩))
    (fun os started H enc _ => fnExactSameOut_lifted os started H enc)
end Go.Proofs.Ytblcmajhdndmfaa
