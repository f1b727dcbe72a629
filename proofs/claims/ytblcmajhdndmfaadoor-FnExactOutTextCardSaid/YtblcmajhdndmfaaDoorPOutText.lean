/- Proved: for all arguments the program's OutText returns what the reference's returns, and leaves its arguments as they were. Condition: the library's tables stand as the row lists them; the card ties them to the program's text. -/
import Derived.Test.YtblcmajhdndmfaaDoorOutText
import Derived.Test.YtblcmajhdndmfaaDoorLaw4
import Derived.Test.YtblcmajhdndmfaaDoorLawV2
import Derived.Test.YtblcmajhdndmfaaDoorTypes
import Derived.Test.YtblcmajhdndmfaaDoorRowV
import Derived.Deep.RegionHeld3
import Derived.Test.YtblcmajhdndmfaaDoorCards
import Derived.Test.YtblcmajhdndmfaaDoorTie
import Derived.ProofKit
import Derived.LaidMore
import Derived.OpenShut
import Derived.Stop.Joined
import Derived.Stop.LaidErr
import Derived.Lib.LaidTab
import Derived.SevenTiedAt
namespace Go.Proofs.YtblcmajhdndmfaaDoor
open Go.ChangeShapes Go.WideShapes Go.ChangeAt Go.RowKit
set_option linter.unusedVariables false
set_option maxRecDepth 100000

theorem fnExactOutText_walk (v : GVal) (A0 : Option Addr) (c0 : Nat) (o : GOut) (A1 A1' : Option Addr) (c1 c1' : Nat) (w : World) (h0_0 : SA w v.l A0 c0) (I0 : VInt v) (h1_0 : SA w o.b A1 c1) (h1_1 : SA w o.l A1' c1') (I1 : I64 o.code) (ht : Tab w) :
    Calls Tryd.prog 4 #[.agg #[.int .i64 v.kind, .int .i64 v.n, .int .i64 v.x, .string v.s, .slice A0 v.l.length c0], .agg #[.slice A1 o.b.length c1, .slice A1' o.l.length c1', .int .i64 o.code]] w (Ret w (.bool true)) := by
  have w0 := Lib.hid (bAl (bAl (bRf w) (.cells #[.int .i64 v.kind, .int .i64 v.n, .int .i64 v.x, .string v.s, .slice A0 v.l.length c0] 31)) (.cells #[.slice A1 o.b.length c1, .slice A1' o.l.length c1', .int .i64 o.code] 35))
  have P0 : Hid (Blk ((w.alloc (.cells #[.int .i64 v.kind, .int .i64 v.n, .int .i64 v.x, .string v.s, .slice A0 v.l.length c0] 31)).alloc (.cells #[.slice A1 o.b.length c1, .slice A1' o.l.length c1', .int .i64 o.code] 35)) (w.heap.size) 31 #[.int .i64 v.kind, .int .i64 v.n, .int .i64 v.x, .string v.s, .slice A0 v.l.length c0]) := (Blk.new _ 31 #[.int .i64 v.kind, .int .i64 v.n, .int .i64 v.x, .string v.s, .slice A0 v.l.length c0]).alloc (.cells #[.slice A1 o.b.length c1, .slice A1' o.l.length c1', .int .i64 o.code] 35)
  have P1 : Hid (Blk ((w.alloc (.cells #[.int .i64 v.kind, .int .i64 v.n, .int .i64 v.x, .string v.s, .slice A0 v.l.length c0] 31)).alloc (.cells #[.slice A1 o.b.length c1, .slice A1' o.l.length c1', .int .i64 o.code] 35)) (w.heap.size + 1) 35 #[.slice A1 o.b.length c1, .slice A1' o.l.length c1', .int .i64 o.code]) := (by have h := Blk.new (w.alloc (.cells #[.int .i64 v.kind, .int .i64 v.n, .int .i64 v.x, .string v.s, .slice A0 v.l.length c0] 31)) 35 #[.slice A1 o.b.length c1, .slice A1' o.l.length c1', .int .i64 o.code]; simp only [World.size_alloc] at h; exact h)
  have H0_0 := Lib.hid h0_0; clear h0_0
  have H1_0 := Lib.hid h1_0; clear h1_0
  have H1_1 := Lib.hid h1_1; clear h1_1
  have HT := Lib.hid ht; clear ht
  obtain ⟨r, hr⟩ : ∃ r, r = outT v o := ⟨_, rfl⟩
  have hrr : (r.toList == r.toList) = true := by simp
  have R := Lib.hid hr; clear hr
  go_enter Tryd.func4, Tryd.ntmps4
  obtain ⟨q0, q1, q2, q3, q4⟩ := P0.out.c5
  obtain ⟨q5, q6, q7⟩ := P1.out.c3
  go_wp2_with fail
  refine (szVal_law v A0 c0 1048576 _ (by omega) (by omega) I0 (H0_0.out.below w0.out)).mono ?_
  clear q0 q1 q2 q3 q4 q5 q6 q7
  rintro e ws0 ⟨rfl, hbws0⟩
  have bwws0 := Lib.hid (bTr w0.out hbws0)
  have P0ws0 := Lib.hid (P0.out.below hbws0)
  have P1ws0 := Lib.hid (P1.out.below hbws0)
  clear hbws0
  rcases lft_cases (left := 1048576) (k := bulkVal v) (by omega) with L0 | ⟨l0, L0, l0lo, l0hi, l0k⟩
  · rw [L0]
    clear L0
    go_wp2_with fail
    go_ret
    exact ⟨rfl, bwws0.out⟩
  rw [L0]
  clear L0
  have N0 : bulkVal v ≤ 1048576 := by omega
  obtain ⟨q8, q9, q10, q11, q12⟩ := P0ws0.out.c5
  obtain ⟨q13, q14, q15⟩ := P1ws0.out.c3
  go_wp2_with fail
  refine (szOut_any o A1 A1' c1 c1' l0 _ (by omega) (by omega) (H1_0.out.below bwws0.out) (H1_1.out.below bwws0.out)).mono ?_
  clear q8 q9 q10 q11 q12 q13 q14 q15
  rintro e ws1 ⟨rfl, hbws1⟩
  have bwws1 := Lib.hid (bTr bwws0.out hbws1)
  have P0ws1 := Lib.hid (P0ws0.out.below hbws1)
  have P1ws1 := Lib.hid (P1ws0.out.below hbws1)
  clear hbws1
  rcases lft_cases (left := l0) (k := bulkOut o) (by omega) with L1 | ⟨l1, L1, l1lo, l1hi, l1k⟩
  · rw [L1]
    clear L1
    go_wp2_with fail
    go_ret
    exact ⟨rfl, bwws1.out⟩
  rw [L1]
  clear L1
  have N1 : bulkOut o ≤ 1048576 := by omega
  obtain ⟨q16, q17, q18, q19, q20⟩ := P0ws1.out.c5
  obtain ⟨q21, q22, q23⟩ := P1ws1.out.c3
  go_wp2_with fail
  go_region_held3 (fun u => u.cell? ⟨w.heap.size, 0, none⟩ = some (.int .i64 v.kind) ∧ u.cell? ⟨w.heap.size, 1, none⟩ = some (.int .i64 v.n) ∧ u.cell? ⟨w.heap.size, 2, none⟩ = some (.int .i64 v.x) ∧ u.cell? ⟨w.heap.size, 3, none⟩ = some (.string v.s) ∧ u.cell? ⟨w.heap.size, 4, none⟩ = some (.slice A0 v.l.length c0) ∧ u.cell? ⟨w.heap.size + 1, 0, none⟩ = some (.slice A1 o.b.length c1) ∧ u.cell? ⟨w.heap.size + 1, 1, none⟩ = some (.slice A1' o.l.length c1') ∧ u.cell? ⟨w.heap.size + 1, 2, none⟩ = some (.int .i64 o.code)) (go_keep)
    (first
      | (go_at_call_of 13 (Value.slice A0 v.l.length c0); refine (toVal_any v A0 c0 _ N0 I0 (H0_0.out.below bwws1.out.drew)).mono ?_; rintro e wt1 ⟨B1, d1, rfl, hs1, hbwt1⟩; have T1 := Lib.hid (hs1.sa); clear hs1; have bwwt1 := Lib.hid (bTr bwws1.out.drew hbwt1); have P0wt1 := Lib.hid (P0ws1.out.drew.below hbwt1); have P1wt1 := Lib.hid (P1ws1.out.drew.below hbwt1); clear hbwt1; obtain ⟨q24, q25, q26, q27, q28⟩ := P0wt1.out.c5; obtain ⟨q29, q30, q31⟩ := P1wt1.out.c3; have rwt1 := Lib.hid (bRf wt1))
      | (go_at_call_of 14 (Value.slice A1 o.b.length c1); refine (toOut_any o A1 A1' c1 c1' _ N1 I1 (H1_0.out.below bwwt1.out) (H1_1.out.below bwwt1.out)).mono ?_; rintro e wt2 ⟨B2, d2, B2', d2', rfl, hs2, hbwt2⟩; have T2 := Lib.hid (hs2.outSA); clear hs2; have bwwt2 := Lib.hid (bTr bwwt1.out hbwt2); have bwt1wt2 := Lib.hid (bTr rwt1.out hbwt2); have P0wt2 := Lib.hid (P0wt1.out.below hbwt2); have P1wt2 := Lib.hid (P1wt1.out.below hbwt2); clear hbwt2; obtain ⟨q32, q33, q34, q35, q36⟩ := P0wt2.out.c5; obtain ⟨q37, q38, q39⟩ := P1wt2.out.c3; have rwt2 := Lib.hid (bRf wt2))
      | (go_at_call 12; refine (specOutText_any v o B1 B2 B2' d1 d2 d2' _ N0 I0 (by have := N1; unfold bulkOut at this; omega) (by have := N1; unfold bulkOut at this; omega) (T1.out.below bwt1wt2.out) (T2.out.2.1.below rwt2.out)).mono ?_; rintro e wsp hpost; obtain ⟨rfl, hbwsp⟩ := hpost; have bwwsp := Lib.hid (bTr bwwt2.out hbwsp); have bwt1wsp := Lib.hid (bTr bwt1wt2.out hbwsp); have bwt2wsp := Lib.hid (bTr rwt2.out hbwsp); have P0wsp := Lib.hid (P0wt2.out.below hbwsp); have P1wsp := Lib.hid (P1wt2.out.below hbwsp); clear hbwsp; rw [← R.out]; obtain ⟨q40, q41, q42, q43, q44⟩ := P0wsp.out.c5; obtain ⟨q45, q46, q47⟩ := P1wsp.out.c3))
  go_wp2_with fail
  refine (toVal_any v A0 c0 _ N0 I0 (H0_0.out.below bwwsp.out)).mono ?_
  rintro e wt3 ⟨B3, d3, rfl, hs3, hbwt3⟩
  have bwwt3 := Lib.hid (bTr bwwsp.out hbwt3)
  have P0wt3 := Lib.hid (P0wsp.out.below hbwt3)
  have P1wt3 := Lib.hid (P1wsp.out.below hbwt3)
  clear hbwt3
  have T3 := Lib.hid (hs3.sa); clear hs3
  have rwt3 := Lib.hid (bRf wt3)
  have bwwt3x := Lib.hid (bAl bwwt3.out (.cells #[.int .i64 v.kind, .int .i64 v.n, .int .i64 v.x, .string v.s, .slice B3 v.l.length d3] 41))
  have rwt3x := Lib.hid (bAl rwt3.out (.cells #[.int .i64 v.kind, .int .i64 v.n, .int .i64 v.x, .string v.s, .slice B3 v.l.length d3] 41))
  have P0wt3x := Lib.hid (P0wt3.out.alloc (.cells #[.int .i64 v.kind, .int .i64 v.n, .int .i64 v.x, .string v.s, .slice B3 v.l.length d3] 41))
  have P1wt3x := Lib.hid (P1wt3.out.alloc (.cells #[.int .i64 v.kind, .int .i64 v.n, .int .i64 v.x, .string v.s, .slice B3 v.l.length d3] 41))
  have X3 := Lib.hid (Blk.new wt3 41 #[.int .i64 v.kind, .int .i64 v.n, .int .i64 v.x, .string v.s, .slice B3 v.l.length d3])
  obtain ⟨q48, q49, q50, q51, q52⟩ := P0wt3x.out.c5
  obtain ⟨q53, q54, q55⟩ := P1wt3x.out.c3
  obtain ⟨q56, q57, q58, q59, q60⟩ := X3.out.c5
  go_wp2_with fail
  refine (toOut_any o A1 A1' c1 c1' _ N1 I1 (H1_0.out.below bwwt3x.out) (H1_1.out.below bwwt3x.out)).mono ?_
  clear q48 q49 q50 q51 q52 q53 q54 q55 q56 q57 q58 q59 q60
  rintro e wt4 ⟨B4, d4, B4', d4', rfl, hs4, hbwt4⟩
  have bwwt4 := Lib.hid (bTr bwwt3x.out hbwt4)
  have bwt3wt4 := Lib.hid (bTr rwt3x.out hbwt4)
  have P0wt4 := Lib.hid (P0wt3x.out.below hbwt4)
  have P1wt4 := Lib.hid (P1wt3x.out.below hbwt4)
  have P2wt4 := Lib.hid (X3.out.below hbwt4)
  clear hbwt4
  have T4 := Lib.hid (hs4.outSA); clear hs4
  have rwt4 := Lib.hid (bRf wt4)
  have bwwt4x := Lib.hid (bAl bwwt4.out (.cells #[.slice B4 o.b.length d4, .slice B4' o.l.length d4', .int .i64 o.code] 45))
  have bwt3wt4x := Lib.hid (bAl bwt3wt4.out (.cells #[.slice B4 o.b.length d4, .slice B4' o.l.length d4', .int .i64 o.code] 45))
  have rwt4x := Lib.hid (bAl rwt4.out (.cells #[.slice B4 o.b.length d4, .slice B4' o.l.length d4', .int .i64 o.code] 45))
  have P0wt4x := Lib.hid (P0wt4.out.alloc (.cells #[.slice B4 o.b.length d4, .slice B4' o.l.length d4', .int .i64 o.code] 45))
  have P1wt4x := Lib.hid (P1wt4.out.alloc (.cells #[.slice B4 o.b.length d4, .slice B4' o.l.length d4', .int .i64 o.code] 45))
  have P2wt4x := Lib.hid (P2wt4.out.alloc (.cells #[.slice B4 o.b.length d4, .slice B4' o.l.length d4', .int .i64 o.code] 45))
  have X4 := Lib.hid (Blk.new wt4 45 #[.slice B4 o.b.length d4, .slice B4' o.l.length d4', .int .i64 o.code])
  obtain ⟨q61, q62, q63, q64, q65⟩ := P0wt4x.out.c5
  obtain ⟨q66, q67, q68⟩ := P1wt4x.out.c3
  obtain ⟨q69, q70, q71, q72, q73⟩ := P2wt4x.out.c5
  obtain ⟨q74, q75, q76⟩ := X4.out.c3
  go_wp2_with fail
  refine (implOutText_any v o B3 B4 B4' d3 d4 d4' _ N0 I0 (by have := N1; unfold bulkOut at this; omega) (by have := N1; unfold bulkOut at this; omega) (T3.out.below bwt3wt4x.out) (T4.out.2.1.below rwt4x.out) (HT.out.below bwwt4x.out)).mono ?_
  clear q61 q62 q63 q64 q65 q66 q67 q68 q69 q70 q71 q72 q73 q74 q75 q76
  rintro e wim hpost
  obtain ⟨rfl, hbwim⟩ := hpost
  have bwwim := Lib.hid (bTr bwwt4x.out hbwim)
  have bwt3wim := Lib.hid (bTr bwt3wt4x.out hbwim)
  have bwt4wim := Lib.hid (bTr rwt4x.out hbwim)
  have P0wim := Lib.hid (P0wt4x.out.below hbwim)
  have P1wim := Lib.hid (P1wt4x.out.below hbwim)
  have P2wim := Lib.hid (P2wt4x.out.below hbwim)
  have P3wim := Lib.hid (X4.out.below hbwim)
  clear hbwim
  rw [← R.out]
  obtain ⟨q77, q78, q79, q80, q81⟩ := P0wim.out.c5
  obtain ⟨q82, q83, q84⟩ := P1wim.out.c3
  obtain ⟨q85, q86, q87, q88, q89⟩ := P2wim.out.c5
  obtain ⟨q90, q91, q92⟩ := P3wim.out.c3
  go_wp2_with fail
  go_region_held3 (fun u => u.cell? ⟨w.heap.size, 0, none⟩ = some (.int .i64 v.kind) ∧ u.cell? ⟨w.heap.size, 1, none⟩ = some (.int .i64 v.n) ∧ u.cell? ⟨w.heap.size, 2, none⟩ = some (.int .i64 v.x) ∧ u.cell? ⟨w.heap.size, 3, none⟩ = some (.string v.s) ∧ u.cell? ⟨w.heap.size, 4, none⟩ = some (.slice A0 v.l.length c0) ∧ u.cell? ⟨w.heap.size + 1, 0, none⟩ = some (.slice A1 o.b.length c1) ∧ u.cell? ⟨w.heap.size + 1, 1, none⟩ = some (.slice A1' o.l.length c1') ∧ u.cell? ⟨w.heap.size + 1, 2, none⟩ = some (.int .i64 o.code) ∧ u.cell? ⟨wt3.heap.size, 0, none⟩ = some (.int .i64 v.kind) ∧ u.cell? ⟨wt3.heap.size, 1, none⟩ = some (.int .i64 v.n) ∧ u.cell? ⟨wt3.heap.size, 2, none⟩ = some (.int .i64 v.x) ∧ u.cell? ⟨wt3.heap.size, 3, none⟩ = some (.string v.s) ∧ u.cell? ⟨wt3.heap.size, 4, none⟩ = some (.slice B3 v.l.length d3) ∧ u.cell? ⟨wt4.heap.size, 0, none⟩ = some (.slice B4 o.b.length d4) ∧ u.cell? ⟨wt4.heap.size, 1, none⟩ = some (.slice B4' o.l.length d4') ∧ u.cell? ⟨wt4.heap.size, 2, none⟩ = some (.int .i64 o.code)) (go_keep)
    (first
      | (go_at_call 13; refine (toVal_any v A0 c0 _ N0 I0 (H0_0.out.below bwwim.out.drew)).mono ?_; rintro e wt5 ⟨B5, d5, rfl, hs5, hbwt5⟩; have T5 := Lib.hid (hs5.sa); clear hs5; have bwwt5 := Lib.hid (bTr bwwim.out.drew hbwt5); have bwt3wt5 := Lib.hid (bTr bwt3wim.out.drew hbwt5); have bwt4wt5 := Lib.hid (bTr bwt4wim.out.drew hbwt5); have P0wt5 := Lib.hid (P0wim.out.drew.below hbwt5); have P1wt5 := Lib.hid (P1wim.out.drew.below hbwt5); have P2wt5 := Lib.hid (P2wim.out.drew.below hbwt5); have P3wt5 := Lib.hid (P3wim.out.drew.below hbwt5); clear hbwt5; obtain ⟨q93, q94, q95, q96, q97⟩ := P0wt5.out.c5; obtain ⟨q98, q99, q100⟩ := P1wt5.out.c3; obtain ⟨q101, q102, q103, q104, q105⟩ := P2wt5.out.c5; obtain ⟨q106, q107, q108⟩ := P3wt5.out.c3; have rwt5 := Lib.hid (bRf wt5))
      | (go_at_call 16; refine (eqVal_any v v B3 B5 d3 d5 _ (T3.out.below bwt3wt5.out) (T5.out.below rwt5.out)).mono ?_; rintro e we0 ⟨rfl, hbwe0⟩; have bwwe0 := Lib.hid (bTr bwwt5.out hbwe0); have bwt3we0 := Lib.hid (bTr bwt3wt5.out hbwe0); have bwt4we0 := Lib.hid (bTr bwt4wt5.out hbwe0); have bwt5we0 := Lib.hid (bTr rwt5.out hbwe0); have P0we0 := Lib.hid (P0wt5.out.below hbwe0); have P1we0 := Lib.hid (P1wt5.out.below hbwe0); have P2we0 := Lib.hid (P2wt5.out.below hbwe0); have P3we0 := Lib.hid (P3wt5.out.below hbwe0); clear hbwe0; obtain ⟨q109, q110, q111, q112, q113⟩ := P0we0.out.c5; obtain ⟨q114, q115, q116⟩ := P1we0.out.c3; obtain ⟨q117, q118, q119, q120, q121⟩ := P2we0.out.c5; obtain ⟨q122, q123, q124⟩ := P3we0.out.c3; rw [decide_eq_true rfl]))
  go_wp2_with fail
  go_region_held3 (fun u => u.cell? ⟨w.heap.size, 0, none⟩ = some (.int .i64 v.kind) ∧ u.cell? ⟨w.heap.size, 1, none⟩ = some (.int .i64 v.n) ∧ u.cell? ⟨w.heap.size, 2, none⟩ = some (.int .i64 v.x) ∧ u.cell? ⟨w.heap.size, 3, none⟩ = some (.string v.s) ∧ u.cell? ⟨w.heap.size, 4, none⟩ = some (.slice A0 v.l.length c0) ∧ u.cell? ⟨w.heap.size + 1, 0, none⟩ = some (.slice A1 o.b.length c1) ∧ u.cell? ⟨w.heap.size + 1, 1, none⟩ = some (.slice A1' o.l.length c1') ∧ u.cell? ⟨w.heap.size + 1, 2, none⟩ = some (.int .i64 o.code) ∧ u.cell? ⟨wt3.heap.size, 0, none⟩ = some (.int .i64 v.kind) ∧ u.cell? ⟨wt3.heap.size, 1, none⟩ = some (.int .i64 v.n) ∧ u.cell? ⟨wt3.heap.size, 2, none⟩ = some (.int .i64 v.x) ∧ u.cell? ⟨wt3.heap.size, 3, none⟩ = some (.string v.s) ∧ u.cell? ⟨wt3.heap.size, 4, none⟩ = some (.slice B3 v.l.length d3) ∧ u.cell? ⟨wt4.heap.size, 0, none⟩ = some (.slice B4 o.b.length d4) ∧ u.cell? ⟨wt4.heap.size, 1, none⟩ = some (.slice B4' o.l.length d4') ∧ u.cell? ⟨wt4.heap.size, 2, none⟩ = some (.int .i64 o.code)) (go_keep)
    (first
      | (go_at_call 14; refine (toOut_any o A1 A1' c1 c1' _ N1 I1 (H1_0.out.below bwwe0.out.drew) (H1_1.out.below bwwe0.out.drew)).mono ?_; rintro e wt6 ⟨B6, d6, B6', d6', rfl, hs6, hbwt6⟩; have T6 := Lib.hid (hs6.outSA); clear hs6; have bwwt6 := Lib.hid (bTr bwwe0.out.drew hbwt6); have bwt3wt6 := Lib.hid (bTr bwt3we0.out.drew hbwt6); have bwt4wt6 := Lib.hid (bTr bwt4we0.out.drew hbwt6); have P0wt6 := Lib.hid (P0we0.out.drew.below hbwt6); have P1wt6 := Lib.hid (P1we0.out.drew.below hbwt6); have P2wt6 := Lib.hid (P2we0.out.drew.below hbwt6); have P3wt6 := Lib.hid (P3we0.out.drew.below hbwt6); clear hbwt6; obtain ⟨q125, q126, q127, q128, q129⟩ := P0wt6.out.c5; obtain ⟨q130, q131, q132⟩ := P1wt6.out.c3; obtain ⟨q133, q134, q135, q136, q137⟩ := P2wt6.out.c5; obtain ⟨q138, q139, q140⟩ := P3wt6.out.c3; have rwt6 := Lib.hid (bRf wt6))
      | (go_at_call 17; refine (eqOut_any o o B4 B4' B6 B6' d4 d4' d6 d6' _ (T4.out.1.below bwt4wt6.out) (T4.out.2.1.below bwt4wt6.out) (T6.out.1.below rwt6.out) (T6.out.2.1.below rwt6.out)).mono ?_; rintro e we1 ⟨rfl, hbwe1⟩; have bwwe1 := Lib.hid (bTr bwwt6.out hbwe1); have bwt3we1 := Lib.hid (bTr bwt3wt6.out hbwe1); have bwt4we1 := Lib.hid (bTr bwt4wt6.out hbwe1); have bwt6we1 := Lib.hid (bTr rwt6.out hbwe1); have P0we1 := Lib.hid (P0wt6.out.below hbwe1); have P1we1 := Lib.hid (P1wt6.out.below hbwe1); have P2we1 := Lib.hid (P2wt6.out.below hbwe1); have P3we1 := Lib.hid (P3wt6.out.below hbwe1); clear hbwe1; obtain ⟨q141, q142, q143, q144, q145⟩ := P0we1.out.c5; obtain ⟨q146, q147, q148⟩ := P1we1.out.c3; obtain ⟨q149, q150, q151, q152, q153⟩ := P2we1.out.c5; obtain ⟨q154, q155, q156⟩ := P3we1.out.c3; rw [decide_eq_true rfl]))
  go_wp2_with fail
  go_ret
  exact ⟨rfl, bwwe1.out⟩


theorem fnExactOutText_gTab : Tryd.prog.globalNamed (Rows.fnExactOutTextRow.named.headD "") = some 0 := by kernel_rfl
theorem fnExactOutText_met (os : Os) (args : Array Value) : laidMetH Tryd.prog Rows.fnExactOutTextRow.laid ((World.doorLaid Tryd.prog 24 os).forCall (fun _ _ => 0) ⟨#[], args, []⟩).memory :=
  laidMetH_of_parts3 (fuel := 8) (laidMet_of_run' 8 (by kernel_rfl) (by kernel_rfl)) (by kernel_rfl) (by kernel_rfl)
theorem fnExactOutText_tab {W : World} (h : laidMetH Tryd.prog Rows.fnExactOutTextRow.laid W) : Tab W := by
  rw [MakeChecks.laidMetH_plain _ _ _ (by kernel_rfl)] at h
  have h2 := h.tail.tail
  exact Lib.tabIs_of_head fnExactOutText_gTab (show _ = some 115 by kernel_rfl) Tryd.underlying115 Tryd.underlying105 (by kernel_rfl) (by kernel_rfl) h2

theorem fnExactOutText_lifted (os : Os) (started : os.Started) (H : Type) (enc : TypeId × Value → H) :
    ReturnsInHanded {} Tryd.checked os 4 .any (fun w args => (Rows.fnExactOutTextSpec.pre enc Tryd.prog Tryd.f4 [] false w args ∧ laidMetH Tryd.prog Rows.fnExactOutTextRow.laid w) ∧ sizedMet enc Tryd.prog Tryd.f4 (OpenSpec.ofChange Rows.fnExactOutTextSpec) false w args) (Rows.fnExactOutTextSpec.post enc Tryd.prog Tryd.f4 false true false false) := by
  refine returnsInHanded_of_change_and (C := Tryd.checked) (X := fun w _ => laidMetH Tryd.prog Rows.fnExactOutTextRow.laid w) (fun _ _ _ hh h => h.of_heap hh) lawOwn started (by kernel_rfl) Tryd.func4
    (ChangeSpec.witness_shaped (enc := enc) (C := Tryd.checked) (os := os) (X := fun w _ => laidMetH Tryd.prog Rows.fnExactOutTextRow.laid w) false (World.doorLaid Tryd.prog 24 os) #[.agg #[.int .i64 0, .int .i64 0, .int .i64 0, .string .empty, .slice none 0 0], .agg #[.slice none 0 0, .slice none 0 0, .int .i64 0]] 8 rfl (World.shaped_of_RefB (by kernel_rfl) (by kernel_rfl)) (by kernel_rfl) (by kernel_rfl) (by kernel_rfl) (fnExactOutText_met os _)) ?_
  intro W base args ds gs before hval0 hW _ _ hL _
  have hval : ∀ (j : Nat) t v, Tryd.f4.params[j]? = some t → args[j]? = some v → Value.okWide Tryd.prog W .any base t v := hval0
  have hW' := hW
  obtain ⟨p, q, hA0, hV, rfl, hfz, hnd⟩ := hW
  have hA : DataW.TrodAll enc Tryd.prog W 0 (fun _ => true) true Tryd.f4.params.toList args.toList ds p := hA0
  rw [Tryd.params4] at hA hval
  obtain ⟨v0, vs0, d0, ds0, p0, q0, hargs, rfl, rfl, ⟨n0, h0⟩, r0⟩ := trodAll_cons hA
  obtain ⟨v1, vs1, d1, ds1, p1, q1, rfl, rfl, rfl, ⟨n1, h1⟩, r1⟩ := trodAll_cons r0
  obtain ⟨rfl, rfl, rfl⟩ := trodAll_nil r1
  obtain rfl : args = #[v0, v1] := by cases args; simp_all
  obtain ⟨rfl, rfl⟩ := trodVars_none hV
  obtain ⟨cs0, rfl, _⟩ := okWide_struct Tryd.underlying31 (hval 0 _ v0 rfl rfl)
  obtain ⟨x0, hx0⟩ := opensVal H enc W n0 _ _ h0
  obtain ⟨A0, c0, e0, s0, I0⟩ := hx0.valSA
  obtain ⟨cs0⟩ := cs0
  simp only [Value.cells] at e0
  subst e0
  obtain ⟨cs1, rfl, _⟩ := okWide_struct Tryd.underlying35 (hval 1 _ v1 rfl rfl)
  obtain ⟨x1, hx1⟩ := opensOut H enc W n1 _ _ h1
  obtain ⟨A1, c1, A1', c1', e1, s1, s1', I1⟩ := hx1.outSA
  obtain ⟨cs1⟩ := cs1
  simp only [Value.cells] at e1
  subst e1
  clear hA0 hval0
  refine (fnExactOutText_walk x0 _ _ x1 _ _ _ _ W s0 I0 s1 s1' I1 (fnExactOutText_tab hL)).mono fun e W' ⟨he, hb⟩ => ?_
  subst he
  exact ⟨_, rfl, law_post rfl (by kernel_rfl) Tryd.underlying4 lawLaid (by kernel_rfl) rfl hW' hb⟩

theorem fnExactOutText_holds : Rows.FnExactOutTextSaid :=
  OpenClaim.holds_of_wide 4 Tryd.f4 rfl rfl rfl rfl rfl rfl rfl ⟨rfl, rfl, rfl, rfl, rfl⟩ rfl rfl rfl rfl rfl (by kernel_rfl) Tryd.func4 (by kernel_rfl)
    (of_decide_eq_true (by kernel_rfl)) (by unfold Func.isWrapper; first | (rw [if_pos (by decide +kernel)]; kernel_rfl) | (rw [if_neg (by decide +kernel)]; exact ⟨rfl, rfl⟩))
    (fun os started H enc _ => fnExactOutText_lifted os started H enc)
theorem fnExactOutTextCard_holds : Rows.FnExactOutTextCardSaid :=
  Claim7.holds_tied_plain_at .later [] [.data, .data, .data] true (true, "eab5b78f00f343b2c98cb9978e9c6f936d6d4b66eda5b26c81dae2dd05567f3c") false
    fnExactOutText_holds (fun _ h => by cases h) (by kernel_rfl) (fun _ h => by cases h) fnExactOutText_row_tie rfl ⟨rfl, rfl⟩ (by kernel_rfl) rfl
    (fun f fn hf hfn => by
      obtain rfl : f = 4 := Option.some.inj ((show Tryd.prog.funcNamed Rows.fnExactOutTextRow.func = some 4 by kernel_rfl).symm.trans hf) |>.symm
      obtain rfl : fn = Tryd.f4 := (Option.some.inj (Tryd.func4.symm.trans hfn)).symm
      exact ⟨by kernel_rfl, fun j t ht => by
        rw [Tryd.params4] at ht
        have hm : t ∈ [31, 35] := by simpa using Array.mem_of_getElem? ht
        have hall : ([31, 35].all fun u => !Tryd.prog.wantsStandIn u) = true := by kernel_rfl
        exact (show Tryd.prog.wantsStandIn t = false by simpa using List.all_eq_true.1 hall t hm)⟩)
    (by kernel_rfl)
end Go.Proofs.YtblcmajhdndmfaaDoor
