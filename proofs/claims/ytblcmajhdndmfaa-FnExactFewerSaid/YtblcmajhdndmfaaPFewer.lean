/- Proved: for all arguments the program's Fewer returns what the reference's returns, in memory of its own, and leaves its arguments as they were. No conditions. -/
import Derived.Test.YtblcmajhdndmfaaFewer2
import Derived.Test.YtblcmajhdndmfaaFewer3
import Derived.Test.YtblcmajhdndmfaaBends3
import Derived.Test.YtblcmajhdndmfaaHeldC
import Derived.Test.YtblcmajhdndmfaaTypes
import Derived.Deep.RegionHeld3
namespace Go.Proofs.Ytblcmajhdndmfaa
open Go.ChangeShapes Go.WideShapes Go.ChangeAt Go.RowKit
set_option linter.unusedVariables false
set_option maxRecDepth 100000

set_option maxHeartbeats 2000000 in
theorem fnExactFewer_walk (o : GOut) (A0 A0' : Option Addr) (c0 c0' : Nat) (i : Int) (w : World) (h0_0 : SA w o.b A0 c0) (h0_1 : SA w o.l A0' c0') (I0 : I64 o.code) (I1 : I64 i) :
    Calls Try.prog 7 #[.agg #[.slice A0 o.b.length c0, .slice A0' o.l.length c0', .int .i64 o.code], .int .i64 i] w (Ret w (.bool true)) := by
  have b0 := Lib.hid (bAl (bRf w) (.cells #[.slice A0 o.b.length c0, .slice A0' o.l.length c0', .int .i64 o.code] 25))
  have P0 := Lib.hid (Blk.new w 25 #[.slice A0 o.b.length c0, .slice A0' o.l.length c0', .int .i64 o.code])
  have H := Lib.hid (And.intro h0_0 h0_1); clear h0_0 h0_1
  obtain ⟨r, hr⟩ : ∃ r, r = fewerO o i := ⟨_, rfl⟩
  have hrb : bulkOut r ≤ bulkOut o := by rw [hr]; exact fewerO_bulk _ _
  have R := Lib.hid hr; clear hr
  go_enter Try.func7, Try.ntmps7
  obtain ⟨zP00, zP01, zP02⟩ := P0.out.c3
  go_wp2_with fail
  refine (szOut_any o A0 A0' c0 c0' 1048576 _ (by omega) (by omega) (H.out.1.below b0.out) (H.out.2.below b0.out)).mono ?_
  clear zP00 zP01 zP02
  rintro e w1 ⟨rfl, hb⟩
  have b1 := Lib.hid (bTr b0.out hb)
  have Q1 := Lib.hid (P0.out.below hb); clear hb
  rcases lft_cases (left := 1048576) (k := bulkOut o) (by omega) with L | ⟨l0, L, llo, lhi, lk⟩
  · rw [L]
    clear L
    go_wp2_with fail
    go_ret
    exact ⟨rfl, b1.out⟩
  rw [L]
  clear L
  have N0 : bulkOut o ≤ 1048576 := by omega
  have N1 : bulkOut r ≤ 1048576 := by omega
  have K0 := cntO_le o
  have K1 := cntO_le r
  have L0 := lenO_le o
  have L1 := lenO_le r
  obtain ⟨zQ10, zQ11, zQ12⟩ := Q1.out.c3
  go_wp2_with fail
  refine (toOut_any o A0 A0' c0 c0' _ N0 I0 (H.out.1.below b1.out) (H.out.2.below b1.out)).mono ?_
  clear zQ10 zQ11 zQ12
  rintro e w2 ⟨B1, d1, B2, d2, rfl, hs, hb⟩
  have b2 := Lib.hid (bTr b1.out hb)
  have Q2 := Lib.hid (Q1.out.below hb); clear hb
  have T := Lib.hid hs.outSA; clear hs
  obtain ⟨zQ20, zQ21, zQ22⟩ := Q2.out.c3
  go_wp2_with fail
  have hsp := specFewer_any o i B1 B2 d1 d2 w2 N0 I1 T.out.1 T.out.2.1
  rw [← R.out] at hsp
  refine hsp.mono ?_
  clear zQ20 zQ21 zQ22
  clear hsp
  rintro e w3 ⟨C1, k1, C2, k2, rfl, sb, sl, hb⟩
  have b3 := Lib.hid (bAl (bTr b2.out hb) (.cells #[.slice C1 r.b.length k1, .slice C2 r.l.length k2, .int .i64 r.code] 30))
  have Q3 := Lib.hid ((Q2.out.below hb).alloc (.cells #[.slice C1 r.b.length k1, .slice C2 r.l.length k2, .int .i64 r.code] 30))
  have P8 := Lib.hid (Blk.new w3 30 #[.slice C1 r.b.length k1, .slice C2 r.l.length k2, .int .i64 r.code])
  have hw3 : w.heap.size < w3.heap.size := (Q2.out.below hb).lt
  clear hb
  have S0 := Lib.hid (show SS (w3.alloc (.cells #[.slice C1 r.b.length k1, .slice C2 r.l.length k2, .int .i64 r.code] 30)) (fun b => b < w3.heap.size) r.b C1 k1 ∧ SS (w3.alloc (.cells #[.slice C1 r.b.length k1, .slice C2 r.l.length k2, .int .i64 r.code] 30)) (fun b => b < w3.heap.size) r.l C2 k2 from ⟨SS.keep sb (fun b h => (bAl (bRf w3) _).block b h) (fun b h => h), SS.keep sl (fun b h => (bAl (bRf w3) _).block b h) (fun b h => h)⟩); clear sb sl
  obtain ⟨zQ30, zQ31, zQ32⟩ := Q3.out.c3
  obtain ⟨zP80, zP81, zP82⟩ := P8.out.c3
  go_wp2_with fail
  refine (toOut_any o A0 A0' c0 c0' _ N0 I0 (H.out.1.below b3.out) (H.out.2.below b3.out)).mono ?_
  clear zQ30 zQ31 zQ32 zP80 zP81 zP82
  rintro e w4 ⟨D1, e1, D2, e2, rfl, hs, hb⟩
  obtain ⟨F1, F2, x1, x2, x3⟩ := hs.outSF
  have hw4 : w3.heap.size + 1 ≤ w4.heap.size := by have := hb.size; simp at this; omega
  have X4 := Lib.hid (And.intro x1 (And.intro x2 (show Fresh (w3.heap.size + 1) w4 (F1 ++ F2) from x3.mono (by simp)))); clear x1 x2 x3 hs
  have XR := Lib.hid (show ∀ b, b ∈ F1 ++ F2 → w3.heap.size + 1 ≤ b ∧ b < w4.heap.size from fun b hb => ⟨(X4.out.2.2.2 b hb).1, (X4.out.2.2.2 b hb).2.lt⟩)
  have b4 := Lib.hid (bAl (bTr b3.out hb) (.cells #[.slice D1 o.b.length e1, .slice D2 o.l.length e2, .int .i64 o.code] 30))
  have Q4 := Lib.hid ((Q3.out.below hb).alloc (.cells #[.slice D1 o.b.length e1, .slice D2 o.l.length e2, .int .i64 o.code] 30))
  have R4 := Lib.hid ((P8.out.below hb).alloc (.cells #[.slice D1 o.b.length e1, .slice D2 o.l.length e2, .int .i64 o.code] 30))
  have P9 := Lib.hid (Blk.new w4 30 #[.slice D1 o.b.length e1, .slice D2 o.l.length e2, .int .i64 o.code])
  have U4 := Lib.hid (bTr (bRf (w3.alloc (.cells #[.slice C1 r.b.length k1, .slice C2 r.l.length k2, .int .i64 r.code] 30))) hb)
  clear hb
  have XS := Lib.hid (show SA (w4.alloc (.cells #[.slice D1 o.b.length e1, .slice D2 o.l.length e2, .int .i64 o.code] 30)) o.b D1 e1 ∧ SA (w4.alloc (.cells #[.slice D1 o.b.length e1, .slice D2 o.l.length e2, .int .i64 o.code] 30)) o.l D2 e2 from ⟨SA.below ⟨F1, X4.out.1, fun b hb => (XR.out b (List.mem_append_left _ hb)).2⟩ (bAl (bRf w4) _), SA.below ⟨F2, X4.out.2.1, fun b hb => (XR.out b (List.mem_append_right _ hb)).2⟩ (bAl (bRf w4) _)⟩)
  obtain ⟨zQ40, zQ41, zQ42⟩ := Q4.out.c3
  obtain ⟨zR40, zR41, zR42⟩ := R4.out.c3
  obtain ⟨zP90, zP91, zP92⟩ := P9.out.c3
  go_wp2_with fail
  have him := implFewer_any o i D1 D2 e1 e2 (w4.alloc (.cells #[.slice D1 o.b.length e1, .slice D2 o.l.length e2, .int .i64 o.code] 30)) N0 I1 XS.out.1 XS.out.2
  rw [← R.out] at him
  refine him.mono ?_
  clear zQ40 zQ41 zQ42 zR40 zR41 zR42 zP90 zP91 zP92
  clear him
  rintro e w5 ⟨G1, j1, G2, j2, rfl, ⟨F3, F4, y1, y2, y3⟩, hb⟩
  have hw5 : w4.heap.size + 1 ≤ w5.heap.size := by have := hb.size; simp at this; omega
  have Y5 := Lib.hid (And.intro y1 (And.intro y2 (show Fresh (w4.heap.size + 1) w5 (F3 ++ F4) from y3.mono (by simp)))); clear y1 y2 y3
  have YR := Lib.hid (show ∀ b, b ∈ F3 ++ F4 → w4.heap.size + 1 ≤ b ∧ b < w5.heap.size from fun b hb => ⟨(Y5.out.2.2.2 b hb).1, (Y5.out.2.2.2 b hb).2.lt⟩)
  have b5 := Lib.hid (bAl (bTr b4.out hb) (.cells #[.slice G1 r.b.length j1, .slice G2 r.l.length j2, .int .i64 r.code] 30))
  have Q5 := Lib.hid ((Q4.out.below hb).alloc (.cells #[.slice G1 r.b.length j1, .slice G2 r.l.length j2, .int .i64 r.code] 30))
  have R5 := Lib.hid ((R4.out.below hb).alloc (.cells #[.slice G1 r.b.length j1, .slice G2 r.l.length j2, .int .i64 r.code] 30))
  have S5 := Lib.hid ((P9.out.below hb).alloc (.cells #[.slice G1 r.b.length j1, .slice G2 r.l.length j2, .int .i64 r.code] 30))
  have P10 := Lib.hid (Blk.new w5 30 #[.slice G1 r.b.length j1, .slice G2 r.l.length j2, .int .i64 r.code])
  have U5 := Lib.hid (show Below w4.heap.size w4 (w5.alloc (.cells #[.slice G1 r.b.length j1, .slice G2 r.l.length j2, .int .i64 r.code] 30)) from bAl (bTr (bAl (bRf w4) _) hb) _)
  clear hb
  have SW := Lib.hid (show SS (w5.alloc (.cells #[.slice G1 r.b.length j1, .slice G2 r.l.length j2, .int .i64 r.code] 30)) (fun b => b < w3.heap.size) r.b C1 k1 ∧ SS (w5.alloc (.cells #[.slice G1 r.b.length j1, .slice G2 r.l.length j2, .int .i64 r.code] 30)) (fun b => b < w3.heap.size) r.l C2 k2 from ⟨SS.keep S0.out.1 (fun b h => (U5.out.block b (by omega)).trans (U4.out.block b (by simp; omega))) (fun b h => h), SS.keep S0.out.2 (fun b h => (U5.out.block b (by omega)).trans (U4.out.block b (by simp; omega))) (fun b h => h)⟩)
  have XW := Lib.hid (show SlR (w5.alloc (.cells #[.slice G1 r.b.length j1, .slice G2 r.l.length j2, .int .i64 r.code] 30)) F1 o.b D1 e1 ∧ SlR (w5.alloc (.cells #[.slice G1 r.b.length j1, .slice G2 r.l.length j2, .int .i64 r.code] 30)) F2 o.l D2 e2 ∧ Fresh (w3.heap.size + 1) (w5.alloc (.cells #[.slice G1 r.b.length j1, .slice G2 r.l.length j2, .int .i64 r.code] 30)) (F1 ++ F2) from ⟨X4.out.1.keep fun b hb => U5.out.block b (XR.out b (List.mem_append_left _ hb)).2, X4.out.2.1.keep fun b hb => U5.out.block b (XR.out b (List.mem_append_right _ hb)).2, X4.out.2.2.keep fun b hb => U5.out.block b (XR.out b hb).2⟩)
  have YW := Lib.hid (show SlR (w5.alloc (.cells #[.slice G1 r.b.length j1, .slice G2 r.l.length j2, .int .i64 r.code] 30)) F3 r.b G1 j1 ∧ SlR (w5.alloc (.cells #[.slice G1 r.b.length j1, .slice G2 r.l.length j2, .int .i64 r.code] 30)) F4 r.l G2 j2 ∧ Fresh (w4.heap.size + 1) (w5.alloc (.cells #[.slice G1 r.b.length j1, .slice G2 r.l.length j2, .int .i64 r.code] 30)) (F3 ++ F4) from ⟨Y5.out.1.keep fun b hb => (bAl (bRf w5) _).block b (YR.out b (List.mem_append_left _ hb)).2, Y5.out.2.1.keep fun b hb => (bAl (bRf w5) _).block b (YR.out b (List.mem_append_right _ hb)).2, Y5.out.2.2.keep fun b hb => (bAl (bRf w5) _).block b (YR.out b hb).2⟩)
  have hW5 : w5.heap.size < (w5.alloc (.cells #[.slice G1 r.b.length j1, .slice G2 r.l.length j2, .int .i64 r.code] 30)).heap.size := by simp
  obtain ⟨zQ50, zQ51, zQ52⟩ := Q5.out.c3
  obtain ⟨zR50, zR51, zR52⟩ := R5.out.c3
  obtain ⟨zS50, zS51, zS52⟩ := S5.out.c3
  obtain ⟨zP100, zP101, zP102⟩ := P10.out.c3
  go_wp2_with fail
  refine (eqOut_any r r G1 G2 C1 C2 j1 j2 k1 k2 _ (SA.below ⟨_, YW.out.1, fun b hb => by have := (YR.out b (List.mem_append_left _ hb)).2; simp; omega⟩ (bRf _)) (SA.below ⟨_, YW.out.2.1, fun b hb => by have := (YR.out b (List.mem_append_right _ hb)).2; simp; omega⟩ (bRf _)) (SA.below (SS.keep SW.out.1 (fun _ _ => rfl) (fun b h => by have := h; simp; omega)) (bRf _)) (SA.below (SS.keep SW.out.2 (fun _ _ => rfl) (fun b h => by have := h; simp; omega)) (bRf _))).mono ?_
  clear zQ50 zQ51 zQ52 zR50 zR51 zR52 zS50 zS51 zS52 zP100 zP101 zP102
  rintro e w6 ⟨rfl, hb⟩
  have U6 := Lib.hid hb; clear hb
  rw [decide_eq_true rfl]
  have b6 := Lib.hid (bTr b5.out U6.out)
  have Q6 := Lib.hid (Q5.out.below U6.out)
  have R6 := Lib.hid (R5.out.below U6.out)
  have S6 := Lib.hid (S5.out.below U6.out)
  have T6 := Lib.hid (P10.out.below U6.out)
  obtain ⟨zQ60, zQ61, zQ62⟩ := Q6.out.c3
  obtain ⟨zR60, zR61, zR62⟩ := R6.out.c3
  obtain ⟨zS60, zS61, zS62⟩ := S6.out.c3
  obtain ⟨zT60, zT61, zT62⟩ := T6.out.c3
  go_wp2_with fail
  go_region_held3 (fun u => u.cell? ⟨w.heap.size, 0, none⟩ = some (.slice A0 o.b.length c0) ∧ u.cell? ⟨w.heap.size, 1, none⟩ = some (.slice A0' o.l.length c0') ∧ u.cell? ⟨w.heap.size, 2, none⟩ = some (.int .i64 o.code) ∧ u.cell? ⟨w4.heap.size, 0, none⟩ = some (.slice D1 o.b.length e1) ∧ u.cell? ⟨w4.heap.size, 1, none⟩ = some (.slice D2 o.l.length e2) ∧ u.cell? ⟨w4.heap.size, 2, none⟩ = some (.int .i64 o.code)) (go_keep)
    (first
      | (go_at_call 13; (refine (toOut_any o A0 A0' c0 c0' _ N0 I0 (H.out.1.below b6.out.drew) (H.out.2.below b6.out.drew)).mono ?_; rintro e w7 ⟨E1, f1, E2, f2, rfl, hs, hb⟩; have T7 := Lib.hid hs.outSA; have U7 := Lib.hid (bTr U6.out.drew hb); have Q7 := Lib.hid (Q5.out.below U7.out); have S7 := Lib.hid (S5.out.below U7.out); obtain ⟨zz0, zz1, zz2⟩ := Q7.out.c3; obtain ⟨zy0, zy1, zy2⟩ := S7.out.c3; clear hs hb))
      | (go_at_call 15; (refine (eqOut_any o o D1 D2 E1 E2 e1 e2 f1 f2 _ (SA.below ⟨_, XW.out.1, fun b hb => by have := (XR.out b (List.mem_append_left _ hb)).2; simp; omega⟩ U7.out) (SA.below ⟨_, XW.out.2.1, fun b hb => by have := (XR.out b (List.mem_append_right _ hb)).2; simp; omega⟩ U7.out) T7.out.1 T7.out.2.1).mono ?_; rintro e w8 ⟨rfl, hb⟩; rw [decide_eq_true rfl]; have U8 := Lib.hid (bTr U7.out hb); have Q8 := Lib.hid (Q5.out.below U8.out); have R8 := Lib.hid (R5.out.below U8.out); have S8 := Lib.hid (S5.out.below U8.out); have T8 := Lib.hid (P10.out.below U8.out); obtain ⟨zx0, zx1, zx2⟩ := Q8.out.c3; obtain ⟨zv0, zv1, zv2⟩ := S8.out.c3; clear hb)))
  clear zQ60 zQ61 zQ62 zR60 zR61 zR62 zS60 zS61 zS62 zT60 zT61 zT62
  go_wp2_with fail
  refine (markOut_any o 1 F1 F2 D1 D2 e1 e2 (w3.heap.size + 1) w8 (by omega) (by omega) (by omega) (XW.out.1.keep fun b hb => U8.out.block b (by have := (XR.out b (List.mem_append_left _ hb)).2; simp; omega)) (XW.out.2.1.keep fun b hb => U8.out.block b (by have := (XR.out b (List.mem_append_right _ hb)).2; simp; omega)) (XW.out.2.2.keep fun b hb => U8.out.block b (by have := (XR.out b hb).2; simp; omega))).mono ?_
  rintro e w9 ⟨rfl, _, _, _, hk⟩
  have KX := Lib.hid (show ∀ b, b < w5.heap.size + 1 → b ∉ F1 ++ F2 → w9.heap[b]? = (w5.alloc (.cells #[.slice G1 r.b.length j1, .slice G2 r.l.length j2, .int .i64 r.code] 30)).heap[b]? from fun b h1 h2 => (hk.2.2.2.2 b (by have := U8.out.size; simp at this; omega) h2).trans (U8.out.block b (by simp; omega)))
  have hz9 : w5.heap.size + 1 ≤ w9.heap.size := by have := U8.out.size; have := hk.2.2.2.1; simp at *; omega
  have b9 := Lib.hid ((bTr b5.out U8.out).trans (hk.below (by have := U8.out.size; simp at this; omega) (fun b hb => by have := (XR.out b hb).1; omega)))
  clear hk zx0 zx1 zx2 zv0 zv1 zv2
  have Q9 := Lib.hid ((KX.out w.heap.size (by omega) (fun hm => by have := XR.out _ hm; omega)).trans Q5.out)
  have R9 := Lib.hid ((KX.out w3.heap.size (by omega) (fun hm => by have := XR.out _ hm; omega)).trans R5.out)
  have T9 := Lib.hid ((KX.out w5.heap.size (by omega) (fun hm => by have := XR.out _ hm; omega)).trans P10.out)
  have hn9 : decide ((1 : Int) + cntO o < 0) = false := decide_eq_false (by omega)
  obtain ⟨zQ90, zQ91, zQ92⟩ := Blk.c3 Q9.out
  obtain ⟨zR90, zR91, zR92⟩ := Blk.c3 R9.out
  obtain ⟨zT90, zT91, zT92⟩ := Blk.c3 T9.out
  go_wp2_with fail
  have G9 := Lib.hid (show SlR w9 F3 r.b G1 j1 ∧ SlR w9 F4 r.l G2 j2 ∧ Fresh (w4.heap.size + 1) w9 (F3 ++ F4) from ⟨(YW.out.1.keep fun b hb => KX.out b (by have := (YR.out b (List.mem_append_left _ hb)).2; omega) (fun hm => by have := (XR.out b hm).2; have := (YR.out b (List.mem_append_left _ hb)).1; omega)), (YW.out.2.1.keep fun b hb => KX.out b (by have := (YR.out b (List.mem_append_right _ hb)).2; omega) (fun hm => by have := (XR.out b hm).2; have := (YR.out b (List.mem_append_right _ hb)).1; omega)), (YW.out.2.2.keep fun b hb => KX.out b (by have := (YR.out b hb).2; omega) (fun hm => by have := (XR.out b hm).2; have := (YR.out b hb).1; omega))⟩)
  have W9 := Lib.hid (show SS w9 (fun b => b < w3.heap.size) r.b C1 k1 ∧ SS w9 (fun b => b < w3.heap.size) r.l C2 k2 from ⟨SS.keep SW.out.1 (fun b h => KX.out b (by omega) (fun hm => by have := (XR.out b hm).1; omega)) (fun b h => h), SS.keep SW.out.2 (fun b h => KX.out b (by omega) (fun hm => by have := (XR.out b hm).1; omega)) (fun b h => h)⟩)
  refine (eqOut_any r r G1 G2 C1 C2 j1 j2 k1 k2 w9 ⟨_, G9.out.1, fun b hb => (G9.out.2.2.2 b (List.mem_append_left _ hb)).2.lt⟩ ⟨_, G9.out.2.1, fun b hb => (G9.out.2.2.2 b (List.mem_append_right _ hb)).2.lt⟩ (SS.keep W9.out.1 (fun _ _ => rfl) (fun b h => by have := h; omega)) (SS.keep W9.out.2 (fun _ _ => rfl) (fun b h => by have := h; omega))).mono ?_
  clear zQ90 zQ91 zQ92 zR90 zR91 zR92 zT90 zT91 zT92
  rintro e w10 ⟨rfl, hb⟩
  have U10 := Lib.hid hb; clear hb
  rw [decide_eq_true rfl]
  have T10 := Lib.hid (Blk.below T9.out U10.out)
  have hz10 : w5.heap.size + 1 ≤ w10.heap.size := by have := U10.out.size; omega
  obtain ⟨za0, za1, za2⟩ := T10.out.c3
  go_wp2_with fail
  refine (markOut_any r 1 F3 F4 G1 G2 j1 j2 (w4.heap.size + 1) w10 (by omega) (by omega) (by omega) (G9.out.1.keep fun b hb => U10.out.block b (by have := (YR.out b (List.mem_append_left _ hb)).2; omega)) (G9.out.2.1.keep fun b hb => U10.out.block b (by have := (YR.out b (List.mem_append_right _ hb)).2; omega)) (G9.out.2.2.keep fun b hb => U10.out.block b (by have := (YR.out b hb).2; omega))).mono ?_
  rintro e w11 ⟨rfl, m1, m2, m3, hk⟩
  have KY := Lib.hid (show ∀ b, b < w5.heap.size + 1 → b ∉ F3 ++ F4 → w11.heap[b]? = w9.heap[b]? from fun b h1 h2 => (hk.2.2.2.2 b (by omega) h2).trans (U10.out.block b (by omega)))
  have hz11 : w5.heap.size + 1 ≤ w11.heap.size := by have := hk.2.2.2.1; omega
  have b11 := Lib.hid ((bTr b9.out U10.out).trans (hk.below (by omega) (fun b hb => by have := (YR.out b hb).1; omega)))
  have M11 := Lib.hid (And.intro m1 (And.intro m2 m3)); clear m1 m2 m3 hk za0 za1 za2
  have Q11 := Lib.hid (show Blk w11 _ _ _ from (KY.out w.heap.size (by omega) (fun hm => by have := YR.out _ hm; omega)).trans Q9.out)
  have R11 := Lib.hid (show Blk w11 _ _ _ from (KY.out w3.heap.size (by omega) (fun hm => by have := YR.out _ hm; omega)).trans R9.out)
  have T11 := Lib.hid (show Blk w11 _ _ _ from (KY.out w5.heap.size (by omega) (fun hm => by have := YR.out _ hm; omega)).trans T9.out)
  have W11 := Lib.hid (show SS w11 (fun b => b < w3.heap.size) r.b C1 k1 ∧ SS w11 (fun b => b < w3.heap.size) r.l C2 k2 from ⟨SS.keep W9.out.1 (fun b h => KY.out b (by omega) (fun hm => by have := (YR.out b hm).1; omega)) (fun b h => h), SS.keep W9.out.2 (fun b h => KY.out b (by omega) (fun hm => by have := (YR.out b hm).1; omega)) (fun b h => h)⟩)
  have M := Lib.hid (show SA w11 (markO 1 r).b G1 j1 ∧ SA w11 (markO 1 r).l G2 j2 from ⟨⟨_, M11.out.1, fun b hb => (M11.out.2.2.2 b (List.mem_append_left _ hb)).2.lt⟩, ⟨_, M11.out.2.1, fun b hb => (M11.out.2.2.2 b (List.mem_append_right _ hb)).2.lt⟩⟩)
  obtain ⟨zT110, zT111, zT112⟩ := T11.out.c3
  go_wp2_with fail
  refine (heldOut_any r 1 G1 G2 j1 j2 w11 (by omega) (by omega) (by omega) M.out.1 M.out.2).mono ?_
  clear zT110 zT111 zT112
  rintro e w12 ⟨rfl, hb⟩
  have U12 := Lib.hid hb; clear hb
  have b12 := Lib.hid (bTr b11.out U12.out)
  have hn12 : decide ((1 : Int) + cntO r < 0) = false := decide_eq_false (by omega)
  have Q12 := Lib.hid (Q11.out.below U12.out)
  obtain ⟨zQ120, zQ121, zQ122⟩ := Q12.out.c3
  go_wp2_with fail
  refine (toOut_any o A0 A0' c0 c0' _ N0 I0 (H.out.1.below b12.out) (H.out.2.below b12.out)).mono ?_
  clear zQ120 zQ121 zQ122
  rintro e w13 ⟨E3, f3, E4, f4, rfl, hs, hb⟩
  have U13 := Lib.hid (bTr U12.out hb); clear hb
  have T13 := Lib.hid hs.outSA; clear hs
  go_wp2_with fail
  have him := implFewer_any o i E3 E4 f3 f4 w13 N0 I1 T13.out.1 T13.out.2.1
  rw [← R.out] at him
  refine him.mono ?_
  clear him
  rintro e w14 ⟨G3, j3, G4, j4, rfl, ⟨F5, F6, y1, y2, y3⟩, hb⟩
  have U14 := Lib.hid (show Below w11.heap.size w11 (w14.alloc (.cells #[.slice G3 r.b.length j3, .slice G4 r.l.length j4, .int .i64 r.code] 30)) from bAl (bTr U13.out hb) _); clear hb
  have Y14 := Lib.hid (show SA (w14.alloc (.cells #[.slice G3 r.b.length j3, .slice G4 r.l.length j4, .int .i64 r.code] 30)) r.b G3 j3 ∧ SA (w14.alloc (.cells #[.slice G3 r.b.length j3, .slice G4 r.l.length j4, .int .i64 r.code] 30)) r.l G4 j4 from ⟨SA.below ⟨F5, y1, fun b hb => (y3.2 b (List.mem_append_left _ hb)).2.lt⟩ (bAl (bRf w14) _), SA.below ⟨F6, y2, fun b hb => (y3.2 b (List.mem_append_right _ hb)).2.lt⟩ (bAl (bRf w14) _)⟩); clear y1 y2 y3
  have R14 := Lib.hid (R11.out.below U14.out)
  have P14 := Lib.hid (Blk.new w14 30 #[.slice G3 r.b.length j3, .slice G4 r.l.length j4, .int .i64 r.code])
  have W14 := Lib.hid (show SA (w14.alloc (.cells #[.slice G3 r.b.length j3, .slice G4 r.l.length j4, .int .i64 r.code] 30)) r.b C1 k1 ∧ SA (w14.alloc (.cells #[.slice G3 r.b.length j3, .slice G4 r.l.length j4, .int .i64 r.code] 30)) r.l C2 k2 from ⟨SA.below (SS.keep W11.out.1 (fun _ _ => rfl) (fun b h => by have := h; omega)) U14.out, SA.below (SS.keep W11.out.2 (fun _ _ => rfl) (fun b h => by have := h; omega)) U14.out⟩)
  obtain ⟨zR140, zR141, zR142⟩ := R14.out.c3
  obtain ⟨zP140, zP141, zP142⟩ := P14.out.c3
  go_wp2_with fail
  refine (eqOut_any r r G3 G4 C1 C2 j3 j4 k1 k2 _ Y14.out.1 Y14.out.2 W14.out.1 W14.out.2).mono ?_
  clear zR140 zR141 zR142 zP140 zP141 zP142
  rintro e w15 ⟨rfl, hb⟩
  have U15 := Lib.hid (bTr U14.out hb); clear hb
  rw [decide_eq_true rfl]
  have T15 := Lib.hid (T11.out.below U15.out)
  obtain ⟨zT150, zT151, zT152⟩ := T15.out.c3
  go_wp2_with fail
  refine (heldOut_any r 1 G1 G2 j1 j2 w15 (by omega) (by omega) (by omega) (M.out.1.below U15.out) (M.out.2.below U15.out)).mono ?_
  clear zT150 zT151 zT152
  rintro e w16 ⟨rfl, hb⟩
  have U16 := Lib.hid (bTr U15.out hb); clear hb
  go_wp2_with fail
  go_ret
  exact ⟨rfl, bTr b11.out U16.out⟩


theorem fnExactFewer_lifted (os : Os) (started : os.Started) (H : Type) (enc : TypeId × Value → H) :
    ReturnsInHanded {} Try.checked os 7 .any (Rows.fnExactFewerSpec.pre6 enc Try.prog Try.f7 Rows.fnExactFewerRow.domain false) (Rows.fnExactFewerSpec.post enc Try.prog Try.f7 false true false false) := by
  refine returnsInHanded_of_change (C := Try.checked) lawOwn started (by kernel_rfl) Try.func7
    (ChangeSpec.witness6 (enc := enc) (C := Try.checked) false ⟨#[], #[.agg #[.slice none 0 0, .slice none 0 0, .int .i64 0], .int .i64 0], []⟩ 8 (by kernel_rfl) (by kernel_rfl) (by kernel_rfl) (by kernel_rfl)) ?_
  intro W base args ds gs before hval0 hW _ _
  have hval : ∀ (j : Nat) t v, Try.f7.params[j]? = some t → args[j]? = some v → Value.okWide Try.prog W .any base t v := hval0
  have hW' := hW
  obtain ⟨p, q, hA0, hV, rfl, hfz, hnd⟩ := hW
  have hA : DataW.TrodAll enc Try.prog W 0 (fun _ => true) true Try.f7.params.toList args.toList ds p := hA0
  rw [Try.params7] at hA hval
  obtain ⟨v0, vs0, d0, ds0, p0, q0, hargs, rfl, rfl, ⟨n0, h0⟩, r0⟩ := trodAll_cons hA
  obtain ⟨v1, vs1, d1, ds1, p1, q1, rfl, rfl, rfl, ⟨n1, h1⟩, r1⟩ := trodAll_cons r0
  obtain ⟨rfl, rfl, rfl⟩ := trodAll_nil r1
  obtain rfl : args = #[v0, v1] := by cases args; simp_all
  obtain ⟨rfl, rfl⟩ := trodVars_none hV
  obtain ⟨cs0, rfl, _⟩ := okWide_struct Try.underlying25 (hval 0 _ v0 rfl rfl)
  obtain ⟨x0, hx0⟩ := opensOut H enc W n0 _ _ h0
  obtain ⟨A0, c0, A0', c0', e0, s0, s0', I0⟩ := hx0.outSA
  obtain ⟨cs0⟩ := cs0
  simp only [Value.cells] at e0
  subst e0
  obtain ⟨x1, rfl⟩ := okWide_int Try.underlying3 (hval 1 _ v1 rfl rfl)
  have I1 := i64_of Try.underlying3 h1
  clear hA0 hval0
  refine (fnExactFewer_walk x0 _ _ _ _ x1 W s0 s0' I0 I1).mono fun e W' ⟨he, hb⟩ => ?_
  subst he
  exact ⟨_, rfl, law_post rfl (by kernel_rfl) Try.underlying4 lawLaid (by kernel_rfl) rfl hW' hb⟩

theorem fnExactFewer_holds : Rows.FnExactFewerSaid :=
  OpenClaim.holds_of_wide 7 Try.f7 rfl rfl rfl rfl rfl rfl rfl ⟨rfl, rfl, rfl, rfl, rfl⟩ rfl rfl rfl rfl rfl (by kernel_rfl) Try.func7 (by kernel_rfl)
    (of_decide_eq_true (by kernel_rfl)) (by unfold Func.isWrapper; first | (rw [if_pos (by decide +kernel)]; kernel_rfl) | (rw [if_neg (by decide +kernel)]; exact ⟨rfl, rfl⟩))
    (fun os started H enc _ => fnExactFewer_lifted os started H enc)
end Go.Proofs.Ytblcmajhdndmfaa
