/- Proved: for all arguments the program's KindsIn returns what the reference's returns, leaves its arguments as they were, and returns memory that it shares with nothing else. No conditions. -/
import Derived.Test.YtblcmajhdndmfaaKindsIn
import Derived.Test.YtblcmajhdndmfaaKindsIn2
import Derived.Test.YtblcmajhdndmfaaLawV2
import Derived.Test.YtblcmajhdndmfaaLawE
import Derived.Test.YtblcmajhdndmfaaMark2
import Derived.Test.YtblcmajhdndmfaaMarkV
import Derived.Test.YtblcmajhdndmfaaRowV
import Derived.Test.YtblcmajhdndmfaaTypes
import Derived.Deep.RegionHeld3
namespace Go.Proofs.Ytblcmajhdndmfaa
open Go.ChangeShapes Go.WideShapes Go.ChangeAt Go.RowKit
set_option linter.unusedVariables false
set_option maxRecDepth 100000

set_option maxHeartbeats 2000000 in
theorem fnExactKindsIn_walk (v : GVal) (A0 : Option Addr) (c0 : Nat)  (w : World) (h0_0 : SA w v.l A0 c0) (I0 : VInt v)  :
    Calls Try.prog 9 #[.agg #[.int .i64 v.kind, .int .i64 v.n, .int .i64 v.x, .string v.s, .slice A0 v.l.length c0]] w (Ret w (.bool true)) := by
  have b0 := Lib.hid (bAl (bRf w) (.cells #[.int .i64 v.kind, .int .i64 v.n, .int .i64 v.x, .string v.s, .slice A0 v.l.length c0] 35))
  have P0 := Lib.hid (Blk.new w 35 #[.int .i64 v.kind, .int .i64 v.n, .int .i64 v.x, .string v.s, .slice A0 v.l.length c0])
  have H := Lib.hid h0_0; clear h0_0
  obtain ⟨r, hr⟩ : ∃ r, r = kindsG v := ⟨_, rfl⟩
  have R := Lib.hid hr; clear hr
  go_enter Try.func9, Try.ntmps9
  obtain ⟨zP00, zP01, zP02, zP03, zP04⟩ := Blk.c5 P0.out
  go_wp2_with fail
  refine (szVal_law v A0 c0 1048576 _ (by omega) (by omega) I0 (H.out.below b0.out)).mono ?_
  clear zP00 zP01 zP02 zP03 zP04
  rintro e w1 ⟨rfl, hb⟩
  have b1 := Lib.hid (bTr b0.out hb)
  have Q1 := Lib.hid (P0.out.below hb); clear hb
  rcases lft_cases (left := 1048576) (k := bulkVal v) (by omega) with L | ⟨l0, L, llo, lhi, lk⟩
  · rw [L]
    clear L
    go_wp2_with fail
    go_ret
    exact ⟨rfl, b1.out⟩
  rw [L]
  clear L
  have N0 : bulkVal v ≤ 1048576 := by omega
  have K0 : (1 : Int) + cntVs v.l ≤ 1000000000000000 := by have h1 := cntVs_le v.l; have h2 := bulkVal_eq v; omega
  have K1 : r.length ≤ 4194304 := by rw [R.out]; unfold kindsG; have h1 := insFold_len ((pathsG [] v).map fun p => (zv (atG v p)).kind) []; rw [List.length_map] at h1; have h2 := pathsG_len v []; simp only [List.length_nil] at h1; omega
  have KN : (0 : Int) ≤ (r.length : Int) := by omega
  obtain ⟨zQ10, zQ11, zQ12, zQ13, zQ14⟩ := Blk.c5 Q1.out
  go_wp2_with fail
  refine (toVal_any v A0 c0 _ N0 I0 (H.out.below b1.out)).mono ?_
  clear zQ10 zQ11 zQ12 zQ13 zQ14
  rintro e w2 ⟨B1, d1, rfl, hs, hb⟩
  have b2 := Lib.hid (bTr b1.out hb)
  have Q2 := Lib.hid (Q1.out.below hb); clear hb
  have T := Lib.hid hs.sa; clear hs
  obtain ⟨zQ20, zQ21, zQ22, zQ23, zQ24⟩ := Blk.c5 Q2.out
  go_wp2_with fail
  have hsp := specKindsIn_any v B1 d1 w2 N0 I0 T.out
  rw [← R.out] at hsp
  refine hsp.mono ?_
  clear zQ20 zQ21 zQ22 zQ23 zQ24
  clear hsp
  rintro e w3 ⟨C1, k1, rfl, hs, hb⟩
  have b3 := Lib.hid (bTr b2.out hb)
  have Q3 := Lib.hid (Q2.out.below hb)
  have hw3 : w.heap.size < w3.heap.size := Q3.out.lt
  clear hb
  have S0 := Lib.hid (show SS w3 (fun b => b < w3.heap.size) r C1 k1 from hs); clear hs
  obtain ⟨zQ30, zQ31, zQ32, zQ33, zQ34⟩ := Blk.c5 Q3.out
  go_wp2_with fail
  refine (toVal_any v A0 c0 _ N0 I0 (H.out.below b3.out)).mono ?_
  clear zQ30 zQ31 zQ32 zQ33 zQ34
  rintro e w4 ⟨D1, e1, rfl, hs, hb⟩
  obtain ⟨F1, x1, x3⟩ := hs
  have hw4 : w3.heap.size ≤ w4.heap.size := hb.size
  have X4 := Lib.hid (And.intro x1 x3); clear x1 x3
  have XR := Lib.hid (show ∀ b, b ∈ F1 → w3.heap.size ≤ b ∧ b < w4.heap.size from fun b hb => ⟨(X4.out.2.2 b hb).1, (X4.out.2.2 b hb).2.lt⟩)
  have b4 := Lib.hid (bAl (bTr b3.out hb) (.cells #[.int .i64 v.kind, .int .i64 v.n, .int .i64 v.x, .string v.s, .slice D1 v.l.length e1] 40))
  have Q4 := Lib.hid ((Q3.out.below hb).alloc (.cells #[.int .i64 v.kind, .int .i64 v.n, .int .i64 v.x, .string v.s, .slice D1 v.l.length e1] 40))
  have P9 := Lib.hid (Blk.new w4 40 #[.int .i64 v.kind, .int .i64 v.n, .int .i64 v.x, .string v.s, .slice D1 v.l.length e1])
  have U4 := Lib.hid (bTr (bRf w3) hb)
  clear hb
  have XS := Lib.hid (show SA (w4.alloc (.cells #[.int .i64 v.kind, .int .i64 v.n, .int .i64 v.x, .string v.s, .slice D1 v.l.length e1] 40)) v.l D1 e1 from SA.below ⟨F1, X4.out.1, fun b hb => (XR.out b hb).2⟩ (bAl (bRf w4) _))
  obtain ⟨zQ40, zQ41, zQ42, zQ43, zQ44⟩ := Blk.c5 Q4.out
  obtain ⟨zP90, zP91, zP92, zP93, zP94⟩ := Blk.c5 P9.out
  go_wp2_with fail
  have him := implKindsIn_any v D1 e1 (w4.alloc (.cells #[.int .i64 v.kind, .int .i64 v.n, .int .i64 v.x, .string v.s, .slice D1 v.l.length e1] 40)) N0 I0 XS.out
  rw [← R.out] at him
  refine him.mono ?_
  clear zQ40 zQ41 zQ42 zQ43 zQ44 zP90 zP91 zP92 zP93 zP94
  clear him
  rintro e w5 ⟨G1, j1, rfl, ⟨F3, y1, y3⟩, hb⟩
  have hw5 : w4.heap.size + 1 ≤ w5.heap.size := by have := hb.size; simp at this; omega
  have Y5 := Lib.hid (And.intro y1 (show Fresh (w4.heap.size + 1) w5 F3 from y3.mono (by simp))); clear y1 y3
  have YR := Lib.hid (show ∀ b, b ∈ F3 → w4.heap.size + 1 ≤ b ∧ b < w5.heap.size from fun b hb => ⟨(Y5.out.2.2 b hb).1, (Y5.out.2.2 b hb).2.lt⟩)
  have b5 := Lib.hid (bTr b4.out hb)
  have Q5 := Lib.hid (Q4.out.below hb)
  have S5 := Lib.hid (P9.out.below hb)
  have U5 := Lib.hid (show Below w4.heap.size w4 w5 from bTr (bAl (bRf w4) _) hb); clear hb
  have SW := Lib.hid (show SS w5 (fun b => b < w3.heap.size) r C1 k1 from SS.keep S0.out (fun b h => (U5.out.block b (by omega)).trans (U4.out.block b (by omega))) (fun b h => h))
  have XW := Lib.hid (show SlR w5 F1 v.l D1 e1 ∧ Fresh w3.heap.size w5 F1 from ⟨X4.out.1.keep fun b hb => U5.out.block b (XR.out b hb).2, X4.out.2.keep fun b hb => U5.out.block b (XR.out b hb).2⟩)
  obtain ⟨zQ50, zQ51, zQ52, zQ53, zQ54⟩ := Blk.c5 Q5.out
  obtain ⟨zS50, zS51, zS52, zS53, zS54⟩ := Blk.c5 S5.out
  go_wp2_with fail
  refine (eqIntS_any r r G1 C1 j1 k1 _ (SA.below ⟨_, Y5.out.1, fun b hb => by have := (YR.out b hb).2; omega⟩ (bRf _)) (SA.below (SS.keep SW.out (fun _ _ => rfl) (fun b h => by have := h; omega)) (bRf _))).mono ?_
  clear zQ50 zQ51 zQ52 zQ53 zQ54 zS50 zS51 zS52 zS53 zS54
  rintro e w6 ⟨rfl, hb⟩
  have U6 := Lib.hid hb; clear hb
  rw [decide_eq_true rfl]
  have b6 := Lib.hid (bTr b5.out U6.out)
  have Q6 := Lib.hid (Q5.out.below U6.out)
  have S6 := Lib.hid (S5.out.below U6.out)
  obtain ⟨zQ60, zQ61, zQ62, zQ63, zQ64⟩ := Blk.c5 Q6.out
  obtain ⟨zS60, zS61, zS62, zS63, zS64⟩ := Blk.c5 S6.out
  go_wp2_with fail
  go_region_held3 (fun u => u.cell? ⟨w.heap.size, 0, none⟩ = some (.int .i64 v.kind) ∧ u.cell? ⟨w.heap.size, 1, none⟩ = some (.int .i64 v.n) ∧ u.cell? ⟨w.heap.size, 2, none⟩ = some (.int .i64 v.x) ∧ u.cell? ⟨w.heap.size, 3, none⟩ = some (.string v.s) ∧ u.cell? ⟨w.heap.size, 4, none⟩ = some (.slice A0 v.l.length c0) ∧ u.cell? ⟨w4.heap.size, 0, none⟩ = some (.int .i64 v.kind) ∧ u.cell? ⟨w4.heap.size, 1, none⟩ = some (.int .i64 v.n) ∧ u.cell? ⟨w4.heap.size, 2, none⟩ = some (.int .i64 v.x) ∧ u.cell? ⟨w4.heap.size, 3, none⟩ = some (.string v.s) ∧ u.cell? ⟨w4.heap.size, 4, none⟩ = some (.slice D1 v.l.length e1)) (go_keep)
    (first
      | (go_at_call 18; (refine (toVal_any v A0 c0 _ N0 I0 (H.out.below b6.out.drew)).mono ?_; rintro e w7 ⟨E1, f1, rfl, hs, hb⟩; have T7 := Lib.hid hs.sa; have U7 := Lib.hid (bTr U6.out.drew hb); have Q7 := Lib.hid (Q5.out.below U7.out); have S7 := Lib.hid (S5.out.below U7.out); obtain ⟨zz0, zz1, zz2, zz3, zz4⟩ := Q7.out.c5; obtain ⟨zy0, zy1, zy2, zy3, zy4⟩ := S7.out.c5; clear hs hb))
      | (go_at_call 20; (refine (eqVal_any v v D1 E1 e1 f1 _ (SA.below ⟨_, XW.out.1, fun b hb => by have := (XR.out b hb).2; omega⟩ U7.out) T7.out).mono ?_; rintro e w8 ⟨rfl, hb⟩; rw [decide_eq_true rfl]; have U8 := Lib.hid (bTr U7.out hb); have Q8 := Lib.hid (Q5.out.below U8.out); have S8 := Lib.hid (S5.out.below U8.out); obtain ⟨zx0, zx1, zx2, zx3, zx4⟩ := Q8.out.c5; obtain ⟨zv0, zv1, zv2, zv3, zv4⟩ := S8.out.c5; clear hb)))
  clear zQ60 zQ61 zQ62 zQ63 zQ64 zS60 zS61 zS62 zS63 zS64
  go_wp2_with fail
  refine (markVal_any v 1 F1 D1 e1 w3.heap.size w8 (by omega) K0 N0 (XW.out.1.keep fun b hb => U8.out.block b (by have := (XR.out b hb).2; omega)) (XW.out.2.keep fun b hb => U8.out.block b (by have := (XR.out b hb).2; omega)) (by have := U8.out.size; omega)).mono ?_
  rintro e w9 ⟨rfl, _, _, hk⟩
  have KX := Lib.hid (show ∀ b, b < w5.heap.size → b ∉ F1 → w9.heap[b]? = w5.heap[b]? from fun b h1 h2 => (hk.2.2.2.2 b (by have := U8.out.size; omega) h2).trans (U8.out.block b h1))
  have hz9 : w5.heap.size ≤ w9.heap.size := by have := U8.out.size; have := hk.2.2.2.1; omega
  have b9 := Lib.hid ((bTr b5.out U8.out).trans (hk.below (by have := U8.out.size; omega) (fun b hb => by have := (XR.out b hb).1; omega)))
  clear hk zx0 zx1 zx2 zx3 zx4 zv0 zv1 zv2 zv3 zv4
  have Q9 := Lib.hid ((KX.out w.heap.size (by omega) (fun hm => by have := XR.out _ hm; omega)).trans Q5.out)
  have hn9 : decide ((1 : Int) + cntVs v.l < 0) = false := decide_eq_false (by omega)
  obtain ⟨zQ90, zQ91, zQ92, zQ93, zQ94⟩ := Blk.c5 Q9.out
  go_wp2_with fail
  have G9 := Lib.hid (show SlR w9 F3 r G1 j1 ∧ Fresh (w4.heap.size + 1) w9 F3 from ⟨Y5.out.1.keep fun b hb => KX.out b (by have := (YR.out b hb).2; omega) (fun hm => by have := (XR.out b hm).2; have := (YR.out b hb).1; omega), Y5.out.2.keep fun b hb => KX.out b (by have := (YR.out b hb).2; omega) (fun hm => by have := (XR.out b hm).2; have := (YR.out b hb).1; omega)⟩)
  have W9 := Lib.hid (show SS w9 (fun b => b < w3.heap.size) r C1 k1 from SS.keep SW.out (fun b h => KX.out b (by omega) (fun hm => by have := (XR.out b hm).1; omega)) (fun b h => h))
  refine (eqIntS_any r r G1 C1 j1 k1 w9 ⟨_, G9.out.1, fun b hb => (G9.out.2.2 b hb).2.lt⟩ (SS.keep W9.out (fun _ _ => rfl) (fun b h => by have := h; omega))).mono ?_
  clear zQ90 zQ91 zQ92 zQ93 zQ94
  rintro e w10 ⟨rfl, hb⟩
  have U10 := Lib.hid hb; clear hb
  rw [decide_eq_true rfl]
  have hz10 : w5.heap.size ≤ w10.heap.size := by have := U10.out.size; omega
  go_wp2_with fail
  refine (markIntS_any r 1 F3 G1 j1 (w4.heap.size + 1) w10 (by omega) (by omega) (G9.out.1.keep fun b hb => U10.out.block b (by have := (YR.out b hb).2; omega)) (G9.out.2.keep fun b hb => U10.out.block b (by have := (YR.out b hb).2; omega))).mono ?_
  rintro e w11 ⟨rfl, m1, m3, hk⟩
  have KY := Lib.hid (show ∀ b, b < w5.heap.size → b ∉ F3 → w11.heap[b]? = w9.heap[b]? from fun b h1 h2 => (hk.2.2.2.2 b (by omega) h2).trans (U10.out.block b (by omega)))
  have hz11 : w5.heap.size ≤ w11.heap.size := by have := hk.2.2.2.1; omega
  have b11 := Lib.hid ((bTr b9.out U10.out).trans (hk.below (by omega) (fun b hb => by have := (YR.out b hb).1; omega)))
  have M11 := Lib.hid (And.intro m1 m3); clear m1 m3 hk
  have Q11 := Lib.hid (show Blk w11 _ _ _ from (KY.out w.heap.size (by omega) (fun hm => by have := YR.out _ hm; omega)).trans Q9.out)
  have W11 := Lib.hid (show SS w11 (fun b => b < w3.heap.size) r C1 k1 from SS.keep W9.out (fun b h => KY.out b (by omega) (fun hm => by have := (YR.out b hm).1; omega)) (fun b h => h))
  have M := Lib.hid (show SA w11 (markI 1 r) G1 j1 from ⟨_, M11.out.1, fun b hb => (M11.out.2.2 b hb).2.lt⟩)
  go_wp2_with fail
  refine (heldIntS_any r 1 G1 j1 w11 (by omega) (by omega) M.out).mono ?_
  rintro e w12 ⟨rfl, hb⟩
  have U12 := Lib.hid hb; clear hb
  have b12 := Lib.hid (bTr b11.out U12.out)
  have hn12 : decide ((1 : Int) + (r.length : Int) < 0) = false := decide_eq_false (by omega)
  have Q12 := Lib.hid (Q11.out.below U12.out)
  obtain ⟨zQ120, zQ121, zQ122, zQ123, zQ124⟩ := Blk.c5 Q12.out
  go_wp2_with fail
  refine (toVal_any v A0 c0 _ N0 I0 (H.out.below b12.out)).mono ?_
  clear zQ120 zQ121 zQ122 zQ123 zQ124
  rintro e w13 ⟨E3, f3, rfl, hs, hb⟩
  have U13 := Lib.hid (bTr U12.out hb); clear hb
  have T13 := Lib.hid hs.sa; clear hs
  go_wp2_with fail
  have him := implKindsIn_any v E3 f3 w13 N0 I0 T13.out
  rw [← R.out] at him
  refine him.mono ?_
  clear him
  rintro e w14 ⟨G3, j3, rfl, hs, hb⟩
  have U14 := Lib.hid (bTr U13.out hb); clear hb
  have Y14 := Lib.hid hs.sa; clear hs
  have W14 := Lib.hid (show SA w14 r C1 k1 from SA.below (SS.keep W11.out (fun _ _ => rfl) (fun b h => by have := h; omega)) U14.out)
  go_wp2_with fail
  refine (eqIntS_any r r G3 C1 j3 k1 _ Y14.out W14.out).mono ?_
  rintro e w15 ⟨rfl, hb⟩
  have U15 := Lib.hid (bTr U14.out hb); clear hb
  rw [decide_eq_true rfl]
  go_wp2_with fail
  refine (heldIntS_any r 1 G1 j1 w15 (by omega) (by omega) (M.out.below U15.out)).mono ?_
  rintro e w16 ⟨rfl, hb⟩
  have U16 := Lib.hid (bTr U15.out hb); clear hb
  go_wp2_with fail
  go_ret
  exact ⟨rfl, bTr b11.out U16.out⟩


theorem fnExactKindsIn_lifted (os : Os) (started : os.Started) (H : Type) (enc : TypeId × Value → H) :
    ReturnsInHanded {} Try.checked os 9 .any (Rows.fnExactKindsInSpec.pre6 enc Try.prog Try.f9 Rows.fnExactKindsInRow.domain false) (Rows.fnExactKindsInSpec.post enc Try.prog Try.f9 false true false false) := by
  refine returnsInHanded_of_change (C := Try.checked) lawOwn started (by kernel_rfl) Try.func9
    (ChangeSpec.witness6 (enc := enc) (C := Try.checked) false ⟨#[], #[.agg #[.int .i64 0, .int .i64 0, .int .i64 0, .string .empty, .slice none 0 0]], []⟩ 8 (by kernel_rfl) (by kernel_rfl) (by kernel_rfl) (by kernel_rfl)) ?_
  intro W base args ds gs before hval0 hW _ _
  have hval : ∀ (j : Nat) t v, Try.f9.params[j]? = some t → args[j]? = some v → Value.okWide Try.prog W .any base t v := hval0
  have hW' := hW
  obtain ⟨p, q, hA0, hV, rfl, hfz, hnd⟩ := hW
  have hA : DataW.TrodAll enc Try.prog W 0 (fun _ => true) true Try.f9.params.toList args.toList ds p := hA0
  rw [Try.params9] at hA hval
  obtain ⟨v0, vs0, d0, ds0, p0, q0, hargs, rfl, rfl, ⟨n0, h0⟩, r0⟩ := trodAll_cons hA
  obtain ⟨rfl, rfl, rfl⟩ := trodAll_nil r0
  obtain rfl : args = #[v0] := by cases args; simp_all
  obtain ⟨rfl, rfl⟩ := trodVars_none hV
  obtain ⟨cs0, rfl, _⟩ := okWide_struct Try.underlying35 (hval 0 _ v0 rfl rfl)
  obtain ⟨x0, hx0⟩ := opensVal H enc W n0 _ _ h0
  obtain ⟨A0, c0, e0, s0, I0⟩ := hx0.valSA
  obtain ⟨cs0⟩ := cs0
  simp only [Value.cells] at e0
  subst e0
  clear hA0 hval0
  refine (fnExactKindsIn_walk x0 _ _ W s0 I0).mono fun e W' ⟨he, hb⟩ => ?_
  subst he
  exact ⟨_, rfl, law_post rfl (by kernel_rfl) Try.underlying4 lawLaid (by kernel_rfl) rfl hW' hb⟩

theorem fnExactKindsIn_holds : Rows.FnExactKindsInSaid :=
  OpenClaim.holds_of_wide 9 Try.f9 rfl rfl rfl rfl rfl rfl rfl ⟨rfl, rfl, rfl, rfl, rfl⟩ rfl rfl rfl rfl rfl (by kernel_rfl) Try.func9 (by kernel_rfl)
    (of_decide_eq_true (by kernel_rfl)) (by unfold Func.isWrapper; first | (rw [if_pos (by decide +kernel)]; kernel_rfl) | (rw [if_neg (by decide +kernel)]; exact ⟨rfl, rfl⟩))
    (fun os started H enc _ => fnExactKindsIn_lifted os started H enc)
end Go.Proofs.Ytblcmajhdndmfaa
