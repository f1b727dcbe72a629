/- Contracts: the trees that the reference draws: deeper ones. -/
import Derived.Test.YtblcmajhdndmfaaDrawE
import Derived.Deep.RegionLaw
namespace Go.Proofs.Ytblcmajhdndmfaa
open Go.RowKit
set_option linter.unusedVariables false
set_option maxRecDepth 100000

theorem RF.set5 {α : Type} [Rep α] {base b : Nat} {w : World} {a : α} {cs : List Value} (h : RF base w a cs) (hb : b < base) (v0 v1 v2 v3 v4 : Value) :
    RF base (((((w.setCell ⟨b, 0, none⟩ v0).setCell ⟨b, 1, none⟩ v1).setCell ⟨b, 2, none⟩ v2).setCell ⟨b, 3, none⟩ v3).setCell ⟨b, 4, none⟩ v4) a cs ∧ (((((w.setCell ⟨b, 0, none⟩ v0).setCell ⟨b, 1, none⟩ v1).setCell ⟨b, 2, none⟩ v2).setCell ⟨b, 3, none⟩ v3).setCell ⟨b, 4, none⟩ v4).heap.size = w.heap.size :=
  ⟨((((h.set (p := ⟨b, 0, none⟩) hb v0).set (p := ⟨b, 1, none⟩) hb v1).set (p := ⟨b, 2, none⟩) hb v2).set (p := ⟨b, 3, none⟩) hb v3).set (p := ⟨b, 4, none⟩) hb v4, by simp⟩
theorem SF.set5 {α : Type} [Rep α] {base b : Nat} {w : World} {l : List α} {A : Option Addr} {c : Nat} (h : SF base w l A c) (hb : b < base) (v0 v1 v2 v3 v4 : Value) :
    SF base (((((w.setCell ⟨b, 0, none⟩ v0).setCell ⟨b, 1, none⟩ v1).setCell ⟨b, 2, none⟩ v2).setCell ⟨b, 3, none⟩ v3).setCell ⟨b, 4, none⟩ v4) l A c :=
  ((((h.set (p := ⟨b, 0, none⟩) hb v0).set (p := ⟨b, 1, none⟩) hb v1).set (p := ⟨b, 2, none⟩) hb v2).set (p := ⟨b, 3, none⟩) hb v3).set (p := ⟨b, 4, none⟩) hb v4
theorem OwnF.lit1' {α : Type} [Rep α] {w : World} {base : Nat} {a : α} {cs : List Value} (h : RF base w a cs) (t : TypeId) (hb : base ≤ w.heap.size) (g : Nat) (hg : g = w.heap.size) : OwnF (w.alloc (.cells cs.toArray t)) base t (.slice (some ⟨g, 0, none⟩) 1 1) [a] := hg ▸ OwnF.lit1 h t hb
theorem leafRF {base : Nat} {w : World} {k n x : Int} {s : ByteArray} (hl : Leaf k n x s) : RF base w (⟨k, n, x, s, []⟩ : GVal) [.int .i64 k, .int .i64 n, .int .i64 x, .string s, .slice none 0 0] := by
  obtain ⟨h1, h2, h3, h4, h5⟩ := hl
  exact RF.val (v := ⟨k, n, x, s, []⟩) ⟨⟨by show _ ≤ k; omega, by show k ≤ _; omega⟩, h3, h4, by show s.size ≤ _; unfold maxLen; omega⟩ ⟨[], ⟨by simp, by simp, .inl ⟨rfl, rfl, fun _ => rfl⟩⟩, Fresh.nil _ _⟩

set_option maxHeartbeats 8000000 in
theorem l6DrawS_any (g : Nat) (code : List UInt8) (d : Int) (B' B : Nat) (w : World) (hd0 : 1 ≤ d) (hd1 : d ≤ 3) (hB : 600 + 3 * B' ≤ B) (hB2 : B ≤ 500000)
    (IH : ∀ w, Cur w g code → Calls Try.prog 110 #[.pointer (some ⟨g, 0, none⟩), .int .i64 (d - 1)] w (RetV g code B' w)) (hc : Cur w g code) :
    Calls Try.prog 110 #[.pointer (some ⟨g, 0, none⟩), .int .i64 d] w (RetV g code B w) := by
  have hIH := Lib.hid IH; clear IH
  have hg := hc.lt
  have B0 := Lib.hid (bAl (bRf w) (.cells #[.int .i64 0, .int .i64 0, .int .i64 0, .string .empty, .slice none 0 0] 40))
  have P0 := Lib.hid (Blk.new w 40 #[.int .i64 0, .int .i64 0, .int .i64 0, .string .empty, .slice none 0 0])
  have HC := Lib.hid (hc.below B0.out); clear hc
  go_enter Try.func110, Try.ntmps110
  go_wp2_with fail
  refine (l1Below_any g code 13 _ (by omega) (by omega) HC.out).mono ?_
  rintro e w1 ⟨k, rfl, hk0, hk1, hce, hcur⟩
  have P1 := Lib.hid (hce.blk P0.out (by omega))
  have H1 := Lib.hid (And.intro ((Ce.of B0.out (by omega)).trans hce) hcur); clear hce hcur
  have hdb : (d == 0) = false := by simp; omega
  have hk : k = 0 ∨ k = 1 ∨ k = 2 ∨ k = 3 ∨ k = 4 ∨ k = 5 ∨ k = 6 ∨ k = 7 ∨ k = 8 ∨ k = 9 ∨ k = 10 ∨ k = 11 ∨ k = 12 := by omega
  rcases hk with rfl | rfl | rfl | rfl | rfl | rfl | rfl | rfl | rfl | rfl | rfl | rfl | rfl
  · skip
    have f0 := P1.out.frozen 0
    have f1 := P1.out.frozen 1
    have f2 := P1.out.frozen 2
    have f3 := P1.out.frozen 3
    have f4 := P1.out.frozen 4
    obtain ⟨p0, p1, p2, p3, p4⟩ := P1.out.c5
    have hzz : w.heap.size < w1.heap.size := P1.out.lt
    go_wp2_with fail
    refine bodyPost_ret (v := valE 1 0 0 .empty) (by simp [results, valE, Try.results110, go_sem, *] <;> rfl) rfl ?_
    exact RetV.leaf ⟨by omega, by omega, I64.zero, I64.zero, by simp⟩ (by omega) (Ce.set5 hg H1.out (Nat.le_refl _) _ _ _ _ _)
  · go_wp2_with fail
    refine (l1Below_any g code 2 w1 (by omega) (by omega) H1.out.2).mono ?_
    rintro e v1 ⟨n, rfl, hn0, hn1, hce, hcur⟩
    have Pv1 := Lib.hid (hce.blk P1.out (by omega))
    have Hv1 := Lib.hid (And.intro (H1.out.1.trans hce) hcur); clear hce hcur
    have f0 := Pv1.out.frozen 0
    have f1 := Pv1.out.frozen 1
    have f2 := Pv1.out.frozen 2
    have f3 := Pv1.out.frozen 3
    have f4 := Pv1.out.frozen 4
    obtain ⟨p0, p1, p2, p3, p4⟩ := Pv1.out.c5
    have hzz : w.heap.size < v1.heap.size := Pv1.out.lt
    go_wp2_with fail
    refine bodyPost_ret (v := valE 2 n 0 .empty) (by simp [results, valE, Try.results110, go_sem, *] <;> rfl) rfl ?_
    exact RetV.leaf ⟨by omega, by omega, ⟨by omega, by omega⟩, I64.zero, by simp⟩ (by omega) (Ce.set5 hg Hv1.out (Nat.le_refl _) _ _ _ _ _)
  · go_wp2_with fail
    refine (l1Signed_any g code w1 H1.out.2).mono ?_
    rintro e v1 ⟨n, rfl, hn0, hn1, hce, hcur⟩
    have Pv1 := Lib.hid (hce.blk P1.out (by omega))
    have Hv1 := Lib.hid (And.intro (H1.out.1.trans hce) hcur); clear hce hcur
    go_wp2_with fail
    refine (IntVal_any n v1).mono ?_
    rintro e v2 ⟨rfl, hbb⟩
    have hgb := Hv1.out.2.lt
    have Pv2 := Lib.hid (Pv1.out.below hbb)
    have Hv2 := Lib.hid (And.intro (Hv1.out.1.trans (Ce.of hbb (by omega))) (Hv1.out.2.below hbb)); clear hbb hgb
    unfold valE
    have f0 := Pv2.out.frozen 0
    have f1 := Pv2.out.frozen 1
    have f2 := Pv2.out.frozen 2
    have f3 := Pv2.out.frozen 3
    have f4 := Pv2.out.frozen 4
    obtain ⟨p0, p1, p2, p3, p4⟩ := Pv2.out.c5
    have hzz : w.heap.size < v2.heap.size := Pv2.out.lt
    go_wp2_with fail
    refine bodyPost_ret (v := valE 3 n 0 .empty) (by simp [results, valE, Try.results110, go_sem, *] <;> rfl) rfl ?_
    exact RetV.leaf ⟨by omega, by omega, ⟨by omega, by omega⟩, I64.zero, by simp⟩ (by omega) (Ce.set5 hg Hv2.out (Nat.le_refl _) _ _ _ _ _)
  · go_wp2_with fail
    refine (l1Signed_any g code w1 H1.out.2).mono ?_
    rintro e v1 ⟨n, rfl, hn0, hn1, hce, hcur⟩
    have Pv1 := Lib.hid (hce.blk P1.out (by omega))
    have Hv1 := Lib.hid (And.intro (H1.out.1.trans hce) hcur); clear hce hcur
    go_wp2_with fail
    refine (IntVal_any n v1).mono ?_
    rintro e v2 ⟨rfl, hbb⟩
    have hgb := Hv1.out.2.lt
    have Pv2 := Lib.hid (Pv1.out.below hbb)
    have Hv2 := Lib.hid (And.intro (Hv1.out.1.trans (Ce.of hbb (by omega))) (Hv1.out.2.below hbb)); clear hbb hgb
    unfold valE
    have f0 := Pv2.out.frozen 0
    have f1 := Pv2.out.frozen 1
    have f2 := Pv2.out.frozen 2
    have f3 := Pv2.out.frozen 3
    have f4 := Pv2.out.frozen 4
    obtain ⟨p0, p1, p2, p3, p4⟩ := Pv2.out.c5
    have hzz : w.heap.size < v2.heap.size := Pv2.out.lt
    go_wp2_with fail
    refine bodyPost_ret (v := valE 3 n 0 .empty) (by simp [results, valE, Try.results110, go_sem, *] <;> rfl) rfl ?_
    exact RetV.leaf ⟨by omega, by omega, ⟨by omega, by omega⟩, I64.zero, by simp⟩ (by omega) (Ce.set5 hg Hv2.out (Nat.le_refl _) _ _ _ _ _)
  · go_wp2_with fail
    refine (l5Draw_any g code w1 H1.out.2).mono ?_
    rintro e v1 ⟨m, x, rfl, hm, hx0, hx1, hce, hcur⟩
    have Pv1 := Lib.hid (hce.blk P1.out (by omega))
    have Hv1 := Lib.hid (And.intro (H1.out.1.trans hce) hcur); clear hce hcur
    go_wp2_with fail
    refine (l6FltVal_any m x v1).mono ?_
    rintro e v2 ⟨rfl, hbb⟩
    have hgb := Hv1.out.2.lt
    have Pv2 := Lib.hid (Pv1.out.below hbb)
    have Hv2 := Lib.hid (And.intro (Hv1.out.1.trans (Ce.of hbb (by omega))) (Hv1.out.2.below hbb)); clear hbb hgb
    unfold valE
    have HM := Lib.hid hm; clear hm
    have f0 := Pv2.out.frozen 0
    have f1 := Pv2.out.frozen 1
    have f2 := Pv2.out.frozen 2
    have f3 := Pv2.out.frozen 3
    have f4 := Pv2.out.frozen 4
    obtain ⟨p0, p1, p2, p3, p4⟩ := Pv2.out.c5
    have hzz : w.heap.size < v2.heap.size := Pv2.out.lt
    go_wp2_with fail
    refine bodyPost_ret (v := valE 4 m x .empty) (by simp [results, valE, Try.results110, go_sem, *] <;> rfl) rfl ?_
    exact RetV.leaf ⟨by omega, by omega, HM.out, ⟨by omega, by omega⟩, by simp⟩ (by omega) (Ce.set5 hg Hv2.out (Nat.le_refl _) _ _ _ _ _)
  · go_wp2_with fail
    refine (l1Below_any g code 3 w1 (by omega) (by omega) H1.out.2).mono ?_
    rintro e v1 ⟨n, rfl, hn0, hn1, hce, hcur⟩
    have Pv1 := Lib.hid (hce.blk P1.out (by omega))
    have Hv1 := Lib.hid (And.intro (H1.out.1.trans hce) hcur); clear hce hcur
    have f0 := Pv1.out.frozen 0
    have f1 := Pv1.out.frozen 1
    have f2 := Pv1.out.frozen 2
    have f3 := Pv1.out.frozen 3
    have f4 := Pv1.out.frozen 4
    obtain ⟨p0, p1, p2, p3, p4⟩ := Pv1.out.c5
    have hzz : w.heap.size < v1.heap.size := Pv1.out.lt
    go_wp2_with fail
    refine bodyPost_ret (v := valE 5 n 0 .empty) (by simp [results, valE, Try.results110, go_sem, *] <;> rfl) rfl ?_
    exact RetV.leaf ⟨by omega, by omega, ⟨by omega, by omega⟩, I64.zero, by simp⟩ (by omega) (Ce.set5 hg Hv1.out (Nat.le_refl _) _ _ _ _ _)
  · go_wp2_with fail
    refine (l5Dec_any g code w1 H1.out.2).mono ?_
    rintro e v1 ⟨n, x, rfl, hn, hx, hce, hcur⟩
    have Pv1 := Lib.hid (hce.blk P1.out (by omega))
    have Hv1 := Lib.hid (And.intro (H1.out.1.trans hce) hcur); clear hce hcur
    go_wp2_with fail
    refine (NumberVal_any n x v1).mono ?_
    rintro e v2 ⟨rfl, hbb⟩
    have hgb := Hv1.out.2.lt
    have Pv2 := Lib.hid (Pv1.out.below hbb)
    have Hv2 := Lib.hid (And.intro (Hv1.out.1.trans (Ce.of hbb (by omega))) (Hv1.out.2.below hbb)); clear hbb hgb
    obtain ⟨kk, xx, hv, hleaf⟩ := numV_leaf hn hx
    rw [hv]
    unfold valE
    have HL := Lib.hid hleaf; clear hleaf hv hn hx
    have f0 := Pv2.out.frozen 0
    have f1 := Pv2.out.frozen 1
    have f2 := Pv2.out.frozen 2
    have f3 := Pv2.out.frozen 3
    have f4 := Pv2.out.frozen 4
    obtain ⟨p0, p1, p2, p3, p4⟩ := Pv2.out.c5
    have hzz : w.heap.size < v2.heap.size := Pv2.out.lt
    go_wp2_with fail
    refine bodyPost_ret (v := valE kk n xx .empty) (by simp [results, valE, Try.results110, go_sem, *] <;> rfl) rfl ?_
    exact RetV.leaf HL.out (by omega) (Ce.set5 hg Hv2.out (Nat.le_refl _) _ _ _ _ _)
  · go_wp2_with fail
    refine (l2Text_any g code w1 H1.out.2).mono ?_
    rintro e v1 ⟨s, rfl, hs, hce, hcur⟩
    have Pv1 := Lib.hid (hce.blk P1.out (by omega))
    have Hv1 := Lib.hid (And.intro (H1.out.1.trans hce) hcur); clear hce hcur
    go_wp2_with fail
    refine (TextVal_any s v1).mono ?_
    rintro e v2 ⟨rfl, hbb⟩
    have hgb := Hv1.out.2.lt
    have Pv2 := Lib.hid (Pv1.out.below hbb)
    have Hv2 := Lib.hid (And.intro (Hv1.out.1.trans (Ce.of hbb (by omega))) (Hv1.out.2.below hbb)); clear hbb hgb
    unfold valE
    have f0 := Pv2.out.frozen 0
    have f1 := Pv2.out.frozen 1
    have f2 := Pv2.out.frozen 2
    have f3 := Pv2.out.frozen 3
    have f4 := Pv2.out.frozen 4
    obtain ⟨p0, p1, p2, p3, p4⟩ := Pv2.out.c5
    have hzz : w.heap.size < v2.heap.size := Pv2.out.lt
    go_wp2_with fail
    refine bodyPost_ret (v := valE 7 0 0 s) (by simp [results, valE, Try.results110, go_sem, *] <;> rfl) rfl ?_
    exact RetV.leaf ⟨by omega, by omega, I64.zero, I64.zero, by omega⟩ (by omega) (Ce.set5 hg Hv2.out (Nat.le_refl _) _ _ _ _ _)
  · go_wp2_with fail
    refine (l1Below_any g code 4 w1 (by omega) (by omega) H1.out.2).mono ?_
    rintro e v1 ⟨n, rfl, hn0, hn1, hce, hcur⟩
    have Pv1 := Lib.hid (hce.blk P1.out (by omega))
    have Hv1 := Lib.hid (And.intro (H1.out.1.trans hce) hcur); clear hce hcur
    obtain ⟨j, rfl⟩ : ∃ j : Nat, n = j := ⟨n.toNat, by omega⟩
    go_wp2_with fail
    refine (l1Bytes_any g code j v1 (by omega) Hv1.out.2).mono ?_
    rintro e v2 ⟨bs, Ab, cb, rfl, hbl, hsb, hce, hcur⟩
    have Pv2 := Lib.hid (hce.blk Pv1.out (by omega))
    have Hv2 := Lib.hid (And.intro (Hv1.out.1.trans hce) hcur); clear hce hcur
    subst hbl
    have hcv := run_str_of_bytes (P := Try.prog) Try.underlying22 Try.underlying5 Try.underlying9 hsb.sa
    have hsz : (strOf bs).size ≤ 3 := by rw [strOf_size]; omega
    generalize strOf bs = s at hcv hsz
    clear hsb
    have f0 := Pv2.out.frozen 0
    have f1 := Pv2.out.frozen 1
    have f2 := Pv2.out.frozen 2
    have f3 := Pv2.out.frozen 3
    have f4 := Pv2.out.frozen 4
    obtain ⟨p0, p1, p2, p3, p4⟩ := Pv2.out.c5
    have hzz : w.heap.size < v2.heap.size := Pv2.out.lt
    go_wp2_with fail
    refine bodyPost_ret (v := valE 8 0 0 s) (by simp [results, valE, Try.results110, go_sem, *] <;> rfl) rfl ?_
    exact RetV.leaf ⟨by omega, by omega, I64.zero, I64.zero, by omega⟩ (by omega) (Ce.set5 hg Hv2.out (Nat.le_refl _) _ _ _ _ _)
  · go_wp2_with fail
    refine (l1Below_any g code 300 w1 (by omega) (by omega) H1.out.2).mono ?_
    rintro e v1 ⟨n, rfl, hn0, hn1, hce, hcur⟩
    have Pv1 := Lib.hid (hce.blk P1.out (by omega))
    have Hv1 := Lib.hid (And.intro (H1.out.1.trans hce) hcur); clear hce hcur
    go_wp2_with fail
    refine (hIH.out v1 Hv1.out.2).mono ?_
    rintro e v2 ⟨x, Ax, cx, rfl, hsx, hIx, hbx, hkx, hce, hcur⟩
    have Pv2 := Lib.hid (hce.blk Pv1.out (by omega))
    have hzv1 : w.heap.size < v1.heap.size := Pv1.out.lt
    have Hv2 := Lib.hid (And.intro (Hv1.out.1.trans hce) hcur)
    have hg2 := hcur.lt
    have hz12 := hce.size
    have HX := Lib.hid (And.intro hsx (And.intro hIx (And.intro hbx hkx))); clear hce hcur hsx hIx hbx hkx
    have f0 := Pv2.out.frozen 0
    have f1 := Pv2.out.frozen 1
    have f2 := Pv2.out.frozen 2
    have f3 := Pv2.out.frozen 3
    have f4 := Pv2.out.frozen 4
    obtain ⟨p0, p1, p2, p3, p4⟩ := Pv2.out.c5
    have hzz : w.heap.size < v2.heap.size := Pv2.out.lt
    go_wp2_with fail
    refine bodyPost_ret (v := .agg #[.int .i64 11, .int .i64 n, .int .i64 0, .string .empty, .slice (some ⟨v2.heap.size, 0, none⟩) 1 1]) (by simp [results, Try.results110, go_sem, *] <;> rfl) rfl ?_
    have h5 := Ce.set5 hg Hv2.out (Nat.le_refl w.heap.size) (.int .i64 11) (.int .i64 n) (.int .i64 0) (.string .empty) (.slice (some ⟨v2.heap.size, 0, none⟩) 1 1)
    have hR := RF.set5 (RF.val HX.out.2.1 HX.out.1) hzv1 (.int .i64 11) (.int .i64 n) (.int .i64 0) (.string .empty) (.slice (some ⟨v2.heap.size, 0, none⟩) 1 1)
    refine ⟨⟨11, n, 0, .empty, [x]⟩, _, _, rfl, ?_, ⟨⟨by simp, by simp⟩, ⟨by show _ ≤ n; omega, by show n ≤ _; omega⟩, I64.zero, by simp⟩, ?_, KOk.of ⟨by simp, by simp⟩ (by intro u hu; simp only [preL, List.append_nil] at hu; exact HX.out.2.2.2 u hu), h5.1.add _ (by simp; omega), h5.2.below (bAl (bRf _) _)⟩
    · exact ((OwnF.lit1' hR.1 40 (by rw [hR.2]; exact hz12) _ hR.2.symm).sf.2).mono (Nat.le_of_lt hzv1)
    · rw [bulkVal_eq, bulkVals_eq]; have := HX.out.2.2.1; simp; omega
  · go_wp2_with fail
    have hg1 := H1.out.2.lt
    have hz1 : w.heap.size < w1.heap.size := P1.out.lt
    have PV := Lib.hid (Blk.new w1 40 #[.int .i64 9, .int .i64 0, .int .i64 0, .string .empty, .slice none 0 0])
    have P1a := Lib.hid (P1.out.alloc (.cells #[.int .i64 9, .int .i64 0, .int .i64 0, .string .empty, .slice none 0 0] 40))
    have H1a := Lib.hid (And.intro (H1.out.1.add (.cells #[.int .i64 9, .int .i64 0, .int .i64 0, .string .empty, .slice none 0 0] 40) (by omega)) (H1.out.2.below (bAl (bRf w1) (.cells #[.int .i64 9, .int .i64 0, .int .i64 0, .string .empty, .slice none 0 0] 40))))
    refine (l1Below_any g code 4 _ (by omega) (by omega) H1a.out.2).mono ?_
    rintro e w2 ⟨n, rfl, hn0, hn1, hce, hcur⟩
    have PV2 := Lib.hid (hce.blk PV.out (by omega))
    have P2 := Lib.hid (hce.blk P1a.out (by omega))
    have H2 := Lib.hid (And.intro (H1a.out.1.trans hce) hcur); clear hce hcur
    obtain ⟨j, rfl⟩ : ∃ j : Nat, n = j := ⟨n.toNat, by omega⟩
    have hj3 : j ≤ 3 := by omega
    go_wp2_with fail
    go_loopg [7] j (fun gk i wr => ∃ (l : List GVal) (rv : Value) (q : Nat), i = .int .i64 gk ∧ q + gk = j ∧ l.length ≤ 2 * q ∧ bulkVals l ≤ q * (200 + B') ∧ KOkL l ∧ Blk wr w1.heap.size 40 #[.int .i64 9, .int .i64 0, .int .i64 0, .string .empty, rv] ∧ Blk wr w.heap.size 40 #[.int .i64 0, .int .i64 0, .int .i64 0, .string .empty, .slice none 0 0] ∧ OwnF wr (w1.heap.size + 1) 40 rv l ∧ Ce g w wr ∧ Cur wr g code)
    case atStart => exact ⟨[], _, 0, rfl, by omega, by simp, by simp [bulkVals], KOkL.nil, PV2.out, P2.out, OwnF.nil_ _ _ _, H2.out.1, H2.out.2⟩
    case round =>
      obtain ⟨l, rv, q, rfl, hq, hll, hbl, hkl, hPV, hP, hown, hce, hcur⟩ := hrel
      have hgr := hcur.lt
      have hzr : w1.heap.size < wr.heap.size := hPV.lt
      have hfz0 := hPV.frozen 0
      have hfz4 := hPV.frozen 4
      obtain ⟨q0, q1, q2, q3, q4⟩ := hPV.c5
      have HS := Lib.hid (And.intro hPV (And.intro hP (And.intro hown (And.intro hce hcur)))); clear hPV hP hown hce hcur
      have HK := Lib.hid (And.intro hbl hkl); clear hbl hkl
      by_cases hlt : 0 < gk
      · have hi1 : (0 : Int) < gk := by omega
        go_wp2_with fail
        have hlen3 : ∀ z : GVal, (l ++ [z]).length = l.length + 1 := fun z => by simp
        refine (hIH.out wr HS.out.2.2.2.2).mono ?_
        rintro e w3 ⟨x, Ax, cx, rfl, hsx, hIx, hbx, hkx, hce, hcur⟩
        have PV3 := Lib.hid (hce.blk HS.out.1 (by omega))
        have P3 := Lib.hid (hce.blk HS.out.2.1 (by omega))
        have H3 := Lib.hid (And.intro (HS.out.2.2.2.1.trans hce) hcur)
        have HC3 := Lib.hid hce
        have hg3 := hcur.lt
        have hz3 : w1.heap.size < w3.heap.size := PV3.out.lt
        have HX := Lib.hid (And.intro hsx (And.intro hIx (And.intro hbx hkx))); clear hce hcur hsx hIx hbx hkx q0 q1 q2 q3 q4
        obtain ⟨q0, q1, q2, q3, q4⟩ := PV3.out.c5
        have hft := PV3.out.frozen 4
        go_wp2_with (at_builtin; (refine app_list rfl _ _ 38 rfl rfl rfl (run_app1_C 38 _ (w1.heap.size + 1) g 40 (.agg #[.int .i64 0, .int .i64 0, .int .i64 0, .string .empty, .slice none 0 0]) 64 Try.underlying38 infoVal rfl (by decide) rv l x _ wr _ _ HS.out.2.2.1 ((HC3.out.add _ (by omega)).add _ (by simp; omega)) (by omega) (RF.below (RF.val HX.out.2.1 HX.out.1) (bAl (bAl (bRf w3) _) _)) (cells_at [_, _, _, _, _] (by simp)) (by omega) (by unfold maxLen; omega) (by omega)) ?_; rintro rv' w5 ⟨ho, hbl, _, _⟩; obtain ⟨A6, c6, rfl⟩ := ho.form; rw [hlen3] at ho ⊢; have HO5 := Lib.hid (And.intro ho hbl); have PV5 := Lib.hid (((PV3.out.alloc _).alloc _).keepB hbl (by omega)); have hx5 := PV5.out.frozen 4; obtain ⟨y0, y1, y2, y3, y4⟩ := PV5.out.c5; clear ho hbl))
        go_roundg (gk - 1)
        case measure => omega
        case rel =>
          have h5 := Ce.andthen H3.out (Below.trans (((Below.refl _ _).alloc (by omega : w1.heap.size + 1 ≤ w3.heap.size) _).alloc (by simp; omega) _) HO5.out.2) (by omega) (by omega)
          have h6 := Ce.far' hg h5 (by omega : w.heap.size ≤ w1.heap.size) 4 (.slice A6 (l.length + 1) c6)
          have hm : (q + 1) * (200 + B') = q * (200 + B') + (200 + B') := Nat.succ_mul _ _
          refine ⟨l ++ [x], _, q + 1, by congr 1; omega, by omega, by simp; omega, by rw [bulkVals_snoc]; have := HX.out.2.2.1; have := HK.out.1; omega, HK.out.2.snoc HX.out.2.2.2, PV5.out.set_ 4 _, ((((P3.out.alloc _).alloc _).keepB HO5.out.2 (by omega)).far (by simp; omega) _), HO5.out.1.set (p := ⟨w1.heap.size, 4, none⟩) (Nat.lt_succ_self _) _, h6.1, h6.2⟩
      · have hi1 : ¬ ((0 : Int) < gk) := by omega
        obtain ⟨Av, cv, rfl⟩ := HS.out.2.2.1.form
        have f0 := HS.out.2.1.frozen 0
        have f1 := HS.out.2.1.frozen 1
        have f2 := HS.out.2.1.frozen 2
        have f3 := HS.out.2.1.frozen 3
        have f4 := HS.out.2.1.frozen 4
        obtain ⟨p0, p1, p2, p3, p4⟩ := HS.out.2.1.c5
        have hzz : w.heap.size < wr.heap.size := by omega
        go_wp2_with fail
        refine bodyPost_ret (v := .agg #[.int .i64 9, .int .i64 0, .int .i64 0, .string .empty, .slice Av l.length cv]) (by simp [results, Try.results110, go_sem, *] <;> rfl) rfl ?_
        have h5 := Ce.set5 hg (And.intro HS.out.2.2.2.1 HS.out.2.2.2.2) (Nat.le_refl w.heap.size) (.int .i64 9) (.int .i64 0) (.int .i64 0) (.string .empty) (.slice Av l.length cv)
        have hq3 : q * (200 + B') ≤ 3 * (200 + B') := Nat.mul_le_mul_right _ (by omega)
        refine ⟨⟨9, 0, 0, .empty, l⟩, Av, cv, rfl, (SF.set5 HS.out.2.2.1.sf.2 (by omega) _ _ _ _ _).mono (by omega), ⟨⟨by simp, by simp⟩, I64.zero, I64.zero, by simp⟩, ?_, KOk.of ⟨by simp, by simp⟩ HK.out.2, h5.1, h5.2⟩
        rw [bulkVal_eq]; have := HK.out.1; simp; omega
  · go_wp2_with fail
    have hg1 := H1.out.2.lt
    have hz1 : w.heap.size < w1.heap.size := P1.out.lt
    have PV := Lib.hid (Blk.new w1 40 #[.int .i64 10, .int .i64 0, .int .i64 0, .string .empty, .slice none 0 0])
    have P1a := Lib.hid (P1.out.alloc (.cells #[.int .i64 10, .int .i64 0, .int .i64 0, .string .empty, .slice none 0 0] 40))
    have H1a := Lib.hid (And.intro (H1.out.1.add (.cells #[.int .i64 10, .int .i64 0, .int .i64 0, .string .empty, .slice none 0 0] 40) (by omega)) (H1.out.2.below (bAl (bRf w1) (.cells #[.int .i64 10, .int .i64 0, .int .i64 0, .string .empty, .slice none 0 0] 40))))
    refine (l1Below_any g code 4 _ (by omega) (by omega) H1a.out.2).mono ?_
    rintro e w2 ⟨n, rfl, hn0, hn1, hce, hcur⟩
    have PV2 := Lib.hid (hce.blk PV.out (by omega))
    have P2 := Lib.hid (hce.blk P1a.out (by omega))
    have H2 := Lib.hid (And.intro (H1a.out.1.trans hce) hcur); clear hce hcur
    obtain ⟨j, rfl⟩ : ∃ j : Nat, n = j := ⟨n.toNat, by omega⟩
    have hj3 : j ≤ 3 := by omega
    go_wp2_with fail
    go_loopg [7] j (fun gk i wr => ∃ (l : List GVal) (rv : Value) (q : Nat), i = .int .i64 gk ∧ q + gk = j ∧ l.length ≤ 2 * q ∧ bulkVals l ≤ q * (200 + B') ∧ KOkL l ∧ Blk wr w1.heap.size 40 #[.int .i64 10, .int .i64 0, .int .i64 0, .string .empty, rv] ∧ Blk wr w.heap.size 40 #[.int .i64 0, .int .i64 0, .int .i64 0, .string .empty, .slice none 0 0] ∧ OwnF wr (w1.heap.size + 1) 40 rv l ∧ Ce g w wr ∧ Cur wr g code)
    case atStart => exact ⟨[], _, 0, rfl, by omega, by simp, by simp [bulkVals], KOkL.nil, PV2.out, P2.out, OwnF.nil_ _ _ _, H2.out.1, H2.out.2⟩
    case round =>
      obtain ⟨l, rv, q, rfl, hq, hll, hbl, hkl, hPV, hP, hown, hce, hcur⟩ := hrel
      have hgr := hcur.lt
      have hzr : w1.heap.size < wr.heap.size := hPV.lt
      have hfz0 := hPV.frozen 0
      have hfz4 := hPV.frozen 4
      obtain ⟨q0, q1, q2, q3, q4⟩ := hPV.c5
      have HS := Lib.hid (And.intro hPV (And.intro hP (And.intro hown (And.intro hce hcur)))); clear hPV hP hown hce hcur
      have HK := Lib.hid (And.intro hbl hkl); clear hbl hkl
      by_cases hlt : 0 < gk
      · have hi1 : (0 : Int) < gk := by omega
        go_wp2_with fail
        go_cut [7] from 81 to 87 (fun s7 wx => ∃ (kk nn xx : Int) (ss : ByteArray) (rv2 : Value), s7 = .int .i64 gk ∧ Leaf kk nn xx ss ∧ Blk wx w1.heap.size 40 #[.int .i64 10, .int .i64 0, .int .i64 0, .string .empty, rv2] ∧ Blk wx w.heap.size 40 #[.int .i64 0, .int .i64 0, .int .i64 0, .string .empty, .slice none 0 0] ∧ OwnF wx (w1.heap.size + 1) 40 rv2 (l ++ [⟨kk, nn, xx, ss, []⟩]) ∧ Ce g w wx ∧ Cur wx g code)
        case first =>
          have qd4 : wr.drew.cell? ⟨w1.heap.size, 4, none⟩ = some rv := q4
          have hlen1 : ∀ z : GVal, (l ++ [z]).length = l.length + 1 := fun z => by simp
          go_region_law
            (first
              | (go_simp; go_at_call 140; (refine (l6Name_any g code _ (HS.out.2.2.2.2.below (bRf wr).drew)).mono ?_; rintro e w3 ⟨kk, nn, xx, ss, rfl, hleaf, hce, hcur⟩; unfold valE; have PV3 := Lib.hid (hce.blk HS.out.1.drew (by omega)); have P3 := Lib.hid (hce.blk HS.out.2.1.drew (by omega)); have H3 := Lib.hid (And.intro (HS.out.2.2.2.1.drew.trans hce) hcur); have HC3 := Lib.hid hce; have HL := Lib.hid hleaf; have hz3 : w1.heap.size < w3.heap.size := PV3.out.lt; have hg3 := hcur.lt; obtain ⟨x0, x1, x2, x3, x4⟩ := PV3.out.c5; have hx0 := PV3.out.frozen 4; clear hce hcur hleaf))
              | ((apply app_step (s := .tmp 82) (x := .tmp 85) (t := 38) (v := rv) (u := .slice (some ⟨w3.heap.size, 0, none⟩) 1 1); (try case hgd => exact rfl); (try case ho => exact rfl); (try case hs => exact rfl); (try case hx => exact rfl); (case hrun => exact run_app1_C (P := Try.prog) 38 38 (w1.heap.size + 1) g 40 (.agg #[.int .i64 0, .int .i64 0, .int .i64 0, .string .empty, .slice none 0 0]) 64 Try.underlying38 infoVal rfl (by decide) rv l ⟨kk, nn, xx, ss, []⟩ [.int .i64 kk, .int .i64 nn, .int .i64 xx, .string ss, .slice none 0 0] wr.drew ⟨w3.heap.size, 0, none⟩ 1 HS.out.2.2.1.drew (HC3.out.add _ (by omega)) (by omega) (leafRF HL.out) (cells_at [_, _, _, _, _] rfl) (by omega) (by unfold maxLen; omega) (by simp; omega)); rintro v5 w5 ⟨ho, hbl, _, _⟩; obtain ⟨A5, c5, rfl⟩ := ho.form; rw [hlen1] at ho ⊢; have HO5 := Lib.hid (And.intro ho hbl); have PV5 := Lib.hid ((PV3.out.alloc _).keepB hbl (by omega)); have hx5 := PV5.out.frozen 4; obtain ⟨y0, y1, y2, y3, y4⟩ := PV5.out.c5; clear ho hbl)))
          all_goals
            go_wp2_with fail
            go_meet
            have h5 := Ce.andthen H3.out (Below.trans ((Below.refl _ _).alloc (by omega : w1.heap.size + 1 ≤ w3.heap.size) _) HO5.out.2) (by omega) (by omega)
            have h6 := Ce.far' hg h5 (by omega : w.heap.size ≤ w1.heap.size) 4 (.slice A5 (l.length + 1) c5)
            exact ⟨kk, nn, xx, ss, _, rfl, HL.out, PV5.out.set_ 4 _, (((P3.out.alloc _).keepB HO5.out.2 (by omega)).far (by simp; omega) _), HO5.out.1.set (p := ⟨w1.heap.size, 4, none⟩) (Nat.lt_succ_self _) _, h6.1, h6.2⟩
        case rest =>
          obtain ⟨kk, nn, xx, ss, rv2, rfl, hleaf, hPV, hP, hown, hce, hcur⟩ := hcut
          have hfc4 := hPV.frozen 4
          have hgc := hcur.lt
          have hzc : w1.heap.size < wc.heap.size := hPV.lt
          clear q0 q1 q2 q3 q4 hfz0 hfz4
          obtain ⟨q0, q1, q2, q3, q4⟩ := hPV.c5
          have HS2 := Lib.hid (And.intro hPV (And.intro hP (And.intro hown (And.intro hce hcur)))); clear hPV hP hown hce hcur
          have hlf : bulkVal ⟨kk, nn, xx, ss, []⟩ ≤ 100 := by rw [bulkVal_eq, bulkVals_eq]; have := hleaf.2.2.2.2; simp; omega
          have hkf : KOk ⟨kk, nn, xx, ss, []⟩ := KOk.of ⟨hleaf.1, by have := hleaf.2.1; show kk ≤ 11; omega⟩ KOkL.nil
          have HLF := Lib.hid (And.intro hlf hkf); clear hlf hkf hleaf
          have hlen2 : (l ++ [(⟨kk, nn, xx, ss, []⟩ : GVal)]).length = l.length + 1 := by simp
          go_wp2_with fail
          have hlen3 : ∀ z : GVal, ((l ++ [(⟨kk, nn, xx, ss, []⟩ : GVal)]) ++ [z]).length = l.length + 2 := fun z => by simp
          refine (hIH.out wc HS2.out.2.2.2.2).mono ?_
          rintro e w3 ⟨x, Ax, cx, rfl, hsx, hIx, hbx, hkx, hce, hcur⟩
          have PV3 := Lib.hid (hce.blk HS2.out.1 (by omega))
          have P3 := Lib.hid (hce.blk HS2.out.2.1 (by omega))
          have H3 := Lib.hid (And.intro (HS2.out.2.2.2.1.trans hce) hcur)
          have HC3 := Lib.hid hce
          have hg3 := hcur.lt
          have hz3 : w1.heap.size < w3.heap.size := PV3.out.lt
          have HX := Lib.hid (And.intro hsx (And.intro hIx (And.intro hbx hkx))); clear hce hcur hsx hIx hbx hkx q0 q1 q2 q3 q4
          obtain ⟨q0, q1, q2, q3, q4⟩ := PV3.out.c5
          have hft := PV3.out.frozen 4
          go_wp2_with (at_builtin; (refine app_list rfl _ _ 38 rfl rfl rfl (run_app1_C 38 _ (w1.heap.size + 1) g 40 (.agg #[.int .i64 0, .int .i64 0, .int .i64 0, .string .empty, .slice none 0 0]) 64 Try.underlying38 infoVal rfl (by decide) rv2 (l ++ [(⟨kk, nn, xx, ss, []⟩ : GVal)]) x _ wc _ _ HS2.out.2.2.1 ((HC3.out.add _ (by omega)).add _ (by simp; omega)) (by omega) (RF.below (RF.val HX.out.2.1 HX.out.1) (bAl (bAl (bRf w3) _) _)) (cells_at [_, _, _, _, _] (by simp)) (by rw [hlen2]; omega) (by rw [hlen2]; unfold maxLen; omega) (by omega)) ?_; rintro rv' w5 ⟨ho, hbl, _, _⟩; obtain ⟨A6, c6, rfl⟩ := ho.form; rw [hlen3] at ho ⊢; have HO5 := Lib.hid (And.intro ho hbl); have PV5 := Lib.hid (((PV3.out.alloc _).alloc _).keepB hbl (by omega)); have hx5 := PV5.out.frozen 4; obtain ⟨y0, y1, y2, y3, y4⟩ := PV5.out.c5; clear ho hbl))
          go_roundg (gk - 1)
          case measure => omega
          case rel =>
            have h5 := Ce.andthen H3.out (Below.trans (((Below.refl _ _).alloc (by omega : w1.heap.size + 1 ≤ w3.heap.size) _).alloc (by simp; omega) _) HO5.out.2) (by omega) (by omega)
            have h6 := Ce.far' hg h5 (by omega : w.heap.size ≤ w1.heap.size) 4 (.slice A6 (l.length + 2) c6)
            have hm : (q + 1) * (200 + B') = q * (200 + B') + (200 + B') := Nat.succ_mul _ _
            refine ⟨(l ++ [(⟨kk, nn, xx, ss, []⟩ : GVal)]) ++ [x], _, q + 1, by congr 1; omega, by omega, by simp; omega, by rw [bulkVals_snoc]; rw [bulkVals_snoc]; have := HLF.out.1; have := HX.out.2.2.1; have := HK.out.1; omega, (HK.out.2.snoc HLF.out.2).snoc HX.out.2.2.2, PV5.out.set_ 4 _, ((((P3.out.alloc _).alloc _).keepB HO5.out.2 (by omega)).far (by simp; omega) _), HO5.out.1.set (p := ⟨w1.heap.size, 4, none⟩) (Nat.lt_succ_self _) _, h6.1, h6.2⟩
      · have hi1 : ¬ ((0 : Int) < gk) := by omega
        obtain ⟨Av, cv, rfl⟩ := HS.out.2.2.1.form
        have f0 := HS.out.2.1.frozen 0
        have f1 := HS.out.2.1.frozen 1
        have f2 := HS.out.2.1.frozen 2
        have f3 := HS.out.2.1.frozen 3
        have f4 := HS.out.2.1.frozen 4
        obtain ⟨p0, p1, p2, p3, p4⟩ := HS.out.2.1.c5
        have hzz : w.heap.size < wr.heap.size := by omega
        go_wp2_with fail
        refine bodyPost_ret (v := .agg #[.int .i64 10, .int .i64 0, .int .i64 0, .string .empty, .slice Av l.length cv]) (by simp [results, Try.results110, go_sem, *] <;> rfl) rfl ?_
        have h5 := Ce.set5 hg (And.intro HS.out.2.2.2.1 HS.out.2.2.2.2) (Nat.le_refl w.heap.size) (.int .i64 10) (.int .i64 0) (.int .i64 0) (.string .empty) (.slice Av l.length cv)
        have hq3 : q * (200 + B') ≤ 3 * (200 + B') := Nat.mul_le_mul_right _ (by omega)
        refine ⟨⟨10, 0, 0, .empty, l⟩, Av, cv, rfl, (SF.set5 HS.out.2.2.1.sf.2 (by omega) _ _ _ _ _).mono (by omega), ⟨⟨by simp, by simp⟩, I64.zero, I64.zero, by simp⟩, ?_, KOk.of ⟨by simp, by simp⟩ HK.out.2, h5.1, h5.2⟩
        rw [bulkVal_eq]; have := HK.out.1; simp; omega
  · go_wp2_with fail
    have hg1 := H1.out.2.lt
    have hz1 : w.heap.size < w1.heap.size := P1.out.lt
    have PV := Lib.hid (Blk.new w1 40 #[.int .i64 10, .int .i64 0, .int .i64 0, .string .empty, .slice none 0 0])
    have P1a := Lib.hid (P1.out.alloc (.cells #[.int .i64 10, .int .i64 0, .int .i64 0, .string .empty, .slice none 0 0] 40))
    have H1a := Lib.hid (And.intro (H1.out.1.add (.cells #[.int .i64 10, .int .i64 0, .int .i64 0, .string .empty, .slice none 0 0] 40) (by omega)) (H1.out.2.below (bAl (bRf w1) (.cells #[.int .i64 10, .int .i64 0, .int .i64 0, .string .empty, .slice none 0 0] 40))))
    refine (l1Below_any g code 4 _ (by omega) (by omega) H1a.out.2).mono ?_
    rintro e w2 ⟨n, rfl, hn0, hn1, hce, hcur⟩
    have PV2 := Lib.hid (hce.blk PV.out (by omega))
    have P2 := Lib.hid (hce.blk P1a.out (by omega))
    have H2 := Lib.hid (And.intro (H1a.out.1.trans hce) hcur); clear hce hcur
    obtain ⟨j, rfl⟩ : ∃ j : Nat, n = j := ⟨n.toNat, by omega⟩
    have hj3 : j ≤ 3 := by omega
    go_wp2_with fail
    go_loopg [7] j (fun gk i wr => ∃ (l : List GVal) (rv : Value) (q : Nat), i = .int .i64 gk ∧ q + gk = j ∧ l.length ≤ 2 * q ∧ bulkVals l ≤ q * (200 + B') ∧ KOkL l ∧ Blk wr w1.heap.size 40 #[.int .i64 10, .int .i64 0, .int .i64 0, .string .empty, rv] ∧ Blk wr w.heap.size 40 #[.int .i64 0, .int .i64 0, .int .i64 0, .string .empty, .slice none 0 0] ∧ OwnF wr (w1.heap.size + 1) 40 rv l ∧ Ce g w wr ∧ Cur wr g code)
    case atStart => exact ⟨[], _, 0, rfl, by omega, by simp, by simp [bulkVals], KOkL.nil, PV2.out, P2.out, OwnF.nil_ _ _ _, H2.out.1, H2.out.2⟩
    case round =>
      obtain ⟨l, rv, q, rfl, hq, hll, hbl, hkl, hPV, hP, hown, hce, hcur⟩ := hrel
      have hgr := hcur.lt
      have hzr : w1.heap.size < wr.heap.size := hPV.lt
      have hfz0 := hPV.frozen 0
      have hfz4 := hPV.frozen 4
      obtain ⟨q0, q1, q2, q3, q4⟩ := hPV.c5
      have HS := Lib.hid (And.intro hPV (And.intro hP (And.intro hown (And.intro hce hcur)))); clear hPV hP hown hce hcur
      have HK := Lib.hid (And.intro hbl hkl); clear hbl hkl
      by_cases hlt : 0 < gk
      · have hi1 : (0 : Int) < gk := by omega
        go_wp2_with fail
        go_cut [7] from 81 to 87 (fun s7 wx => ∃ (kk nn xx : Int) (ss : ByteArray) (rv2 : Value), s7 = .int .i64 gk ∧ Leaf kk nn xx ss ∧ Blk wx w1.heap.size 40 #[.int .i64 10, .int .i64 0, .int .i64 0, .string .empty, rv2] ∧ Blk wx w.heap.size 40 #[.int .i64 0, .int .i64 0, .int .i64 0, .string .empty, .slice none 0 0] ∧ OwnF wx (w1.heap.size + 1) 40 rv2 (l ++ [⟨kk, nn, xx, ss, []⟩]) ∧ Ce g w wx ∧ Cur wx g code)
        case first =>
          have qd4 : wr.drew.cell? ⟨w1.heap.size, 4, none⟩ = some rv := q4
          have hlen1 : ∀ z : GVal, (l ++ [z]).length = l.length + 1 := fun z => by simp
          go_region_law
            (first
              | (go_simp; go_at_call 140; (refine (l6Name_any g code _ (HS.out.2.2.2.2.below (bRf wr).drew)).mono ?_; rintro e w3 ⟨kk, nn, xx, ss, rfl, hleaf, hce, hcur⟩; unfold valE; have PV3 := Lib.hid (hce.blk HS.out.1.drew (by omega)); have P3 := Lib.hid (hce.blk HS.out.2.1.drew (by omega)); have H3 := Lib.hid (And.intro (HS.out.2.2.2.1.drew.trans hce) hcur); have HC3 := Lib.hid hce; have HL := Lib.hid hleaf; have hz3 : w1.heap.size < w3.heap.size := PV3.out.lt; have hg3 := hcur.lt; obtain ⟨x0, x1, x2, x3, x4⟩ := PV3.out.c5; have hx0 := PV3.out.frozen 4; clear hce hcur hleaf))
              | ((apply app_step (s := .tmp 82) (x := .tmp 85) (t := 38) (v := rv) (u := .slice (some ⟨w3.heap.size, 0, none⟩) 1 1); (try case hgd => exact rfl); (try case ho => exact rfl); (try case hs => exact rfl); (try case hx => exact rfl); (case hrun => exact run_app1_C (P := Try.prog) 38 38 (w1.heap.size + 1) g 40 (.agg #[.int .i64 0, .int .i64 0, .int .i64 0, .string .empty, .slice none 0 0]) 64 Try.underlying38 infoVal rfl (by decide) rv l ⟨kk, nn, xx, ss, []⟩ [.int .i64 kk, .int .i64 nn, .int .i64 xx, .string ss, .slice none 0 0] wr.drew ⟨w3.heap.size, 0, none⟩ 1 HS.out.2.2.1.drew (HC3.out.add _ (by omega)) (by omega) (leafRF HL.out) (cells_at [_, _, _, _, _] rfl) (by omega) (by unfold maxLen; omega) (by simp; omega)); rintro v5 w5 ⟨ho, hbl, _, _⟩; obtain ⟨A5, c5, rfl⟩ := ho.form; rw [hlen1] at ho ⊢; have HO5 := Lib.hid (And.intro ho hbl); have PV5 := Lib.hid ((PV3.out.alloc _).keepB hbl (by omega)); have hx5 := PV5.out.frozen 4; obtain ⟨y0, y1, y2, y3, y4⟩ := PV5.out.c5; clear ho hbl)))
          all_goals
            go_wp2_with fail
            go_meet
            have h5 := Ce.andthen H3.out (Below.trans ((Below.refl _ _).alloc (by omega : w1.heap.size + 1 ≤ w3.heap.size) _) HO5.out.2) (by omega) (by omega)
            have h6 := Ce.far' hg h5 (by omega : w.heap.size ≤ w1.heap.size) 4 (.slice A5 (l.length + 1) c5)
            exact ⟨kk, nn, xx, ss, _, rfl, HL.out, PV5.out.set_ 4 _, (((P3.out.alloc _).keepB HO5.out.2 (by omega)).far (by simp; omega) _), HO5.out.1.set (p := ⟨w1.heap.size, 4, none⟩) (Nat.lt_succ_self _) _, h6.1, h6.2⟩
        case rest =>
          obtain ⟨kk, nn, xx, ss, rv2, rfl, hleaf, hPV, hP, hown, hce, hcur⟩ := hcut
          have hfc4 := hPV.frozen 4
          have hgc := hcur.lt
          have hzc : w1.heap.size < wc.heap.size := hPV.lt
          clear q0 q1 q2 q3 q4 hfz0 hfz4
          obtain ⟨q0, q1, q2, q3, q4⟩ := hPV.c5
          have HS2 := Lib.hid (And.intro hPV (And.intro hP (And.intro hown (And.intro hce hcur)))); clear hPV hP hown hce hcur
          have hlf : bulkVal ⟨kk, nn, xx, ss, []⟩ ≤ 100 := by rw [bulkVal_eq, bulkVals_eq]; have := hleaf.2.2.2.2; simp; omega
          have hkf : KOk ⟨kk, nn, xx, ss, []⟩ := KOk.of ⟨hleaf.1, by have := hleaf.2.1; show kk ≤ 11; omega⟩ KOkL.nil
          have HLF := Lib.hid (And.intro hlf hkf); clear hlf hkf hleaf
          have hlen2 : (l ++ [(⟨kk, nn, xx, ss, []⟩ : GVal)]).length = l.length + 1 := by simp
          go_wp2_with fail
          have hlen3 : ∀ z : GVal, ((l ++ [(⟨kk, nn, xx, ss, []⟩ : GVal)]) ++ [z]).length = l.length + 2 := fun z => by simp
          refine (hIH.out wc HS2.out.2.2.2.2).mono ?_
          rintro e w3 ⟨x, Ax, cx, rfl, hsx, hIx, hbx, hkx, hce, hcur⟩
          have PV3 := Lib.hid (hce.blk HS2.out.1 (by omega))
          have P3 := Lib.hid (hce.blk HS2.out.2.1 (by omega))
          have H3 := Lib.hid (And.intro (HS2.out.2.2.2.1.trans hce) hcur)
          have HC3 := Lib.hid hce
          have hg3 := hcur.lt
          have hz3 : w1.heap.size < w3.heap.size := PV3.out.lt
          have HX := Lib.hid (And.intro hsx (And.intro hIx (And.intro hbx hkx))); clear hce hcur hsx hIx hbx hkx q0 q1 q2 q3 q4
          obtain ⟨q0, q1, q2, q3, q4⟩ := PV3.out.c5
          have hft := PV3.out.frozen 4
          go_wp2_with (at_builtin; (refine app_list rfl _ _ 38 rfl rfl rfl (run_app1_C 38 _ (w1.heap.size + 1) g 40 (.agg #[.int .i64 0, .int .i64 0, .int .i64 0, .string .empty, .slice none 0 0]) 64 Try.underlying38 infoVal rfl (by decide) rv2 (l ++ [(⟨kk, nn, xx, ss, []⟩ : GVal)]) x _ wc _ _ HS2.out.2.2.1 ((HC3.out.add _ (by omega)).add _ (by simp; omega)) (by omega) (RF.below (RF.val HX.out.2.1 HX.out.1) (bAl (bAl (bRf w3) _) _)) (cells_at [_, _, _, _, _] (by simp)) (by rw [hlen2]; omega) (by rw [hlen2]; unfold maxLen; omega) (by omega)) ?_; rintro rv' w5 ⟨ho, hbl, _, _⟩; obtain ⟨A6, c6, rfl⟩ := ho.form; rw [hlen3] at ho ⊢; have HO5 := Lib.hid (And.intro ho hbl); have PV5 := Lib.hid (((PV3.out.alloc _).alloc _).keepB hbl (by omega)); have hx5 := PV5.out.frozen 4; obtain ⟨y0, y1, y2, y3, y4⟩ := PV5.out.c5; clear ho hbl))
          go_roundg (gk - 1)
          case measure => omega
          case rel =>
            have h5 := Ce.andthen H3.out (Below.trans (((Below.refl _ _).alloc (by omega : w1.heap.size + 1 ≤ w3.heap.size) _).alloc (by simp; omega) _) HO5.out.2) (by omega) (by omega)
            have h6 := Ce.far' hg h5 (by omega : w.heap.size ≤ w1.heap.size) 4 (.slice A6 (l.length + 2) c6)
            have hm : (q + 1) * (200 + B') = q * (200 + B') + (200 + B') := Nat.succ_mul _ _
            refine ⟨(l ++ [(⟨kk, nn, xx, ss, []⟩ : GVal)]) ++ [x], _, q + 1, by congr 1; omega, by omega, by simp; omega, by rw [bulkVals_snoc]; rw [bulkVals_snoc]; have := HLF.out.1; have := HX.out.2.2.1; have := HK.out.1; omega, (HK.out.2.snoc HLF.out.2).snoc HX.out.2.2.2, PV5.out.set_ 4 _, ((((P3.out.alloc _).alloc _).keepB HO5.out.2 (by omega)).far (by simp; omega) _), HO5.out.1.set (p := ⟨w1.heap.size, 4, none⟩) (Nat.lt_succ_self _) _, h6.1, h6.2⟩
      · have hi1 : ¬ ((0 : Int) < gk) := by omega
        obtain ⟨Av, cv, rfl⟩ := HS.out.2.2.1.form
        have f0 := HS.out.2.1.frozen 0
        have f1 := HS.out.2.1.frozen 1
        have f2 := HS.out.2.1.frozen 2
        have f3 := HS.out.2.1.frozen 3
        have f4 := HS.out.2.1.frozen 4
        obtain ⟨p0, p1, p2, p3, p4⟩ := HS.out.2.1.c5
        have hzz : w.heap.size < wr.heap.size := by omega
        go_wp2_with fail
        refine bodyPost_ret (v := .agg #[.int .i64 10, .int .i64 0, .int .i64 0, .string .empty, .slice Av l.length cv]) (by simp [results, Try.results110, go_sem, *] <;> rfl) rfl ?_
        have h5 := Ce.set5 hg (And.intro HS.out.2.2.2.1 HS.out.2.2.2.2) (Nat.le_refl w.heap.size) (.int .i64 10) (.int .i64 0) (.int .i64 0) (.string .empty) (.slice Av l.length cv)
        have hq3 : q * (200 + B') ≤ 3 * (200 + B') := Nat.mul_le_mul_right _ (by omega)
        refine ⟨⟨10, 0, 0, .empty, l⟩, Av, cv, rfl, (SF.set5 HS.out.2.2.1.sf.2 (by omega) _ _ _ _ _).mono (by omega), ⟨⟨by simp, by simp⟩, I64.zero, I64.zero, by simp⟩, ?_, KOk.of ⟨by simp, by simp⟩ HK.out.2, h5.1, h5.2⟩
        rw [bulkVal_eq]; have := HK.out.1; simp; omega
end Go.Proofs.Ytblcmajhdndmfaa
