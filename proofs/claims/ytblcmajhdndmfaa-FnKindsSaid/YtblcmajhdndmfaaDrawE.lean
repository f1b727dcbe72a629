/- Contracts: the trees that the reference draws: leaves. -/
import Derived.Test.YtblcmajhdndmfaaDrawD
namespace Go.Proofs.Ytblcmajhdndmfaa
open Go.RowKit
set_option linter.unusedVariables false
set_option maxRecDepth 100000

set_option maxHeartbeats 4000000 in
theorem l6Draw0_any (g : Nat) (code : List UInt8) (w : World) (hc : Cur w g code) :
    Calls Try.prog 110 #[.pointer (some ⟨g, 0, none⟩), .int .i64 0] w (RetV g code 1000 w) := by
  have hg := hc.lt
  have B0 := Lib.hid (bAl (bRf w) (.cells #[.int .i64 0, .int .i64 0, .int .i64 0, .string .empty, .slice none 0 0] 40))
  have P0 := Lib.hid (Blk.new w 40 #[.int .i64 0, .int .i64 0, .int .i64 0, .string .empty, .slice none 0 0])
  have HC := Lib.hid (hc.below B0.out); clear hc
  go_enter Try.func110, Try.ntmps110
  go_wp2_with fail
  refine (l1Below_any g code 13 _ (by omega) (by omega) HC.out).mono ?_
  rintro e w1 ⟨k, rfl, hk0, hk1, hce, hcur⟩
  have P1 := Lib.hid (hce.blk P0.out (by omega))
  have H1 := Lib.hid (And.intro ((Ce.of B0.out (by omega)).trans hce) hcur); clear hce hcur
  go_wp2_with fail
  refine (l1Below_any g code 9 _ (by omega) (by omega) H1.out.2).mono ?_
  clear hk0 hk1
  rintro e w2 ⟨k, rfl, hk0, hk1, hce, hcur⟩
  have P2 := Lib.hid (hce.blk P1.out (by omega))
  have H2 := Lib.hid (And.intro (H1.out.1.trans hce) hcur); clear hce hcur
  have hk : k = 0 ∨ k = 1 ∨ k = 2 ∨ k = 3 ∨ k = 4 ∨ k = 5 ∨ k = 6 ∨ k = 7 ∨ k = 8 := by omega
  rcases hk with rfl | rfl | rfl | rfl | rfl | rfl | rfl | rfl | rfl
  · skip
    have f0 := P2.out.frozen 0
    have f1 := P2.out.frozen 1
    have f2 := P2.out.frozen 2
    have f3 := P2.out.frozen 3
    have f4 := P2.out.frozen 4
    obtain ⟨p0, p1, p2, p3, p4⟩ := P2.out.c5
    have hzz : w.heap.size < w2.heap.size := P2.out.lt
    go_wp2_with fail
    refine bodyPost_ret (v := valE 1 0 0 .empty) (by simp [results, valE, Try.results110, go_sem, *] <;> rfl) rfl ?_
    exact RetV.leaf ⟨by omega, by omega, I64.zero, I64.zero, by simp⟩ (by omega) (Ce.set5 hg H2.out (Nat.le_refl _) _ _ _ _ _)
  · go_wp2_with fail
    refine (l1Below_any g code 2 w2 (by omega) (by omega) H2.out.2).mono ?_
    rintro e v1 ⟨n, rfl, hn0, hn1, hce, hcur⟩
    have Pv1 := Lib.hid (hce.blk P2.out (by omega))
    have Hv1 := Lib.hid (And.intro (H2.out.1.trans hce) hcur); clear hce hcur
    have f0 := Pv1.out.frozen 0
    have f1 := Pv1.out.frozen 1
    have f2 := Pv1.out.frozen 2
    have f3 := Pv1.out.frozen 3
    have f4 := Pv1.out.frozen 4
    obtain ⟨p0, p1, p2, p3, p4⟩ := Pv1.out.c5
    have hzz : w.heap.size < v1.heap.size := Pv1.out.lt
    go_wp2_with fail
    refine bodyPost_ret (v := valE 2 n 0 .empty) (by simp [results, valE, Try.results110, go_sem, *] <;> rfl) rfl ?_
    exact RetV.leaf ⟨by omega, by omega, ⟨by omega, by omega⟩, I64.zero, by simp⟩ (by omega) (Ce.set5 hg Hv1.out (Nat.le_refl _) _ _ _ _ _)
  · go_wp2_with fail
    refine (l1Signed_any g code w2 H2.out.2).mono ?_
    rintro e v1 ⟨n, rfl, hn0, hn1, hce, hcur⟩
    have Pv1 := Lib.hid (hce.blk P2.out (by omega))
    have Hv1 := Lib.hid (And.intro (H2.out.1.trans hce) hcur); clear hce hcur
    go_wp2_with fail
    refine (IntVal_any n v1).mono ?_
    rintro e v2 ⟨rfl, hbb⟩
    have hgb := Hv1.out.2.lt
    have Pv2 := Lib.hid (Pv1.out.below hbb)
    have Hv2 := Lib.hid (And.intro (Hv1.out.1.trans (Ce.of hbb (by omega))) (Hv1.out.2.below hbb)); clear hbb hgb
    unfold valE
    have f0 := Pv2.out.frozen 0
    have f1 := Pv2.out.frozen 1
    have f2 := Pv2.out.frozen 2
    have f3 := Pv2.out.frozen 3
    have f4 := Pv2.out.frozen 4
    obtain ⟨p0, p1, p2, p3, p4⟩ := Pv2.out.c5
    have hzz : w.heap.size < v2.heap.size := Pv2.out.lt
    go_wp2_with fail
    refine bodyPost_ret (v := valE 3 n 0 .empty) (by simp [results, valE, Try.results110, go_sem, *] <;> rfl) rfl ?_
    exact RetV.leaf ⟨by omega, by omega, ⟨by omega, by omega⟩, I64.zero, by simp⟩ (by omega) (Ce.set5 hg Hv2.out (Nat.le_refl _) _ _ _ _ _)
  · go_wp2_with fail
    refine (l1Signed_any g code w2 H2.out.2).mono ?_
    rintro e v1 ⟨n, rfl, hn0, hn1, hce, hcur⟩
    have Pv1 := Lib.hid (hce.blk P2.out (by omega))
    have Hv1 := Lib.hid (And.intro (H2.out.1.trans hce) hcur); clear hce hcur
    go_wp2_with fail
    refine (IntVal_any n v1).mono ?_
    rintro e v2 ⟨rfl, hbb⟩
    have hgb := Hv1.out.2.lt
    have Pv2 := Lib.hid (Pv1.out.below hbb)
    have Hv2 := Lib.hid (And.intro (Hv1.out.1.trans (Ce.of hbb (by omega))) (Hv1.out.2.below hbb)); clear hbb hgb
    unfold valE
    have f0 := Pv2.out.frozen 0
    have f1 := Pv2.out.frozen 1
    have f2 := Pv2.out.frozen 2
    have f3 := Pv2.out.frozen 3
    have f4 := Pv2.out.frozen 4
    obtain ⟨p0, p1, p2, p3, p4⟩ := Pv2.out.c5
    have hzz : w.heap.size < v2.heap.size := Pv2.out.lt
    go_wp2_with fail
    refine bodyPost_ret (v := valE 3 n 0 .empty) (by simp [results, valE, Try.results110, go_sem, *] <;> rfl) rfl ?_
    exact RetV.leaf ⟨by omega, by omega, ⟨by omega, by omega⟩, I64.zero, by simp⟩ (by omega) (Ce.set5 hg Hv2.out (Nat.le_refl _) _ _ _ _ _)
  · go_wp2_with fail
    refine (l5Draw_any g code w2 H2.out.2).mono ?_
    rintro e v1 ⟨m, x, rfl, hm, hx0, hx1, hce, hcur⟩
    have Pv1 := Lib.hid (hce.blk P2.out (by omega))
    have Hv1 := Lib.hid (And.intro (H2.out.1.trans hce) hcur); clear hce hcur
    go_wp2_with fail
    refine (l6FltVal_any m x v1).mono ?_
    rintro e v2 ⟨rfl, hbb⟩
    have hgb := Hv1.out.2.lt
    have Pv2 := Lib.hid (Pv1.out.below hbb)
    have Hv2 := Lib.hid (And.intro (Hv1.out.1.trans (Ce.of hbb (by omega))) (Hv1.out.2.below hbb)); clear hbb hgb
    unfold valE
    have HM := Lib.hid hm; clear hm
    have f0 := Pv2.out.frozen 0
    have f1 := Pv2.out.frozen 1
    have f2 := Pv2.out.frozen 2
    have f3 := Pv2.out.frozen 3
    have f4 := Pv2.out.frozen 4
    obtain ⟨p0, p1, p2, p3, p4⟩ := Pv2.out.c5
    have hzz : w.heap.size < v2.heap.size := Pv2.out.lt
    go_wp2_with fail
    refine bodyPost_ret (v := valE 4 m x .empty) (by simp [results, valE, Try.results110, go_sem, *] <;> rfl) rfl ?_
    exact RetV.leaf ⟨by omega, by omega, HM.out, ⟨by omega, by omega⟩, by simp⟩ (by omega) (Ce.set5 hg Hv2.out (Nat.le_refl _) _ _ _ _ _)
  · go_wp2_with fail
    refine (l1Below_any g code 3 w2 (by omega) (by omega) H2.out.2).mono ?_
    rintro e v1 ⟨n, rfl, hn0, hn1, hce, hcur⟩
    have Pv1 := Lib.hid (hce.blk P2.out (by omega))
    have Hv1 := Lib.hid (And.intro (H2.out.1.trans hce) hcur); clear hce hcur
    have f0 := Pv1.out.frozen 0
    have f1 := Pv1.out.frozen 1
    have f2 := Pv1.out.frozen 2
    have f3 := Pv1.out.frozen 3
    have f4 := Pv1.out.frozen 4
    obtain ⟨p0, p1, p2, p3, p4⟩ := Pv1.out.c5
    have hzz : w.heap.size < v1.heap.size := Pv1.out.lt
    go_wp2_with fail
    refine bodyPost_ret (v := valE 5 n 0 .empty) (by simp [results, valE, Try.results110, go_sem, *] <;> rfl) rfl ?_
    exact RetV.leaf ⟨by omega, by omega, ⟨by omega, by omega⟩, I64.zero, by simp⟩ (by omega) (Ce.set5 hg Hv1.out (Nat.le_refl _) _ _ _ _ _)
  · go_wp2_with fail
    refine (l5Dec_any g code w2 H2.out.2).mono ?_
    rintro e v1 ⟨n, x, rfl, hn, hx, hce, hcur⟩
    have Pv1 := Lib.hid (hce.blk P2.out (by omega))
    have Hv1 := Lib.hid (And.intro (H2.out.1.trans hce) hcur); clear hce hcur
    go_wp2_with fail
    refine (NumberVal_any n x v1).mono ?_
    rintro e v2 ⟨rfl, hbb⟩
    have hgb := Hv1.out.2.lt
    have Pv2 := Lib.hid (Pv1.out.below hbb)
    have Hv2 := Lib.hid (And.intro (Hv1.out.1.trans (Ce.of hbb (by omega))) (Hv1.out.2.below hbb)); clear hbb hgb
    obtain ⟨kk, xx, hv, hleaf⟩ := numV_leaf hn hx
    rw [hv]
    unfold valE
    have HL := Lib.hid hleaf; clear hleaf hv hn hx
    have f0 := Pv2.out.frozen 0
    have f1 := Pv2.out.frozen 1
    have f2 := Pv2.out.frozen 2
    have f3 := Pv2.out.frozen 3
    have f4 := Pv2.out.frozen 4
    obtain ⟨p0, p1, p2, p3, p4⟩ := Pv2.out.c5
    have hzz : w.heap.size < v2.heap.size := Pv2.out.lt
    go_wp2_with fail
    refine bodyPost_ret (v := valE kk n xx .empty) (by simp [results, valE, Try.results110, go_sem, *] <;> rfl) rfl ?_
    exact RetV.leaf HL.out (by omega) (Ce.set5 hg Hv2.out (Nat.le_refl _) _ _ _ _ _)
  · go_wp2_with fail
    refine (l2Text_any g code w2 H2.out.2).mono ?_
    rintro e v1 ⟨s, rfl, hs, hce, hcur⟩
    have Pv1 := Lib.hid (hce.blk P2.out (by omega))
    have Hv1 := Lib.hid (And.intro (H2.out.1.trans hce) hcur); clear hce hcur
    go_wp2_with fail
    refine (TextVal_any s v1).mono ?_
    rintro e v2 ⟨rfl, hbb⟩
    have hgb := Hv1.out.2.lt
    have Pv2 := Lib.hid (Pv1.out.below hbb)
    have Hv2 := Lib.hid (And.intro (Hv1.out.1.trans (Ce.of hbb (by omega))) (Hv1.out.2.below hbb)); clear hbb hgb
    unfold valE
    have f0 := Pv2.out.frozen 0
    have f1 := Pv2.out.frozen 1
    have f2 := Pv2.out.frozen 2
    have f3 := Pv2.out.frozen 3
    have f4 := Pv2.out.frozen 4
    obtain ⟨p0, p1, p2, p3, p4⟩ := Pv2.out.c5
    have hzz : w.heap.size < v2.heap.size := Pv2.out.lt
    go_wp2_with fail
    refine bodyPost_ret (v := valE 7 0 0 s) (by simp [results, valE, Try.results110, go_sem, *] <;> rfl) rfl ?_
    exact RetV.leaf ⟨by omega, by omega, I64.zero, I64.zero, by omega⟩ (by omega) (Ce.set5 hg Hv2.out (Nat.le_refl _) _ _ _ _ _)
  · go_wp2_with fail
    refine (l1Below_any g code 4 w2 (by omega) (by omega) H2.out.2).mono ?_
    rintro e v1 ⟨n, rfl, hn0, hn1, hce, hcur⟩
    have Pv1 := Lib.hid (hce.blk P2.out (by omega))
    have Hv1 := Lib.hid (And.intro (H2.out.1.trans hce) hcur); clear hce hcur
    obtain ⟨j, rfl⟩ : ∃ j : Nat, n = j := ⟨n.toNat, by omega⟩
    go_wp2_with fail
    refine (l1Bytes_any g code j v1 (by omega) Hv1.out.2).mono ?_
    rintro e v2 ⟨bs, Ab, cb, rfl, hbl, hsb, hce, hcur⟩
    have Pv2 := Lib.hid (hce.blk Pv1.out (by omega))
    have Hv2 := Lib.hid (And.intro (Hv1.out.1.trans hce) hcur); clear hce hcur
    subst hbl
    have hcv := run_str_of_bytes (P := Try.prog) Try.underlying22 Try.underlying5 Try.underlying9 hsb.sa
    have hsz : (strOf bs).size ≤ 3 := by rw [strOf_size]; omega
    generalize strOf bs = s at hcv hsz
    clear hsb
    have f0 := Pv2.out.frozen 0
    have f1 := Pv2.out.frozen 1
    have f2 := Pv2.out.frozen 2
    have f3 := Pv2.out.frozen 3
    have f4 := Pv2.out.frozen 4
    obtain ⟨p0, p1, p2, p3, p4⟩ := Pv2.out.c5
    have hzz : w.heap.size < v2.heap.size := Pv2.out.lt
    go_wp2_with fail
    refine bodyPost_ret (v := valE 8 0 0 s) (by simp [results, valE, Try.results110, go_sem, *] <;> rfl) rfl ?_
    exact RetV.leaf ⟨by omega, by omega, I64.zero, I64.zero, by omega⟩ (by omega) (Ce.set5 hg Hv2.out (Nat.le_refl _) _ _ _ _ _)
end Go.Proofs.Ytblcmajhdndmfaa
