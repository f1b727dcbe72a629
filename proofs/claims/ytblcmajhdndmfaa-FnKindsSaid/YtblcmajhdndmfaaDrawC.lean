/- Contracts: the decimal numbers that the reference draws. -/
import Derived.Test.YtblcmajhdndmfaaDrawB
namespace Go.Proofs.Ytblcmajhdndmfaa
open Go.RowKit
set_option linter.unusedVariables false
set_option maxRecDepth 100000

def RetDc (g : Nat) (code : List UInt8) (w : World) (e : Ending) (w' : World) : Prop :=
  ∃ n x, e = .returned (.agg #[.int .i64 n, .int .i64 x]) ∧ I64 n ∧ I64 x ∧ Ce g w w' ∧ Cur w' g code

set_option maxHeartbeats 1000000 in
theorem l4Draw_any (g : Nat) (code : List UInt8) (w : World) (hc : Cur w g code) :
    Calls Try.prog 154 #[.pointer (some ⟨g, 0, none⟩)] w (RetDc g code w) := by
  have hg := hc.lt
  have B0 := Lib.hid (bAl (bRf w) (.cells #[.int .i64 0, .int .i64 0] 155))
  have P0 := Lib.hid (Blk.new w 155 #[.int .i64 0, .int .i64 0])
  have HC := Lib.hid (hc.below B0.out); clear hc
  go_enter Try.func154, Try.ntmps154
  go_wp2_with fail
  go_loopg [3] 6 (fun gk i wr => ∃ k : Nat, i = .int .i64 k ∧ gk = 6 - k ∧ k ≤ 6 ∧ Ce g w wr ∧ Cur wr g code ∧ Blk wr w.heap.size 155 #[.int .i64 0, .int .i64 0])
  case atStart => exact ⟨0, rfl, rfl, by omega, Ce.of B0.out (by omega), HC.out, P0.out⟩
  case round =>
    obtain ⟨k, rfl, rfl, hk, hce, hcur, hP⟩ := hrel
    have hzr := hP.lt
    have HX := Lib.hid (And.intro hce (And.intro hcur hP)); clear hce hcur hP
    by_cases hlt : k < 6
    · have hi1 : (k : Int) < 6 := by omega
      go_wp2_with fail
      refine (l1Signed_any g code wr HX.out.2.1).mono ?_
      rintro e w2 ⟨x, rfl, hx0, hx1, hce, hcur⟩
      have HY := Lib.hid (And.intro (HX.out.1.trans hce) (And.intro hcur (hce.blk HX.out.2.2 (by omega)))); clear hce hcur
      go_wp2_with fail
      refine (l1Below_any g code 17 w2 (by omega) (by omega) HY.out.2.1).mono ?_
      rintro e w3 ⟨y, rfl, hy0, hy1, hce, hcur⟩
      have HZ := Lib.hid (And.intro (HY.out.1.trans hce) (And.intro hcur (hce.blk HY.out.2.2 (by omega)))); clear hce hcur
      have hw : IntKind.i64.wrap (-y) = -y := by rw [IntKind.wrap_i64]; omega
      go_wp2_with fail
      refine (specDecNewW_any x (-y) w3 ⟨by omega, by omega⟩).mono ?_
      rintro e w4 ⟨rn, rx, rb, rfl, hrn, hrx, hb4⟩
      unfold decB
      have hg3 := HZ.out.2.1.lt
      have HI := Lib.hid (And.intro hrn hrx)
      have HW := Lib.hid (And.intro (HZ.out.1.trans (Ce.of hb4 (by omega))) (And.intro (HZ.out.2.1.below hb4) (HZ.out.2.2.below hb4))); clear hb4 hrn hrx
      have R := HW.out.2.2
      have f0 := R.frozen 0
      have f1 := R.frozen 1
      obtain ⟨p0, p1⟩ := R.c2
      have hz4 : w.heap.size < w4.heap.size := R.lt
      have hg4 := HW.out.2.1.lt
      clear R
      cases rb
      · go_wp2_with fail
        go_roundg (6 - (k + 1))
        case measure => omega
        case rel => exact ⟨k + 1, by go_num, rfl, by omega, HW.out.1.add _ (by omega), HW.out.2.1.below (bAl (bRf w4) _), HW.out.2.2.alloc _⟩
      · go_wp2_with fail
        refine bodyPost_ret (v := .agg #[.int .i64 rn, .int .i64 rx]) (by simp [results, Try.results154, go_sem, *] <;> rfl) rfl ?_
        have h5 := Ce.set2 hg (And.intro HW.out.1 HW.out.2.1) (Nat.le_refl w.heap.size) (.int .i64 rn) (.int .i64 rx)
        exact ⟨rn, rx, rfl, HI.out.1, HI.out.2, h5.1.add _ (by simp; omega), h5.2.below (bAl (bRf _) _)⟩
    · have hi1 : ¬ ((k : Int) < 6) := by omega
      have f0 := HX.out.2.2.frozen 0
      have f1 := HX.out.2.2.frozen 1
      obtain ⟨p0, p1⟩ := HX.out.2.2.c2
      go_wp2_with fail
      refine bodyPost_ret (v := .agg #[.int .i64 15, .int .i64 (-1)]) (by simp [results, Try.results154, go_sem, *] <;> rfl) rfl ?_
      have h5 := Ce.set2 hg (And.intro HX.out.1 HX.out.2.1) (Nat.le_refl w.heap.size) (.int .i64 15) (.int .i64 (-1))
      exact ⟨15, -1, rfl, ⟨by omega, by omega⟩, ⟨by omega, by omega⟩, h5.1, h5.2⟩

set_option maxHeartbeats 1000000 in
theorem l5Dec_any (g : Nat) (code : List UInt8) (w : World) (hc : Cur w g code) :
    Calls Try.prog 136 #[.pointer (some ⟨g, 0, none⟩)] w (RetDc g code w) := by
  have hg := hc.lt
  have B0 := Lib.hid (bAl (bRf w) (.cells #[.int .i64 0, .int .i64 0] 155))
  have P0 := Lib.hid (Blk.new w 155 #[.int .i64 0, .int .i64 0])
  have HC := Lib.hid (hc.below B0.out); clear hc
  go_enter Try.func136, Try.ntmps136
  go_wp2_with fail
  refine (l1Once_any g code 2 _ (by omega) (by omega) HC.out).mono ?_
  rintro e w1 ⟨b, rfl, hce, hcur⟩
  have P1 := Lib.hid (hce.blk P0.out (by omega))
  have HX := Lib.hid (And.intro ((Ce.of B0.out (by omega)).trans hce) hcur); clear hce hcur
  cases b
  · go_wp2_with fail
    refine (l4Draw_any g code _ HX.out.2).mono ?_
    rintro e wz ⟨n, x, rfl, hn, hx, hce, hcur⟩
    have RZ := hce.blk P1.out (by omega)
    have f0 := RZ.frozen 0
    have f1 := RZ.frozen 1
    obtain ⟨p0, p1⟩ := RZ.c2
    have hzz : w.heap.size < wz.heap.size := RZ.lt
    have HZ := Lib.hid (And.intro (HX.out.1.trans hce) hcur); clear hce hcur RZ
    go_wp2_with fail
    refine bodyPost_ret (v := .agg #[.int .i64 n, .int .i64 x]) (by simp [results, Try.results136, go_sem, *] <;> rfl) rfl ?_
    have h5 := Ce.set2 hg HZ.out (Nat.le_refl w.heap.size) (.int .i64 n) (.int .i64 x)
    exact ⟨n, x, rfl, hn, hx, h5.1, h5.2⟩
  · go_wp2_with fail
    refine (l5Draw_any g code w1 HX.out.2).mono ?_
    rintro e w2 ⟨m, x, rfl, hm, hx0, hx1, hce, hcur⟩
    have P2 := Lib.hid (hce.blk P1.out (by omega))
    have HY := Lib.hid (And.intro (HX.out.1.trans hce) hcur); clear hce hcur
    go_wp2_with fail
    refine (specFltDecW_any m x w2 hm hx0 hx1).mono ?_
    rintro e w3 ⟨n, y, rfl, hn, hy, hb3⟩
    have hg2 := HY.out.2.lt
    have P3 := Lib.hid (P2.out.below hb3)
    have HZ := Lib.hid (And.intro (HY.out.1.trans (Ce.of hb3 (by omega))) (HY.out.2.below hb3)); clear hb3
    have hg3 := HZ.out.2.lt
    have hz3 := P3.out.lt
    have Q3 := Lib.hid (Blk.new w3 155 #[.int .i64 n, .int .i64 y])
    have P3a := Lib.hid (P3.out.alloc (.cells #[.int .i64 n, .int .i64 y] 155))
    have HZa := Lib.hid (And.intro (HZ.out.1.add (.cells #[.int .i64 n, .int .i64 y] 155) (by omega)) (HZ.out.2.below (bAl (bRf w3) (.cells #[.int .i64 n, .int .i64 y] 155))))
    go_wp2_with fail
    refine (l1Once_any g code 3 _ (by omega) (by omega) HZa.out.2).mono ?_
    rintro e w4 ⟨b2, rfl, hce, hcur⟩
    have P4 := Lib.hid (hce.blk P3a.out (by omega))
    have Q4 := Lib.hid (hce.blk Q3.out (by omega))
    have HV := Lib.hid (And.intro (HZa.out.1.trans hce) hcur); clear hce hcur
    have hz4 : w3.heap.size < w4.heap.size := Q4.out.lt
    obtain ⟨q0, q1⟩ := Q4.out.c2
    have g0 := Q4.out.frozen 0
    have g1 := Q4.out.frozen 1
    have hg4 := HV.out.2.lt
    cases b2
    · go_wp2_with fail
      refine (specDecOkW_any n y _ hn).mono ?_
      rintro e w5 ⟨b3, rfl, hb5⟩
      have P5 := Lib.hid (P4.out.below hb5)
      have Q5 := Lib.hid (Q4.out.below hb5)
      have HU := Lib.hid (And.intro (HV.out.1.trans (Ce.of hb5 (by first | omega | (simp; omega)))) (HV.out.2.below hb5)); clear hb5 q0 q1 g0 g1
      have hz5 : w3.heap.size < w5.heap.size := Q5.out.lt
      have hg5 := HU.out.2.lt
      obtain ⟨q0, q1⟩ := Q5.out.c2
      cases b3
      · go_wp2_with fail
        refine (l4Draw_any g code _ HU.out.2).mono ?_
        rintro e wz ⟨n, x, rfl, hn, hx, hce, hcur⟩
        have RZ := hce.blk P5.out (by omega)
        have f0 := RZ.frozen 0
        have f1 := RZ.frozen 1
        obtain ⟨p0, p1⟩ := RZ.c2
        have hzz : w.heap.size < wz.heap.size := RZ.lt
        have HZ := Lib.hid (And.intro (HU.out.1.trans hce) hcur); clear hce hcur RZ
        go_wp2_with fail
        refine bodyPost_ret (v := .agg #[.int .i64 n, .int .i64 x]) (by simp [results, Try.results136, go_sem, *] <;> rfl) rfl ?_
        have h5 := Ce.set2 hg HZ.out (Nat.le_refl w.heap.size) (.int .i64 n) (.int .i64 x)
        exact ⟨n, x, rfl, hn, hx, h5.1, h5.2⟩
      · have f0 := P5.out.frozen 0
        have f1 := P5.out.frozen 1
        obtain ⟨p0, p1⟩ := P5.out.c2
        have hzz : w.heap.size < w5.heap.size := P5.out.lt
        go_wp2_with fail
        refine bodyPost_ret (v := .agg #[.int .i64 n, .int .i64 y]) (by simp [results, Try.results136, go_sem, *] <;> rfl) rfl ?_
        have h5 := Ce.set2 hg HU.out (Nat.le_refl w.heap.size) (.int .i64 n) (.int .i64 y)
        exact ⟨_, y, rfl, hn, hy, h5.1, h5.2⟩
    · have QS := Lib.hid (Q4.out.set_ 0 (.int .i64 (wrap64 (n + 1))))
      have PS := Lib.hid (P4.out.far (p := ⟨w3.heap.size, 0, none⟩) (by simp; omega) (.int .i64 (wrap64 (n + 1))))
      have HS := Lib.hid (Ce.far' hg HV.out (by omega : w.heap.size ≤ w3.heap.size) 0 (.int .i64 (wrap64 (n + 1))))
      go_wp2_with fail
      refine (specDecOkW_any (wrap64 (n + 1)) y _ (w64 _)).mono ?_
      rintro e w5 ⟨b3, rfl, hb5⟩
      have P5 := Lib.hid (PS.out.below hb5)
      have Q5 := Lib.hid (QS.out.below hb5)
      have HU := Lib.hid (And.intro (HS.out.1.trans (Ce.of hb5 (by first | omega | (simp; omega)))) (HS.out.2.below hb5)); clear hb5 q0 q1 g0 g1
      have hz5 : w3.heap.size < w5.heap.size := Q5.out.lt
      have hg5 := HU.out.2.lt
      obtain ⟨q0, q1⟩ := Q5.out.c2
      cases b3
      · go_wp2_with fail
        refine (l4Draw_any g code _ HU.out.2).mono ?_
        rintro e wz ⟨n, x, rfl, hn, hx, hce, hcur⟩
        have RZ := hce.blk P5.out (by omega)
        have f0 := RZ.frozen 0
        have f1 := RZ.frozen 1
        obtain ⟨p0, p1⟩ := RZ.c2
        have hzz : w.heap.size < wz.heap.size := RZ.lt
        have HZ := Lib.hid (And.intro (HU.out.1.trans hce) hcur); clear hce hcur RZ
        go_wp2_with fail
        refine bodyPost_ret (v := .agg #[.int .i64 n, .int .i64 x]) (by simp [results, Try.results136, go_sem, *] <;> rfl) rfl ?_
        have h5 := Ce.set2 hg HZ.out (Nat.le_refl w.heap.size) (.int .i64 n) (.int .i64 x)
        exact ⟨n, x, rfl, hn, hx, h5.1, h5.2⟩
      · have f0 := P5.out.frozen 0
        have f1 := P5.out.frozen 1
        obtain ⟨p0, p1⟩ := P5.out.c2
        have hzz : w.heap.size < w5.heap.size := P5.out.lt
        go_wp2_with fail
        refine bodyPost_ret (v := .agg #[.int .i64 (wrap64 (n + 1)), .int .i64 y]) (by simp [results, Try.results136, go_sem, *] <;> rfl) rfl ?_
        have h5 := Ce.set2 hg HU.out (Nat.le_refl w.heap.size) (.int .i64 (wrap64 (n + 1))) (.int .i64 y)
        exact ⟨_, y, rfl, w64 _, hy, h5.1, h5.2⟩
end Go.Proofs.Ytblcmajhdndmfaa
