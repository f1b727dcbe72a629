/- Contracts (what is wanted for draws): floating-point numbers as decimal ones. -/
import Derived.Test.YtblcmajhdndmfaaDraw9
namespace Go.Proofs.Ytblcmajhdndmfaa
open Go.RowKit
set_option linter.unusedVariables false
set_option maxRecDepth 100000

theorem wK (y : Int) : I64 (IntKind.i64.wrap y) := by rw [IntKind.wrap_i64]; exact ⟨by omega, by omega⟩
def RetD (w : World) (e : Ending) (w' : World) : Prop := ∃ n x, e = .returned (.agg #[.int .i64 n, .int .i64 x]) ∧ I64 n ∧ I64 x ∧ Below w.heap.size w w'

set_option maxHeartbeats 1000000 in
theorem specFltDecW_any (m x : Int) (w : World) (hI : I64 m) (hx0 : -16 ≤ x) (hx1 : x ≤ 45) : Calls Try.prog 152 #[.agg #[.int .i64 m, .int .i64 x]] w (RetD w) := by
  have B0 := Lib.hid (bAl (bAl (bRf w) (.cells #[.int .i64 m, .int .i64 x] 151)) (.cells #[.int .i64 0, .int .i64 0] 155))
  have P0 := Lib.hid ((Blk.new w 151 #[.int .i64 m, .int .i64 x]).alloc (.cells #[.int .i64 0, .int .i64 0] 155))
  have P1 := Lib.hid (Blk.at (w := w.alloc (.cells #[.int .i64 m, .int .i64 x] 151)) (g := w.heap.size + 1) (t := 155) (cs := #[.int .i64 0, .int .i64 0]) (by simp))
  have HI := Lib.hid hI; clear hI
  go_enter Try.func152, Try.ntmps152
  go_wp2_with fail
  refine (specFltOkW_any m x _ HI.out).mono ?_
  rintro e w1 ⟨b, rfl, hb1⟩
  have Q0 := Lib.hid (P0.out.below hb1)
  have Q1 := Lib.hid (P1.out.below hb1)
  have B1 := Lib.hid (bTr B0.out hb1); clear hb1
  have hz1 : w.heap.size + 1 < w1.heap.size := Q1.out.lt
  obtain ⟨p0, p1⟩ := Q0.out.c2
  obtain ⟨q0, q1⟩ := Q1.out.c2
  have f0 := Q1.out.frozen 0
  have f1 := Q1.out.frozen 1
  cases b
  · go_wp2_with fail
    refine bodyPost_ret (v := .agg #[.int .i64 0, .int .i64 0]) (by simp [results, Try.results152, go_sem, *] <;> rfl) rfl ?_
    exact ⟨0, 0, rfl, I64.zero, I64.zero, set2 B1.out (by omega) _ _⟩
  by_cases hx : 0 ≤ x
  · obtain ⟨j, rfl⟩ : ∃ j : Nat, x = j := ⟨x.toNat, by omega⟩
    have HW := w64 (m * 2 ^ j)
    go_wp2_with fail
    refine bodyPost_ret (v := .agg #[.int .i64 (wrap64 (m * 2 ^ j)), .int .i64 0]) (by simp [results, Try.results152, go_sem, *] <;> rfl) rfl ?_
    exact ⟨_, 0, rfl, HW, I64.zero, set2 B1.out (by omega) _ _⟩
  · have hx' : x < 0 := by omega
    have hb0 : w.heap.size < w1.heap.size := by omega
    have m1 : w.heap.size ≠ w1.heap.size := by omega
    have m1' : w1.heap.size ≠ w.heap.size := by omega
    have hwx : IntKind.i64.wrap (-x) = -x := by rw [IntKind.wrap_i64]; omega
    go_wp2_with fail
    go_cut [3, 4] from 19 to 30 (fun s3 s4 wx => ∃ gy n x b, s3 = .pointer (some ⟨gy, 0, none⟩) ∧ s4 = .bool b ∧ w1.heap.size ≤ gy ∧ I64 n ∧ I64 x ∧ Blk wx gy 155 #[.int .i64 n, .int .i64 x] ∧ Below w1.heap.size w1 wx)
    case first =>
      go_region_held3 (fun u => u.cell? ⟨w.heap.size, 0, none⟩ = some (.int .i64 m) ∧ u.cell? ⟨w.heap.size, 1, none⟩ = some (.int .i64 x)) (go_keep)
        (first
          | (go_at_call 161; (refine (specPow_any 5 (-x) _ rfl (by omega) (by omega)).mono ?_; rintro e w3 ⟨pk, rfl, hpk, hb3⟩; have HB3 := Lib.hid (show Below w1.heap.size w1 w3 from (by first | exact bTr (bRf w1).drew hb3 | exact bTr (bAl (bRf w1) _).drew hb3)); have i0 := (HB3.out.cell (p := ⟨w.heap.size, _, none⟩) hb0).trans p0; have i1 := (HB3.out.cell (p := ⟨w.heap.size, _, none⟩) hb0).trans p1; have HR3 := Lib.hid hb3; obtain ⟨hc3, hf3⟩ := bCell hb3; have hs3 := hb3.size; (try simp at hs3); (try have hs3' : w1.heap.size < w3.heap.size := (by omega)); have hz3 : w1.heap.size ≤ w3.heap.size := HB3.out.size; have m3 : w.heap.size ≠ w3.heap.size := (by omega); have m3' : w3.heap.size ≠ w.heap.size := (by omega); clear hb3))
          | (go_at_call 160; (refine (specDecNewW_any _ x _ (wK _)).mono ?_; rintro e w4 ⟨rn, rx, rb, rfl, hrn, hrx, hb4⟩; unfold decB; have HB4 := Lib.hid (show Below w1.heap.size w1 w4 from (by first | exact bTr HB3.out hb4 | exact bTr (bAl HB3.out _) hb4)); have j0 := (HB4.out.cell (p := ⟨w.heap.size, _, none⟩) hb0).trans p0; have j1 := (HB4.out.cell (p := ⟨w.heap.size, _, none⟩) hb0).trans p1; have HR4 := Lib.hid hb4; obtain ⟨hc4, hf4⟩ := bCell hb4; have hs4 := hb4.size; (try simp at hs4); (try have hs4' : w3.heap.size < w4.heap.size := (by omega)); (try have hs4'' : w1.heap.size < w4.heap.size := (by omega)); have hz4 : w1.heap.size ≤ w4.heap.size := HB4.out.size; have m4 : w.heap.size ≠ w4.heap.size := (by omega); have m4' : w4.heap.size ≠ w.heap.size := (by omega); have HR := Lib.hid (And.intro hrn hrx); clear hb4 hrn hrx)))
      · go_wp2_with fail
        go_meet
        exact ⟨w4.heap.size, rn, rx, rb, rfl, rfl, hz4, HR.out.1, HR.out.2, Blk.at rfl, bAl HB4.out _⟩
      · go_wp2_with fail
        go_meet
        refine ⟨w3.heap.size, rn, rx, rb, rfl, rfl, hz3, HR.out.1, HR.out.2, ((((Blk.new w3 _ _).below HR4.out).set_ 0 _).set_ 1 _), (HB4.out.setCell (p := ⟨w3.heap.size, 0, none⟩) hz3 _).setCell (p := ⟨w3.heap.size, 1, none⟩) hz3 _⟩
      · go_wp2_with fail
        go_meet
        refine ⟨w1.heap.size, rn, rx, rb, rfl, rfl, Nat.le_refl _, HR.out.1, HR.out.2, (((((Blk.new w1 _ _).drew.below HR3.out).below HR4.out).set_ 0 _).set_ 1 _), set2 HB4.out (Nat.le_refl _) _ _⟩
    case rest =>
      obtain ⟨gy, n, y, b, rfl, rfl, hgy, hn, hy, hY, hbx⟩ := hcut
      obtain ⟨y0, y1⟩ := hY.c2
      have R1 := Q1.out.below hbx
      have hz2 : w.heap.size + 1 < wc.heap.size := R1.lt
      have g0 := R1.frozen 0
      have g1 := R1.frozen 1
      obtain ⟨r0, r1⟩ := R1.c2
      have n1 : gy ≠ w.heap.size + 1 := by omega
      have n2 : w.heap.size + 1 ≠ gy := by omega
      have HX := Lib.hid (And.intro hn (And.intro hy (bTr B1.out hbx))); clear hn hy hbx hY p0 p1 q0 q1 f0 f1
      go_wp2_with fail
      refine bodyPost_ret (v := .agg #[.int .i64 n, .int .i64 y]) (by simp [results, Try.results152, go_sem, *] <;> rfl) rfl ?_
      exact ⟨n, y, rfl, HX.out.1, HX.out.2.1, set2 HX.out.2.2 (by omega) _ _⟩
end Go.Proofs.Ytblcmajhdndmfaa
