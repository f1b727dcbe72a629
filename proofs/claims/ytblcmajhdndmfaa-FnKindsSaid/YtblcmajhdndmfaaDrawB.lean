/- Contracts: the numbers that the reference draws. -/
import Derived.Test.YtblcmajhdndmfaaDrawA
namespace Go.Proofs.Ytblcmajhdndmfaa
open Go.RowKit
set_option linter.unusedVariables false
set_option maxRecDepth 100000

theorem Ce.set2 {g : Nat} {code : List UInt8} {w w' : World} (hg : g < w.heap.size) (h : Ce g w w' ∧ Cur w' g code) {b : Nat} (hb : w.heap.size ≤ b) (v0 v1 : Value) :
    Ce g w ((w'.setCell ⟨b, 0, none⟩ v0).setCell ⟨b, 1, none⟩ v1) ∧ Cur ((w'.setCell ⟨b, 0, none⟩ v0).setCell ⟨b, 1, none⟩ v1) g code :=
  Ce.far' hg (Ce.far' hg h hb 0 v0) hb 1 v1
def RetF (g : Nat) (code : List UInt8) (w : World) (e : Ending) (w' : World) : Prop :=
  ∃ m x, e = .returned (.agg #[.int .i64 m, .int .i64 x]) ∧ I64 m ∧ -16 ≤ x ∧ x ≤ 45 ∧ Ce g w w' ∧ Cur w' g code

set_option maxHeartbeats 2000000 in
theorem l5Draw_any (g : Nat) (code : List UInt8) (w : World) (hc : Cur w g code) :
    Calls Try.prog 134 #[.pointer (some ⟨g, 0, none⟩)] w (RetF g code w) := by
  have hg := hc.lt
  have B0 := Lib.hid (bAl (bRf w) (.cells #[.int .i64 0, .int .i64 0] 151))
  have P0 := Lib.hid (Blk.new w 151 #[.int .i64 0, .int .i64 0])
  have HC := Lib.hid (hc.below B0.out); clear hc
  go_enter Try.func134, Try.ntmps134
  go_wp2_with fail
  refine (l1Below_any g code 32767 _ (by omega) (by omega) HC.out).mono ?_
  rintro e w1 ⟨k, rfl, hk0, hk1, hce, hcur⟩
  have P1 := Lib.hid (hce.blk P0.out (by omega))
  have HX1 := Lib.hid (And.intro ((Ce.of B0.out (by omega)).trans hce) hcur); clear hce hcur
  have hz1 : w.heap.size < w1.heap.size := P1.out.lt
  go_wp2_with fail
  refine (l1Int_any g code w1.heap.size 8 3 [0, 1, 3, 5, 255, 32767, 65535, 1 + 2 * k] 0 65535 _ (Blk.new w1 _ _) (by omega) rfl (by omega) (by omega) (by intro x hx; simp only [List.mem_cons, List.mem_nil_iff, or_false] at hx; omega) (HX1.out.2.below (bAl (bRf w1) _))).mono ?_
  rintro e w2 ⟨m, rfl, hm0, hm1, hce, hcur⟩
  have P2 := Lib.hid (hce.blk (P1.out.alloc _) (by omega))
  have HX2 := Lib.hid (And.intro ((HX1.out.1.add _ (by omega)).trans hce) hcur); clear hce hcur
  have hz2 : w.heap.size < w2.heap.size := P2.out.lt
  go_wp2_with fail
  refine (l1Below_any g code 47 w2 (by omega) (by omega) HX2.out.2).mono ?_
  rintro e w3 ⟨k2, rfl, hk20, hk21, hce, hcur⟩
  have P3 := Lib.hid (hce.blk P2.out (by omega))
  have HX3 := Lib.hid (And.intro (HX2.out.1.trans hce) hcur); clear hce hcur
  have hz3 : w.heap.size < w3.heap.size := P3.out.lt
  go_wp2_with fail
  refine (l1Int_any g code w3.heap.size 7 3 [0, 0, 1, -1, -16, 30, k2 - 16] (-16) 30 _ (Blk.new w3 _ _) (by omega) rfl (by omega) (by omega) (by intro x hx; simp only [List.mem_cons, List.mem_nil_iff, or_false] at hx; omega) (HX3.out.2.below (bAl (bRf w3) _))).mono ?_
  rintro e w4 ⟨y, rfl, hy0, hy1, hce, hcur⟩
  have P4 := Lib.hid (hce.blk (P3.out.alloc _) (by omega))
  have HX4 := Lib.hid (And.intro ((HX3.out.1.add _ (by omega)).trans hce) hcur); clear hce hcur
  have hz4 : w.heap.size < w4.heap.size := P4.out.lt
  by_cases h0 : m = 0
  · subst h0
    clear hy0 hy1
    obtain ⟨m, hm⟩ : ∃ m : Int, m = 0 := ⟨0, rfl⟩
    obtain ⟨y', hy'⟩ : ∃ y : Int, y = 0 := ⟨0, rfl⟩
    go_wp2_with fail
    refine (l1Once_any g code 3 w4 (by omega) (by omega) HX4.out.2).mono ?_
    rintro e w5 ⟨bb, rfl, hce, hcur⟩
    have P5 := Lib.hid (hce.blk P4.out (by omega))
    have HX5 := Lib.hid (And.intro (HX4.out.1.trans hce) hcur); clear hce hcur
    have hz5 : w.heap.size < w5.heap.size := P5.out.lt
    have f0 := P5.out.frozen 0
    have f1 := P5.out.frozen 1
    obtain ⟨p0, p1⟩ := P5.out.c2
    cases bb
    · go_wp2_with fail
      refine bodyPost_ret (v := .agg #[.int .i64 0, .int .i64 0]) (by simp [results, Try.results134, go_sem, *] <;> rfl) rfl ?_
      have h5 := Ce.set2 hg HX5.out (Nat.le_refl w.heap.size) (.int .i64 0) (.int .i64 0)
      exact ⟨0, 0, rfl, ⟨by omega, by omega⟩, by omega, by omega, h5.1, h5.2⟩
    · go_wp2_with fail
      refine bodyPost_ret (v := .agg #[.int .i64 0, .int .i64 0]) (by simp [results, Try.results134, go_sem, *] <;> rfl) rfl ?_
      have h5 := Ce.set2 hg HX5.out (Nat.le_refl w.heap.size) (.int .i64 0) (.int .i64 0)
      exact ⟨0, 0, rfl, ⟨by omega, by omega⟩, by omega, by omega, h5.1, h5.2⟩
  have hb0 : (m == 0) = false := by simp [h0]
  by_cases h1 : m = 1
  · subst h1
    go_wp2_with fail
    refine (l1Once_any g code 2 w4 (by omega) (by omega) HX4.out.2).mono ?_
    rintro e w5 ⟨b1, rfl, hce, hcur⟩
    have P5 := Lib.hid (hce.blk P4.out (by omega))
    have HX5 := Lib.hid (And.intro (HX4.out.1.trans hce) hcur); clear hce hcur
    have hz5 : w.heap.size < w5.heap.size := P5.out.lt
    obtain ⟨m, hm⟩ : ∃ m : Int, m = 1 := ⟨1, rfl⟩
    cases b1
    · go_wp2_with fail
      refine (l1Once_any g code 3 w5 (by omega) (by omega) HX5.out.2).mono ?_
      rintro e w6 ⟨bb, rfl, hce, hcur⟩
      have P6 := Lib.hid (hce.blk P5.out (by omega))
      have HX6 := Lib.hid (And.intro (HX5.out.1.trans hce) hcur); clear hce hcur
      have hz6 : w.heap.size < w6.heap.size := P6.out.lt
      have f0 := P6.out.frozen 0
      have f1 := P6.out.frozen 1
      obtain ⟨p0, p1⟩ := P6.out.c2
      cases bb
      · go_wp2_with fail
        refine bodyPost_ret (v := .agg #[.int .i64 1, .int .i64 y]) (by simp [results, Try.results134, go_sem, *] <;> rfl) rfl ?_
        have h5 := Ce.set2 hg HX6.out (Nat.le_refl w.heap.size) (.int .i64 1) (.int .i64 y)
        exact ⟨1, y, rfl, ⟨by omega, by omega⟩, by omega, by omega, h5.1, h5.2⟩
      · go_wp2_with fail
        refine bodyPost_ret (v := .agg #[.int .i64 (-1), .int .i64 y]) (by simp [results, Try.results134, go_sem, *] <;> rfl) rfl ?_
        have h5 := Ce.set2 hg HX6.out (Nat.le_refl w.heap.size) (.int .i64 (-1)) (.int .i64 y)
        exact ⟨-1, y, rfl, ⟨by omega, by omega⟩, by omega, by omega, h5.1, h5.2⟩
    · go_wp2_with fail
      refine (l1Int_any g code w5.heap.size 2 3 [31, 45] 31 45 _ (Blk.new w5 _ _) (by omega) rfl (by omega) (by omega) (by decide) (HX5.out.2.below (bAl (bRf w5) _))).mono ?_
      clear hy0 hy1
      rintro e w6 ⟨y, rfl, hy0, hy1, hce, hcur⟩
      have P6 := Lib.hid (hce.blk (P5.out.alloc _) (by omega))
      have HX6 := Lib.hid (And.intro ((HX5.out.1.add _ (by omega)).trans hce) hcur); clear hce hcur
      have hz6 : w.heap.size < w6.heap.size := P6.out.lt
      go_wp2_with fail
      refine (l1Once_any g code 3 w6 (by omega) (by omega) HX6.out.2).mono ?_
      rintro e w7 ⟨bb, rfl, hce, hcur⟩
      have P7 := Lib.hid (hce.blk P6.out (by omega))
      have HX7 := Lib.hid (And.intro (HX6.out.1.trans hce) hcur); clear hce hcur
      have hz7 : w.heap.size < w7.heap.size := P7.out.lt
      have f0 := P7.out.frozen 0
      have f1 := P7.out.frozen 1
      obtain ⟨p0, p1⟩ := P7.out.c2
      cases bb
      · go_wp2_with fail
        refine bodyPost_ret (v := .agg #[.int .i64 1, .int .i64 y]) (by simp [results, Try.results134, go_sem, *] <;> rfl) rfl ?_
        have h5 := Ce.set2 hg HX7.out (Nat.le_refl w.heap.size) (.int .i64 1) (.int .i64 y)
        exact ⟨1, y, rfl, ⟨by omega, by omega⟩, by omega, by omega, h5.1, h5.2⟩
      · go_wp2_with fail
        refine bodyPost_ret (v := .agg #[.int .i64 (-1), .int .i64 y]) (by simp [results, Try.results134, go_sem, *] <;> rfl) rfl ?_
        have h5 := Ce.set2 hg HX7.out (Nat.le_refl w.heap.size) (.int .i64 (-1)) (.int .i64 y)
        exact ⟨-1, y, rfl, ⟨by omega, by omega⟩, by omega, by omega, h5.1, h5.2⟩
  have hb1 : (m == 1) = false := by simp [h1]
  clear h0 h1
  go_wp2_with fail
  refine (l1Once_any g code 3 w4 (by omega) (by omega) HX4.out.2).mono ?_
  rintro e w5 ⟨bb, rfl, hce, hcur⟩
  have P5 := Lib.hid (hce.blk P4.out (by omega))
  have HX5 := Lib.hid (And.intro (HX4.out.1.trans hce) hcur); clear hce hcur
  have hz5 : w.heap.size < w5.heap.size := P5.out.lt
  have f0 := P5.out.frozen 0
  have f1 := P5.out.frozen 1
  obtain ⟨p0, p1⟩ := P5.out.c2
  cases bb
  · go_wp2_with fail
    refine bodyPost_ret (v := .agg #[.int .i64 m, .int .i64 y]) (by simp [results, Try.results134, go_sem, *] <;> rfl) rfl ?_
    have h5 := Ce.set2 hg HX5.out (Nat.le_refl w.heap.size) (.int .i64 m) (.int .i64 y)
    exact ⟨m, y, rfl, ⟨by omega, by omega⟩, by omega, by omega, h5.1, h5.2⟩
  · go_wp2_with fail
    refine bodyPost_ret (v := .agg #[.int .i64 (-m), .int .i64 y]) (by simp [results, Try.results134, go_sem, *] <;> rfl) rfl ?_
    have h5 := Ce.set2 hg HX5.out (Nat.le_refl w.heap.size) (.int .i64 (-m)) (.int .i64 y)
    exact ⟨-m, y, rfl, ⟨by omega, by omega⟩, by omega, by omega, h5.1, h5.2⟩
end Go.Proofs.Ytblcmajhdndmfaa
