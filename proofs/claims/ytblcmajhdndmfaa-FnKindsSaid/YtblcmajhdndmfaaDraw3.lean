/- Contracts of the reference's draws: leaves. -/
import Derived.Test.YtblcmajhdndmfaaDraw2
import Derived.Test.YtblcmajhdndmfaaStep
namespace Go.Proofs.Ytblcmajhdndmfaa
open Go.RowKit
set_option linter.unusedVariables false
set_option maxRecDepth 100000

theorem Ce.far {g : Nat} {code : List UInt8} {w w' : World} (h : Ce g w w' ∧ Cur w' g code) {b : Nat} (hb : w.heap.size ≤ b) (o : Nat) (v : Value) : Ce g w (w'.setCell ⟨b, o, none⟩ v) ∧ Cur (w'.setCell ⟨b, o, none⟩ v) g code ∨ w.heap.size ≤ g := by
  rcases Nat.lt_or_ge g w.heap.size with hg | hg
  · left
    obtain ⟨h1, h2⟩ := h
    have hB : Below w.heap.size w' (w'.setCell ⟨b, o, none⟩ v) := (Below.refl _ _).setCell (p := ⟨b, o, none⟩) hb _
    refine ⟨⟨h1.low.trans (hB.mono (by omega)), fun k a1 a2 => (hB.block k a2).trans (h1.high k a1 a2)⟩, ?_⟩
    obtain ⟨A, c, i, hh, k1, k2, k3, k4, k5⟩ := h2
    exact ⟨A, c, i, hh, (hB.block g hg).trans k1, k2, k3, k4, SS.keep k5 (fun x hx => hB.block x (by omega)) (fun _ h => h)⟩
  · exact .inr hg
theorem Ce.far' {g : Nat} {code : List UInt8} {w w' : World} (hg : g < w.heap.size) (h : Ce g w w' ∧ Cur w' g code) {b : Nat} (hb : w.heap.size ≤ b) (o : Nat) (v : Value) : Ce g w (w'.setCell ⟨b, o, none⟩ v) ∧ Cur (w'.setCell ⟨b, o, none⟩ v) g code :=
  (Ce.far h hb o v).resolve_right (by omega)
theorem Ce.set5 {g : Nat} {code : List UInt8} {w w' : World} (hg : g < w.heap.size) (h : Ce g w w' ∧ Cur w' g code) {b : Nat} (hb : w.heap.size ≤ b) (v0 v1 v2 v3 v4 : Value) :
    Ce g w (((((w'.setCell ⟨b, 0, none⟩ v0).setCell ⟨b, 1, none⟩ v1).setCell ⟨b, 2, none⟩ v2).setCell ⟨b, 3, none⟩ v3).setCell ⟨b, 4, none⟩ v4) ∧ Cur (((((w'.setCell ⟨b, 0, none⟩ v0).setCell ⟨b, 1, none⟩ v1).setCell ⟨b, 2, none⟩ v2).setCell ⟨b, 3, none⟩ v3).setCell ⟨b, 4, none⟩ v4) g code :=
  Ce.far' hg (Ce.far' hg (Ce.far' hg (Ce.far' hg (Ce.far' hg h hb 0 v0) hb 1 v1) hb 2 v2) hb 3 v3) hb 4 v4

def valE (k n x : Int) (s : ByteArray) : Value := .agg #[.int .i64 k, .int .i64 n, .int .i64 x, .string s, .slice none 0 0]

theorem l1Signed_any (g : Nat) (code : List UInt8) (w : World) (hc : Cur w g code) :
    Calls Try.prog 132 #[.pointer (some ⟨g, 0, none⟩)] w (RetI g code (-1000000000000000) 1000000000000000 w) := by
  go_enter Try.func132, Try.ntmps132
  go_wp2_with fail
  refine (l1Once_any g code 2 w (by omega) (by omega) hc).mono ?_
  rintro e w1 ⟨b, rfl, hce, hcur⟩
  have HX := Lib.hid (And.intro hce hcur); clear hce hcur
  cases b
  all_goals
    go_wp2_with fail
    refine (l1Num_any g code w1 HX.out.2).mono ?_
    rintro e w2 ⟨k, rfl, hk0, hk1, hce, hcur⟩
    have HY := Lib.hid (And.intro (HX.out.1.trans hce) hcur); clear hce hcur
    go_wp2_with fail
    go_ret
    exact ⟨_, rfl, by omega, by omega, HY.out.1, HY.out.2⟩

theorem l2Rune_any (g : Nat) (code : List UInt8) (w : World) (hc : Cur w g code) :
    Calls Try.prog 156 #[.pointer (some ⟨g, 0, none⟩)] w (RetI g code 0 1114111 w) := by
  have hg := hc.lt
  have HC := Lib.hid hc; clear hc
  go_enter Try.func156, Try.ntmps156
  go_wp2_with fail
  refine (l1Int_any g code w.heap.size 18 3 [0, 97, 98, 34, 92, 10, 127, 128, 233, 2047, 2048, 8364, 55295, 57344, 65535, 65536, 128512, 1114111] 0 1114111 _ (Blk.new w _ _) (by omega) rfl (by omega) (by omega) (by decide) (HC.out.below (bAl (bRf w) _))).mono ?_
  rintro e w2 ⟨k, rfl, hk0, hk1, hce, hcur⟩
  have HY := Lib.hid (And.intro (((Ce.refl g w).add _ (by omega)).trans hce) hcur); clear hce hcur
  go_wp2_with fail
  go_ret
  exact ⟨k, rfl, hk0, by omega, HY.out.1, HY.out.2⟩

theorem IntVal_any (n : Int) (w : World) : Calls Try.prog 131 #[.int .i64 n] w (Ret w (valE 3 n 0 .empty)) := by
  go_enter Try.func131, Try.ntmps131
  go_wp2_with fail
  refine bodyPost_ret (v := valE 3 n 0 .empty) (by simp [results, valE, Try.results131, go_sem, *] <;> rfl) rfl ?_
  exact ⟨rfl, bAl (bRf w) _⟩
theorem TextVal_any (s : ByteArray) (w : World) : Calls Try.prog 137 #[.string s] w (Ret w (valE 7 0 0 s)) := by
  go_enter Try.func137, Try.ntmps137
  go_wp2_with fail
  refine bodyPost_ret (v := valE 7 0 0 s) (by simp [results, valE, Try.results137, go_sem, *] <;> rfl) rfl ?_
  exact ⟨rfl, bAl (bRf w) _⟩
theorem l6FltVal_any (m x : Int) (w : World) : Calls Try.prog 133 #[.agg #[.int .i64 m, .int .i64 x]] w (Ret w (valE 4 m x .empty)) := by
  have B0 := Lib.hid (bAl (bAl (bRf w) (.cells #[.int .i64 m, .int .i64 x] 151)) (.cells #[.int .i64 0, .int .i64 0, .int .i64 0, .string .empty, .slice none 0 0] 40))
  go_enter Try.func133, Try.ntmps133
  go_wp2_with fail
  refine bodyPost_ret (v := valE 4 m x .empty) (by simp [results, valE, Try.results133, go_sem, *] <;> rfl) rfl ?_
  exact ⟨rfl, bAl (bAl (bRf w) _) _⟩
def numV (n x : Int) : Value := if x = 0 then valE 3 n 0 .empty else valE 6 n x .empty
theorem NumberVal_any (n x : Int) (w : World) : Calls Try.prog 135 #[.agg #[.int .i64 n, .int .i64 x]] w (Ret w (numV n x)) := by
  have B0 := Lib.hid (bAl (bAl (bRf w) (.cells #[.int .i64 n, .int .i64 x] 155)) (.cells #[.int .i64 0, .int .i64 0, .int .i64 0, .string .empty, .slice none 0 0] 40))
  by_cases hx : x = 0
  · have e : numV n x = valE 3 n 0 .empty := by unfold numV; rw [if_pos hx]
    rw [e]
    subst hx
    have P1 := Lib.hid (Blk.at (w := w.alloc (.cells #[.int .i64 n, .int .i64 0] 155)) (g := w.heap.size + 1) (t := 40) (cs := #[.int .i64 0, .int .i64 0, .int .i64 0, .string .empty, .slice none 0 0]) (by simp))
    go_enter Try.func135, Try.ntmps135
    go_wp2_with fail
    refine (IntVal_any n _).mono ?_
    rintro e w1 ⟨rfl, hb1⟩
    unfold valE
    have R1 := P1.out.below hb1
    have f0 := R1.frozen 0
    have f1 := R1.frozen 1
    have f2 := R1.frozen 2
    have f3 := R1.frozen 3
    have f4 := R1.frozen 4
    obtain ⟨r0, r1, r2, r3, r4⟩ := R1.c5
    have hz1 : w.heap.size + 1 < w1.heap.size := R1.lt
    have B1 := Lib.hid (bTr B0.out hb1); clear hb1 R1
    go_wp2_with fail
    refine bodyPost_ret (v := valE 3 n 0 .empty) (by simp [results, valE, Try.results135, go_sem, *] <;> rfl) rfl ?_
    refine ⟨rfl, ?_⟩
    refine Below.setCell (Below.setCell (Below.setCell (Below.setCell (Below.setCell B1.out ?_ _) ?_ _) ?_ _) ?_ _) ?_ _
    all_goals (simp; try omega)
  · have e : numV n x = valE 6 n x .empty := by unfold numV; rw [if_neg hx]
    rw [e]
    have hxb : (x == 0) = false := by simp [hx]
    go_enter Try.func135, Try.ntmps135
    go_wp2_with fail
    refine bodyPost_ret (v := valE 6 n x .empty) (by simp [results, valE, Try.results135, go_sem, *] <;> rfl) rfl ?_
    exact ⟨rfl, bAl (bAl (bRf w) _) _⟩

/-- A leaf of some kind. -/
def Leaf (k n x : Int) (s : ByteArray) : Prop := 1 ≤ k ∧ k ≤ 8 ∧ I64 n ∧ I64 x ∧ s.size ≤ 100
def RetL (g : Nat) (code : List UInt8) (w : World) (e : Ending) (w' : World) : Prop :=
  ∃ k n x s, e = .returned (valE k n x s) ∧ Leaf k n x s ∧ Ce g w w' ∧ Cur w' g code

theorem l6Name_any (g : Nat) (code : List UInt8) (w : World) (hc : Cur w g code) :
    Calls Try.prog 140 #[.pointer (some ⟨g, 0, none⟩)] w (RetL g code w) := by
  have hg := hc.lt
  have B0 := Lib.hid (bAl (bRf w) (.cells #[.int .i64 0, .int .i64 0, .int .i64 0, .string .empty, .slice none 0 0] 40))
  have P0 := Lib.hid (Blk.new w 40 #[.int .i64 0, .int .i64 0, .int .i64 0, .string .empty, .slice none 0 0])
  have HC := Lib.hid (hc.below B0.out); clear hc
  go_enter Try.func140, Try.ntmps140
  go_wp2_with fail
  refine (l1Once_any g code 6 _ (by omega) (by omega) HC.out).mono ?_
  rintro e w1 ⟨b, rfl, hce, hcur⟩
  have P1 := Lib.hid (hce.blk P0.out (by omega))
  have HX := Lib.hid (And.intro ((Ce.of B0.out (by omega)).trans hce) hcur); clear hce hcur
  have hz1 : w.heap.size < w1.heap.size := P1.out.lt
  cases b
  · go_wp2_with fail
    refine (l1Str_any g code w1.heap.size 6 9 [⟨#[97]⟩, ⟨#[98]⟩, ⟨#[99]⟩, ⟨#[]⟩, ⟨#[107, 101, 121]⟩, ⟨#[195, 169]⟩] _ (Blk.new w1 _ _) (by omega) rfl (by omega) (by omega) (HX.out.2.below (bAl (bRf w1) _))).mono ?_
    rintro e w2 ⟨s, rfl, hs, hce, hcur⟩
    have hs8 : s.size ≤ 8 := by
      have : ∀ s ∈ ([⟨#[97]⟩, ⟨#[98]⟩, ⟨#[99]⟩, ⟨#[]⟩, ⟨#[107, 101, 121]⟩, ⟨#[195, 169]⟩] : List ByteArray), s.size ≤ 8 := by decide
      exact this s hs
    have P2 := Lib.hid (hce.blk (P1.out.alloc _) (by omega))
    have HY := Lib.hid (And.intro ((HX.out.1.add _ (by omega)).trans hce) hcur); clear hce hcur hs
    go_wp2_with fail
    refine (TextVal_any s _).mono ?_
    rintro e w3 ⟨rfl, hb3⟩
    unfold valE
    have R3 := P2.out.below hb3
    have f0 := R3.frozen 0
    have f1 := R3.frozen 1
    have f2 := R3.frozen 2
    have f3 := R3.frozen 3
    have f4 := R3.frozen 4
    obtain ⟨r0, r1, r2, r3, r4⟩ := R3.c5
    have hz3 : w.heap.size < w3.heap.size := R3.lt
    have HZ := Lib.hid (And.intro (HY.out.1.trans (Ce.of hb3 (by have := HY.out.2.lt; omega))) (HY.out.2.below hb3)); clear hb3 R3
    go_wp2_with fail
    refine bodyPost_ret (v := valE 7 0 0 s) (by simp [results, valE, Try.results140, go_sem, *] <;> rfl) rfl ?_
    have h5 := Ce.set5 hg HZ.out (Nat.le_refl w.heap.size) (.int .i64 7) (.int .i64 0) (.int .i64 0) (.string s) (.slice none 0 0)
    exact ⟨7, 0, 0, s, rfl, ⟨by omega, by omega, I64.zero, I64.zero, by omega⟩, h5.1, h5.2⟩
  · go_wp2_with fail
    refine (l1Below_any g code 4 w1 (by omega) (by omega) HX.out.2).mono ?_
    rintro e w2 ⟨k, rfl, hk0, hk1, hce, hcur⟩
    have P2 := Lib.hid (hce.blk P1.out (by omega))
    have HY := Lib.hid (And.intro (HX.out.1.trans hce) hcur); clear hce hcur
    go_wp2_with fail
    refine (IntVal_any k _).mono ?_
    rintro e w3 ⟨rfl, hb3⟩
    unfold valE
    have R3 := P2.out.below hb3
    have f0 := R3.frozen 0
    have f1 := R3.frozen 1
    have f2 := R3.frozen 2
    have f3 := R3.frozen 3
    have f4 := R3.frozen 4
    obtain ⟨r0, r1, r2, r3, r4⟩ := R3.c5
    have hz3 : w.heap.size < w3.heap.size := R3.lt
    have HZ := Lib.hid (And.intro (HY.out.1.trans (Ce.of hb3 (by have := HY.out.2.lt; omega))) (HY.out.2.below hb3)); clear hb3 R3
    go_wp2_with fail
    refine bodyPost_ret (v := valE 3 k 0 .empty) (by simp [results, valE, Try.results140, go_sem, *] <;> rfl) rfl ?_
    have h5 := Ce.set5 hg HZ.out (Nat.le_refl w.heap.size) (.int .i64 3) (.int .i64 k) (.int .i64 0) (.string .empty) (.slice none 0 0)
    exact ⟨3, k, 0, .empty, rfl, ⟨by omega, by omega, ⟨by omega, by omega⟩, I64.zero, by simp⟩, h5.1, h5.2⟩
end Go.Proofs.Ytblcmajhdndmfaa
