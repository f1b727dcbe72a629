/- Contracts: SameOut, in the program and in the reference. -/
import Derived.Test.YtblcmajhdndmfaaSameOut
namespace Go.Proofs.Ytblcmajhdndmfaa
open Go.RowKit
set_option linter.unusedVariables false
set_option maxRecDepth 100000

theorem specSameOut_any (x y : GOut) (A A' B B' : Option Addr) (c c' d d' : Nat) (w : World) (hx : SA w x.b A c) (hx' : SA w x.l A' c') (hy : SA w y.b B d) (hy' : SA w y.l B' d') :
    Calls Try.prog 12 #[.agg #[.slice A x.b.length c, .slice A' x.l.length c', .int .i64 x.code], .agg #[.slice B y.b.length d, .slice B' y.l.length d', .int .i64 y.code]] w (Ret w (.bool (decide (x = y)))) := by
  have b0 := Lib.hid (bAl (bAl (bRf w) (.cells #[.slice A x.b.length c, .slice A' x.l.length c', .int .i64 x.code] 30)) (.cells #[.slice B y.b.length d, .slice B' y.l.length d', .int .i64 y.code] 30))
  have E := Lib.hid (And.intro (And.intro (hx.below b0.out) (hy.below b0.out)) (And.intro (hx'.below b0.out) (hy'.below b0.out))); clear hx hy hx' hy'
  obtain ⟨r, hr⟩ : ∃ r, r = decide (x = y) := ⟨_, rfl⟩
  rw [← hr]
  have R := Lib.hid hr; clear hr
  have k1 := run_str_of_bytes Try.underlying22 Try.underlying5 Try.underlying9 E.out.1.1
  have k2 := run_str_of_bytes Try.underlying22 Try.underlying5 Try.underlying9 E.out.1.2
  rcases Decidable.em (x.b = y.b) with h1 | h1
  · have H1 := Lib.hid h1; clear h1
    have he : ((strOf x.b).toList == (strOf y.b).toList) = true := by rw [str_eq]; simp [strOf_inj, H1.out]
    rcases Decidable.em (x.l = y.l) with h2 | h2
    · have H2 := Lib.hid h2; clear h2
      go_enter Try.func12, Try.ntmps12
      go_wp2_with fail
      refine (specSameLosses_any x.l y.l A' B' c' d' _ E.out.2.1 E.out.2.2).mono ?_
      rintro e w2 ⟨rfl, hb2⟩
      have b2 := Lib.hid (bTr b0.out hb2)
      obtain ⟨hc2, hf2⟩ := bCell hb2
      have hz2 : w.heap.size + 1 < w2.heap.size := by have := hb2.size; (try simp at this); omega
      have hz2' : w.heap.size < w2.heap.size := by omega
      clear hb2
      rw [decide_eq_true H2.out]
      rcases Decidable.em (x.code = y.code) with h3 | h3
      · have R' := Lib.hid (R.out.trans (decide_eq_true (gout_eq H1.out H2.out h3)))
        have h3' : (x.code == y.code) = true := by simpa using h3
        clear h3
        go_wp2_with fail
        go_ret
        exact ⟨by rw [R'.out]; rfl, b2.out⟩
      · have R' := Lib.hid (R.out.trans (decide_eq_false fun h => h3 (by rw [h])))
        have h3' : (x.code == y.code) = false := by simpa using h3
        clear h3
        go_wp2_with fail
        go_ret
        exact ⟨by rw [R'.out]; rfl, b2.out⟩
    · have H2 := Lib.hid h2; clear h2
      have R' := Lib.hid (R.out.trans (decide_eq_false fun h => H2.out (by rw [h])))
      go_enter Try.func12, Try.ntmps12
      go_wp2_with fail
      refine (specSameLosses_any x.l y.l A' B' c' d' _ E.out.2.1 E.out.2.2).mono ?_
      rintro e w2 ⟨rfl, hb2⟩
      have b2 := Lib.hid (bTr b0.out hb2)
      clear hb2
      rw [decide_eq_false H2.out]
      go_wp2_with fail
      go_ret
      exact ⟨by rw [R'.out]; rfl, b2.out⟩
  · have H1 := Lib.hid h1; clear h1
    have he : ((strOf x.b).toList == (strOf y.b).toList) = false := by rw [str_eq]; simp [strOf_inj, H1.out]
    have R' := Lib.hid (R.out.trans (decide_eq_false fun h => H1.out (by rw [h])))
    go_enter Try.func12, Try.ntmps12
    go_wp2_with fail
    go_ret
    exact ⟨by rw [R'.out]; rfl, b0.out⟩

theorem implSameOut_any (x y : GOut) (A A' B B' : Option Addr) (c c' d d' : Nat) (w : World) (hx : SA w x.b A c) (hx' : SA w x.l A' c') (hy : SA w y.b B d) (hy' : SA w y.l B' d') :
    Calls Try.prog 14 #[.agg #[.slice A x.b.length c, .slice A' x.l.length c', .int .i64 x.code], .agg #[.slice B y.b.length d, .slice B' y.l.length d', .int .i64 y.code]] w (Ret w (.bool (decide (x = y)))) := by
  have b0 := Lib.hid (bAl (bAl (bRf w) (.cells #[.slice A x.b.length c, .slice A' x.l.length c', .int .i64 x.code] 30)) (.cells #[.slice B y.b.length d, .slice B' y.l.length d', .int .i64 y.code] 30))
  have E := Lib.hid (And.intro (And.intro (hx.below b0.out) (hy.below b0.out)) (And.intro (hx'.below b0.out) (hy'.below b0.out))); clear hx hy hx' hy'
  obtain ⟨r, hr⟩ : ∃ r, r = decide (x = y) := ⟨_, rfl⟩
  rw [← hr]
  have R := Lib.hid hr; clear hr
  rcases Decidable.em (x.b = y.b) with h1 | h1
  · have H1 := Lib.hid h1; clear h1
    rcases Decidable.em (x.l = y.l) with h2 | h2
    · have H2 := Lib.hid h2; clear h2
      go_enter Try.func14, Try.ntmps14
      go_wp2_with fail
      refine (bytesEqual_any x.b y.b A B c d _ E.out.1.1 E.out.1.2).mono ?_
      rintro e w1 ⟨rfl, hb1⟩
      have b1 := Lib.hid (bTr b0.out hb1)
      have E1 := Lib.hid (And.intro (E.out.2.1.below hb1) (E.out.2.2.below hb1))
      obtain ⟨hc, hf⟩ := bCell hb1
      have hz : w.heap.size + 1 < w1.heap.size := by have := hb1.size; simp at this; omega
      have hz' : w.heap.size < w1.heap.size := by omega
      clear hb1
      rw [decide_eq_true H1.out]
      go_wp2_with fail
      refine (implSameLosses_any x.l y.l A' B' c' d' _ E1.out.1 E1.out.2).mono ?_
      rintro e w2 ⟨rfl, hb2⟩
      have b2 := Lib.hid (bTr b1.out hb2)
      obtain ⟨hc2, hf2⟩ := bCell hb2
      have hz2 : w.heap.size + 1 < w2.heap.size := by have := hb2.size; (try simp at this); omega
      have hz2' : w.heap.size < w2.heap.size := by omega
      clear hb2
      rw [decide_eq_true H2.out]
      rcases Decidable.em (x.code = y.code) with h3 | h3
      · have R' := Lib.hid (R.out.trans (decide_eq_true (gout_eq H1.out H2.out h3)))
        have h3' : (x.code == y.code) = true := by simpa using h3
        clear h3
        go_wp2_with fail
        go_ret
        exact ⟨by rw [R'.out]; rfl, b2.out⟩
      · have R' := Lib.hid (R.out.trans (decide_eq_false fun h => h3 (by rw [h])))
        have h3' : (x.code == y.code) = false := by simpa using h3
        clear h3
        go_wp2_with fail
        go_ret
        exact ⟨by rw [R'.out]; rfl, b2.out⟩
    · have H2 := Lib.hid h2; clear h2
      have R' := Lib.hid (R.out.trans (decide_eq_false fun h => H2.out (by rw [h])))
      go_enter Try.func14, Try.ntmps14
      go_wp2_with fail
      refine (bytesEqual_any x.b y.b A B c d _ E.out.1.1 E.out.1.2).mono ?_
      rintro e w1 ⟨rfl, hb1⟩
      have b1 := Lib.hid (bTr b0.out hb1)
      have E1 := Lib.hid (And.intro (E.out.2.1.below hb1) (E.out.2.2.below hb1))
      obtain ⟨hc, hf⟩ := bCell hb1
      have hz : w.heap.size + 1 < w1.heap.size := by have := hb1.size; simp at this; omega
      have hz' : w.heap.size < w1.heap.size := by omega
      clear hb1
      rw [decide_eq_true H1.out]
      go_wp2_with fail
      refine (implSameLosses_any x.l y.l A' B' c' d' _ E1.out.1 E1.out.2).mono ?_
      rintro e w2 ⟨rfl, hb2⟩
      have b2 := Lib.hid (bTr b1.out hb2)
      clear hb2
      rw [decide_eq_false H2.out]
      go_wp2_with fail
      go_ret
      exact ⟨by rw [R'.out]; rfl, b2.out⟩
  · have H1 := Lib.hid h1; clear h1
    have R' := Lib.hid (R.out.trans (decide_eq_false fun h => H1.out (by rw [h])))
    go_enter Try.func14, Try.ntmps14
    go_wp2_with fail
    refine (bytesEqual_any x.b y.b A B c d _ E.out.1.1 E.out.1.2).mono ?_
    rintro e w1 ⟨rfl, hb1⟩
    have b1 := Lib.hid (bTr b0.out hb1)
    have E1 := Lib.hid (And.intro (E.out.2.1.below hb1) (E.out.2.2.below hb1))
    obtain ⟨hc, hf⟩ := bCell hb1
    have hz : w.heap.size + 1 < w1.heap.size := by have := hb1.size; simp at this; omega
    have hz' : w.heap.size < w1.heap.size := by omega
    clear hb1
    rw [decide_eq_false H1.out]
    go_wp2_with fail
    go_ret
    exact ⟨by rw [R'.out]; rfl, b1.out⟩

end Go.Proofs.Ytblcmajhdndmfaa
