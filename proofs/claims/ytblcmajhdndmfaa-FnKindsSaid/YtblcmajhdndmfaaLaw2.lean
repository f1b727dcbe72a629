/- Contracts of the laws' own helpers: equality of steps and losses. -/
import Derived.Test.YtblcmajhdndmfaaLaw1
namespace Go.Proofs.Ytblcmajhdndmfaa
open Go.RowKit
set_option linter.unusedVariables false
set_option maxRecDepth 100000

theorem eqStepS_any (xs ys : List GStep) (A A' : Option Addr) (c c' : Nat) (w : World) (hx : SA w xs A c) (hy : SA w ys A' c') :
    Calls Try.prog 107 #[.slice A xs.length c, .slice A' ys.length c'] w (Ret w (.bool (decide (xs = ys)))) := by
  obtain ⟨r, hr⟩ : ∃ r, r = decide (xs = ys) := ⟨_, rfl⟩
  rw [← hr]
  have R := Lib.hid hr; clear hr
  have hl : xs.length ≤ 9223372036854775807 := by have := hx.len; unfold maxLen at this; omega
  have hl' : ys.length ≤ 9223372036854775807 := by have := hy.len; unfold maxLen at this; omega
  have E := Lib.hid (And.intro hx hy); clear hx hy
  by_cases he : xs.length = ys.length
  · have he' : ((xs.length : Int) != ys.length) = false := by simp [he]
    have HE := Lib.hid he; clear he
    go_enter Try.func107, Try.ntmps107
    go_wp2_with fail
    go_loopg [5] xs.length (fun gk i wr => ∃ k : Nat, k ≤ xs.length ∧ i = .int .i64 k ∧ gk = xs.length - k ∧ Hid (xs.take k = ys.take k) ∧ Below w.heap.size w wr)
    case atStart => exact ⟨0, by omega, rfl, by omega, rfl, bRf w⟩
    case round =>
      obtain ⟨k, hk, rfl, rfl, hT, hbel⟩ := hrel
      by_cases hlt : k < xs.length
      · obtain ⟨b, off, rfl, hb, hI, k0, k1⟩ := (E.out.1.below hbel).step_at hlt
        have hlt' : k < ys.length := HE.out ▸ hlt
        obtain ⟨b', off', rfl, hb', hI', k0', k1'⟩ := (E.out.2.below hbel).step_at hlt'
        rcases Decidable.em (xs[k] = ys[k]) with hq | hq
        · have HQ := Lib.hid hq; clear hq
          go_wp2_with fail
          go_still_tail 8, (by kernel_rfl)
          change wpList _ _ _ _ _ wr.drew
          go_wp2_with fail
          refine (eqStep_any xs[k] ys[k] _).mono ?_
          rintro e w1 ⟨rfl, hb1⟩
          rw [decide_eq_true HQ.out]
          go_wp2_with fail
          go_roundg (xs.length - (k + 1))
          case measure => omega
          case rel => exact ⟨k + 1, by omega, by go_num, rfl, take_snoc_eq hlt hlt' hT.out HQ.out, bTr hbel.drew hb1⟩
        · have HQ := Lib.hid hq; clear hq
          go_wp2_with fail
          go_still_tail 8, (by kernel_rfl)
          change wpList _ _ _ _ _ wr.drew
          go_wp2_with fail
          refine (eqStep_any xs[k] ys[k] _).mono ?_
          rintro e w1 ⟨rfl, hb1⟩
          rw [decide_eq_false HQ.out]
          go_wp2_with fail
          go_ret
          exact ⟨by rw [R.out, decide_eq_false (fun h => HQ.out (by subst h; rfl))]; rfl, bTr hbel.drew hb1⟩
      · have e : k = xs.length := by omega
        go_wp2_with fail
        go_ret
        exact ⟨by rw [R.out, decide_eq_true (take_all_eq e HE.out hT.out)]; rfl, hbel⟩
  · have he' : ((xs.length : Int) != ys.length) = true := by simp; omega
    go_enter Try.func107, Try.ntmps107
    go_wp2_with fail
    go_ret
    exact ⟨by rw [R.out, decide_eq_false (fun h => he (by rw [h]))]; rfl, bRf w⟩
theorem eqLoss_any (x y : GLoss) (A A' : Option Addr) (c c' : Nat) (w : World) (hx : SA w x.p A c) (hy : SA w y.p A' c') :
    Calls Try.prog 94 #[.agg #[.int .i64 x.kind, .slice A x.p.length c], .agg #[.int .i64 y.kind, .slice A' y.p.length c']] w (Ret w (.bool (decide (x = y)))) := by
  have b0 := bAl (bAl (bRf w) (.cells #[.int .i64 x.kind, .slice A x.p.length c] 88)) (.cells #[.int .i64 y.kind, .slice A' y.p.length c'] 88)
  have E := Lib.hid (And.intro (hx.below b0) (hy.below b0)); clear hx hy
  obtain ⟨r, hr⟩ : ∃ r, r = decide (x = y) := ⟨_, rfl⟩
  rw [← hr]
  have R := Lib.hid hr; clear hr
  rcases Decidable.em (x.kind = y.kind) with h1 | h1
  · have h1' : (x.kind != y.kind) = false := by simpa using h1
    have H1 := Lib.hid h1; clear h1
    rcases Decidable.em (x.p = y.p) with h2 | h2
    all_goals
      have H2 := Lib.hid h2; clear h2
      go_enter Try.func94, Try.ntmps94
      go_wp2_with fail
      refine (eqStepS_any x.p y.p A A' c c' _ E.out.1 E.out.2).mono ?_
      rintro e w1 ⟨rfl, hb1⟩
      first | rw [decide_eq_true H2.out] | rw [decide_eq_false H2.out]
      go_wp2_with fail
      go_ret
      exact ⟨by rw [R.out]; first | rw [decide_eq_true (gloss_eq H1.out H2.out)]; rfl | rw [decide_eq_false (fun h => H2.out (by rw [h]))]; rfl, bTr b0 hb1⟩
  · have h1' : (x.kind != y.kind) = true := by simpa using h1
    have H1 := Lib.hid h1; clear h1
    go_enter Try.func94, Try.ntmps94
    go_wp2_with fail
    go_ret
    exact ⟨by rw [R.out, decide_eq_false (fun h => H1.out (by rw [h]))]; rfl, b0⟩

theorem eqLossS_any (xs ys : List GLoss) (A A' : Option Addr) (c c' : Nat) (w : World) (hx : SA w xs A c) (hy : SA w ys A' c') :
    Calls Try.prog 56 #[.slice A xs.length c, .slice A' ys.length c'] w (Ret w (.bool (decide (xs = ys)))) := by
  obtain ⟨r, hr⟩ : ∃ r, r = decide (xs = ys) := ⟨_, rfl⟩
  rw [← hr]
  have R := Lib.hid hr; clear hr
  have hl : xs.length ≤ 9223372036854775807 := by have := hx.len; unfold maxLen at this; omega
  have hl' : ys.length ≤ 9223372036854775807 := by have := hy.len; unfold maxLen at this; omega
  have E := Lib.hid (And.intro hx hy); clear hx hy
  by_cases he : xs.length = ys.length
  · have he' : ((xs.length : Int) != ys.length) = false := by simp [he]
    have HE := Lib.hid he; clear he
    go_enter Try.func56, Try.ntmps56
    go_wp2_with fail
    go_loopg [5] xs.length (fun gk i wr => ∃ k : Nat, k ≤ xs.length ∧ i = .int .i64 k ∧ gk = xs.length - k ∧ Hid (xs.take k = ys.take k) ∧ Below w.heap.size w wr)
    case atStart => exact ⟨0, by omega, rfl, by omega, rfl, bRf w⟩
    case round =>
      obtain ⟨k, hk, rfl, rfl, hT, hbel⟩ := hrel
      by_cases hlt : k < xs.length
      · obtain ⟨b, off, A1, c1, rfl, hb, hI, hs, k0, k1⟩ := (E.out.1.below hbel).loss_at hlt
        have hlt' : k < ys.length := HE.out ▸ hlt
        obtain ⟨b', off', A2, c2, rfl, hb', hI', hs', k0', k1'⟩ := (E.out.2.below hbel).loss_at hlt'
        rcases Decidable.em (xs[k] = ys[k]) with hq | hq
        · have HQ := Lib.hid hq; clear hq
          go_wp2_with fail
          go_still_tail 8, (by kernel_rfl)
          change wpList _ _ _ _ _ wr.drew
          go_wp2_with fail
          refine (eqLoss_any xs[k] ys[k] A1 A2 c1 c2 _ hs.drew hs'.drew).mono ?_
          rintro e w1 ⟨rfl, hb1⟩
          rw [decide_eq_true HQ.out]
          go_wp2_with fail
          go_roundg (xs.length - (k + 1))
          case measure => omega
          case rel => exact ⟨k + 1, by omega, by go_num, rfl, take_snoc_eq hlt hlt' hT.out HQ.out, bTr hbel.drew hb1⟩
        · have HQ := Lib.hid hq; clear hq
          go_wp2_with fail
          go_still_tail 8, (by kernel_rfl)
          change wpList _ _ _ _ _ wr.drew
          go_wp2_with fail
          refine (eqLoss_any xs[k] ys[k] A1 A2 c1 c2 _ hs.drew hs'.drew).mono ?_
          rintro e w1 ⟨rfl, hb1⟩
          rw [decide_eq_false HQ.out]
          go_wp2_with fail
          go_ret
          exact ⟨by rw [R.out, decide_eq_false (fun h => HQ.out (by subst h; rfl))]; rfl, bTr hbel.drew hb1⟩
      · have e : k = xs.length := by omega
        go_wp2_with fail
        go_ret
        exact ⟨by rw [R.out, decide_eq_true (take_all_eq e HE.out hT.out)]; rfl, hbel⟩
  · have he' : ((xs.length : Int) != ys.length) = true := by simp; omega
    go_enter Try.func56, Try.ntmps56
    go_wp2_with fail
    go_ret
    exact ⟨by rw [R.out, decide_eq_false (fun h => he (by rw [h]))]; rfl, bRf w⟩
end Go.Proofs.Ytblcmajhdndmfaa
